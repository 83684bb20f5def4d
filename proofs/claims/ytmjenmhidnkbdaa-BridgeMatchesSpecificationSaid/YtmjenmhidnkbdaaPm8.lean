/- The walk of BridgeMatchesSpecification: all its calls, each with its known answer. -/
import Derived.Test.YtmjenmhidnkbdaaPx12
import Derived.Test.YtmjenmhidnkbdaaPx13
import Derived.Test.YtmjenmhidnkbdaaPx11
import Derived.Test.YtmjenmhidnkbdaaPx10
import Derived.Test.YtmjenmhidnkbdaaSane
import Derived.Test.YtmjenmhidnkbdaaPs
namespace Go.Proofs.Ytmjenmhidnkbdaa.P
open Go.RowKit Go.Shelf Go.Proofs.YtmjenmhidnkbdaaW.PrintWords Go.Proofs.YtmjenmhidnkbdaaW.PrintLast Go.Proofs.YtmjenmhidnkbdaaW.PrintMore
set_option linter.unusedVariables false
set_option linter.unusedSimpArgs false

/-- A bridge in a block, its legs readable. -/
structure Rx (g : Nat) (A : Option Addr) (c : Nat) (l : List S36) (nx : Int) (W : World) : Prop where
  h : W.heap[g]? = some (.cells #[.slice A l.length c, .int .i64 nx] 24 (0, 0))
  C : Kd.C k36 W A l.length l
  le : l.length ≤ c
section
variable {g : Nat} {A : Option Addr} {c : Nat} {l : List S36} {nx : Int} {W W' : World}
theorem Rx.lt (h : Rx g A c l nx W) : g < W.heap.size := blk_lt h.h
theorem Rx.below (h : Rx g A c l nx W) (hb : Below W.heap.size W W') : Rx g A c l nx W' := ⟨(hb.block g h.lt).trans h.h, Kd.C_below h.C hb, h.le⟩
theorem Rx.new (h : Kd.C k36 W A l.length l) (hle : l.length ≤ c) : Rx W.heap.size A c l nx (W.alloc (.cells #[.slice A l.length c, .int .i64 nx] 24)) := ⟨blk_new W _, Kd.C_below h ((Below.refl _ W).alloc (Nat.le_refl _) _), hle⟩
theorem Rx.c0 (h : Rx g A c l nx W) : W.cell? ⟨g, 0, none⟩ = some (.slice A l.length c) := (blk_cell h.h 0).trans rfl
theorem Rx.c1 (h : Rx g A c l nx W) : W.cell? ⟨g, 1, none⟩ = some (.int .i64 nx) := (blk_cell h.h 1).trans rfl
end

def matches8.T16 : Bool × List (List Nat × List Nat) := (true, [([], []), ([], []), ([0, 1], [0, 1]), ([], []), ([], []), ([3, 4, 2], [3, 4]), ([2, 5, 5], [2, 5]), ([6, 6, 0, 1, 2, 3, 4, 5, 6], [6])])
def matches8.B16 : List Nat := [0, 0, 3, 0, 0, 31, 63, 127]
theorem matches8.tab16 : rtab .any (opsOf Try.f8 16) = matches8.T16 := by kernel_rfl
theorem matches8.bits16 : waitsOk matches8.T16.2 matches8.B16 = true := by kernel_rfl
def matches8.T17 : Bool × List (List Nat × List Nat) := (true, [([], []), ([0], [0]), ([1], [1]), ([1, 2], [1, 2]), ([3, 1], [3]), ([4], [4]), ([4], [4]), ([5, 6, 4], [4, 5, 6]), ([4, 7], [4, 7]), ([8, 4], [8]), ([9], [9]), ([9], [9]), ([10, 11, 9], [9, 10, 11]), ([9, 12], [9, 12]), ([13, 9], [13]), ([14], [14]), ([14], [14]), ([15, 16, 14], [14, 15, 16]), ([14, 17], [14, 17]), ([18, 14], [18]), ([19], [19]), ([19], [19]), ([20, 21, 19], [19, 20, 21]), ([19, 22], [19, 22]), ([23, 19], [23]), ([24], [24]), ([24], [24]), ([25, 26, 24], [24, 25, 26]), ([24, 27], [24, 27]), ([28, 24], [28]), ([29], [29]), ([30, 29, 29], [29, 30]), ([29], [29]), ([32, 31, 29], [29, 32]), ([31, 33, 29], [29, 31, 33]), ([29, 34], [29, 34]), ([35, 33, 0, 1, 2, 3, 4, 5, 6, 7, 8, 9, 10, 11, 12, 13, 14, 15, 16, 17, 18, 19, 20, 21, 22, 23, 24, 25, 26, 27, 28, 29, 30, 31, 32, 33, 34, 35], [35])])
def matches8.B17 : List Nat := [0, 1, 3, 7, 15, 31, 31, 127, 255, 511, 1023, 1023, 4095, 8191, 16383, 32767, 32767, 131071, 262143, 524287, 1048575, 1048575, 4194303, 8388607, 16777215, 33554431, 33554431, 134217727, 268435455, 536870911, 1073741823, 2147483647, 1073741823, 8589934591, 17179869183, 34359738367, 68719476735]
theorem matches8.tab17 : rtab .any (opsOf Try.f8 17) = matches8.T17 := by kernel_rfl
theorem matches8.bits17 : waitsOk matches8.T17.2 matches8.B17 = true := by kernel_rfl

set_option maxRecDepth 100000 in
set_option maxHeartbeats 8000000 in
theorem matches_any (k : Nat) (A : Option Addr) (c : Nat) (l : List S36) (nx x y : Int) (on : Bool) (w : World) (hC : Kd.C k36 w A l.length l) (hc : l.length ≤ c) (r1 r2 r3 r4 r5 : List S36) (n1 n2 n3 n4 n5 e1 e2 e3 e4 e5 ec : Int) (hs : List Int)
    (hf : crossbarlaw18_few.f l nx = some true)
    (ha1 : bridge_Add.f l nx x = some (r1, n1, e1)) (hb1 : crossbarref18_Add.f k l nx x = some (r1, n1, e1))
    (ha2 : bridge_Remove.f l nx x = some (r2, n2, e2)) (hb2 : crossbarref18_Remove.f k l nx x = some (r2, n2, e2))
    (ha3 : bridge_Connect.f l nx x y = some (r3, n3, e3)) (hb3 : crossbarref18_Connect.f k l nx x y = some (r3, n3, e3))
    (ha4 : bridge_Merge.f l nx x y = some (r4, n4, e4)) (hb4 : crossbarref18_Merge.f k l nx x y = some (r4, n4, e4))
    (ha5 : bridge_Hold.f l nx x on = some (r5, n5, e5)) (hb5 : crossbarref18_Hold.f k l nx x on = some (r5, n5, e5))
    (hs1 : crossbarref18_Same.f k r1 n1 r1 n1 = some true) (hs2 : crossbarref18_Same.f k r2 n2 r2 n2 = some true) (hs3 : crossbarref18_Same.f k r3 n3 r3 n3 = some true) (hs4 : crossbarref18_Same.f k r4 n4 r4 n4 = some true) (hs5 : crossbarref18_Same.f k r5 n5 r5 n5 = some true) (hs6 : crossbarref18_Same.f k [] 1 [] 1 = some true)
    (hh1 : bridge_Hears.f l nx x = some hs) (hh2 : crossbarref18_Hears.f k l nx x = some hs) (hh3 : crossbarref18_Ints.f k hs hs = some true)
    (hc1 : bridge_Check.f l nx = some ec) (hc2 : crossbarref18_Check.f k l nx = some ec) :
    Calls Try.prog 8 #[.agg #[.slice A l.length c, .int .i64 nx], .int .i64 x, .int .i64 y, .bool on] w fun e w' => e = .returned (.bool true) ∧ Below w.heap.size w w' := by
  have q1 : (e1 == e1) = true := by simp
  have q2 : (e2 == e2) = true := by simp
  have q3 : (e3 == e3) = true := by simp
  have q4 : (e4 == e4) = true := by simp
  have q5 : (e5 == e5) = true := by simp
  have q6 : (ec == ec) = true := by simp
  have HC := Aside0.mk hC
  clear hC
  go_enter Try.func8, Try.ntmps8
  go_wp2_with fail
  refine Calls_world (fun W hW => ?_)
  have hBW : Below w.heap.size w W := by rw [hW]; exact (Below.refl _ _).alloc (Nat.le_refl _) _
  have XB : Rx w.heap.size A c l nx W := by rw [hW]; exact Rx.new HC.out hc
  clear HC hW
  have hBW0 := Aside0.mk hBW
  clear hBW
  -- sane
  refine (crossbarlaw18_sane.calls true _ rfl).mono ?_
  rintro e w0 ⟨rfl, hb⟩
  replace hBW0 := Aside0.mk (hBW0.out.trans (hb.mono hBW0.out.size))
  replace XB := XB.below hb
  clear hb
  have xb0 := XB.c0
  have xb1 := XB.c1
  have xbl := XB.lt
  go_wp2_with fail
  clear xb0 xb1 xbl
  -- few
  refine (crossbarlaw18_few.calls A c l nx true _ XB.C XB.le hf).mono ?_
  rintro e w1 ⟨rfl, hb⟩
  replace hBW0 := Aside0.mk (hBW0.out.trans (hb.mono hBW0.out.size))
  replace XB := XB.below hb
  clear hb
  have xb0 := XB.c0
  have xb1 := XB.c1
  have xbl := XB.lt
  go_wp2_with fail
  clear xb0 xb1 xbl
  -- Add a
  refine (bridge_Add.calls A c l nx x r1 n1 e1 _ XB.C XB.le ha1).mono ?_
  rintro e w2 ⟨v2, rfl, hR, hb⟩
  obtain ⟨A2, c2, rfl, hle2, hC2⟩ := Kd.R_reads hR
  clear hR
  replace hBW0 := Aside0.mk (hBW0.out.trans (hb.mono hBW0.out.size))
  replace XB := XB.below hb
  clear hb
  have xb0 := XB.c0
  have xb1 := XB.c1
  have xbl := XB.lt
  go_wp2_with fail
  clear xb0 xb1 xbl
  refine Calls_world (fun W2 hW => ?_)
  have hal : Below w2.heap.size w2 W2 := by rw [hW]; exact (Below.refl _ _).alloc (Nat.le_refl _) _
  have XA1 : Rx w2.heap.size A2 c2 r1 n1 W2 := by rw [hW]; exact Rx.new hC2 hle2
  replace hBW0 := Aside0.mk (hBW0.out.trans (hal.mono hBW0.out.size))
  replace XB := XB.below hal
  clear hW hal hle2 hC2
  generalize w2.heap.size = g2 at *
  clear w2
  -- Add b
  refine (crossbarref18_Add.calls k A c l nx x r1 n1 e1 _ XB.C XB.le hb1).mono ?_
  rintro e w3 ⟨v3, rfl, hR, hb⟩
  obtain ⟨A3, c3, rfl, hle3, hC3⟩ := Kd.R_reads hR
  clear hR
  replace hBW0 := Aside0.mk (hBW0.out.trans (hb.mono hBW0.out.size))
  replace XB := XB.below hb
  replace XA1 := XA1.below hb
  clear hb
  have xb0 := XB.c0
  have xb1 := XB.c1
  have xbl := XB.lt
  have xa10 := XA1.c0
  have xa11 := XA1.c1
  have xa1l := XA1.lt
  go_wp2_with fail
  clear xb0 xb1 xbl xa10 xa11 xa1l
  refine Calls_world (fun W3 hW => ?_)
  have hal : Below w3.heap.size w3 W3 := by rw [hW]; exact (Below.refl _ _).alloc (Nat.le_refl _) _
  have XB1 : Rx w3.heap.size A3 c3 r1 n1 W3 := by rw [hW]; exact Rx.new hC3 hle3
  replace hBW0 := Aside0.mk (hBW0.out.trans (hal.mono hBW0.out.size))
  replace XB := XB.below hal
  replace XA1 := XA1.below hal
  clear hW hal hle3 hC3
  generalize w3.heap.size = g3 at *
  clear w3
  -- Remove a
  refine (bridge_Remove.calls A c l nx x r2 n2 e2 _ XB.C XB.le ha2).mono ?_
  rintro e w4 ⟨v4, rfl, hR, hb⟩
  obtain ⟨A4, c4, rfl, hle4, hC4⟩ := Kd.R_reads hR
  clear hR
  replace hBW0 := Aside0.mk (hBW0.out.trans (hb.mono hBW0.out.size))
  replace XB := XB.below hb
  replace XA1 := XA1.below hb
  replace XB1 := XB1.below hb
  clear hb
  have xb0 := XB.c0
  have xb1 := XB.c1
  have xbl := XB.lt
  have xa10 := XA1.c0
  have xa11 := XA1.c1
  have xa1l := XA1.lt
  have xb10 := XB1.c0
  have xb11 := XB1.c1
  have xb1l := XB1.lt
  go_wp2_with fail
  clear xb0 xb1 xbl xa10 xa11 xa1l xb10 xb11 xb1l
  refine Calls_world (fun W4 hW => ?_)
  have hal : Below w4.heap.size w4 W4 := by rw [hW]; exact (Below.refl _ _).alloc (Nat.le_refl _) _
  have XA2 : Rx w4.heap.size A4 c4 r2 n2 W4 := by rw [hW]; exact Rx.new hC4 hle4
  replace hBW0 := Aside0.mk (hBW0.out.trans (hal.mono hBW0.out.size))
  replace XB := XB.below hal
  replace XA1 := XA1.below hal
  replace XB1 := XB1.below hal
  clear hW hal hle4 hC4
  generalize w4.heap.size = g4 at *
  clear w4
  -- Remove b
  refine (crossbarref18_Remove.calls k A c l nx x r2 n2 e2 _ XB.C XB.le hb2).mono ?_
  rintro e w5 ⟨v5, rfl, hR, hb⟩
  obtain ⟨A5, c5, rfl, hle5, hC5⟩ := Kd.R_reads hR
  clear hR
  replace hBW0 := Aside0.mk (hBW0.out.trans (hb.mono hBW0.out.size))
  replace XB := XB.below hb
  replace XA1 := XA1.below hb
  replace XB1 := XB1.below hb
  replace XA2 := XA2.below hb
  clear hb
  have xb0 := XB.c0
  have xb1 := XB.c1
  have xbl := XB.lt
  have xa10 := XA1.c0
  have xa11 := XA1.c1
  have xa1l := XA1.lt
  have xb10 := XB1.c0
  have xb11 := XB1.c1
  have xb1l := XB1.lt
  have xa20 := XA2.c0
  have xa21 := XA2.c1
  have xa2l := XA2.lt
  go_wp2_with fail
  clear xb0 xb1 xbl xa10 xa11 xa1l xb10 xb11 xb1l xa20 xa21 xa2l
  refine Calls_world (fun W5 hW => ?_)
  have hal : Below w5.heap.size w5 W5 := by rw [hW]; exact (Below.refl _ _).alloc (Nat.le_refl _) _
  have XB2 : Rx w5.heap.size A5 c5 r2 n2 W5 := by rw [hW]; exact Rx.new hC5 hle5
  replace hBW0 := Aside0.mk (hBW0.out.trans (hal.mono hBW0.out.size))
  replace XB := XB.below hal
  replace XA1 := XA1.below hal
  replace XB1 := XB1.below hal
  replace XA2 := XA2.below hal
  clear hW hal hle5 hC5
  generalize w5.heap.size = g5 at *
  clear w5
  -- Connect a
  refine (bridge_Connect.calls A c l nx x y r3 n3 e3 _ XB.C XB.le ha3).mono ?_
  rintro e w6 ⟨v6, rfl, hR, hb⟩
  obtain ⟨A6, c6, rfl, hle6, hC6⟩ := Kd.R_reads hR
  clear hR
  replace hBW0 := Aside0.mk (hBW0.out.trans (hb.mono hBW0.out.size))
  replace XB := XB.below hb
  replace XA1 := XA1.below hb
  replace XB1 := XB1.below hb
  replace XA2 := XA2.below hb
  replace XB2 := XB2.below hb
  clear hb
  have xb0 := XB.c0
  have xb1 := XB.c1
  have xbl := XB.lt
  have xa10 := XA1.c0
  have xa11 := XA1.c1
  have xa1l := XA1.lt
  have xb10 := XB1.c0
  have xb11 := XB1.c1
  have xb1l := XB1.lt
  have xa20 := XA2.c0
  have xa21 := XA2.c1
  have xa2l := XA2.lt
  have xb20 := XB2.c0
  have xb21 := XB2.c1
  have xb2l := XB2.lt
  go_wp2_with fail
  clear xb0 xb1 xbl xa10 xa11 xa1l xb10 xb11 xb1l xa20 xa21 xa2l xb20 xb21 xb2l
  refine Calls_world (fun W6 hW => ?_)
  have hal : Below w6.heap.size w6 W6 := by rw [hW]; exact (Below.refl _ _).alloc (Nat.le_refl _) _
  have XA3 : Rx w6.heap.size A6 c6 r3 n3 W6 := by rw [hW]; exact Rx.new hC6 hle6
  replace hBW0 := Aside0.mk (hBW0.out.trans (hal.mono hBW0.out.size))
  replace XB := XB.below hal
  replace XA1 := XA1.below hal
  replace XB1 := XB1.below hal
  replace XA2 := XA2.below hal
  replace XB2 := XB2.below hal
  clear hW hal hle6 hC6
  generalize w6.heap.size = g6 at *
  clear w6
  -- Connect b
  refine (crossbarref18_Connect.calls k A c l nx x y r3 n3 e3 _ XB.C XB.le hb3).mono ?_
  rintro e w7 ⟨v7, rfl, hR, hb⟩
  obtain ⟨A7, c7, rfl, hle7, hC7⟩ := Kd.R_reads hR
  clear hR
  replace hBW0 := Aside0.mk (hBW0.out.trans (hb.mono hBW0.out.size))
  replace XB := XB.below hb
  replace XA1 := XA1.below hb
  replace XB1 := XB1.below hb
  replace XA2 := XA2.below hb
  replace XB2 := XB2.below hb
  replace XA3 := XA3.below hb
  clear hb
  have xb0 := XB.c0
  have xb1 := XB.c1
  have xbl := XB.lt
  have xa10 := XA1.c0
  have xa11 := XA1.c1
  have xa1l := XA1.lt
  have xb10 := XB1.c0
  have xb11 := XB1.c1
  have xb1l := XB1.lt
  have xa20 := XA2.c0
  have xa21 := XA2.c1
  have xa2l := XA2.lt
  have xb20 := XB2.c0
  have xb21 := XB2.c1
  have xb2l := XB2.lt
  have xa30 := XA3.c0
  have xa31 := XA3.c1
  have xa3l := XA3.lt
  go_wp2_with fail
  clear xb0 xb1 xbl xa10 xa11 xa1l xb10 xb11 xb1l xa20 xa21 xa2l xb20 xb21 xb2l xa30 xa31 xa3l
  refine Calls_world (fun W7 hW => ?_)
  have hal : Below w7.heap.size w7 W7 := by rw [hW]; exact (Below.refl _ _).alloc (Nat.le_refl _) _
  have XB3 : Rx w7.heap.size A7 c7 r3 n3 W7 := by rw [hW]; exact Rx.new hC7 hle7
  replace hBW0 := Aside0.mk (hBW0.out.trans (hal.mono hBW0.out.size))
  replace XB := XB.below hal
  replace XA1 := XA1.below hal
  replace XB1 := XB1.below hal
  replace XA2 := XA2.below hal
  replace XB2 := XB2.below hal
  replace XA3 := XA3.below hal
  clear hW hal hle7 hC7
  generalize w7.heap.size = g7 at *
  clear w7
  -- Merge a
  refine (bridge_Merge.calls A c l nx x y r4 n4 e4 _ XB.C XB.le ha4).mono ?_
  rintro e w8 ⟨v8, rfl, hR, hb⟩
  obtain ⟨A8, c8, rfl, hle8, hC8⟩ := Kd.R_reads hR
  clear hR
  replace hBW0 := Aside0.mk (hBW0.out.trans (hb.mono hBW0.out.size))
  replace XB := XB.below hb
  replace XA1 := XA1.below hb
  replace XB1 := XB1.below hb
  replace XA2 := XA2.below hb
  replace XB2 := XB2.below hb
  replace XA3 := XA3.below hb
  replace XB3 := XB3.below hb
  clear hb
  have xb0 := XB.c0
  have xb1 := XB.c1
  have xbl := XB.lt
  have xa10 := XA1.c0
  have xa11 := XA1.c1
  have xa1l := XA1.lt
  have xb10 := XB1.c0
  have xb11 := XB1.c1
  have xb1l := XB1.lt
  have xa20 := XA2.c0
  have xa21 := XA2.c1
  have xa2l := XA2.lt
  have xb20 := XB2.c0
  have xb21 := XB2.c1
  have xb2l := XB2.lt
  have xa30 := XA3.c0
  have xa31 := XA3.c1
  have xa3l := XA3.lt
  have xb30 := XB3.c0
  have xb31 := XB3.c1
  have xb3l := XB3.lt
  go_wp2_with fail
  clear xb0 xb1 xbl xa10 xa11 xa1l xb10 xb11 xb1l xa20 xa21 xa2l xb20 xb21 xb2l xa30 xa31 xa3l xb30 xb31 xb3l
  refine Calls_world (fun W8 hW => ?_)
  have hal : Below w8.heap.size w8 W8 := by rw [hW]; exact (Below.refl _ _).alloc (Nat.le_refl _) _
  have XA4 : Rx w8.heap.size A8 c8 r4 n4 W8 := by rw [hW]; exact Rx.new hC8 hle8
  replace hBW0 := Aside0.mk (hBW0.out.trans (hal.mono hBW0.out.size))
  replace XB := XB.below hal
  replace XA1 := XA1.below hal
  replace XB1 := XB1.below hal
  replace XA2 := XA2.below hal
  replace XB2 := XB2.below hal
  replace XA3 := XA3.below hal
  replace XB3 := XB3.below hal
  clear hW hal hle8 hC8
  generalize w8.heap.size = g8 at *
  clear w8
  -- Merge b
  refine (crossbarref18_Merge.calls k A c l nx x y r4 n4 e4 _ XB.C XB.le hb4).mono ?_
  rintro e w9 ⟨v9, rfl, hR, hb⟩
  obtain ⟨A9, c9, rfl, hle9, hC9⟩ := Kd.R_reads hR
  clear hR
  replace hBW0 := Aside0.mk (hBW0.out.trans (hb.mono hBW0.out.size))
  replace XB := XB.below hb
  replace XA1 := XA1.below hb
  replace XB1 := XB1.below hb
  replace XA2 := XA2.below hb
  replace XB2 := XB2.below hb
  replace XA3 := XA3.below hb
  replace XB3 := XB3.below hb
  replace XA4 := XA4.below hb
  clear hb
  have xb0 := XB.c0
  have xb1 := XB.c1
  have xbl := XB.lt
  have xa10 := XA1.c0
  have xa11 := XA1.c1
  have xa1l := XA1.lt
  have xb10 := XB1.c0
  have xb11 := XB1.c1
  have xb1l := XB1.lt
  have xa20 := XA2.c0
  have xa21 := XA2.c1
  have xa2l := XA2.lt
  have xb20 := XB2.c0
  have xb21 := XB2.c1
  have xb2l := XB2.lt
  have xa30 := XA3.c0
  have xa31 := XA3.c1
  have xa3l := XA3.lt
  have xb30 := XB3.c0
  have xb31 := XB3.c1
  have xb3l := XB3.lt
  have xa40 := XA4.c0
  have xa41 := XA4.c1
  have xa4l := XA4.lt
  go_wp2_with fail
  clear xb0 xb1 xbl xa10 xa11 xa1l xb10 xb11 xb1l xa20 xa21 xa2l xb20 xb21 xb2l xa30 xa31 xa3l xb30 xb31 xb3l xa40 xa41 xa4l
  refine Calls_world (fun W9 hW => ?_)
  have hal : Below w9.heap.size w9 W9 := by rw [hW]; exact (Below.refl _ _).alloc (Nat.le_refl _) _
  have XB4 : Rx w9.heap.size A9 c9 r4 n4 W9 := by rw [hW]; exact Rx.new hC9 hle9
  replace hBW0 := Aside0.mk (hBW0.out.trans (hal.mono hBW0.out.size))
  replace XB := XB.below hal
  replace XA1 := XA1.below hal
  replace XB1 := XB1.below hal
  replace XA2 := XA2.below hal
  replace XB2 := XB2.below hal
  replace XA3 := XA3.below hal
  replace XB3 := XB3.below hal
  replace XA4 := XA4.below hal
  clear hW hal hle9 hC9
  generalize w9.heap.size = g9 at *
  clear w9
  -- Hold a
  refine (bridge_Hold.calls A c l nx x on r5 n5 e5 _ XB.C XB.le ha5).mono ?_
  rintro e w10 ⟨v10, rfl, hR, hb⟩
  obtain ⟨A10, c10, rfl, hle10, hC10⟩ := Kd.R_reads hR
  clear hR
  replace hBW0 := Aside0.mk (hBW0.out.trans (hb.mono hBW0.out.size))
  replace XB := XB.below hb
  replace XA1 := XA1.below hb
  replace XB1 := XB1.below hb
  replace XA2 := XA2.below hb
  replace XB2 := XB2.below hb
  replace XA3 := XA3.below hb
  replace XB3 := XB3.below hb
  replace XA4 := XA4.below hb
  replace XB4 := XB4.below hb
  clear hb
  have xb0 := XB.c0
  have xb1 := XB.c1
  have xbl := XB.lt
  have xa10 := XA1.c0
  have xa11 := XA1.c1
  have xa1l := XA1.lt
  have xb10 := XB1.c0
  have xb11 := XB1.c1
  have xb1l := XB1.lt
  have xa20 := XA2.c0
  have xa21 := XA2.c1
  have xa2l := XA2.lt
  have xb20 := XB2.c0
  have xb21 := XB2.c1
  have xb2l := XB2.lt
  have xa30 := XA3.c0
  have xa31 := XA3.c1
  have xa3l := XA3.lt
  have xb30 := XB3.c0
  have xb31 := XB3.c1
  have xb3l := XB3.lt
  have xa40 := XA4.c0
  have xa41 := XA4.c1
  have xa4l := XA4.lt
  have xb40 := XB4.c0
  have xb41 := XB4.c1
  have xb4l := XB4.lt
  go_wp2_with fail
  clear xb0 xb1 xbl xa10 xa11 xa1l xb10 xb11 xb1l xa20 xa21 xa2l xb20 xb21 xb2l xa30 xa31 xa3l xb30 xb31 xb3l xa40 xa41 xa4l xb40 xb41 xb4l
  refine Calls_world (fun W10 hW => ?_)
  have hal : Below w10.heap.size w10 W10 := by rw [hW]; exact (Below.refl _ _).alloc (Nat.le_refl _) _
  have XA5 : Rx w10.heap.size A10 c10 r5 n5 W10 := by rw [hW]; exact Rx.new hC10 hle10
  replace hBW0 := Aside0.mk (hBW0.out.trans (hal.mono hBW0.out.size))
  replace XB := XB.below hal
  replace XA1 := XA1.below hal
  replace XB1 := XB1.below hal
  replace XA2 := XA2.below hal
  replace XB2 := XB2.below hal
  replace XA3 := XA3.below hal
  replace XB3 := XB3.below hal
  replace XA4 := XA4.below hal
  replace XB4 := XB4.below hal
  clear hW hal hle10 hC10
  generalize w10.heap.size = g10 at *
  clear w10
  -- Hold b
  refine (crossbarref18_Hold.calls k A c l nx x on r5 n5 e5 _ XB.C XB.le hb5).mono ?_
  rintro e w11 ⟨v11, rfl, hR, hb⟩
  obtain ⟨A11, c11, rfl, hle11, hC11⟩ := Kd.R_reads hR
  clear hR
  replace hBW0 := Aside0.mk (hBW0.out.trans (hb.mono hBW0.out.size))
  replace XB := XB.below hb
  replace XA1 := XA1.below hb
  replace XB1 := XB1.below hb
  replace XA2 := XA2.below hb
  replace XB2 := XB2.below hb
  replace XA3 := XA3.below hb
  replace XB3 := XB3.below hb
  replace XA4 := XA4.below hb
  replace XB4 := XB4.below hb
  replace XA5 := XA5.below hb
  clear hb
  have xb0 := XB.c0
  have xb1 := XB.c1
  have xbl := XB.lt
  have xa10 := XA1.c0
  have xa11 := XA1.c1
  have xa1l := XA1.lt
  have xb10 := XB1.c0
  have xb11 := XB1.c1
  have xb1l := XB1.lt
  have xa20 := XA2.c0
  have xa21 := XA2.c1
  have xa2l := XA2.lt
  have xb20 := XB2.c0
  have xb21 := XB2.c1
  have xb2l := XB2.lt
  have xa30 := XA3.c0
  have xa31 := XA3.c1
  have xa3l := XA3.lt
  have xb30 := XB3.c0
  have xb31 := XB3.c1
  have xb3l := XB3.lt
  have xa40 := XA4.c0
  have xa41 := XA4.c1
  have xa4l := XA4.lt
  have xb40 := XB4.c0
  have xb41 := XB4.c1
  have xb4l := XB4.lt
  have xa50 := XA5.c0
  have xa51 := XA5.c1
  have xa5l := XA5.lt
  go_wp2_with fail
  clear xb0 xb1 xbl xa10 xa11 xa1l xb10 xb11 xb1l xa20 xa21 xa2l xb20 xb21 xb2l xa30 xa31 xa3l xb30 xb31 xb3l xa40 xa41 xa4l xb40 xb41 xb4l xa50 xa51 xa5l
  refine Calls_world (fun W11 hW => ?_)
  have hal : Below w11.heap.size w11 W11 := by rw [hW]; exact (Below.refl _ _).alloc (Nat.le_refl _) _
  have XB5 : Rx w11.heap.size A11 c11 r5 n5 W11 := by rw [hW]; exact Rx.new hC11 hle11
  replace hBW0 := Aside0.mk (hBW0.out.trans (hal.mono hBW0.out.size))
  replace XB := XB.below hal
  replace XA1 := XA1.below hal
  replace XB1 := XB1.below hal
  replace XA2 := XA2.below hal
  replace XB2 := XB2.below hal
  replace XA3 := XA3.below hal
  replace XB3 := XB3.below hal
  replace XA4 := XA4.below hal
  replace XB4 := XB4.below hal
  replace XA5 := XA5.below hal
  clear hW hal hle11 hC11
  generalize w11.heap.size = g11 at *
  clear w11
  -- same 1
  refine (crossbarref18_Same.calls k _ _ r1 n1 _ _ r1 n1 true _ XA1.C XA1.le XB1.C XB1.le hs1).mono ?_
  rintro e w12 ⟨rfl, hb⟩
  replace hBW0 := Aside0.mk (hBW0.out.trans (hb.mono hBW0.out.size))
  replace XB := XB.below hb
  replace XA1 := XA1.below hb
  replace XB1 := XB1.below hb
  replace XA2 := XA2.below hb
  replace XB2 := XB2.below hb
  replace XA3 := XA3.below hb
  replace XB3 := XB3.below hb
  replace XA4 := XA4.below hb
  replace XB4 := XB4.below hb
  replace XA5 := XA5.below hb
  replace XB5 := XB5.below hb
  clear hb
  have xb0 := XB.c0
  have xb1 := XB.c1
  have xbl := XB.lt
  have xa10 := XA1.c0
  have xa11 := XA1.c1
  have xa1l := XA1.lt
  have xb10 := XB1.c0
  have xb11 := XB1.c1
  have xb1l := XB1.lt
  have xa20 := XA2.c0
  have xa21 := XA2.c1
  have xa2l := XA2.lt
  have xb20 := XB2.c0
  have xb21 := XB2.c1
  have xb2l := XB2.lt
  have xa30 := XA3.c0
  have xa31 := XA3.c1
  have xa3l := XA3.lt
  have xb30 := XB3.c0
  have xb31 := XB3.c1
  have xb3l := XB3.lt
  have xa40 := XA4.c0
  have xa41 := XA4.c1
  have xa4l := XA4.lt
  have xb40 := XB4.c0
  have xb41 := XB4.c1
  have xb4l := XB4.lt
  have xa50 := XA5.c0
  have xa51 := XA5.c1
  have xa5l := XA5.lt
  have xb50 := XB5.c0
  have xb51 := XB5.c1
  have xb5l := XB5.lt
  go_wp2_with fail
  clear xb0 xb1 xbl xa10 xa11 xa1l xb10 xb11 xb1l xa20 xa21 xa2l xb20 xb21 xb2l xa30 xa31 xa3l xb30 xb31 xb3l xa40 xa41 xa4l xb40 xb41 xb4l xa50 xa51 xa5l xb50 xb51 xb5l
  -- same 2
  refine (crossbarref18_Same.calls k _ _ r2 n2 _ _ r2 n2 true _ XA2.C XA2.le XB2.C XB2.le hs2).mono ?_
  rintro e w13 ⟨rfl, hb⟩
  replace hBW0 := Aside0.mk (hBW0.out.trans (hb.mono hBW0.out.size))
  replace XB := XB.below hb
  replace XA1 := XA1.below hb
  replace XB1 := XB1.below hb
  replace XA2 := XA2.below hb
  replace XB2 := XB2.below hb
  replace XA3 := XA3.below hb
  replace XB3 := XB3.below hb
  replace XA4 := XA4.below hb
  replace XB4 := XB4.below hb
  replace XA5 := XA5.below hb
  replace XB5 := XB5.below hb
  clear hb
  have xb0 := XB.c0
  have xb1 := XB.c1
  have xbl := XB.lt
  have xa10 := XA1.c0
  have xa11 := XA1.c1
  have xa1l := XA1.lt
  have xb10 := XB1.c0
  have xb11 := XB1.c1
  have xb1l := XB1.lt
  have xa20 := XA2.c0
  have xa21 := XA2.c1
  have xa2l := XA2.lt
  have xb20 := XB2.c0
  have xb21 := XB2.c1
  have xb2l := XB2.lt
  have xa30 := XA3.c0
  have xa31 := XA3.c1
  have xa3l := XA3.lt
  have xb30 := XB3.c0
  have xb31 := XB3.c1
  have xb3l := XB3.lt
  have xa40 := XA4.c0
  have xa41 := XA4.c1
  have xa4l := XA4.lt
  have xb40 := XB4.c0
  have xb41 := XB4.c1
  have xb4l := XB4.lt
  have xa50 := XA5.c0
  have xa51 := XA5.c1
  have xa5l := XA5.lt
  have xb50 := XB5.c0
  have xb51 := XB5.c1
  have xb5l := XB5.lt
  go_wp2_with fail
  clear xb0 xb1 xbl xa10 xa11 xa1l xb10 xb11 xb1l xa20 xa21 xa2l xb20 xb21 xb2l xa30 xa31 xa3l xb30 xb31 xb3l xa40 xa41 xa4l xb40 xb41 xb4l xa50 xa51 xa5l xb50 xb51 xb5l
  -- same 3
  refine (crossbarref18_Same.calls k _ _ r3 n3 _ _ r3 n3 true _ XA3.C XA3.le XB3.C XB3.le hs3).mono ?_
  rintro e w14 ⟨rfl, hb⟩
  replace hBW0 := Aside0.mk (hBW0.out.trans (hb.mono hBW0.out.size))
  replace XB := XB.below hb
  replace XA1 := XA1.below hb
  replace XB1 := XB1.below hb
  replace XA2 := XA2.below hb
  replace XB2 := XB2.below hb
  replace XA3 := XA3.below hb
  replace XB3 := XB3.below hb
  replace XA4 := XA4.below hb
  replace XB4 := XB4.below hb
  replace XA5 := XA5.below hb
  replace XB5 := XB5.below hb
  clear hb
  have xb0 := XB.c0
  have xb1 := XB.c1
  have xbl := XB.lt
  have xa10 := XA1.c0
  have xa11 := XA1.c1
  have xa1l := XA1.lt
  have xb10 := XB1.c0
  have xb11 := XB1.c1
  have xb1l := XB1.lt
  have xa20 := XA2.c0
  have xa21 := XA2.c1
  have xa2l := XA2.lt
  have xb20 := XB2.c0
  have xb21 := XB2.c1
  have xb2l := XB2.lt
  have xa30 := XA3.c0
  have xa31 := XA3.c1
  have xa3l := XA3.lt
  have xb30 := XB3.c0
  have xb31 := XB3.c1
  have xb3l := XB3.lt
  have xa40 := XA4.c0
  have xa41 := XA4.c1
  have xa4l := XA4.lt
  have xb40 := XB4.c0
  have xb41 := XB4.c1
  have xb4l := XB4.lt
  have xa50 := XA5.c0
  have xa51 := XA5.c1
  have xa5l := XA5.lt
  have xb50 := XB5.c0
  have xb51 := XB5.c1
  have xb5l := XB5.lt
  go_wp2_with fail
  clear xb0 xb1 xbl xa10 xa11 xa1l xb10 xb11 xb1l xa20 xa21 xa2l xb20 xb21 xb2l xa30 xa31 xa3l xb30 xb31 xb3l xa40 xa41 xa4l xb40 xb41 xb4l xa50 xa51 xa5l xb50 xb51 xb5l
  -- same 4
  refine (crossbarref18_Same.calls k _ _ r4 n4 _ _ r4 n4 true _ XA4.C XA4.le XB4.C XB4.le hs4).mono ?_
  rintro e w15 ⟨rfl, hb⟩
  replace hBW0 := Aside0.mk (hBW0.out.trans (hb.mono hBW0.out.size))
  replace XB := XB.below hb
  replace XA1 := XA1.below hb
  replace XB1 := XB1.below hb
  replace XA2 := XA2.below hb
  replace XB2 := XB2.below hb
  replace XA3 := XA3.below hb
  replace XB3 := XB3.below hb
  replace XA4 := XA4.below hb
  replace XB4 := XB4.below hb
  replace XA5 := XA5.below hb
  replace XB5 := XB5.below hb
  clear hb
  have xb0 := XB.c0
  have xb1 := XB.c1
  have xbl := XB.lt
  have xa10 := XA1.c0
  have xa11 := XA1.c1
  have xa1l := XA1.lt
  have xb10 := XB1.c0
  have xb11 := XB1.c1
  have xb1l := XB1.lt
  have xa20 := XA2.c0
  have xa21 := XA2.c1
  have xa2l := XA2.lt
  have xb20 := XB2.c0
  have xb21 := XB2.c1
  have xb2l := XB2.lt
  have xa30 := XA3.c0
  have xa31 := XA3.c1
  have xa3l := XA3.lt
  have xb30 := XB3.c0
  have xb31 := XB3.c1
  have xb3l := XB3.lt
  have xa40 := XA4.c0
  have xa41 := XA4.c1
  have xa4l := XA4.lt
  have xb40 := XB4.c0
  have xb41 := XB4.c1
  have xb4l := XB4.lt
  have xa50 := XA5.c0
  have xa51 := XA5.c1
  have xa5l := XA5.lt
  have xb50 := XB5.c0
  have xb51 := XB5.c1
  have xb5l := XB5.lt
  go_wp2_with fail
  clear xb0 xb1 xbl xa10 xa11 xa1l xb10 xb11 xb1l xa20 xa21 xa2l xb20 xb21 xb2l xa30 xa31 xa3l xb30 xb31 xb3l xa40 xa41 xa4l xb40 xb41 xb4l xa50 xa51 xa5l xb50 xb51 xb5l
  -- same 5
  refine (crossbarref18_Same.calls k _ _ r5 n5 _ _ r5 n5 true _ XA5.C XA5.le XB5.C XB5.le hs5).mono ?_
  rintro e w16 ⟨rfl, hb⟩
  replace hBW0 := Aside0.mk (hBW0.out.trans (hb.mono hBW0.out.size))
  replace XB := XB.below hb
  replace XA1 := XA1.below hb
  replace XB1 := XB1.below hb
  replace XA2 := XA2.below hb
  replace XB2 := XB2.below hb
  replace XA3 := XA3.below hb
  replace XB3 := XB3.below hb
  replace XA4 := XA4.below hb
  replace XB4 := XB4.below hb
  replace XA5 := XA5.below hb
  replace XB5 := XB5.below hb
  clear hb
  have xb0 := XB.c0
  have xb1 := XB.c1
  have xbl := XB.lt
  have xa10 := XA1.c0
  have xa11 := XA1.c1
  have xa1l := XA1.lt
  have xb10 := XB1.c0
  have xb11 := XB1.c1
  have xb1l := XB1.lt
  have xa20 := XA2.c0
  have xa21 := XA2.c1
  have xa2l := XA2.lt
  have xb20 := XB2.c0
  have xb21 := XB2.c1
  have xb2l := XB2.lt
  have xa30 := XA3.c0
  have xa31 := XA3.c1
  have xa3l := XA3.lt
  have xb30 := XB3.c0
  have xb31 := XB3.c1
  have xb3l := XB3.lt
  have xa40 := XA4.c0
  have xa41 := XA4.c1
  have xa4l := XA4.lt
  have xb40 := XB4.c0
  have xb41 := XB4.c1
  have xb4l := XB4.lt
  have xa50 := XA5.c0
  have xa51 := XA5.c1
  have xa5l := XA5.lt
  have xb50 := XB5.c0
  have xb51 := XB5.c1
  have xb5l := XB5.lt
  go_wp2_with fail
  clear xb0 xb1 xbl xa10 xa11 xa1l xb10 xb11 xb1l xa20 xa21 xa2l xb20 xb21 xb2l xa30 xa31 xa3l xb30 xb31 xb3l xa40 xa41 xa4l xb40 xb41 xb4l xa50 xa51 xa5l xb50 xb51 xb5l
  -- New, New
  refine (bridge_New.calls [] 1 _ rfl).mono ?_
  rintro e w17 ⟨v17, rfl, hR, hb⟩
  obtain ⟨A17, c17, rfl, hle17, hC17⟩ := Kd.R_reads hR
  clear hR
  replace hBW0 := Aside0.mk (hBW0.out.trans (hb.mono hBW0.out.size))
  replace XB := XB.below hb
  replace XA1 := XA1.below hb
  replace XB1 := XB1.below hb
  replace XA2 := XA2.below hb
  replace XB2 := XB2.below hb
  replace XA3 := XA3.below hb
  replace XB3 := XB3.below hb
  replace XA4 := XA4.below hb
  replace XB4 := XB4.below hb
  replace XA5 := XA5.below hb
  replace XB5 := XB5.below hb
  clear hb
  have xb0 := XB.c0
  have xb1 := XB.c1
  have xbl := XB.lt
  have xa10 := XA1.c0
  have xa11 := XA1.c1
  have xa1l := XA1.lt
  have xb10 := XB1.c0
  have xb11 := XB1.c1
  have xb1l := XB1.lt
  have xa20 := XA2.c0
  have xa21 := XA2.c1
  have xa2l := XA2.lt
  have xb20 := XB2.c0
  have xb21 := XB2.c1
  have xb2l := XB2.lt
  have xa30 := XA3.c0
  have xa31 := XA3.c1
  have xa3l := XA3.lt
  have xb30 := XB3.c0
  have xb31 := XB3.c1
  have xb3l := XB3.lt
  have xa40 := XA4.c0
  have xa41 := XA4.c1
  have xa4l := XA4.lt
  have xb40 := XB4.c0
  have xb41 := XB4.c1
  have xb4l := XB4.lt
  have xa50 := XA5.c0
  have xa51 := XA5.c1
  have xa5l := XA5.lt
  have xb50 := XB5.c0
  have xb51 := XB5.c1
  have xb5l := XB5.lt
  go_wp2_with fail
  clear xb0 xb1 xbl xa10 xa11 xa1l xb10 xb11 xb1l xa20 xa21 xa2l xb20 xb21 xb2l xa30 xa31 xa3l xb30 xb31 xb3l xa40 xa41 xa4l xb40 xb41 xb4l xa50 xa51 xa5l xb50 xb51 xb5l
  refine (crossbarref18_New.calls [] 1 _ rfl).mono ?_
  rintro e w18 ⟨v18, rfl, hR, hb⟩
  obtain ⟨A18, c18, rfl, hle18, hC18⟩ := Kd.R_reads hR
  replace hC17 := Kd.C_below hC17 hb
  clear hR
  replace hBW0 := Aside0.mk (hBW0.out.trans (hb.mono hBW0.out.size))
  replace XB := XB.below hb
  replace XA1 := XA1.below hb
  replace XB1 := XB1.below hb
  replace XA2 := XA2.below hb
  replace XB2 := XB2.below hb
  replace XA3 := XA3.below hb
  replace XB3 := XB3.below hb
  replace XA4 := XA4.below hb
  replace XB4 := XB4.below hb
  replace XA5 := XA5.below hb
  replace XB5 := XB5.below hb
  clear hb
  have xb0 := XB.c0
  have xb1 := XB.c1
  have xbl := XB.lt
  have xa10 := XA1.c0
  have xa11 := XA1.c1
  have xa1l := XA1.lt
  have xb10 := XB1.c0
  have xb11 := XB1.c1
  have xb1l := XB1.lt
  have xa20 := XA2.c0
  have xa21 := XA2.c1
  have xa2l := XA2.lt
  have xb20 := XB2.c0
  have xb21 := XB2.c1
  have xb2l := XB2.lt
  have xa30 := XA3.c0
  have xa31 := XA3.c1
  have xa3l := XA3.lt
  have xb30 := XB3.c0
  have xb31 := XB3.c1
  have xb3l := XB3.lt
  have xa40 := XA4.c0
  have xa41 := XA4.c1
  have xa4l := XA4.lt
  have xb40 := XB4.c0
  have xb41 := XB4.c1
  have xb4l := XB4.lt
  have xa50 := XA5.c0
  have xa51 := XA5.c1
  have xa5l := XA5.lt
  have xb50 := XB5.c0
  have xb51 := XB5.c1
  have xb5l := XB5.lt
  go_wp2_with fail
  clear xb0 xb1 xbl xa10 xa11 xa1l xb10 xb11 xb1l xa20 xa21 xa2l xb20 xb21 xb2l xa30 xa31 xa3l xb30 xb31 xb3l xa40 xa41 xa4l xb40 xb41 xb4l xa50 xa51 xa5l xb50 xb51 xb5l
  refine (crossbarref18_Same.calls k _ _ [] 1 _ _ [] 1 true _ hC17 hle17 hC18 hle18 hs6).mono ?_
  rintro e w19 ⟨rfl, hb⟩
  replace hBW0 := Aside0.mk (hBW0.out.trans (hb.mono hBW0.out.size))
  replace XB := XB.below hb
  replace XA1 := XA1.below hb
  replace XB1 := XB1.below hb
  replace XA2 := XA2.below hb
  replace XB2 := XB2.below hb
  replace XA3 := XA3.below hb
  replace XB3 := XB3.below hb
  replace XA4 := XA4.below hb
  replace XB4 := XB4.below hb
  replace XA5 := XA5.below hb
  replace XB5 := XB5.below hb
  clear hb
  have xb0 := XB.c0
  have xb1 := XB.c1
  have xbl := XB.lt
  have xa10 := XA1.c0
  have xa11 := XA1.c1
  have xa1l := XA1.lt
  have xb10 := XB1.c0
  have xb11 := XB1.c1
  have xb1l := XB1.lt
  have xa20 := XA2.c0
  have xa21 := XA2.c1
  have xa2l := XA2.lt
  have xb20 := XB2.c0
  have xb21 := XB2.c1
  have xb2l := XB2.lt
  have xa30 := XA3.c0
  have xa31 := XA3.c1
  have xa3l := XA3.lt
  have xb30 := XB3.c0
  have xb31 := XB3.c1
  have xb3l := XB3.lt
  have xa40 := XA4.c0
  have xa41 := XA4.c1
  have xa4l := XA4.lt
  have xb40 := XB4.c0
  have xb41 := XB4.c1
  have xb4l := XB4.lt
  have xa50 := XA5.c0
  have xa51 := XA5.c1
  have xa5l := XA5.lt
  have xb50 := XB5.c0
  have xb51 := XB5.c1
  have xb5l := XB5.lt
  go_wp2_with fail
  clear xb0 xb1 xbl xa10 xa11 xa1l xb10 xb11 xb1l xa20 xa21 xa2l xb20 xb21 xb2l xa30 xa31 xa3l xb30 xb31 xb3l xa40 xa41 xa4l xb40 xb41 xb4l xa50 xa51 xa5l xb50 xb51 xb5l
  clear XA1 XB1 XA2 XB2 XA3 XB3 XA4 XB4 XA5 XB5
  replace hBW0 := Aside0.mk hBW0.out.drew
  replace XB := XB.below ((Below.refl _ w19).drew)
  refine start_ (n := 8) (S := fun w' => w'.cell? ⟨w.heap.size, 0, none⟩ = some (.slice A l.length c) ∧ w'.cell? ⟨w.heap.size, 1, none⟩ = some (.int .i64 nx)) (ds := []) #[false, false, false, false, false, false, false, false] (by kernel_rfl) rfl rfl ⟨XB.c0, XB.c1⟩ (fun hHeld => ?_)
  refine with_tabW matches8.tab16 matches8.bits16 (fun HT_ HW_ => ?_)
  generalize w19.drew = w23 at XB hBW0 hHeld ⊢
  refine pure_ (i := 1) (N := some 131) (v := ?_) (a' := ?_) #[false, true, false, false, false, false, false, false] rfl rfl (any_of HT_.out (by kernel_rfl)) (fun _ _ _ h => h) (Or.inl ⟨by rfl, ?_⟩) ?_ ?_
  rotate_left
  · intro w'
    go_simp
    with_reducible rfl
  rotate_left
  · simp only [Act.put, List.setIfInBounds_toArray, List.set_cons_zero, List.set_cons_succ, i64_w, i32_w]
    rfl
  refine pure_ (i := 4) (N := some 134) (v := ?_) (a' := ?_) #[false, true, false, false, true, false, false, false] rfl rfl (any_of HT_.out (by kernel_rfl)) (fun _ _ _ h => h) (Or.inl ⟨by rfl, ?_⟩) ?_ ?_
  rotate_left
  · intro w'
    go_simp
    with_reducible rfl
  rotate_left
  · simp only [Act.put, List.setIfInBounds_toArray, List.set_cons_zero, List.set_cons_succ, i64_w, i32_w]
    rfl
  refine take_ (i := 0) (N := some 130) (v := ?_) (a' := ?_) #[true, true, false, false, true, false, false, false] rfl rfl (take_ofW HT_.out HW_.out (by kernel_rfl)) (fun _ _ _ h => h) (Or.inl ⟨by rfl, ?_⟩) hHeld ?_ ?_
  rotate_left
  · rintro w' ⟨s0, s1⟩
    go_simp
    with_reducible rfl
  rotate_left
  · simp only [Act.put, List.setIfInBounds_toArray, List.set_cons_zero, List.set_cons_succ, i64_w, i32_w]
    rfl
  refine take_ (i := 3) (N := some 133) (v := ?_) (a' := ?_) #[true, true, false, true, true, false, false, false] rfl rfl (take_ofW HT_.out HW_.out (by kernel_rfl)) (fun _ _ _ h => h) (Or.inl ⟨by rfl, ?_⟩) hHeld ?_ ?_
  rotate_left
  · rintro w' ⟨s0, s1⟩
    go_simp
    with_reducible rfl
  rotate_left
  · simp only [Act.put, List.setIfInBounds_toArray, List.set_cons_zero, List.set_cons_succ, i64_w, i32_w]
    rfl
  refine one_ (i := 2) (N := some 132) #[true, true, true, true, true, false, false, false] rfl rfl (one_of HT_.out (by kernel_rfl)) (by decide) (fun K hK => ?_)
  refine goes_ Try.func16 (by kernel_rfl) rfl #[.agg #[.slice A l.length c, .int .i64 nx], .int .i64 x] (by rfl) rfl rfl (by (try simp only [List.map_toArray, List.map_cons, List.map_nil]); first | done | rfl) ?_
  refine (bridge_Hears.calls A c l nx x hs _ XB.C XB.le hh1).mono ?_
  rintro e w20 ⟨v20, rfl, hR, hb⟩
  refine ⟨_, rfl, ?_⟩
  obtain ⟨A20, c20, rfl, hle20, hC20⟩ := Kd.R_reads hR
  clear hR
  replace hBW0 := Aside0.mk (hBW0.out.trans (hb.mono hBW0.out.size))
  replace XB := XB.below hb
  clear hb
  refine hK.out _ _ ⟨XB.c0, XB.c1⟩ (fun hHeld => ?_)
  clear hK K
  refine norm_ (a' := ?_) ?_ ?_
  rotate_left
  · show Act.put _ (some 132) _ = _
    simp only [Act.put, List.setIfInBounds_toArray, List.set_cons_zero, List.set_cons_succ, i64_w, i32_w]
    rfl
  refine one_ (i := 5) (N := some 135) #[true, true, true, true, true, true, false, false] rfl rfl (one_of HT_.out (by kernel_rfl)) (by decide) (fun K hK => ?_)
  refine goes_ Try.func30 (by kernel_rfl) rfl #[.agg #[.slice A l.length c, .int .i64 nx], .int .i64 x] (by rfl) rfl rfl (by (try simp only [List.map_toArray, List.map_cons, List.map_nil]); first | done | rfl) ?_
  refine (crossbarref18_Hears.calls k A c l nx x hs _ XB.C XB.le hh2).mono ?_
  rintro e w21 ⟨v21, rfl, hR, hb⟩
  refine ⟨_, rfl, ?_⟩
  obtain ⟨A21, c21, rfl, hle21, hC21⟩ := Kd.R_reads hR
  clear hR
  replace hC20 := Kd.C_below hC20 hb
  replace hBW0 := Aside0.mk (hBW0.out.trans (hb.mono hBW0.out.size))
  replace XB := XB.below hb
  clear hb
  refine hK.out _ _ ⟨XB.c0, XB.c1⟩ (fun hHeld => ?_)
  clear hK K
  refine norm_ (a' := ?_) ?_ ?_
  rotate_left
  · show Act.put _ (some 135) _ = _
    simp only [Act.put, List.setIfInBounds_toArray, List.set_cons_zero, List.set_cons_succ, i64_w, i32_w]
    rfl
  refine one_ (i := 6) (N := some 136) #[true, true, true, true, true, true, true, false] rfl rfl (one_of HT_.out (by kernel_rfl)) (by decide) (fun K hK => ?_)
  refine goes_ Try.func15 (by kernel_rfl) rfl #[.slice A20 hs.length c20, .slice A21 hs.length c21] (by rfl) rfl rfl (by (try simp only [List.map_toArray, List.map_cons, List.map_nil]); first | done | rfl) ?_
  refine (crossbarref18_Ints.calls k _ _ hs _ _ hs true _ hC20 hle20 hC21 hle21 hh3).mono ?_
  rintro e w22 ⟨rfl, hd⟩
  refine ⟨_, rfl, ?_⟩
  have hb := hd.below
  replace hBW0 := Aside0.mk (hBW0.out.trans (hb.mono hBW0.out.size))
  replace XB := XB.below hb
  clear hb hd
  refine hK.out _ _ ⟨XB.c0, XB.c1⟩ (fun hHeld => ?_)
  clear hK K
  refine norm_ (a' := ?_) ?_ ?_
  rotate_left
  · show Act.put _ (some 136) _ = _
    simp only [Act.put, List.setIfInBounds_toArray, List.set_cons_zero, List.set_cons_succ, i64_w, i32_w]
    rfl
  refine pure_ (i := 7) (N := some 30) (v := ?_) (a' := ?_) #[true, true, true, true, true, true, true, true] rfl rfl (any_of HT_.out (by kernel_rfl)) (fun _ _ _ h => h) (Or.inl ⟨by rfl, ?_⟩) ?_ ?_
  rotate_left
  · intro w'
    go_simp
    with_reducible rfl
  rotate_left
  · simp only [Act.put, List.setIfInBounds_toArray, List.set_cons_zero, List.set_cons_succ, i64_w, i32_w]
    rfl
  refine done_ (done_of HT_.out (by kernel_rfl)) ?_
  go_wp2_with fail
  replace hBW0 := Aside0.mk hBW0.out.drew
  replace XB := XB.below ((Below.refl _ w22).drew)
  refine start_ (n := 37) (S := fun w' => w'.cell? ⟨w.heap.size, 0, none⟩ = some (.slice A l.length c) ∧ w'.cell? ⟨w.heap.size, 1, none⟩ = some (.int .i64 nx)) (ds := []) #[false, false, false, false, false, false, false, false, false, false, false, false, false, false, false, false, false, false, false, false, false, false, false, false, false, false, false, false, false, false, false, false, false, false, false, false, false] (by kernel_rfl) rfl rfl ⟨XB.c0, XB.c1⟩ (fun hHeld => ?_)
  refine with_tabW matches8.tab17 matches8.bits17 (fun HT_ HW_ => ?_)
  generalize w22.drew = w26 at XB hBW0 hHeld ⊢
  refine pure_ (i := 0) (N := some 137) (v := ?_) (a' := ?_) #[true, false, false, false, false, false, false, false, false, false, false, false, false, false, false, false, false, false, false, false, false, false, false, false, false, false, false, false, false, false, false, false, false, false, false, false, false] rfl rfl (any_of HT_.out (by kernel_rfl)) (fun _ _ _ h => h) (Or.inl ⟨by rfl, ?_⟩) ?_ ?_
  rotate_left
  · intro w'
    go_simp
    with_reducible rfl
  rotate_left
  · simp only [Act.put, List.setIfInBounds_toArray, List.set_cons_zero, List.set_cons_succ, i64_w, i32_w]
    rfl
  refine pure_ (i := 1) (N := some 138) (v := ?_) (a' := ?_) #[true, true, false, false, false, false, false, false, false, false, false, false, false, false, false, false, false, false, false, false, false, false, false, false, false, false, false, false, false, false, false, false, false, false, false, false, false] rfl rfl (any_of HT_.out (by kernel_rfl)) (fun _ _ _ h => h) (Or.inl ⟨by rfl, ?_⟩) ?_ ?_
  rotate_left
  · intro w'
    go_simp
    with_reducible rfl
  rotate_left
  · simp only [Act.put, List.setIfInBounds_toArray, List.set_cons_zero, List.set_cons_succ, i64_w, i32_w]
    rfl
  refine pure_ (i := 2) (N := some 139) (v := ?_) (a' := ?_) #[true, true, true, false, false, false, false, false, false, false, false, false, false, false, false, false, false, false, false, false, false, false, false, false, false, false, false, false, false, false, false, false, false, false, false, false, false] rfl rfl (any_of HT_.out (by kernel_rfl)) (fun _ _ _ h => h) (Or.inl ⟨by rfl, ?_⟩) ?_ ?_
  rotate_left
  · intro w'
    go_simp
    with_reducible rfl
  rotate_left
  · simp only [Act.put, List.setIfInBounds_toArray, List.set_cons_zero, List.set_cons_succ, i64_w, i32_w]
    rfl
  refine pure_ (i := 3) (N := some 140) (v := ?_) (a' := ?_) #[true, true, true, true, false, false, false, false, false, false, false, false, false, false, false, false, false, false, false, false, false, false, false, false, false, false, false, false, false, false, false, false, false, false, false, false, false] rfl rfl (any_of HT_.out (by kernel_rfl)) (fun _ _ _ h => h) (Or.inl ⟨by rfl, ?_⟩) ?_ ?_
  rotate_left
  · intro w'
    go_simp
    with_reducible rfl
  rotate_left
  · simp only [Act.put, List.setIfInBounds_toArray, List.set_cons_zero, List.set_cons_succ, i64_w, i32_w]
    rfl
  refine pure_ (i := 4) (N := some 141) (v := ?_) (a' := ?_) #[true, true, true, true, true, false, false, false, false, false, false, false, false, false, false, false, false, false, false, false, false, false, false, false, false, false, false, false, false, false, false, false, false, false, false, false, false] rfl rfl (any_of HT_.out (by kernel_rfl)) (fun _ _ _ h => h) (Or.inl ⟨by rfl, ?_⟩) ?_ ?_
  rotate_left
  · intro w'
    go_simp
    with_reducible rfl
  rotate_left
  · simp only [Act.put, List.setIfInBounds_toArray, List.set_cons_zero, List.set_cons_succ, i64_w, i32_w]
    rfl
  refine pure_ (i := 5) (N := some 142) (v := ?_) (a' := ?_) #[true, true, true, true, true, true, false, false, false, false, false, false, false, false, false, false, false, false, false, false, false, false, false, false, false, false, false, false, false, false, false, false, false, false, false, false, false] rfl rfl (any_of HT_.out (by kernel_rfl)) (fun _ _ _ h => h) (Or.inl ⟨by rfl, ?_⟩) ?_ ?_
  rotate_left
  · intro w'
    go_simp
    with_reducible rfl
  rotate_left
  · simp only [Act.put, List.setIfInBounds_toArray, List.set_cons_zero, List.set_cons_succ, i64_w, i32_w]
    rfl
  refine pure_ (i := 6) (N := some 143) (v := ?_) (a' := ?_) #[true, true, true, true, true, true, true, false, false, false, false, false, false, false, false, false, false, false, false, false, false, false, false, false, false, false, false, false, false, false, false, false, false, false, false, false, false] rfl rfl (any_of HT_.out (by kernel_rfl)) (fun _ _ _ h => h) (Or.inl ⟨by rfl, ?_⟩) ?_ ?_
  rotate_left
  · intro w'
    go_simp
    with_reducible rfl
  rotate_left
  · simp only [Act.put, List.setIfInBounds_toArray, List.set_cons_zero, List.set_cons_succ, i64_w, i32_w]
    rfl
  refine pure_ (i := 7) (N := some 144) (v := ?_) (a' := ?_) #[true, true, true, true, true, true, true, true, false, false, false, false, false, false, false, false, false, false, false, false, false, false, false, false, false, false, false, false, false, false, false, false, false, false, false, false, false] rfl rfl (any_of HT_.out (by kernel_rfl)) (fun _ _ _ h => h) (Or.inl ⟨by rfl, ?_⟩) ?_ ?_
  rotate_left
  · intro w'
    go_simp
    with_reducible rfl
  rotate_left
  · simp only [Act.put, List.setIfInBounds_toArray, List.set_cons_zero, List.set_cons_succ, i64_w, i32_w]
    rfl
  refine pure_ (i := 8) (N := some 145) (v := ?_) (a' := ?_) #[true, true, true, true, true, true, true, true, true, false, false, false, false, false, false, false, false, false, false, false, false, false, false, false, false, false, false, false, false, false, false, false, false, false, false, false, false] rfl rfl (any_of HT_.out (by kernel_rfl)) (fun _ _ _ h => h) (Or.inl ⟨by rfl, ?_⟩) ?_ ?_
  rotate_left
  · intro w'
    go_simp
    with_reducible rfl
  rotate_left
  · simp only [Act.put, List.setIfInBounds_toArray, List.set_cons_zero, List.set_cons_succ, i64_w, i32_w]
    rfl
  refine pure_ (i := 9) (N := some 146) (v := ?_) (a' := ?_) #[true, true, true, true, true, true, true, true, true, true, false, false, false, false, false, false, false, false, false, false, false, false, false, false, false, false, false, false, false, false, false, false, false, false, false, false, false] rfl rfl (any_of HT_.out (by kernel_rfl)) (fun _ _ _ h => h) (Or.inl ⟨by rfl, ?_⟩) ?_ ?_
  rotate_left
  · intro w'
    go_simp
    with_reducible rfl
  rotate_left
  · simp only [Act.put, List.setIfInBounds_toArray, List.set_cons_zero, List.set_cons_succ, i64_w, i32_w]
    rfl
  refine pure_ (i := 10) (N := some 147) (v := ?_) (a' := ?_) #[true, true, true, true, true, true, true, true, true, true, true, false, false, false, false, false, false, false, false, false, false, false, false, false, false, false, false, false, false, false, false, false, false, false, false, false, false] rfl rfl (any_of HT_.out (by kernel_rfl)) (fun _ _ _ h => h) (Or.inl ⟨by rfl, ?_⟩) ?_ ?_
  rotate_left
  · intro w'
    go_simp
    with_reducible rfl
  rotate_left
  · simp only [Act.put, List.setIfInBounds_toArray, List.set_cons_zero, List.set_cons_succ, i64_w, i32_w]
    rfl
  refine pure_ (i := 11) (N := some 148) (v := ?_) (a' := ?_) #[true, true, true, true, true, true, true, true, true, true, true, true, false, false, false, false, false, false, false, false, false, false, false, false, false, false, false, false, false, false, false, false, false, false, false, false, false] rfl rfl (any_of HT_.out (by kernel_rfl)) (fun _ _ _ h => h) (Or.inl ⟨by rfl, ?_⟩) ?_ ?_
  rotate_left
  · intro w'
    go_simp
    with_reducible rfl
  rotate_left
  · simp only [Act.put, List.setIfInBounds_toArray, List.set_cons_zero, List.set_cons_succ, i64_w, i32_w]
    rfl
  refine pure_ (i := 12) (N := some 149) (v := ?_) (a' := ?_) #[true, true, true, true, true, true, true, true, true, true, true, true, true, false, false, false, false, false, false, false, false, false, false, false, false, false, false, false, false, false, false, false, false, false, false, false, false] rfl rfl (any_of HT_.out (by kernel_rfl)) (fun _ _ _ h => h) (Or.inl ⟨by rfl, ?_⟩) ?_ ?_
  rotate_left
  · intro w'
    go_simp
    with_reducible rfl
  rotate_left
  · simp only [Act.put, List.setIfInBounds_toArray, List.set_cons_zero, List.set_cons_succ, i64_w, i32_w]
    rfl
  refine pure_ (i := 13) (N := some 150) (v := ?_) (a' := ?_) #[true, true, true, true, true, true, true, true, true, true, true, true, true, true, false, false, false, false, false, false, false, false, false, false, false, false, false, false, false, false, false, false, false, false, false, false, false] rfl rfl (any_of HT_.out (by kernel_rfl)) (fun _ _ _ h => h) (Or.inl ⟨by rfl, ?_⟩) ?_ ?_
  rotate_left
  · intro w'
    go_simp
    with_reducible rfl
  rotate_left
  · simp only [Act.put, List.setIfInBounds_toArray, List.set_cons_zero, List.set_cons_succ, i64_w, i32_w]
    rfl
  refine pure_ (i := 14) (N := some 151) (v := ?_) (a' := ?_) #[true, true, true, true, true, true, true, true, true, true, true, true, true, true, true, false, false, false, false, false, false, false, false, false, false, false, false, false, false, false, false, false, false, false, false, false, false] rfl rfl (any_of HT_.out (by kernel_rfl)) (fun _ _ _ h => h) (Or.inl ⟨by rfl, ?_⟩) ?_ ?_
  rotate_left
  · intro w'
    go_simp
    with_reducible rfl
  rotate_left
  · simp only [Act.put, List.setIfInBounds_toArray, List.set_cons_zero, List.set_cons_succ, i64_w, i32_w]
    rfl
  refine pure_ (i := 15) (N := some 152) (v := ?_) (a' := ?_) #[true, true, true, true, true, true, true, true, true, true, true, true, true, true, true, true, false, false, false, false, false, false, false, false, false, false, false, false, false, false, false, false, false, false, false, false, false] rfl rfl (any_of HT_.out (by kernel_rfl)) (fun _ _ _ h => h) (Or.inl ⟨by rfl, ?_⟩) ?_ ?_
  rotate_left
  · intro w'
    go_simp
    with_reducible rfl
  rotate_left
  · simp only [Act.put, List.setIfInBounds_toArray, List.set_cons_zero, List.set_cons_succ, i64_w, i32_w]
    rfl
  refine pure_ (i := 16) (N := some 153) (v := ?_) (a' := ?_) #[true, true, true, true, true, true, true, true, true, true, true, true, true, true, true, true, true, false, false, false, false, false, false, false, false, false, false, false, false, false, false, false, false, false, false, false, false] rfl rfl (any_of HT_.out (by kernel_rfl)) (fun _ _ _ h => h) (Or.inl ⟨by rfl, ?_⟩) ?_ ?_
  rotate_left
  · intro w'
    go_simp
    with_reducible rfl
  rotate_left
  · simp only [Act.put, List.setIfInBounds_toArray, List.set_cons_zero, List.set_cons_succ, i64_w, i32_w]
    rfl
  refine pure_ (i := 17) (N := some 154) (v := ?_) (a' := ?_) #[true, true, true, true, true, true, true, true, true, true, true, true, true, true, true, true, true, true, false, false, false, false, false, false, false, false, false, false, false, false, false, false, false, false, false, false, false] rfl rfl (any_of HT_.out (by kernel_rfl)) (fun _ _ _ h => h) (Or.inl ⟨by rfl, ?_⟩) ?_ ?_
  rotate_left
  · intro w'
    go_simp
    with_reducible rfl
  rotate_left
  · simp only [Act.put, List.setIfInBounds_toArray, List.set_cons_zero, List.set_cons_succ, i64_w, i32_w]
    rfl
  refine pure_ (i := 18) (N := some 155) (v := ?_) (a' := ?_) #[true, true, true, true, true, true, true, true, true, true, true, true, true, true, true, true, true, true, true, false, false, false, false, false, false, false, false, false, false, false, false, false, false, false, false, false, false] rfl rfl (any_of HT_.out (by kernel_rfl)) (fun _ _ _ h => h) (Or.inl ⟨by rfl, ?_⟩) ?_ ?_
  rotate_left
  · intro w'
    go_simp
    with_reducible rfl
  rotate_left
  · simp only [Act.put, List.setIfInBounds_toArray, List.set_cons_zero, List.set_cons_succ, i64_w, i32_w]
    rfl
  refine pure_ (i := 19) (N := some 156) (v := ?_) (a' := ?_) #[true, true, true, true, true, true, true, true, true, true, true, true, true, true, true, true, true, true, true, true, false, false, false, false, false, false, false, false, false, false, false, false, false, false, false, false, false] rfl rfl (any_of HT_.out (by kernel_rfl)) (fun _ _ _ h => h) (Or.inl ⟨by rfl, ?_⟩) ?_ ?_
  rotate_left
  · intro w'
    go_simp
    with_reducible rfl
  rotate_left
  · simp only [Act.put, List.setIfInBounds_toArray, List.set_cons_zero, List.set_cons_succ, i64_w, i32_w]
    rfl
  refine pure_ (i := 20) (N := some 157) (v := ?_) (a' := ?_) #[true, true, true, true, true, true, true, true, true, true, true, true, true, true, true, true, true, true, true, true, true, false, false, false, false, false, false, false, false, false, false, false, false, false, false, false, false] rfl rfl (any_of HT_.out (by kernel_rfl)) (fun _ _ _ h => h) (Or.inl ⟨by rfl, ?_⟩) ?_ ?_
  rotate_left
  · intro w'
    go_simp
    with_reducible rfl
  rotate_left
  · simp only [Act.put, List.setIfInBounds_toArray, List.set_cons_zero, List.set_cons_succ, i64_w, i32_w]
    rfl
  refine pure_ (i := 21) (N := some 158) (v := ?_) (a' := ?_) #[true, true, true, true, true, true, true, true, true, true, true, true, true, true, true, true, true, true, true, true, true, true, false, false, false, false, false, false, false, false, false, false, false, false, false, false, false] rfl rfl (any_of HT_.out (by kernel_rfl)) (fun _ _ _ h => h) (Or.inl ⟨by rfl, ?_⟩) ?_ ?_
  rotate_left
  · intro w'
    go_simp
    with_reducible rfl
  rotate_left
  · simp only [Act.put, List.setIfInBounds_toArray, List.set_cons_zero, List.set_cons_succ, i64_w, i32_w]
    rfl
  refine pure_ (i := 22) (N := some 159) (v := ?_) (a' := ?_) #[true, true, true, true, true, true, true, true, true, true, true, true, true, true, true, true, true, true, true, true, true, true, true, false, false, false, false, false, false, false, false, false, false, false, false, false, false] rfl rfl (any_of HT_.out (by kernel_rfl)) (fun _ _ _ h => h) (Or.inl ⟨by rfl, ?_⟩) ?_ ?_
  rotate_left
  · intro w'
    go_simp
    with_reducible rfl
  rotate_left
  · simp only [Act.put, List.setIfInBounds_toArray, List.set_cons_zero, List.set_cons_succ, i64_w, i32_w]
    rfl
  refine pure_ (i := 23) (N := some 160) (v := ?_) (a' := ?_) #[true, true, true, true, true, true, true, true, true, true, true, true, true, true, true, true, true, true, true, true, true, true, true, true, false, false, false, false, false, false, false, false, false, false, false, false, false] rfl rfl (any_of HT_.out (by kernel_rfl)) (fun _ _ _ h => h) (Or.inl ⟨by rfl, ?_⟩) ?_ ?_
  rotate_left
  · intro w'
    go_simp
    with_reducible rfl
  rotate_left
  · simp only [Act.put, List.setIfInBounds_toArray, List.set_cons_zero, List.set_cons_succ, i64_w, i32_w]
    rfl
  refine pure_ (i := 24) (N := some 161) (v := ?_) (a' := ?_) #[true, true, true, true, true, true, true, true, true, true, true, true, true, true, true, true, true, true, true, true, true, true, true, true, true, false, false, false, false, false, false, false, false, false, false, false, false] rfl rfl (any_of HT_.out (by kernel_rfl)) (fun _ _ _ h => h) (Or.inl ⟨by rfl, ?_⟩) ?_ ?_
  rotate_left
  · intro w'
    go_simp
    with_reducible rfl
  rotate_left
  · simp only [Act.put, List.setIfInBounds_toArray, List.set_cons_zero, List.set_cons_succ, i64_w, i32_w]
    rfl
  refine pure_ (i := 25) (N := some 162) (v := ?_) (a' := ?_) #[true, true, true, true, true, true, true, true, true, true, true, true, true, true, true, true, true, true, true, true, true, true, true, true, true, true, false, false, false, false, false, false, false, false, false, false, false] rfl rfl (any_of HT_.out (by kernel_rfl)) (fun _ _ _ h => h) (Or.inl ⟨by rfl, ?_⟩) ?_ ?_
  rotate_left
  · intro w'
    go_simp
    with_reducible rfl
  rotate_left
  · simp only [Act.put, List.setIfInBounds_toArray, List.set_cons_zero, List.set_cons_succ, i64_w, i32_w]
    rfl
  refine pure_ (i := 26) (N := some 163) (v := ?_) (a' := ?_) #[true, true, true, true, true, true, true, true, true, true, true, true, true, true, true, true, true, true, true, true, true, true, true, true, true, true, true, false, false, false, false, false, false, false, false, false, false] rfl rfl (any_of HT_.out (by kernel_rfl)) (fun _ _ _ h => h) (Or.inl ⟨by rfl, ?_⟩) ?_ ?_
  rotate_left
  · intro w'
    go_simp
    with_reducible rfl
  rotate_left
  · simp only [Act.put, List.setIfInBounds_toArray, List.set_cons_zero, List.set_cons_succ, i64_w, i32_w]
    rfl
  refine pure_ (i := 27) (N := some 164) (v := ?_) (a' := ?_) #[true, true, true, true, true, true, true, true, true, true, true, true, true, true, true, true, true, true, true, true, true, true, true, true, true, true, true, true, false, false, false, false, false, false, false, false, false] rfl rfl (any_of HT_.out (by kernel_rfl)) (fun _ _ _ h => h) (Or.inl ⟨by rfl, ?_⟩) ?_ ?_
  rotate_left
  · intro w'
    go_simp
    with_reducible rfl
  rotate_left
  · simp only [Act.put, List.setIfInBounds_toArray, List.set_cons_zero, List.set_cons_succ, i64_w, i32_w]
    rfl
  refine pure_ (i := 28) (N := some 165) (v := ?_) (a' := ?_) #[true, true, true, true, true, true, true, true, true, true, true, true, true, true, true, true, true, true, true, true, true, true, true, true, true, true, true, true, true, false, false, false, false, false, false, false, false] rfl rfl (any_of HT_.out (by kernel_rfl)) (fun _ _ _ h => h) (Or.inl ⟨by rfl, ?_⟩) ?_ ?_
  rotate_left
  · intro w'
    go_simp
    with_reducible rfl
  rotate_left
  · simp only [Act.put, List.setIfInBounds_toArray, List.set_cons_zero, List.set_cons_succ, i64_w, i32_w]
    rfl
  refine pure_ (i := 29) (N := some 166) (v := ?_) (a' := ?_) #[true, true, true, true, true, true, true, true, true, true, true, true, true, true, true, true, true, true, true, true, true, true, true, true, true, true, true, true, true, true, false, false, false, false, false, false, false] rfl rfl (any_of HT_.out (by kernel_rfl)) (fun _ _ _ h => h) (Or.inl ⟨by rfl, ?_⟩) ?_ ?_
  rotate_left
  · intro w'
    go_simp
    with_reducible rfl
  rotate_left
  · simp only [Act.put, List.setIfInBounds_toArray, List.set_cons_zero, List.set_cons_succ, i64_w, i32_w]
    rfl
  refine take_ (i := 30) (N := some 167) (v := ?_) (a' := ?_) #[true, true, true, true, true, true, true, true, true, true, true, true, true, true, true, true, true, true, true, true, true, true, true, true, true, true, true, true, true, true, true, false, false, false, false, false, false] rfl rfl (take_ofW HT_.out HW_.out (by kernel_rfl)) (fun _ _ _ h => h) (Or.inl ⟨by rfl, ?_⟩) hHeld ?_ ?_
  rotate_left
  · rintro w' ⟨s0, s1⟩
    go_simp
    with_reducible rfl
  rotate_left
  · simp only [Act.put, List.setIfInBounds_toArray, List.set_cons_zero, List.set_cons_succ, i64_w, i32_w]
    rfl
  refine take_ (i := 32) (N := some 169) (v := ?_) (a' := ?_) #[true, true, true, true, true, true, true, true, true, true, true, true, true, true, true, true, true, true, true, true, true, true, true, true, true, true, true, true, true, true, true, false, true, false, false, false, false] rfl rfl (take_ofW HT_.out HW_.out (by kernel_rfl)) (fun _ _ _ h => h) (Or.inl ⟨by rfl, ?_⟩) hHeld ?_ ?_
  rotate_left
  · rintro w' ⟨s0, s1⟩
    go_simp
    with_reducible rfl
  rotate_left
  · simp only [Act.put, List.setIfInBounds_toArray, List.set_cons_zero, List.set_cons_succ, i64_w, i32_w]
    rfl
  refine one_ (i := 31) (N := some 168) #[true, true, true, true, true, true, true, true, true, true, true, true, true, true, true, true, true, true, true, true, true, true, true, true, true, true, true, true, true, true, true, true, true, false, false, false, false] rfl rfl (one_of HT_.out (by kernel_rfl)) (by decide) (fun K hK => ?_)
  refine goes_ Try.func12 (by kernel_rfl) rfl #[.agg #[.slice A l.length c, .int .i64 nx]] (by rfl) rfl rfl (by (try simp only [List.map_toArray, List.map_cons, List.map_nil]); first | done | rfl) ?_
  refine (bridge_Check.calls A c l nx ec _ XB.C XB.le hc1).mono ?_
  rintro e w24 ⟨rfl, hb⟩
  refine ⟨_, rfl, ?_⟩
  replace hBW0 := Aside0.mk (hBW0.out.trans (hb.mono hBW0.out.size))
  replace XB := XB.below hb
  clear hb
  refine hK.out _ _ ⟨XB.c0, XB.c1⟩ (fun hHeld => ?_)
  clear hK K
  refine norm_ (a' := ?_) ?_ ?_
  rotate_left
  · show Act.put _ (some 168) _ = _
    simp only [Act.put, List.setIfInBounds_toArray, List.set_cons_zero, List.set_cons_succ, i64_w, i32_w]
    rfl
  refine one_ (i := 33) (N := some 170) #[true, true, true, true, true, true, true, true, true, true, true, true, true, true, true, true, true, true, true, true, true, true, true, true, true, true, true, true, true, true, true, true, true, true, false, false, false] rfl rfl (one_of HT_.out (by kernel_rfl)) (by decide) (fun K hK => ?_)
  refine goes_ Try.func31 (by kernel_rfl) rfl #[.agg #[.slice A l.length c, .int .i64 nx]] (by rfl) rfl rfl (by (try simp only [List.map_toArray, List.map_cons, List.map_nil]); first | done | rfl) ?_
  refine (crossbarref18_Check.calls k A c l nx ec _ XB.C XB.le hc2).mono ?_
  rintro e w25 ⟨rfl, hb⟩
  refine ⟨_, rfl, ?_⟩
  replace hBW0 := Aside0.mk (hBW0.out.trans (hb.mono hBW0.out.size))
  replace XB := XB.below hb
  clear hb
  refine hK.out _ _ ⟨XB.c0, XB.c1⟩ (fun hHeld => ?_)
  clear hK K
  refine norm_ (a' := ?_) ?_ ?_
  rotate_left
  · show Act.put _ (some 170) _ = _
    simp only [Act.put, List.setIfInBounds_toArray, List.set_cons_zero, List.set_cons_succ, i64_w, i32_w]
    rfl
  refine pure_ (i := 34) (N := some 171) (v := ?_) (a' := ?_) #[true, true, true, true, true, true, true, true, true, true, true, true, true, true, true, true, true, true, true, true, true, true, true, true, true, true, true, true, true, true, true, true, true, true, true, false, false] rfl rfl (any_of HT_.out (by kernel_rfl)) (fun _ _ _ h => h) (Or.inl ⟨by rfl, ?_⟩) ?_ ?_
  rotate_left
  · intro w'
    go_simp
    with_reducible rfl
  rotate_left
  · simp only [Act.put, List.setIfInBounds_toArray, List.set_cons_zero, List.set_cons_succ, i64_w, i32_w]
    rfl
  refine pure_ (i := 35) (N := some 172) (v := ?_) (a' := ?_) #[true, true, true, true, true, true, true, true, true, true, true, true, true, true, true, true, true, true, true, true, true, true, true, true, true, true, true, true, true, true, true, true, true, true, true, true, false] rfl rfl (any_of HT_.out (by kernel_rfl)) (fun _ _ _ h => h) (Or.inl ⟨by rfl, ?_⟩) ?_ ?_
  rotate_left
  · intro w'
    go_simp
    with_reducible rfl
  rotate_left
  · simp only [Act.put, List.setIfInBounds_toArray, List.set_cons_zero, List.set_cons_succ, i64_w, i32_w]
    rfl
  refine pure_ (i := 36) (N := some 8) (v := ?_) (a' := ?_) #[true, true, true, true, true, true, true, true, true, true, true, true, true, true, true, true, true, true, true, true, true, true, true, true, true, true, true, true, true, true, true, true, true, true, true, true, true] rfl rfl (any_of HT_.out (by kernel_rfl)) (fun _ _ _ h => h) (Or.inl ⟨by rfl, ?_⟩) ?_ ?_
  rotate_left
  · intro w'
    go_simp
    with_reducible rfl
  rotate_left
  · simp only [Act.put, List.setIfInBounds_toArray, List.set_cons_zero, List.set_cons_succ, i64_w, i32_w]
    rfl
  refine done_ (done_of HT_.out (by kernel_rfl)) ?_
  go_wp2_with fail
  go_ret
  exact ⟨rfl, hBW0.out⟩
end Go.Proofs.Ytmjenmhidnkbdaa.P
