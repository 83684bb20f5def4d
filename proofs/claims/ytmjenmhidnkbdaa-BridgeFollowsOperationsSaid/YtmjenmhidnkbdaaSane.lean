/- The chapter's example: crossbarlaw18.sane answers true. -/
import Derived.Test.YtmjenmhidnkbdaaHd
import Derived.Test.YtmjenmhidnkbdaaPx2
namespace Go.Proofs.Ytmjenmhidnkbdaa.P
open Go.RowKit Go.Shelf Go.Proofs.YtmjenmhidnkbdaaW.PrintWords Go.Proofs.YtmjenmhidnkbdaaW.PrintLast Go.Proofs.YtmjenmhidnkbdaaW.PrintMore
set_option linter.unusedVariables false
set_option linter.unusedSimpArgs false

def saL : Nat → List S36
  | 0 => []
  | 1 => [⟨1, 0, false⟩]
  | 2 => [⟨1, 0, false⟩, ⟨2, 0, false⟩]
  | _ => [⟨1, 0, false⟩, ⟨2, 0, false⟩, ⟨3, 0, false⟩]
def saC : List S36 := [⟨1, 1, false⟩, ⟨2, 1, false⟩, ⟨3, 0, false⟩]
def saD : List S36 := [⟨1, 2, false⟩, ⟨2, 0, false⟩, ⟨3, 2, false⟩]
def saH : List S36 := [⟨1, 1, true⟩, ⟨2, 1, false⟩, ⟨3, 0, false⟩]
theorem sa_add (k : Nat) (h : k < 3) : editF (addOp ((k : Int) + 1)) (saL k) 1 = (saL (k + 1), 1, 0) := by
  match k, h with
  | 0, _ => rfl
  | 1, _ => rfl
  | 2, _ => rfl
theorem sa_c : editF (connectOp 1 2) (saL 3) 1 = (saC, 2, 0) := rfl
theorem sa_d : editF (connectOp 3 1) saC 2 = (saD, 3, 0) := rfl
theorem sa_g : editF (connectOp 1 1) saC 2 = ([], 0, 180) := rfl
theorem sa_h : editF (addOp 2) saC 2 = ([], 0, 180) := rfl
theorem sa_i : editF (holdOp 1 true) saC 2 = (saH, 2, 0) := rfl
theorem sa_h1 : hearsL saC 1 = [2] := rfl
theorem sa_h2 : hearsL saC 3 = [] := rfl
theorem sa_h3 : hearsL saD 1 = [3] := rfl
theorem sa_h4 : hearsL saD 2 = [] := rfl
theorem sa_h5 : hearsL saH 2 = [] := rfl
theorem sa_k1 : checkE saD 3 = 0 := rfl
theorem sa_k2 : checkE [] 0 = 1 := rfl
theorem saL_len (k : Nat) (h : k ≤ 3) : (saL k).length = k := by
  match k, h with
  | 0, _ => rfl
  | 1, _ => rfl
  | 2, _ => rfl
  | 3, _ => rfl

/-- A bridge in a block of its own. -/
structure Bx (base g : Nat) (A : Option Addr) (c : Nat) (l : List S36) (nx : Int) (W : World) : Prop where
  h : W.heap[g]? = some (.cells #[.slice A l.length c, .int .i64 nx] 24 (0, 0))
  O : Own3 W base A c l
section
variable {base g : Nat} {A : Option Addr} {c : Nat} {l : List S36} {nx : Int} {W W' : World}
theorem Bx.lt (h : Bx base g A c l nx W) : g < W.heap.size := blk_lt h.h
theorem Bx.below (h : Bx base g A c l nx W) (hb : Below W.heap.size W W') : Bx base g A c l nx W' := ⟨(hb.block g h.lt).trans h.h, h.O.below hb⟩
theorem Bx.new (h : Own3 W base A c l) : Bx base W.heap.size A c l nx (W.alloc (.cells #[.slice A l.length c, .int .i64 nx] 24)) := ⟨blk_new W _, h.below ((Below.refl _ W).alloc (Nat.le_refl _) _)⟩
theorem Bx.c0 (h : Bx base g A c l nx W) : W.cell? ⟨g, 0, none⟩ = some (.slice A l.length c) := (blk_cell h.h 0).trans rfl
theorem Bx.c1 (h : Bx base g A c l nx W) : W.cell? ⟨g, 1, none⟩ = some (.int .i64 nx) := (blk_cell h.h 1).trans rfl
end

theorem Calls_world {P : Program} {f : FuncId} {a : Array Value} {W : World} {Q : Ending → World → Prop} (h : ∀ W', W' = W → Calls P f a W' Q) : Calls P f a W Q := h W rfl
theorem C_lit (W : World) (x : Int) : Kd.C (Kd.int .i64) (W.alloc (.cells #[.int .i64 x] 3)) (some ⟨W.heap.size, 0, none⟩) 1 [x] := by
  have h : (W.alloc (.cells #[.int .i64 x] 3)).ownsRow 0 3 1 (.slice (some ⟨W.heap.size, 0, none⟩) 1 1) 1 (iv [x]) :=
    ⟨rfl, .inr ⟨W.heap.size, 1, _, rfl, Nat.zero_le _, blk_new W _, Nat.le_refl _, by unfold maxLen; omega, rfl, rfl⟩⟩
  obtain ⟨A, c, e, _, hc⟩ := Kd.R_reads (R_ints (xs := [x]) h)
  simp only [Value.slice.injEq] at e
  obtain ⟨rfl, _, rfl⟩ := e
  exact hc
theorem Bx.turn {base g : Nat} {A A' : Option Addr} {c c' : Nat} {l l' : List S36} {nx nx' : Int} {W : World} (h : Bx base g A c l nx W) (hO : Own3 W base A' c' l') :
    Bx base g A' c' l' nx' ((W.setCell ⟨g, 0, none⟩ (.slice A' l'.length c')).setCell ⟨g, 1, none⟩ (.int .i64 nx')) :=
  ⟨blk_put (cs := #[.slice A' l'.length c', .int .i64 nx]) (blk_put (cs := #[.slice A l.length c, .int .i64 nx]) h.h 0 _ rfl) 1 _ rfl, edit_own hO h.h⟩

set_option maxRecDepth 100000 in
set_option maxHeartbeats 4000000 in
theorem sane_any (w : World) : Calls Try.prog 10 #[] w fun e w' => e = .returned (.bool true) ∧ Below w.heap.size w w' := by
  have hnew := bridge_New.calls [] 1 w rfl
  go_enter Try.func10, Try.ntmps10
  go_wp2_with (go_at_call 28; refine hnew.mono ?_; rintro e w1 ⟨v0, rfl, hR, hb⟩; obtain ⟨A0, c0, rfl, hle, hO⟩ := own3_of_R hR; have HB := Aside0.mk hb; have HO := Aside0.mk hO; clear hR hb hO)
  have hB0 : Bx w.heap.size w1.heap.size A0 c0 (saL 0) 1 (w1.alloc (.cells #[.slice A0 0 c0, .int .i64 1] 24)) := Bx.new HO.out
  have hb0 : Below w.heap.size w (w1.alloc (.cells #[.slice A0 0 c0, .int .i64 1] 24)) := HB.out.alloc HB.out.size _
  have H0 := Aside0.mk (And.intro hB0 hb0)
  have hg1 := HB.out.size
  clear HB HO hB0 hb0 hnew hle
  generalize w1.alloc (.cells #[.slice A0 0 c0, .int .i64 1] 24) = W0 at *
  generalize w1.heap.size = g1 at *
  clear w1
  go_loopw [2, 3, 4] (fun s2 _ _ wr => ∃ (k : Nat) (A : Option Addr) (c : Nat), k ≤ 3 ∧ s2 = .int .i64 ((k : Int) + 1) ∧ Aside0 (Bx w.heap.size g1 A c (saL k) 1 wr ∧ Below w.heap.size w wr)) (fun s2 _ _ _ => (4 - intOf s2).toNat)
  case atStart => exact ⟨0, A0, c0, by omega, rfl, H0⟩
  case round =>
    obtain ⟨k, A, c, hk, rfl, hI⟩ := hrel
    clear H0
    by_cases hk3 : k < 3
    · have hlt : ((k : Int) + 1) ≤ 3 := by omega
      have k0 := hI.out.1.c0
      have k1 := hI.out.1.c1
      have hadd := Add_any A c (saL k) 1 ((k : Int) + 1) wr hI.out.1.O.C (by rw [saL_len k hk]; omega)
      rw [sa_add k hk3] at hadd
      simp only [saL_len (k + 1) (by omega)] at hadd
      have HL := Aside0.mk (And.intro (saL_len k hk) (saL_len (k + 1) (by omega)))
      generalize saL k = L at *
      go_wp2_with (go_at_call 21; refine hadd.mono ?_; rintro e w2 ⟨A', c', rfl, hO, hb⟩; have HO2 := Aside0.mk hO; have HI2 : w.heap.size ≤ wr.heap.size := hI.out.2.size; have HB2 := Aside0.mk hb; have hB2 := Aside0.mk (hI.out.1.below hb); have f0 := blk_frozen hB2.out.h 0; have f1 := blk_frozen hB2.out.h 1; have e0 := hB2.out.c0; have e1 := hB2.out.c1; have hgl := hB2.out.lt; clear hO hb)
      go_roundw
      case rel =>
        refine ⟨k + 1, A', c', by omega, by go_num, ⟨?_⟩⟩
        have hT := hB2.out.turn (nx' := 1) (HO2.out.lower HI2)
        rw [HL.out.2] at hT
        refine ⟨hT.below ((Below.refl _ _).alloc (Nat.le_refl _) _), ?_⟩
        have hbw := ((hI.out.2.trans (HB2.out.mono hI.out.2.size)).setCell (p := ⟨g1, 0, none⟩) hg1 (.slice A' (k + 1) c')).setCell (p := ⟨g1, 1, none⟩) hg1 (.int .i64 1)
        exact hbw.alloc hbw.size _
      case measure => simp [intOf]; omega
    · obtain rfl : k = 3 := by omega
      have hlt : ¬ (((3 : Nat) : Int) + 1) ≤ 3 := by omega
      have k0 := hI.out.1.c0
      have k1 := hI.out.1.c1
      have hBW := hI.out.2
      have hcall := Connect_any A c (saL 3) 1 1 2 wr hI.out.1.O.C (by decide)
      rw [sa_c] at hcall
      simp only at hcall
      clear hI
      go_wp2_with fail
      refine hcall.mono ?_
      rintro e w2 ⟨A5, c5, rfl, hO, hb⟩
      replace hBW := hBW.trans (hb.mono hBW.size)
      clear hcall hb k0 k1
      go_wp2_with fail
      have X5 : Bx wr.heap.size w2.heap.size A5 c5 saC 2 (w2.alloc (.cells #[.slice A5 saC.length c5, .int .i64 2] 24)) := Bx.new hO
      replace hBW := hBW.alloc hBW.size (.cells #[.slice A5 saC.length c5, .int .i64 2] 24)
      clear hO
      generalize w2.alloc (.cells #[.slice A5 saC.length c5, .int .i64 2] 24) = W2 at *
      generalize w2.heap.size = g5 at *
      clear w2
      -- d
      have hcall := Connect_any A5 c5 saC 2 3 1 W2 X5.O.C (by decide)
      rw [sa_d] at hcall
      simp only at hcall
      refine hcall.mono ?_
      rintro e w3 ⟨A7, c7, rfl, hO, hb⟩
      replace hBW := hBW.trans (hb.mono hBW.size)
      replace X5 := X5.below hb
      have k0 := X5.c0
      have k1 := X5.c1
      have kl := X5.lt
      clear hcall hb
      go_wp2_with fail
      have X7 : Bx W2.heap.size w3.heap.size A7 c7 saD 3 (w3.alloc (.cells #[.slice A7 saD.length c7, .int .i64 3] 24)) := Bx.new hO
      replace X5 := X5.below ((Below.refl _ w3).alloc (Nat.le_refl _) (.cells #[.slice A7 saD.length c7, .int .i64 3] 24))
      replace hBW := hBW.alloc hBW.size (.cells #[.slice A7 saD.length c7, .int .i64 3] 24)
      clear hO k0 k1 kl
      generalize w3.alloc (.cells #[.slice A7 saD.length c7, .int .i64 3] 24) = W3 at *
      generalize w3.heap.size = g7 at *
      clear w3
      -- call 3
      have hcall := Connect_any A5 c5 saC 2 1 1 W3 X5.O.C (by decide)
      rw [sa_g] at hcall
      simp only [List.length_nil] at hcall
      refine hcall.mono ?_
      rintro e w4 ⟨A9, c9, rfl, hO, hb⟩
      replace hBW := hBW.trans (hb.mono hBW.size)
      replace X5 := X5.below hb
      replace X7 := X7.below hb
      have k0 := X5.c0
      have k1 := X5.c1
      have kl := X5.lt
      clear hcall hb
      go_wp2_with fail
      refine Calls_world (fun W4 hW => ?_)
      replace X5 := X5.below ((Below.refl _ w4).alloc (Nat.le_refl _) (.cells #[.slice A9 0 c9, .int .i64 0] 24))
      replace X7 := X7.below ((Below.refl _ w4).alloc (Nat.le_refl _) (.cells #[.slice A9 0 c9, .int .i64 0] 24))
      replace hBW := hBW.alloc hBW.size (.cells #[.slice A9 0 c9, .int .i64 0] 24)
      rw [← hW] at X5 X7 hBW
      clear hO k0 k1 kl hW
      generalize w4.heap.size = g9 at *
      clear w4
      -- call 4
      have hcall := Add_any A5 c5 saC 2 2 W4 X5.O.C (by decide)
      rw [sa_h] at hcall
      simp only [List.length_nil] at hcall
      refine hcall.mono ?_
      rintro e w5 ⟨A10, c10, rfl, hO, hb⟩
      replace hBW := hBW.trans (hb.mono hBW.size)
      replace X5 := X5.below hb
      replace X7 := X7.below hb
      have k0 := X5.c0
      have k1 := X5.c1
      have kl := X5.lt
      clear hcall hb
      go_wp2_with fail
      refine Calls_world (fun W5 hW => ?_)
      replace X5 := X5.below ((Below.refl _ w5).alloc (Nat.le_refl _) (.cells #[.slice A10 0 c10, .int .i64 0] 24))
      replace X7 := X7.below ((Below.refl _ w5).alloc (Nat.le_refl _) (.cells #[.slice A10 0 c10, .int .i64 0] 24))
      replace hBW := hBW.alloc hBW.size (.cells #[.slice A10 0 c10, .int .i64 0] 24)
      rw [← hW] at X5 X7 hBW
      clear hO k0 k1 kl hW
      generalize w5.heap.size = g10 at *
      clear w5
      -- call 5
      have hcall := Hold_any A5 c5 saC 2 1 true W5 X5.O.C (by decide)
      rw [sa_i] at hcall
      simp only [List.length_nil] at hcall
      refine hcall.mono ?_
      rintro e w6 ⟨A11, c11, rfl, hO, hb⟩
      replace hBW := hBW.trans (hb.mono hBW.size)
      replace X5 := X5.below hb
      replace X7 := X7.below hb
      have k0 := X5.c0
      have k1 := X5.c1
      have kl := X5.lt
      clear hcall hb
      go_wp2_with fail
      refine Calls_world (fun W6 hW => ?_)
      replace X5 := X5.below ((Below.refl _ w6).alloc (Nat.le_refl _) (.cells #[.slice A11 saH.length c11, .int .i64 2] 24))
      replace X7 := X7.below ((Below.refl _ w6).alloc (Nat.le_refl _) (.cells #[.slice A11 saH.length c11, .int .i64 2] 24))
      replace hBW := hBW.alloc hBW.size (.cells #[.slice A11 saH.length c11, .int .i64 2] 24)
      have X13 : Bx W5.heap.size w6.heap.size A11 c11 saH 2 (w6.alloc (.cells #[.slice A11 saH.length c11, .int .i64 2] 24)) := Bx.new hO
      rw [← hW] at X13
      rw [← hW] at X5 X7 hBW
      clear hO k0 k1 kl hW
      generalize w6.heap.size = g11 at *
      clear w6
      -- hears
      have hcall := hears_any A5 c5 saC 2 1 W6 X5.O.C (by decide)
      rw [sa_h1] at hcall
      refine hcall.mono ?_
      rintro e w7 ⟨v7, rfl, hR, hb⟩
      obtain ⟨Ah7, ch7, rfl, hle, hC⟩ := Kd.R_reads hR
      replace hBW := hBW.trans (hb.mono hBW.size)
      replace X5 := X5.below hb
      replace X7 := X7.below hb
      replace X13 := X13.below hb
      have m50 := X5.c0
      have m51 := X5.c1
      have m5l := X5.lt
      have m70 := X7.c0
      have m71 := X7.c1
      have m7l := X7.lt
      have m130 := X13.c0
      have m131 := X13.c1
      have m13l := X13.lt
      simp only [List.length_nil, List.length_cons, Nat.zero_add] at hle hC ⊢
      clear hcall hb hR
      go_wp2_with fail
      refine Calls_world (fun W8 hW => ?_)
      have hlit := C_lit w7 2
      rw [← hW] at hlit
      have hal : Below w7.heap.size w7 W8 := by rw [hW]; exact (Below.refl _ w7).alloc (Nat.le_refl _) _
      replace hBW := hBW.trans (hal.mono hBW.size)
      replace X5 := X5.below hal
      replace X7 := X7.below hal
      replace X13 := X13.below hal
      replace hC := Kd.C_below hC hal
      clear hW hal
      clear m50 m51 m5l m70 m71 m7l m130 m131 m13l
      have hcall := crossbarref18_Ints.calls 3 _ _ [2] _ _ [2] true W8 hC hle hlit (Nat.le_refl 1) (by kernel_rfl)
      refine hcall.mono ?_
      rintro e w9 ⟨rfl, hd⟩
      have hb := hd.below
      replace hBW := hBW.trans (hb.mono hBW.size)
      replace X5 := X5.below hb
      replace X7 := X7.below hb
      replace X13 := X13.below hb
      have m50 := X5.c0
      have m51 := X5.c1
      have m5l := X5.lt
      have m70 := X7.c0
      have m71 := X7.c1
      have m7l := X7.lt
      have m130 := X13.c0
      have m131 := X13.c1
      have m13l := X13.lt
      clear hcall hb hd hC hle hlit
      go_wp2_with fail
      generalize w9 = W9 at *
      clear m50 m51 m5l m70 m71 m7l m130 m131 m13l
      -- hears
      have hcall := hears_any A5 c5 saC 2 3 W9 X5.O.C (by decide)
      rw [sa_h2] at hcall
      refine hcall.mono ?_
      rintro e w10 ⟨v10, rfl, hR, hb⟩
      obtain ⟨Ah10, ch10, rfl, hle, hC⟩ := Kd.R_reads hR
      replace hBW := hBW.trans (hb.mono hBW.size)
      replace X5 := X5.below hb
      replace X7 := X7.below hb
      replace X13 := X13.below hb
      have m50 := X5.c0
      have m51 := X5.c1
      have m5l := X5.lt
      have m70 := X7.c0
      have m71 := X7.c1
      have m7l := X7.lt
      have m130 := X13.c0
      have m131 := X13.c1
      have m13l := X13.lt
      simp only [List.length_nil, List.length_cons, Nat.zero_add] at hle hC ⊢
      clear hcall hb hR
      go_wp2_with fail
      generalize w10 = W10 at *
      clear hC hle
      clear m50 m51 m5l m70 m71 m7l m130 m131 m13l
      -- hears
      have hcall := hears_any A7 c7 saD 3 1 W10 X7.O.C (by decide)
      rw [sa_h3] at hcall
      refine hcall.mono ?_
      rintro e w11 ⟨v11, rfl, hR, hb⟩
      obtain ⟨Ah11, ch11, rfl, hle, hC⟩ := Kd.R_reads hR
      replace hBW := hBW.trans (hb.mono hBW.size)
      replace X5 := X5.below hb
      replace X7 := X7.below hb
      replace X13 := X13.below hb
      have m50 := X5.c0
      have m51 := X5.c1
      have m5l := X5.lt
      have m70 := X7.c0
      have m71 := X7.c1
      have m7l := X7.lt
      have m130 := X13.c0
      have m131 := X13.c1
      have m13l := X13.lt
      simp only [List.length_nil, List.length_cons, Nat.zero_add] at hle hC ⊢
      clear hcall hb hR
      go_wp2_with fail
      refine Calls_world (fun W12 hW => ?_)
      have hlit := C_lit w11 3
      rw [← hW] at hlit
      have hal : Below w11.heap.size w11 W12 := by rw [hW]; exact (Below.refl _ w11).alloc (Nat.le_refl _) _
      replace hBW := hBW.trans (hal.mono hBW.size)
      replace X5 := X5.below hal
      replace X7 := X7.below hal
      replace X13 := X13.below hal
      replace hC := Kd.C_below hC hal
      clear hW hal
      clear m50 m51 m5l m70 m71 m7l m130 m131 m13l
      have hcall := crossbarref18_Ints.calls 3 _ _ [3] _ _ [3] true W12 hC hle hlit (Nat.le_refl 1) (by kernel_rfl)
      refine hcall.mono ?_
      rintro e w13 ⟨rfl, hd⟩
      have hb := hd.below
      replace hBW := hBW.trans (hb.mono hBW.size)
      replace X5 := X5.below hb
      replace X7 := X7.below hb
      replace X13 := X13.below hb
      have m50 := X5.c0
      have m51 := X5.c1
      have m5l := X5.lt
      have m70 := X7.c0
      have m71 := X7.c1
      have m7l := X7.lt
      have m130 := X13.c0
      have m131 := X13.c1
      have m13l := X13.lt
      clear hcall hb hd hC hle hlit
      go_wp2_with fail
      generalize w13 = W13 at *
      clear m50 m51 m5l m70 m71 m7l m130 m131 m13l
      -- hears
      have hcall := hears_any A7 c7 saD 3 2 W13 X7.O.C (by decide)
      rw [sa_h4] at hcall
      refine hcall.mono ?_
      rintro e w14 ⟨v14, rfl, hR, hb⟩
      obtain ⟨Ah14, ch14, rfl, hle, hC⟩ := Kd.R_reads hR
      replace hBW := hBW.trans (hb.mono hBW.size)
      replace X5 := X5.below hb
      replace X7 := X7.below hb
      replace X13 := X13.below hb
      have m50 := X5.c0
      have m51 := X5.c1
      have m5l := X5.lt
      have m70 := X7.c0
      have m71 := X7.c1
      have m7l := X7.lt
      have m130 := X13.c0
      have m131 := X13.c1
      have m13l := X13.lt
      simp only [List.length_nil, List.length_cons, Nat.zero_add] at hle hC ⊢
      clear hcall hb hR
      go_wp2_with fail
      generalize w14 = W14 at *
      clear hC hle
      clear m50 m51 m5l m70 m71 m7l m130 m131 m13l
      -- hears
      have hcall := hears_any A11 c11 saH 2 2 W14 X13.O.C (by decide)
      rw [sa_h5] at hcall
      refine hcall.mono ?_
      rintro e w15 ⟨v15, rfl, hR, hb⟩
      obtain ⟨Ah15, ch15, rfl, hle, hC⟩ := Kd.R_reads hR
      replace hBW := hBW.trans (hb.mono hBW.size)
      replace X5 := X5.below hb
      replace X7 := X7.below hb
      replace X13 := X13.below hb
      have m50 := X5.c0
      have m51 := X5.c1
      have m5l := X5.lt
      have m70 := X7.c0
      have m71 := X7.c1
      have m7l := X7.lt
      have m130 := X13.c0
      have m131 := X13.c1
      have m13l := X13.lt
      simp only [List.length_nil, List.length_cons, Nat.zero_add] at hle hC ⊢
      clear hcall hb hR
      go_wp2_with fail
      generalize w15 = W15 at *
      clear hC hle
      clear m50 m51 m5l m70 m71 m7l m130 m131 m13l
      -- check
      have hcall := check_any A7 c7 saD 3 W15 X7.O.C (by decide)
      rw [sa_k1] at hcall
      refine hcall.mono ?_
      rintro e w16 ⟨rfl, hb⟩
      replace hBW := hBW.trans (hb.mono hBW.size)
      replace X5 := X5.below hb
      replace X7 := X7.below hb
      replace X13 := X13.below hb
      have m50 := X5.c0
      have m51 := X5.c1
      have m5l := X5.lt
      have m70 := X7.c0
      have m71 := X7.c1
      have m7l := X7.lt
      have m130 := X13.c0
      have m131 := X13.c1
      have m13l := X13.lt
      clear hcall hb
      go_wp2_with fail
      generalize w16 = W16 at *
      clear m50 m51 m5l m70 m71 m7l m130 m131 m13l
      have hcall := check_any none 0 [] 0 W16 (Own3.C (base := 0) (c := 0) (l := []) (World.ownsRow_nil W16 0 36 3)) (by decide)
      rw [sa_k2] at hcall
      refine hcall.mono ?_
      rintro e we ⟨rfl, hb⟩
      replace hBW := hBW.trans (hb.mono hBW.size)
      clear hcall hb
      go_wp2_with fail
      go_ret
      exact ⟨rfl, hBW⟩

def crossbarlaw18_sane.f : Option Bool := some true
theorem crossbarlaw18_sane.calls (r : Bool) (w : World) (h : crossbarlaw18_sane.f = some r) : Calls Try.prog 10 #[] w fun e w' => e = .returned (.bool r) ∧ Below w.heap.size w w' := by
  obtain rfl := Option.some.inj h
  exact sane_any w
end Go.Proofs.Ytmjenmhidnkbdaa.P
