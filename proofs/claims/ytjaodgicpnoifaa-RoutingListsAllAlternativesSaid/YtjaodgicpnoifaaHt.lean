/- routing.Build: what it answers. -/
import Derived.Test.YtjaodgicpnoifaaHs
namespace Go.Proofs.Ytjaodgicpnoifaa.P
open Go.RowKit Go.Shelf Go.Proofs.YtjaodgicpnoifaaW.PrintWords Go.Proofs.YtjaodgicpnoifaaW.PrintLast Go.Proofs.YtjaodgicpnoifaaW.PrintMore
set_option linter.unusedVariables false
set_option linter.unusedSimpArgs false

theorem C_one (W : World) (x : Int) : Kd.C (Kd.int .i64) (W.alloc (.cells #[.int .i64 x] 3)) (some ⟨W.heap.size, 0, none⟩) 1 [x] :=
  Kd.C_of_reads (d := 0) ⟨rfl, by omega, fun _ => ⟨_, rfl, fun j hj => by
    obtain rfl : j = 0 := by omega
    exact (blk_cell (blk_new W (.cells #[.int .i64 x] 3)) 0).trans rfl⟩⟩
theorem setCell_self {W : World} {g t : Nat} {v : Value} (h : W.heap[g]? = some (.cells #[v] t (0, 0))) : W.setCell ⟨g, 0, none⟩ v = W := by
  have hx : W.heap.modify g (fun o => match o with | .cells c e fr => .cells (c.setIfInBounds 0 v) e fr | o => o) = W.heap := by
    refine Array.ext_getElem? fun i => ?_
    rw [Array.getElem?_modify]
    by_cases e : g = i
    · subst e
      rw [if_pos rfl, h]; rfl
    · rw [if_neg e]
  unfold World.setCell
  exact congrArg (fun hp => { W with heap := hp }) hx
/-- The neighbours below X. -/
def pfx (F : Nat → Bool) (S X : Nat) : List Int := ((List.range X).filter (fun x => F (S * 6 + x))).map (fun x : Nat => (x : Int))
theorem pfx_succ (F : Nat → Bool) (S X : Nat) : pfx F S (X + 1) = pfx F S X ++ (if F (S * 6 + X) = true then [(X : Int)] else []) := by
  unfold pfx
  rw [List.range_succ, List.filter_append, List.map_append]
  congr 1
  by_cases h : F (S * 6 + X) = true <;> simp [h]
theorem pfx_len (F : Nat → Bool) (S X : Nat) : (pfx F S X).length ≤ X := by
  unfold pfx
  rw [List.length_map]
  exact Nat.le_trans (List.length_filter_le _ _) (by simp)
theorem pfx_mem {F : Nat → Bool} {S X : Nat} {p : Int} (h : p ∈ pfx F S X) : 0 ≤ p ∧ p < X := by
  unfold pfx at h
  simp only [List.mem_map, List.mem_filter, List.mem_range] at h
  obtain ⟨x, ⟨hx, _⟩, rfl⟩ := h
  omega
/-- The routes, to the exchanges below X. -/
def rtsF (n : Nat) (F : Nat → Bool) (sf : Int) (ps cs : List Int) (X : Nat) : List S47 := routeF n F sf ps (-1) cs :: ((List.range X).filter (fun x : Nat => !decide ((x : Int) = sf))).map (fun x : Nat => routeF n F sf ps (x : Int) [(x : Int)])
theorem rtsF_succ (n : Nat) (F : Nat → Bool) (sf : Int) (ps cs : List Int) (X : Nat) : rtsF n F sf ps cs (X + 1) = rtsF n F sf ps cs X ++ (if (X : Int) = sf then [] else [routeF n F sf ps (X : Int) [(X : Int)]]) := by
  unfold rtsF
  rw [List.range_succ, List.filter_append, List.map_append, List.cons_append]
  congr 2
  by_cases h : (X : Int) = sf <;> simp [h]
theorem rtsF_len (n : Nat) (F : Nat → Bool) (sf : Int) (ps cs : List Int) (X : Nat) : (rtsF n F sf ps cs X).length ≤ X + 1 := by
  unfold rtsF
  rw [List.length_cons, List.length_map]
  have := List.length_filter_le (fun x : Nat => !decide ((x : Int) = sf)) (List.range X)
  simp only [List.length_range] at this
  omega
/-- What Build answers. -/
def buildF (n : Int) (l : List (List Int)) (sf : Int) (cs : List Int) : List Int × List S47 × Int := match readF n l with
  | none => ([], [], 1)
  | some F => if hasF n sf = false then ([], [], 1) else if cs.all (hasF n) = false then ([], [], 1) else
      (pfx F sf.toNat n.toNat, rtsF n.toNat F sf (pfx F sf.toNat n.toNat) cs n.toNat, 0)
section
variable {n : Nat} {F : Nat → Bool} {sf : Int} {bn bs bp br : Nat} {ps : List Int} {rs : List S47} {pv rv : Value} {w W W' : World}
theorem BdS.appP {v1 : Value} {w1 : World} {x : Int} (h : BdS n F sf bn bs bp br ps rs pv rv w W) (hp : w.heap.size ≤ bp) (hR : (Kd.int .i64).R 3 w1 w.heap.size (fun k => k ≠ bs) v1 (ps ++ [x])) (hb : Below w.heap.size w w1) (hg : W.grownBy w1 pv.ownBlock) :
    w1.cell? ⟨bp, 0, none⟩ = some pv ∧ w1.frozen? ⟨bp, 0, none⟩ = false ∧ BdS n F sf bn bs bp br (ps ++ [x]) rs v1 rv w (w1.setCell ⟨bp, 0, none⟩ v1) := by
  have k : ∀ {g t : Nat} {cs : Array Value}, W.heap[g]? = some (.cells cs t (0, 0)) → 3 ≠ t → w1.heap[g]? = some (.cells cs t (0, 0)) := fun {g t cs} hc ht => (hg.block g (blk_lt hc) (Kd.R_ne h.pR hc ht)).trans hc
  have nb1 : w1.heap[bn]? = some (.cells (nw n F) 58 (0, 0)) := k h.nb (by decide)
  have cs1 := (hg.block bs (blk_lt h.cs) (fun e => h.pR.1 bs e.symm rfl)).trans h.cs
  have cp1 := k h.cp (by decide)
  have cr1 := k h.cr (by decide)
  have rS1 := Kd.S_over' h.rS (Kd.R_typed h.pR) (by decide) hg
  refine ⟨(blk_cell cp1 0).trans rfl, blk_frozen cp1 0, ?_, ?_, blk_put cp1 0 _ rfl, ?_, Kd.R_set hR cp1 (by decide) 0 _, Kd.S_set rS1 cp1 (by decide) 0 _, hb.setCell hp _, h.lr⟩
  · exact (Below.heap_setCell w1 ⟨bp, 0, none⟩ v1 bn (blk_ne nb1 cp1 (by decide))).trans nb1
  · exact (Below.heap_setCell w1 ⟨bp, 0, none⟩ v1 bs (blk_ne cs1 cp1 (by decide))).trans cs1
  · exact (Below.heap_setCell w1 ⟨bp, 0, none⟩ v1 br (blk_ne cr1 cp1 (by decide))).trans cr1
end
/-- Two cells held. -/
structure PH (bp br : Nat) (pv rv : Value) (W : World) : Prop where
  p : W.cell? ⟨bp, 0, none⟩ = some pv
  r : W.cell? ⟨br, 0, none⟩ = some rv
def build15.T18 : Bool × List (List Nat × List Nat) := (true, [([], []), ([], []), ([0, 0], [0]), ([1, 2, 0, 1, 2], [1]), ([3, 0, 1, 2, 3], [])])
def build15.B18 : List Nat := [0, 0, 1, 7, 15]
theorem build15.tab18 : rtab .any (opsOf Try.f15 18) = build15.T18 := by kernel_rfl
theorem build15.bits18 : waitsOk build15.T18.2 build15.B18 = true := by kernel_rfl
theorem results15 (tmps : Array Value) (w : World) (bp br : Nat) (pv rv : Value) (hp : tmps.getD 8 undef = .pointer (some ⟨bp, 0, none⟩)) (hr : tmps.getD 9 undef = .pointer (some ⟨br, 0, none⟩)) (h1 : w.cell? ⟨bp, 0, none⟩ = some pv) (h2 : w.cell? ⟨br, 0, none⟩ = some rv) :
    (results Try.f15 tmps).run Try.prog w = .ok (.tuple #[pv, rv, tmps.getD 10 undef]) w := by
  have hp' : tmps[8]?.getD undef = .pointer (some ⟨bp, 0, none⟩) := by simpa using hp
  have hr' : tmps[9]?.getD undef = .pointer (some ⟨br, 0, none⟩) := by simpa using hr
  have a1 : (isAgg 23).run Try.prog w = .ok false w := by kernel_rfl
  have a2 : (isAgg 24).run Try.prog w = .ok false w := by kernel_rfl
  have e : Try.f15.results = #[.cell 8 23, .cell 9 24, .tmp 10] := by kernel_rfl
  simp [results, e, hp', hr', asAddr, loadVar, a1, a2, h1, h2, Result.andThen]
set_option maxRecDepth 100000 in
set_option maxHeartbeats 16000000 in
theorem build_any (n : Int) (A : Option Addr) (c : Nat) (l : List (List Int)) (sf : Int) (Ac : Option Addr) (cc : Nat) (cs : List Int) (w : World) (hr : Kd.C (Kd.slice 3 (Kd.int .i64)) w A l.length l) (hlen : l.length ≤ 1000000) (hcs : Kd.C (Kd.int .i64) w Ac cs.length cs) :
    Calls Try.prog 15 #[.int .i64 n, .slice A l.length c, .int .i64 sf, .slice Ac cs.length cc] w fun e w' => ∃ v0 v1, e = .returned (.tuple #[v0, v1, .int .i64 (buildF n l sf cs).2.2]) ∧ Kd.R (Kd.int .i64) 3 w' w.heap.size (fun _ => True) v0 (buildF n l sf cs).1 ∧
      Kd.S k47 47 w' w.heap.size (fun _ => True) v1 (buildF n l sf cs).2.1 ∧ Below w.heap.size w w' := by
  have eg : ∀ args w, (callFunc 34 args).run Try.prog w = .ok (.enter 34 args) w := enters_of Try.func34 (by kernel_rfl) rfl
  obtain ⟨r1, r2, r3, hres⟩ : ∃ r1 r2 r3, buildF n l sf cs = (r1, r2, r3) := ⟨_, _, _, rfl⟩
  rw [hres]
  simp only
  have hs1 : (w.alloc (.cells #[.int .i64 sf] 3)).heap.size = w.heap.size + 1 := by simp
  have hs2 : ((w.alloc (.cells #[.int .i64 sf] 3)).alloc (.cells #[.slice none 0 0] 23)).heap.size = w.heap.size + 2 := by simp
  have cr0 := blk_new ((w.alloc (.cells #[.int .i64 sf] 3)).alloc (.cells #[.slice none 0 0] 23)) (.cells #[.slice none 0 0] 24)
  have cp0 := blk_new (w.alloc (.cells #[.int .i64 sf] 3)) (.cells #[.slice none 0 0] 23)
  have cs0 := blk_new w (.cells #[.int .i64 sf] 3)
  rw [hs1] at cp0
  rw [hs2] at cr0
  replace cp0 := (heap_alloc_old ((w.alloc (.cells #[.int .i64 sf] 3)).alloc (.cells #[.slice none 0 0] 23)) (.cells #[.slice none 0 0] 24) (blk_lt cp0)).trans cp0
  replace cs0 := (heap_alloc_old (w.alloc (.cells #[.int .i64 sf] 3)) (.cells #[.slice none 0 0] 23) (blk_lt cs0)).trans cs0
  replace cs0 := (heap_alloc_old ((w.alloc (.cells #[.int .i64 sf] 3)).alloc (.cells #[.slice none 0 0] 23)) (.cells #[.slice none 0 0] 24) (blk_lt cs0)).trans cs0
  have hb0 : Below w.heap.size w (((w.alloc (.cells #[.int .i64 sf] 3)).alloc (.cells #[.slice none 0 0] 23)).alloc (.cells #[.slice none 0 0] 24)) := (((Below.refl _ _).alloc (Nat.le_refl _) _).alloc (by simp) _).alloc (by simp; omega) _
  have hread := read_any n A c l _ (Kd.C_below hr hb0) hlen
  have HC0 := Aside0.mk (Kd.C_below hcs hb0)
  have HB0 := Aside0.mk hb0
  have HCw := Aside0.mk hcs
  have CS0 := Aside0.mk cs0
  have CP0 := Aside0.mk cp0
  have CR0 := Aside0.mk cr0
  clear hr hcs hs1 hs2 cr0 cp0 cs0 hb0
  go_enter Try.func15, Try.ntmps15
  go_wp2_with fail
  generalize ((w.alloc (.cells #[.int .i64 sf] 3)).alloc (.cells #[.slice none 0 0] 23)).alloc (.cells #[.slice none 0 0] 24) = W0 at hread HC0 HB0 CS0 CP0 CR0 ⊢
  refine hread.mono ?_
  rintro e w1 ⟨⟨m, F, b, rfl, hbad, hgood⟩, hb⟩
  clear hread
  have hal := hb.alloc hb.size (.cells (nw m F) 58)
  have HB2 := Aside0.mk (HB0.out.trans (hal.mono HB0.out.size))
  have CS2 := Aside0.mk ((hal.block _ (blk_lt CS0.out)).trans CS0.out)
  have CP2 := Aside0.mk ((hal.block _ (blk_lt CP0.out)).trans CP0.out)
  have CR2 := Aside0.mk ((hal.block _ (blk_lt CR0.out)).trans CR0.out)
  have HC2 := Aside0.mk (Kd.C_below HC0.out hal)
  have HN2 := Aside0.mk (NB.new w1 m F)
  clear hb hal HB0 CS0 CP0 CR0 HC0
  cases b with
  | false =>
    have hv : buildF n l sf cs = ([], [], 1) := by unfold buildF; rw [hbad rfl]
    rw [hv] at hres
    injection hres with e1 e2
    injection e2 with e2 e3
    subst e1 e2 e3
    clear hbad hgood hv
    have q1 : (w1.alloc (.cells (nw m F) 58)).cell? ⟨w.heap.size + 1, 0, none⟩ = some (.slice none 0 0) := (blk_cell CP2.out 0).trans rfl
    have q2 := blk_frozen CP2.out 0
    have q3 : (w1.alloc (.cells (nw m F) 58)).cell? ⟨w.heap.size + 2, 0, none⟩ = some (.slice none 0 0) := (blk_cell CR2.out 0).trans rfl
    have q4 := blk_frozen CR2.out 0
    go_wp2_with (first
      | ((with_reducible refine gate_ (.alloc 58) rfl ?_); refine alloc58 rfl rfl rfl ?_)
      | ((with_reducible refine gate_ (.store 58 (.tmp 11) (.tmp 20)) rfl ?_); refine init58 rfl rfl rfl (by first | rfl | (simp [Act.eval]; done)) (by first | rfl | (simp [Act.eval]; done)) ?_; generalize w1.alloc (.cells (nw m F) 58) = W2 at HB2 CS2 CP2 CR2 HC2 HN2 q1 q2 q3 q4 ⊢))
    rw [setCell_self CP2.out, setCell_self CR2.out]
    refine bodyPost_ret (results15 _ _ _ _ (.slice none 0 0) (.slice none 0 0) rfl rfl q1 q3) rfl ?_
    exact ⟨_, _, rfl, Kd.R_nil _ _ _ _ _, Kd.S_nil _ _ _ _ _, HB2.out⟩
  | true =>
    obtain ⟨rfl, hF⟩ := hgood rfl
    obtain ⟨hn1, hn6, hlt⟩ := readF_ok hF
    obtain ⟨N, rfl⟩ : ∃ N : Nat, m = (N : Int) := ⟨m.toNat, by omega⟩
    have hv : buildF (N : Int) l sf cs = if hasF N sf = false then ([], [], 1) else if cs.all (hasF N) = false then ([], [], 1) else (pfx F sf.toNat N, rtsF N F sf (pfx F sf.toNat N) cs N, 0) := by
      unfold buildF; rw [hF]; simp only [Int.toNat_natCast]
    clear hbad hgood hF
    have BS2 : Aside0 (BdS N F sf w1.heap.size w.heap.size (w.heap.size + 1) (w.heap.size + 2) [] [] (.slice none 0 0) (.slice none 0 0) w (w1.alloc (.cells (nw N F) 58))) := ⟨⟨HN2.out, CS2.out, CP2.out, CR2.out, Kd.R_nil _ _ _ _ _, Kd.S_nil _ _ _ _ _, HB2.out, by omega⟩⟩
    have hval := valid_any N F (some ⟨(w1.alloc (.cells (nw N F) 58)).heap.size, 0, none⟩) 1 [sf] _ (C_one (w1.alloc (.cells (nw N F) 58)) sf)
    have e1 : [sf].all (hasF N) = hasF N sf := by simp
    rw [e1] at hval
    have hns := BS2.out.ns
    clear CS2 CP2 CR2 HN2 HB2 e1
    go_wp2_with (first
      | ((with_reducible refine gate_ (.alloc 58) rfl ?_); refine alloc58 rfl rfl rfl ?_)
      | ((with_reducible refine gate_ (.store 58 (.tmp 11) (.tmp 20)) rfl ?_); refine init58 rfl rfl rfl (by first | rfl | (simp [Act.eval]; done)) (by first | rfl | (simp [Act.eval]; done)) ?_; generalize w1.alloc (.cells (nw N F) 58) = W2 at BS2 hval HC2 hns ⊢)
      | ((with_reducible refine gate_ (.load 58 (.tmp 11)) rfl ?_); refine load58g (g := w1.heap.size) (n := N) (F := F) (by rfl) rfl rfl (by first | rfl | (simp [Act.eval]; done)) BS2.out.nb ?_))
    refine hval.mono ?_
    rintro e w3 ⟨rfl, hb3⟩
    have hal := (Below.refl W2.heap.size W2).alloc (Nat.le_refl _) (.cells #[.int .i64 sf] 3)
    have BS3 := Aside0.mk ((BS2.out.below hal).below hb3)
    have HC3 := Aside0.mk (Kd.C_below (Kd.C_below HC2.out hal) hb3)
    clear hal hb3 BS2 HC2 hval hns
    by_cases hsf : hasF N sf = false
    · rw [if_pos hsf] at hv
      rw [hsf]
      rw [hv] at hres
      injection hres with e1 e2
      injection e2 with e2 e3
      subst e1 e2 e3
      clear hv
      have CP2 := Aside0.mk BS3.out.cp
      have CR2 := Aside0.mk BS3.out.cr
      have HB2 := Aside0.mk BS3.out.b
      have q1 := BS3.out.np
      have q2 := blk_frozen CP2.out 0
      have q3 := BS3.out.nr
      have q4 := blk_frozen CR2.out 0
      go_wp2_with fail
      rw [setCell_self CP2.out, setCell_self CR2.out]
      refine bodyPost_ret (results15 _ _ _ _ (.slice none 0 0) (.slice none 0 0) rfl rfl q1 q3) rfl ?_
      exact ⟨_, _, rfl, Kd.R_nil _ _ _ _ _, Kd.S_nil _ _ _ _ _, HB2.out⟩
    rw [if_neg hsf] at hv
    replace hsf : hasF N sf = true := by simpa using hsf
    rw [hsf]
    have hval := valid_any N F Ac cc cs w3 HC3.out
    go_wp2_with (((with_reducible refine gate_ (.load 58 (.tmp 11)) rfl ?_); refine load58g (g := w1.heap.size) (n := N) (F := F) (by rfl) rfl rfl (by first | rfl | (simp [Act.eval]; done)) BS3.out.nb ?_))
    refine hval.mono ?_
    rintro e w4 ⟨rfl, hb4⟩
    replace BS3 := Aside0.mk (BS3.out.below hb4)
    have HC4 := Aside0.mk (Kd.C_below HC3.out hb4)
    clear hb4 HC3 hval
    by_cases hall : cs.all (hasF N) = false
    · rw [if_pos hall] at hv
      rw [hall]
      rw [hv] at hres
      injection hres with e1 e2
      injection e2 with e2 e3
      subst e1 e2 e3
      clear hv
      have CP2 := Aside0.mk BS3.out.cp
      have CR2 := Aside0.mk BS3.out.cr
      have HB2 := Aside0.mk BS3.out.b
      have q1 := BS3.out.np
      have q2 := blk_frozen CP2.out 0
      have q3 := BS3.out.nr
      have q4 := blk_frozen CR2.out 0
      go_wp2_with fail
      rw [setCell_self CP2.out, setCell_self CR2.out]
      refine bodyPost_ret (results15 _ _ _ _ (.slice none 0 0) (.slice none 0 0) rfl rfl q1 q3) rfl ?_
      exact ⟨_, _, rfl, Kd.R_nil _ _ _ _ _, Kd.S_nil _ _ _ _ _, HB2.out⟩
    rw [if_neg hall] at hv
    replace hall : cs.all (hasF N) = true := by simpa using hall
    rw [hall]
    rw [hv] at hres
    injection hres with e1 e2
    injection e2 with e2 e3
    subst e1 e2 e3
    clear hv
    simp only [hasF, Bool.and_eq_true, decide_eq_true_eq] at hsf
    have hcv : ∀ t ∈ cs, 0 ≤ t ∧ t < (N : Int) := fun t ht => by
      have := List.all_eq_true.1 hall t ht
      simpa only [hasF, Bool.and_eq_true, decide_eq_true_eq] using this
    have hF2 : ∀ x y, x < 6 → y < 6 → F (x * 6 + y) = true → y < N := fun x y hx hy h => by have := hlt x y hx hy h; omega
    obtain ⟨S, rfl⟩ : ∃ S : Nat, sf = (S : Int) := ⟨sf.toNat, by omega⟩
    simp only [Int.toNat_natCast]
    clear hlt hall
    have hS6 : (S : Int) < 6 := by omega
    have hS0 : (0 : Int) ≤ (S : Int) := by omega
    go_wp2_with fail
    go_loopw [38] (fun s38 wr => ∃ (X : Nat) (pv : Value), X ≤ N ∧ s38 = .int .i64 (X : Int) ∧ Aside0 (BdS N F S w1.heap.size w.heap.size (w.heap.size + 1) (w.heap.size + 2) (pfx F S X) [] pv (.slice none 0 0) w wr)) (fun s38 _ => ((N : Int) - intOf s38).toNat)
    case atStart => exact ⟨0, _, by omega, rfl, BS3⟩
    case round =>
      clear BS3 HC4
      obtain ⟨X, pv, hX, rfl, HB⟩ := hrel
      by_cases hXl : X < N
      · have hXz : (X : Int) < (N : Int) := by omega
        have hX6 : (X : Int) < 6 := by omega
        have hX0 : (0 : Int) ≤ (X : Int) := by omega
        have hns := HB.out.ns
        have hm := HB.out.nb.cell (i := S * 6 + X) (by omega)
        rw [← Nat.add_assoc] at hm
        have hsuc := pfx_succ F S X
        have hlen2 := pfx_len F S X
        cases hf : F (S * 6 + X) with
        | false =>
          rw [hf] at hm hsuc
          simp only [Bool.false_eq_true, if_false, List.append_nil] at hsuc
          have HS := Aside0.mk hsuc
          clear hsuc
          go_wp2_with fail
          go_roundw
          case rel => exact ⟨X + 1, pv, by omega, by go_num, by rw [HS.out]; exact HB⟩
          case measure => simp [intOf]; omega
        | true =>
          rw [hf] at hm hsuc
          simp only [if_true] at hsuc
          have HS := Aside0.mk hsuc
          clear hsuc
          have hnp := HB.out.np
          have HL := Aside0.mk (show ((pfx F S X).length + 1) * 8 ≤ 140737488355328 by omega)
          clear hlen2
          go_wp2_with ((with_reducible refine gate_builtin (b := .append) (xs := #[.tmp 47, .tmp 49]) rfl ?_); at_builtin; refine Kd.R_append (Kd.int .i64) (w0 := w) w.heap.size rfl (.tmp 47) (.tmp 49) 23 3 (.int .i64 0) 8 rfl Try.underlying23 info3 rfl (by decide) (by omega) pv (pfx F S X) (X : Int) [.int .i64 (X : Int)] (fun k => k ≠ w.heap.size) (fun _ => False) rfl (by first | rfl | (simp [Act.eval]; done) | (simp [Act.eval, go_sem]; done)) rfl (fun _ hk => hk.elim) (fun k hk => (by have := blk_lt HB.out.cs; omega)) HB.out.pR HB.out.b HB.out.b.size HL.out ?_; intro v1 w5 ho hb hg hat; rw [← HS.out] at ho; have e9 : (pfx F S (X + 1)) = pfx F S X ++ [(X : Int)] := HS.out; rw [e9] at ho; obtain ⟨A1, c1, rfl⟩ := Kd.R_slice ho; obtain ⟨q1, q2, q3⟩ := HB.out.appP (by omega) ho hb hg; rw [← e9] at q3; have HB2 := Aside0.mk q3; clear ho hb hg hat q3 e9)
          go_roundw
          case rel =>
            have h := HB2.out
            rw [show (pfx F S (X + 1)).length = (pfx F S X).length + 1 by rw [HS.out]; simp] at h
            exact ⟨X + 1, _, by omega, by go_num, ⟨h⟩⟩
          case measure => simp [intOf]; omega
      · obtain rfl : X = N := by omega
        have hpm : ∀ p ∈ pfx F S X, 0 ≤ p ∧ p < X := fun p hp => pfx_mem hp
        have hpl := pfx_len F S X
        generalize hps : pfx F S X = ps at HB hpm hpl
        have hadd := add_any X (by omega) (by omega) F hF2 S w1.heap.size w.heap.size (w.heap.size + 1) (w.heap.size + 2) ps [] pv (.slice none 0 0) w wr HB.out hpm (by omega) (by simp) (-1) Ac cc cs (Kd.C_below HCw.out HB.out.b) hcv
        clear HB
        go_wp2_with (go_at_fn 34; refine hadd.mono ?_; rintro e w5 ⟨rfl, rv, hB5⟩; have HB5 := Aside0.mk hB5; clear hB5)
        go_loopw [57] (fun s57 wr => ∃ (Y : Nat) (rv : Value), Y ≤ X ∧ s57 = .int .i64 (Y : Int) ∧ Aside0 (BdS X F S w1.heap.size w.heap.size (w.heap.size + 1) (w.heap.size + 2) ps (rtsF X F S ps cs Y) pv rv w wr)) (fun s57 _ => ((X : Int) - intOf s57).toNat)
        case atStart => exact ⟨0, _, by omega, rfl, HB5⟩
        case round =>
          clear HB5
          obtain ⟨Y, rv, hY, rfl, HB⟩ := hrel
          by_cases hYl : Y < X
          · have hYz : (Y : Int) < (X : Int) := by omega
            have hY0 : (0 : Int) ≤ (Y : Int) := by omega
            have hns := HB.out.ns
            have hsuc := rtsF_succ X F S ps cs Y
            have hrl := rtsF_len X F S ps cs Y
            by_cases hYS : (Y : Int) = (S : Int)
            · rw [if_pos hYS, List.append_nil] at hsuc
              have HS := Aside0.mk hsuc
              clear hsuc
              go_wp2_with fail
              go_roundw
              case rel => exact ⟨Y + 1, rv, by omega, by go_num, by rw [HS.out]; exact HB⟩
              case measure => simp [intOf]; omega
            · rw [if_neg hYS] at hsuc
              have HS := Aside0.mk hsuc
              clear hsuc
              have hYS' : ((Y : Int) == (S : Int)) = false := by simpa using hYS
              have hal := (Below.refl wr.heap.size wr).alloc (Nat.le_refl _) (.cells #[.int .i64 (Y : Int)] 3)
              have hadd := add_any X (by omega) (by omega) F hF2 S w1.heap.size w.heap.size (w.heap.size + 1) (w.heap.size + 2) ps (rtsF X F S ps cs Y) pv rv w _ (HB.out.below hal) hpm (by omega) (by omega) (Y : Int) (some ⟨wr.heap.size, 0, none⟩) 1 [(Y : Int)] (C_one wr (Y : Int)) (fun t ht => by obtain rfl := List.mem_singleton.1 ht; omega)
              rw [← HS.out] at hadd
              clear hal hrl
              go_wp2_with (go_at_fn 34; refine hadd.mono ?_; rintro e w6 ⟨rfl, rv2, hB6⟩; have HB6 := Aside0.mk hB6; clear hB6)
              go_roundw
              case rel => exact ⟨Y + 1, _, by omega, by go_num, HB6⟩
              case measure => simp [intOf]; omega
          · obtain rfl : Y = X := by omega
            obtain ⟨Ap1, cp1, rfl⟩ := Kd.R_slice HB.out.pR
            obtain ⟨Ar1, cr1, rfl⟩ := Kd.S_slice HB.out.rS
            go_wp2_with fail
            refine start_ (n := 5) (S := fun w' => PH (w.heap.size + 1) (w.heap.size + 2) _ _ w') (ds := []) #[false, false, false, false, false] (by kernel_rfl) rfl rfl ⟨(HB.out.below (Below.refl _ _).drew).np, (HB.out.below (Below.refl _ _).drew).nr⟩ (fun hHeld => ?_)
            refine with_tabW build15.tab18 build15.bits18 (fun HT_ HW_ => ?_)
            replace HB := Aside0.mk (HB.out.below (Below.refl _ wr).drew)
            generalize wr.drew = W5 at HB hHeld ⊢
            refine take_ (i := 0) (N := some 69) (v := ?_) (a' := ?_) #[true, false, false, false, false] rfl rfl (take_ofW HT_.out HW_.out (by kernel_rfl)) (fun _ _ _ h => h) (Or.inl ⟨by rfl, ?_⟩) hHeld ?_ ?_
            rotate_left
            · rintro w' ⟨s0, s1⟩
              go_simp
              with_reducible rfl
            rotate_left
            · simp only [Act.put, List.setIfInBounds_toArray, List.set_cons_zero, List.set_cons_succ, i64_w, i32_w]
              rfl
            refine take_ (i := 1) (N := some 70) (v := ?_) (a' := ?_) #[true, true, false, false, false] rfl rfl (take_ofW HT_.out HW_.out (by kernel_rfl)) (fun _ _ _ h => h) (Or.inl ⟨by rfl, ?_⟩) hHeld ?_ ?_
            rotate_left
            · rintro w' ⟨s0, s1⟩
              go_simp
              with_reducible rfl
            rotate_left
            · simp only [Act.put, List.setIfInBounds_toArray, List.set_cons_zero, List.set_cons_succ, i64_w, i32_w]
              rfl
            refine one_ (i := 2) (N := none) #[true, true, true, false, false] rfl rfl (one_of HT_.out (by kernel_rfl)) (by decide) (fun K hK => ?_)
            refine stores_ (w1 := W5) (by rfl) rfl ?_ ?_
            · have s9 := HB.out.np
              have s8 := blk_frozen HB.out.cp 0
              go_simp
              all_goals rw [setCell_self HB.out.cp]
            refine hK.out _ _ ⟨HB.out.np, HB.out.nr⟩ (fun hHeld => ?_)
            clear hK K
            refine norm_ (a' := ?_) ?_ ?_
            rotate_left
            · show Act.put _ (none) _ = _
              simp only [Act.put, List.setIfInBounds_toArray, List.set_cons_zero, List.set_cons_succ, i64_w, i32_w]
              rfl
            refine one_ (i := 3) (N := none) #[true, true, true, true, false] rfl rfl (one_of HT_.out (by kernel_rfl)) (by decide) (fun K hK => ?_)
            refine stores_ (w1 := W5) (by rfl) rfl ?_ ?_
            · have s9 := HB.out.nr
              have s8 := blk_frozen HB.out.cr 0
              go_simp
              all_goals rw [setCell_self HB.out.cr]
            refine hK.out _ _ ⟨HB.out.np, HB.out.nr⟩ (fun hHeld => ?_)
            clear hK K
            refine norm_ (a' := ?_) ?_ ?_
            rotate_left
            · show Act.put _ (none) _ = _
              simp only [Act.put, List.setIfInBounds_toArray, List.set_cons_zero, List.set_cons_succ, i64_w, i32_w]
              rfl
            refine pure_ (i := 4) (N := some 10) (v := ?_) (a' := ?_) #[true, true, true, true, true] rfl rfl (any_of HT_.out (by kernel_rfl)) (fun _ _ _ h => h) (Or.inl ⟨by rfl, ?_⟩) ?_ ?_
            rotate_left
            · intro w'
              go_simp
              with_reducible rfl
            rotate_left
            · simp only [Act.put, List.setIfInBounds_toArray, List.set_cons_zero, List.set_cons_succ, i64_w, i32_w]
              rfl
            refine done_ (done_of HT_.out (by kernel_rfl)) ?_
            go_wp2_with fail
            refine bodyPost_ret (results15 _ _ _ _ _ _ rfl rfl HB.out.np HB.out.nr) rfl ?_
            exact ⟨_, _, rfl, by rw [Int.toNat_natCast, hps]; exact Kd.R_mono HB.out.pR (fun _ _ => trivial), by rw [Int.toNat_natCast, hps]; exact HB.out.rS, HB.out.b⟩
end Go.Proofs.Ytjaodgicpnoifaa.P
