/- slices.Clone at legs; bridge.edit. -/
import Derived.Test.YtmjenmhidnkbdaaHo
namespace Go.Proofs.Ytmjenmhidnkbdaa.P
open Go.RowKit Go.Shelf Go.Proofs.YtmjenmhidnkbdaaW.PrintWords Go.Proofs.YtmjenmhidnkbdaaW.PrintLast Go.Proofs.YtmjenmhidnkbdaaW.PrintMore
set_option linter.unusedVariables false
set_option linter.unusedSimpArgs false

theorem C_cells {w : World} {A : Option Addr} {l : List S36} (h : Kd.C k36 w A l.length l) : ∀ ad, A = some ad → ∀ j u, (flat l)[j]? = some u → w.cell? (ad.add j) = some u := by
  intro ad e j u hu
  have hj : j < l.length * 3 := by
    have := (List.getElem?_eq_some_iff.1 hu).1
    rwa [flat_len] at this
  obtain ⟨ad', c, e', _, hK, hc⟩ := Kd.C_get h z36 ((j / 3 : Nat) : Int) (by omega) (by omega)
  rw [e] at e'
  cases e'
  obtain rfl := k36_open hK
  simp only [Int.toNat_natCast] at hc
  have hx : l[j / 3]? = some (rd_T36 l ((j / 3 : Nat) : Int)) := rd_at l (j / 3) (by omega)
  have h2 := flat_get l (j / 3) (j % 3) _ hx (Nat.mod_lt _ (by omega))
  rw [show j / 3 * 3 + j % 3 = j from by omega, hu] at h2
  have h3 := hc (j % 3) u h2.symm
  have e3 : j / 3 * 3 + j % 3 = j := by omega
  have e4 : j / 3 * k36.sz + j % 3 = j := e3
  rw [e4] at h3
  exact h3

theorem eqNil (A : Option Addr) (n c : Nat) (w : World) : (binOp .eql 22 (.slice A n c) (.slice none 0 0)).run Try.prog w = .ok (.bool A.isNone) w := by
  simp only [binOp]
  have h : ∀ d : Nat, (Op.equalIn (d + 1) 22 (.slice A n c) (.slice none 0 0)).run Try.prog w = .ok A.isNone w := fun d => by
    cases A <;> simp [Op.equalIn, run_underlying Try.underlying22]
  have h2 : (Op.equal 22 (.slice A n c) (.slice none 0 0)).run Try.prog w = .ok A.isNone w := by
    simp [Op.equal, Op.maxDepth, h 9999]
  simp [h2]
theorem C_none {w : World} {l : List S36} (h : Kd.C k36 w none l.length l) : l = [] := by
  by_cases hl : l.length = 0
  · exact List.length_eq_zero_iff.1 hl
  · obtain ⟨ad, e, _⟩ := at_T36 h 0 (by omega) (by omega)
    cases e

set_option maxRecDepth 100000 in
set_option maxHeartbeats 2000000 in
theorem clone_any (A : Option Addr) (c : Nat) (l : List S36) (w : World) (hr : Kd.C k36 w A l.length l) (hlen : l.length ≤ 2000) :
    Calls Try.prog 48 #[.slice A l.length c] w fun e w' => ∃ A' c', e = .returned (.slice A' l.length c') ∧ Own3 w' w.heap.size A' c' l ∧ Below w.heap.size w w' := by
  obtain ⟨i0, hi0, hz0, hz1, hz2⟩ := info_parts info36z
  cases A with
  | none =>
    obtain rfl := C_none hr
    clear hr
    have hq := eqNil none 0 c w
    simp only [Option.isNone_none] at hq
    go_enter Try.func48, Try.ntmps48
    go_wp2
    go_ret
    exact ⟨none, 0, rfl, World.ownsRow_nil _ _ _ _, Below.refl _ _⟩
  | some ad =>
    have hcs := C_cells hr ad rfl
    have hown : ((w.alloc (.cells #[] 36))).ownsRow w.heap.size 36 3 (.slice (some ⟨w.heap.size, 0, none⟩) 0 0) 0 [] := World.ownsRow_made w #[] 0 (Nat.le_refl _) (by unfold maxLen; omega) rfl
    have hcs2 : ∀ j u, (flat l)[j]? = some u → (w.alloc (.cells #[] 36)).cell? (ad.add j) = some u := fun j u hu =>
      (((Below.refl w.heap.size w).alloc (Nat.le_refl _) (.cells #[] 36)).cell (World.block_lt_of_cell? w _ (hcs j u hu))).trans (hcs j u hu)
    have hq := eqNil (some ad) l.length c w
    simp only [Option.isNone_some] at hq
    clear hr hcs
    go_enter Try.func48, Try.ntmps48
    go_wp2_with (at_builtin; refine wpList_append_own _ rfl _ _ 22 rfl w.heap.size 36 i0 (.agg #[.int .i64 0, .int .i64 0, .bool false]) 3 24 Try.underlying22 hi0 hz0 hz1 hz2 rfl (by decide) _ _ _ rfl hown ad l.length c (flat l) rfl (flat_len l) hcs2 (flat_one_cell l) (by unfold maxLen; omega) (by omega) (by simp) ?_; intro v' w1 hown' hgrow _)
    have hv : ∃ A' c', v' = .slice A' l.length c' := by
      rcases hown'.2 with ⟨e, e2⟩ | ⟨g, cap, cur, e, _⟩
      · rw [Nat.zero_add] at e2
        exact ⟨none, 0, by rw [e, e2]⟩
      · rw [Nat.zero_add] at e
        exact ⟨_, _, e⟩
    obtain ⟨A', c', rfl⟩ := hv
    go_ret
    refine ⟨A', c', rfl, ?_, ((Below.refl w.heap.size w).alloc (Nat.le_refl _) (.cells #[] 36)).grown hgrow (by simp) (fun k e => by have e2 : some w.heap.size = some k := e; injection e2 with e2; omega)⟩
    show World.ownsRow _ _ _ _ _ _ _
    rw [Nat.zero_add, List.nil_append] at hown'
    exact hown'

theorem check_sorted {l : List S36} {nx : Int} (h : checkE l nx = 0) : Sorted l ∧ 1 ≤ nx ∧ nx ≤ 1099511627776 := by
  unfold checkE at h
  split at h
  · cases h
  · split at h
    · cases h
    · rename_i h1 h2
      refine ⟨?_, by omega, by omega⟩
      have h3 : scan nx (-1) l = true := by simpa using h2
      clear h h1 h2
      generalize (-1 : Int) = last at h3
      have : Sorted l ∧ ∀ x ∈ l, last < x.f0 := by
        induction l generalizing last with
        | nil => exact ⟨List.Pairwise.nil, by simp⟩
        | cons x l ih =>
          simp only [scan, Bool.and_eq_true, okLeg, decide_eq_true_eq] at h3
          obtain ⟨i1, i2⟩ := ih x.f0 h3.2
          have h4 := h3.1.1.1.1.2
          refine ⟨List.Pairwise.cons (fun y hy => i2 y hy) i1, fun y hy => ?_⟩
          rcases List.mem_cons.1 hy with rfl | hy
          · exact h4
          · have := i2 y hy
            omega
      exact this.1

/-- What edit answers. -/
def editF (op : Does) (l : List S36) (nx : Int) : List S36 × Int × Int :=
  if checkE l nx ≠ 0 then ([], 0, checkE l nx) else if (op l nx).1 ≠ 0 then ([], 0, (op l nx).1) else ((op l nx).2.1, (op l nx).2.2, 0)

/-- The blocks of edit's own. -/
structure EI (w : World) (A : Option Addr) (c : Nat) (l : List S36) (nx : Int) (W : World) : Prop where
  t2 : W.heap[w.heap.size]? = some (.cells #[.slice A l.length c, .int .i64 nx] 24 (0, 0))
  t4 : W.heap[w.heap.size + 1]? = some (.cells #[.slice none 0 0, .int .i64 0] 24 (0, 0))
  b : Below w.heap.size w W
section
variable {w : World} {A : Option Addr} {c : Nat} {l : List S36} {nx : Int} {W W' : World}
theorem EI.start : EI w A c l nx ((w.alloc (.cells #[.slice A l.length c, .int .i64 nx] 24)).alloc (.cells #[.slice none 0 0, .int .i64 0] 24)) := by
  have hs : (w.alloc (.cells #[.slice A l.length c, .int .i64 nx] 24)).heap.size = w.heap.size + 1 := by simp
  refine ⟨(heap_alloc_old _ _ (by rw [hs]; omega)).trans (heap_alloc_new w _), ?_, ((Below.refl w.heap.size w).alloc (Nat.le_refl _) _).alloc (by simp) _⟩
  rw [← hs]; exact heap_alloc_new _ _
theorem EI.lt (h : EI w A c l nx W) : w.heap.size + 1 < W.heap.size := blk_lt h.t4
theorem EI.below {B : Nat} (h : EI w A c l nx W) (hB : w.heap.size + 1 < B) (hb : Below B W W') : EI w A c l nx W' :=
  ⟨(hb.block _ (by omega)).trans h.t2, (hb.block _ (by omega)).trans h.t4, h.b.trans (hb.mono (by omega))⟩
end

theorem edit_own {W : World} {base g : Nat} {A : Option Addr} {c : Nat} {l : List S36} {u v : Value} {cs : Array Value} (h : Own3 W base A c l) (hg : W.heap[g]? = some (.cells cs 24 (0, 0))) : Own3 ((W.setCell ⟨g, 0, none⟩ u).setCell ⟨g, 1, none⟩ v) base A c l := by
  have hne : ∀ g', A = some ⟨g', 0, none⟩ → some g' ≠ some g := fun g' e e2 => by
    cases e2; subst e
    exact h.ne hg (by decide) rfl
  exact (h.other (grownBy_setCell'' W g 0 u) hne).other (grownBy_setCell'' _ g 1 v) hne

set_option maxRecDepth 100000 in
set_option maxHeartbeats 4000000 in
theorem edit_any (f : Nat) (t : Value) (op : Does) (hop : DoOpS f t op) (hen : ∀ (args : Array Value) (w : World), (callFunc f args).run Try.prog w = .ok (.enter f args) w) (A : Option Addr) (c : Nat) (l : List S36) (nx : Int) (w : World) (hr : Kd.C k36 w A l.length l) (hlen : l.length ≤ 2000) :
    Calls Try.prog 35 #[.agg #[.slice A l.length c, .int .i64 nx], .func (.func f) #[t] #[]] w fun e w' =>
      ∃ A' c', e = .returned (.tuple #[.agg #[.slice A' (editF op l nx).1.length c', .int .i64 (editF op l nx).2.1], .int .i64 (editF op l nx).2.2]) ∧ Own3 w' w.heap.size A' c' (editF op l nx).1 ∧ Below w.heap.size w w' := by
  have HR := Aside0.mk hr
  have HS := Aside0.mk (EI.start (w := w) (A := A) (c := c) (l := l) (nx := nx))
  clear hr
  go_enter Try.func35, Try.ntmps35
  go_wp2_with fail
  generalize (w.alloc (.cells #[.slice A l.length c, .int .i64 nx] 24)).alloc (.cells #[.slice none 0 0, .int .i64 0] 24) = W0 at *
  refine (check_any A c l nx W0 (Kd.C_below HR.out HS.out.b) hlen).mono ?_
  rintro e W1 ⟨rfl, hb1⟩
  have HI := Aside0.mk (HS.out.below HS.out.lt hb1)
  clear hb1 HS
  have hc4 : W1.cell? ⟨w.heap.size + 1, 0, none⟩ = some (.slice none 0 0) := (blk_cell HI.out.t4 0).trans rfl
  have hc5 : W1.cell? ⟨w.heap.size + 1, 1, none⟩ = some (.int .i64 0) := (blk_cell HI.out.t4 1).trans rfl
  have hf4 := blk_frozen HI.out.t4 0
  have hf5 := blk_frozen HI.out.t4 1
  have hk0 : W1.cell? ⟨w.heap.size, 0, none⟩ = some (.slice A l.length c) := (blk_cell HI.out.t2 0).trans rfl
  have hk1 : W1.cell? ⟨w.heap.size, 1, none⟩ = some (.int .i64 nx) := (blk_cell HI.out.t2 1).trans rfl
  by_cases hz : checkE l nx = 0
  · have HZ := Aside0.mk hz
    rw [hz]
    clear hz
    go_wp2_with fail
    have hW1s : w.heap.size + 1 < W1.heap.size := HI.out.lt
    have hcl := clone_any A c l W1.drew (Kd.C_below HR.out (HI.out.b.trans (Below.refl _ W1).drew)) hlen
    have hkd : W1.drew.cell? ⟨w.heap.size, 0, none⟩ = some (.slice A l.length c) := hk0
    have hkd1 : W1.drew.cell? ⟨w.heap.size, 1, none⟩ = some (.int .i64 nx) := hk1
    go_region_with (go_at_call 48; refine hcl.mono ?_; rintro e W2 ⟨A', c', rfl, hO2, hb2⟩; have hl2 : W2.cell? ⟨w.heap.size, 1, none⟩ = some (.int .i64 nx) := (hb2.cell (p := ⟨w.heap.size, 1, none⟩) (by show w.heap.size < W1.heap.size; omega)).trans hk1; have HW2 := Aside0.mk (And.intro hO2 hb2); clear hO2 hb2)
    all_goals
      have E3 : Ed (W2.alloc (.cells #[.slice A' l.length c', .int .i64 nx] 63)) W1.heap.size W2.heap.size A' c' l nx := by
        have hO3 := HW2.out.1
        have hb3 := HW2.out.2
        exact ⟨hb3.size, by have := hb3.size; simp; exact Nat.le_succ_of_le this, heap_alloc_new W2 _, hO3.below ((Below.refl _ W2).alloc (Nat.le_refl _) _)⟩
      have I3 : EI w A c l nx (W2.alloc (.cells #[.slice A' l.length c', .int .i64 nx] 63)) :=
        (HI.out.below (B := W1.heap.size) hW1s (Below.refl _ W1).drew).below (B := W1.heap.size) hW1s (HW2.out.2.alloc HW2.out.2.size _)
      clear hl2 hcl hkd hkd1 hc4 hc5 hf4 hf5 hk0 hk1
      generalize W2.alloc (.cells #[.slice A' l.length c', .int .i64 nx] 63) = W3 at *
      have hdo := hop W3 W1.heap.size W2.heap.size A' c' l nx hlen (by have := check_sorted HZ.out; omega) (check_sorted HZ.out).2.2 (check_sorted HZ.out).1 E3
      have E3 := Aside0.mk E3
      have I3 := Aside0.mk I3
      have hen1 := hen #[t, .pointer (some ⟨W2.heap.size, 0, none⟩)] W3
      go_wp2_with fail
      refine hdo.mono ?_
      rintro e W4 ⟨A4, c4, rfl, hE4, hb4⟩
      have I4 := Aside0.mk (I3.out.below hW1s hb4)
      have hc4 : W4.cell? ⟨w.heap.size + 1, 0, none⟩ = some (.slice none 0 0) := (blk_cell I4.out.t4 0).trans rfl
      have hc5 : W4.cell? ⟨w.heap.size + 1, 1, none⟩ = some (.int .i64 0) := (blk_cell I4.out.t4 1).trans rfl
      have hf4 := blk_frozen I4.out.t4 0
      have hf5 := blk_frozen I4.out.t4 1
      have hg0 := hE4.cell0
      have hg1 := hE4.cell1
      have HE4 := Aside0.mk hE4
      clear hdo hE4 hb4
      by_cases hy : (op l nx).1 = 0
      · have HE := Aside0.mk (show editF op l nx = ((op l nx).2.1, (op l nx).2.2, 0) by simp [editF, HZ.out, hy])
        rw [hy]
        clear hy
        go_wp2_with fail
        refine bodyPost_ret (results_ct rfl _ _ (w.heap.size + 1) 24 #[.slice A4 (op l nx).2.1.length c4, .int .i64 (op l nx).2.2] (0, 0) _ rfl (blk_put (cs := #[.slice A4 (op l nx).2.1.length c4, .int .i64 0]) (blk_put (cs := #[.slice none 0 0, .int .i64 0]) I4.out.t4 0 _ rfl) 1 _ rfl) Try.underlying24 rfl (by kernel_rfl)) rfl ?_
        rw [HE.out]
        exact ⟨A4, c4, rfl, edit_own (HE4.out.hO.lower (by omega)) I4.out.t4, I4.out.b.setCell (p := ⟨w.heap.size + 1, 0, none⟩) (by simp) _ |>.setCell (p := ⟨w.heap.size + 1, 1, none⟩) (by simp) _⟩
      · have hy' : ((op l nx).1 == 0) = false := by simpa using hy
        have HE := Aside0.mk (show editF op l nx = ([], 0, (op l nx).1) by simp [editF, HZ.out, hy])
        go_wp2_with fail
        refine bodyPost_ret (results_ct rfl _ _ (w.heap.size + 1) 24 #[.slice none 0 0, .int .i64 0] (0, 0) _ rfl (blk_put (cs := #[.slice none 0 0, .int .i64 0]) (blk_put (cs := #[.slice none 0 0, .int .i64 0]) I4.out.t4 0 _ rfl) 1 _ rfl) Try.underlying24 rfl (by kernel_rfl)) rfl ?_
        rw [HE.out]
        exact ⟨none, 0, rfl, World.ownsRow_nil _ _ _ _, I4.out.b.setCell (p := ⟨w.heap.size + 1, 0, none⟩) (by simp) _ |>.setCell (p := ⟨w.heap.size + 1, 1, none⟩) (by simp) _⟩
  · have hz' : (checkE l nx == 0) = false := by simpa using hz
    have hne : (!(checkE l nx == 0)) = true := by rw [hz']; rfl
    have HE := Aside0.mk (show editF op l nx = ([], 0, checkE l nx) by simp [editF, hz])
    go_wp2_with fail
    refine bodyPost_ret (results_ct rfl _ _ (w.heap.size + 1) 24 #[.slice none 0 0, .int .i64 0] (0, 0) _ rfl (blk_put (cs := #[.slice none 0 0, .int .i64 0]) (blk_put (cs := #[.slice none 0 0, .int .i64 0]) HI.out.t4 0 _ rfl) 1 _ rfl) Try.underlying24 rfl (by kernel_rfl)) rfl ?_
    rw [HE.out]
    exact ⟨none, 0, rfl, World.ownsRow_nil _ _ _ _, HI.out.b.setCell (p := ⟨w.heap.size + 1, 0, none⟩) (by simp) _ |>.setCell (p := ⟨w.heap.size + 1, 1, none⟩) (by simp) _⟩
end Go.Proofs.Ytmjenmhidnkbdaa.P
