/- slices.Clone at choices. -/
import Derived.Test.YtjaodgicpnoifaaHb
namespace Go.Proofs.Ytjaodgicpnoifaa.P
open Go.RowKit Go.Shelf Go.Proofs.YtjaodgicpnoifaaW.PrintWords Go.Proofs.YtjaodgicpnoifaaW.PrintLast Go.Proofs.YtjaodgicpnoifaaW.PrintMore
set_option linter.unusedVariables false
set_option linter.unusedSimpArgs false
theorem info49z : (Try.prog.info? 49).map (fun i => (i.zero, i.size, i.bytes)) = some (some (.agg #[.int .i64 0, .int .i64 0, .int .i64 0]), 3, 24) := by kernel_rfl

theorem flat_one_cell (l : List S49) : ∀ v ∈ flat l, v.oneCell' = true := by
  intro v hv
  simp only [flat, List.mem_flatMap] at hv
  obtain ⟨x, _, hx⟩ := hv
  simp only [legC, List.mem_cons, List.not_mem_nil, or_false] at hx
  rcases hx with rfl | rfl | rfl <;> rfl
theorem rd_at (l : List S49) (i : Nat) (h : i < l.length) : l[i]? = some (rd_T49 l (i : Int)) := by simp [rd_T49, h]
theorem C_cells {w : World} {A : Option Addr} {l : List S49} (h : Kd.C k49 w A l.length l) : ∀ ad, A = some ad → ∀ j u, (flat l)[j]? = some u → w.cell? (ad.add j) = some u := by
  intro ad e j u hu
  have hj : j < l.length * 3 := by
    have := (List.getElem?_eq_some_iff.1 hu).1
    rwa [flat_len] at this
  obtain ⟨ad', c, e', _, hK, hc⟩ := Kd.C_get h z49 ((j / 3 : Nat) : Int) (by omega) (by omega)
  rw [e] at e'
  cases e'
  obtain rfl := k49_open hK
  simp only [Int.toNat_natCast] at hc
  have hx : l[j / 3]? = some (rd_T49 l ((j / 3 : Nat) : Int)) := rd_at l (j / 3) (by omega)
  have h2 := flat_get l (j / 3) (j % 3) _ hx (Nat.mod_lt _ (by omega))
  rw [show j / 3 * 3 + j % 3 = j from by omega, hu] at h2
  have h3 := hc (j % 3) u h2.symm
  have e3 : j / 3 * 3 + j % 3 = j := by omega
  have e4 : j / 3 * k49.sz + j % 3 = j := e3
  rw [e4] at h3
  exact h3

theorem eqNil (A : Option Addr) (n c : Nat) (w : World) : (binOp .eql 45 (.slice A n c) (.slice none 0 0)).run Try.prog w = .ok (.bool A.isNone) w := by
  simp only [binOp]
  have h : ∀ d : Nat, (Op.equalIn (d + 1) 45 (.slice A n c) (.slice none 0 0)).run Try.prog w = .ok A.isNone w := fun d => by
    cases A <;> simp [Op.equalIn, run_underlying Try.underlying45]
  have h2 : (Op.equal 45 (.slice A n c) (.slice none 0 0)).run Try.prog w = .ok A.isNone w := by
    simp [Op.equal, Op.maxDepth, h 9999]
  simp [h2]
theorem C_none {w : World} {l : List S49} (h : Kd.C k49 w none l.length l) : l = [] := by
  by_cases hl : l.length = 0
  · exact List.length_eq_zero_iff.1 hl
  · obtain ⟨ad, e, _⟩ := at_T49 h 0 (by omega) (by omega)
    cases e

set_option maxRecDepth 100000 in
set_option maxHeartbeats 2000000 in
theorem clone_any (A : Option Addr) (c : Nat) (l : List S49) (w : World) (hr : Kd.C k49 w A l.length l) (hlen : l.length ≤ 2000) :
    Calls Try.prog 46 #[.slice A l.length c] w fun e w' => ∃ A' c', e = .returned (.slice A' l.length c') ∧ Own3 w' w.heap.size A' c' l ∧ Below w.heap.size w w' := by
  obtain ⟨i0, hi0, hz0, hz1, hz2⟩ := info_parts info49z
  cases A with
  | none =>
    obtain rfl := C_none hr
    clear hr
    have hq := eqNil none 0 c w
    simp only [Option.isNone_none] at hq
    go_enter Try.func46, Try.ntmps46
    go_wp2
    go_ret
    exact ⟨none, 0, rfl, World.ownsRow_nil _ _ _ _, Below.refl _ _⟩
  | some ad =>
    have hcs := C_cells hr ad rfl
    have hown : ((w.alloc (.cells #[] 49))).ownsRow w.heap.size 49 3 (.slice (some ⟨w.heap.size, 0, none⟩) 0 0) 0 [] := World.ownsRow_made w #[] 0 (Nat.le_refl _) (by unfold maxLen; omega) rfl
    have hcs2 : ∀ j u, (flat l)[j]? = some u → (w.alloc (.cells #[] 49)).cell? (ad.add j) = some u := fun j u hu =>
      (((Below.refl w.heap.size w).alloc (Nat.le_refl _) (.cells #[] 49)).cell (World.block_lt_of_cell? w _ (hcs j u hu))).trans (hcs j u hu)
    have hq := eqNil (some ad) l.length c w
    simp only [Option.isNone_some] at hq
    clear hr hcs
    go_enter Try.func46, Try.ntmps46
    go_wp2_with (at_builtin; refine wpList_append_own _ rfl _ _ 45 rfl w.heap.size 49 i0 (.agg #[.int .i64 0, .int .i64 0, .int .i64 0]) 3 24 Try.underlying45 hi0 hz0 hz1 hz2 rfl (by decide) _ _ _ rfl hown ad l.length c (flat l) rfl (flat_len l) hcs2 (flat_one_cell l) (by unfold maxLen; omega) (by omega) (by simp) ?_; intro v' w1 hown' hgrow _)
    have hv : ∃ A' c', v' = .slice A' l.length c' := by
      rcases hown'.2 with ⟨e, e2⟩ | ⟨g, cap, cur, e, _⟩
      · rw [Nat.zero_add] at e2
        exact ⟨none, 0, by rw [e, e2]⟩
      · rw [Nat.zero_add] at e
        exact ⟨_, _, e⟩
    obtain ⟨A', c', rfl⟩ := hv
    go_ret
    refine ⟨A', c', rfl, ?_, ((Below.refl w.heap.size w).alloc (Nat.le_refl _) (.cells #[] 49)).grown hgrow (by simp) (fun k e => by have e2 : some w.heap.size = some k := e; injection e2 with e2; omega)⟩
    show World.ownsRow _ _ _ _ _ _ _
    rw [Nat.zero_add, List.nil_append] at hown'
    exact hown'

end Go.Proofs.Ytjaodgicpnoifaa.P
