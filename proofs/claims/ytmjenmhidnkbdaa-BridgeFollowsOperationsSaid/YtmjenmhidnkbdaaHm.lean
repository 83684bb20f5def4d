/- slices.Insert at legs: one leg into a row of the call's own. -/
import Derived.Test.YtmjenmhidnkbdaaHl
import Derived.Shelf.Spec.SlicesInsertGrow
import Derived.Laws.CopyRow
import Derived.Deep.RegionLaw
namespace Go.Proofs.Ytmjenmhidnkbdaa.P
open Go.RowKit Go.Shelf Go.Proofs.YtmjenmhidnkbdaaW.PrintWords Go.Proofs.YtmjenmhidnkbdaaW.PrintLast Go.Proofs.YtmjenmhidnkbdaaW.PrintMore
set_option linter.unusedVariables false
set_option linter.unusedSimpArgs false

theorem info36z : (Try.prog.info? 36).map (fun i => (i.zero, i.size, i.bytes)) = some (some (.agg #[.int .i64 0, .int .i64 0, .bool false]), 3, 24) := by kernel_rfl

/-- copy of legs into a row that is known. -/
theorem run_copy3 (w : World) (g o dLen dCap : Nat) (a : Addr) (sLen sCap : Nat) (cur : Array Value) (cs : List Value)
    (hg : w.heap[g]? = some (.cells cur 36 (0, 0))) (hn : cs.length = Nat.min sLen dLen * 3)
    (hsrc : ∀ j v, cs[j]? = some v → w.cell? (a.add j) = some v) (hfit : o + cs.length ≤ cur.size) (h1 : ∀ v ∈ cs, v.oneCell' = true) (ty : TypeId) :
    (Builtin.copy_ #[22, 22] ty #[.slice (some ⟨g, o, none⟩) dLen dCap, .slice (some a) sLen sCap]).run Try.prog w =
      .ok (goInt (Nat.min sLen dLen)) (w.setRow g (cur.toList.take o ++ cs ++ cur.toList.drop (o + cs.length)).toArray) := by
  have hl := run_loadCells_list (P := Try.prog) w a cs hsrc
  have hst := run_storeCells_at Try.prog g o 36 cs 0 cur w hg (by simpa using hfit) h1
  obtain ⟨i0, hi0, hz0, hz1, hz2⟩ := info_parts info36z
  simp [Builtin.copy_, run_underlying Try.underlying22, Builtin.lenOf, Builtin.firstCells, sizeOf, typeInfo, hi0, hz1, ← hn, hl, hst]

theorem seg_mid (A B C X : List Value) (o : Nat) (ho : o = A.length) (h : X.length = B.length) : (A ++ B ++ C).take o ++ X ++ (A ++ B ++ C).drop (o + X.length) = A ++ X ++ C := by
  subst ho
  rw [h, List.append_assoc A B C, List.take_left, ← List.length_append, ← List.append_assoc A B C, List.drop_left]

/-- A leg at a place. -/
def ins (l : List S36) (i : Nat) (x : S36) : List S36 := l.take i ++ x :: l.drop i
theorem ins_len (l : List S36) (i : Nat) (x : S36) (h : i ≤ l.length) : (ins l i x).length = l.length + 1 := by simp [ins]; omega
theorem ins_end (l : List S36) (x : S36) : ins l l.length x = l ++ [x] := by simp [ins]
theorem flat_ins (l : List S36) (i : Nat) (x : S36) : flat (ins l i x) = flat (l.take i) ++ legC x ++ flat (l.drop i) := by
  simp [ins, flat_append, flat_cons]
theorem flat_one_cell (l : List S36) : ∀ v ∈ flat l, v.oneCell' = true := by
  intro v hv
  simp only [flat, List.mem_flatMap] at hv
  obtain ⟨x, _, hx⟩ := hv
  simp only [legC, List.mem_cons, List.not_mem_nil, or_false] at hx
  rcases hx with rfl | rfl | rfl <;> rfl
theorem legC_one_cell (x : S36) : ∀ v ∈ legC x, v.oneCell' = true := by
  intro v hx
  simp only [legC, List.mem_cons, List.not_mem_nil, or_false] at hx
  rcases hx with rfl | rfl | rfl <;> rfl

/-- A row's cells in four parts. -/
theorem four_parts (L : List Value) (p q r : Nat) (h : p + q + r ≤ L.length) : ∃ A B C D, L = A ++ B ++ (C ++ D) ∧ A.length = p ∧ B.length = q ∧ C.length = r ∧ A = L.take p := by
  refine ⟨L.take p, (L.drop p).take q, (L.drop (p + q)).take r, L.drop (p + q + r), ?_, by simp; omega, by simp; omega, by simp; omega, rfl⟩
  rw [show L.drop (p + q + r) = (L.drop (p + q)).drop r from by rw [List.drop_drop], List.take_append_drop, List.append_assoc, show L.drop (p + q) = (L.drop p).drop q from by rw [List.drop_drop], List.take_append_drop, List.take_append_drop]

theorem own3_row {w : World} {base g c : Nat} {l : List S36} (h : Own3 w base (some ⟨g, 0, none⟩) c l) :
    ∃ cur, w.heap[g]? = some (.cells cur 36 (0, 0)) ∧ base ≤ g ∧ l.length ≤ c ∧ c ≤ maxLen ∧ cur.size = c * 3 ∧ cur.toList.take (l.length * 3) = flat l := by
  rcases h.2 with ⟨e, _⟩ | ⟨g', cap, cur, e, hb, hh, hnc, hcm, hcs, htake⟩
  · simp at e
  · simp only [Value.slice.injEq, Option.some.injEq, Addr.mk.injEq, and_true, true_and] at e
    obtain ⟨rfl, rfl⟩ := e
    exact ⟨cur, hh, hb, hnc, hcm, hcs, htake⟩
theorem own3_mk {w : World} {base g c : Nat} {l : List S36} {cur : Array Value} (hh : w.heap[g]? = some (.cells cur 36 (0, 0))) (hb : base ≤ g) (hnc : l.length ≤ c) (hcm : c ≤ maxLen) (hcs : cur.size = c * 3)
    (htake : cur.toList.take (l.length * 3) = flat l) : Own3 w base (some ⟨g, 0, none⟩) c l :=
  ⟨flat_len l, .inr ⟨g, c, cur, rfl, hb, hh, hnc, hcm, hcs, htake⟩⟩

theorem flat_drop (M : List S36) (i : Nat) (h : i ≤ M.length) : flat (M.drop i) = (flat M).drop (i * 3) := by
  have e : flat M = flat (M.take i) ++ flat (M.drop i) := by rw [← flat_append, List.take_append_drop]
  have hl : (flat (M.take i)).length = i * 3 := by rw [flat_len, List.length_take]; omega
  rw [e, List.drop_left' hl]

theorem leg_cells {w : World} {vb : Nat} {x : S36} (hv : w.heap[vb]? = some (.cells #[.int .i64 x.f0, .int .i64 x.f1, .bool x.f2] 36 (0, 0))) : ∀ j v, (legC x)[j]? = some v → w.cell? ((⟨vb, 0, none⟩ : Addr).add j) = some v := by
  intro j v hj
  have e : (⟨vb, 0, none⟩ : Addr).add j = ⟨vb, j, none⟩ := by unfold Addr.add; split <;> simp_all
  rw [e, blk_cell hv j, ← hj]
  match j with
  | 0 => rfl
  | 1 => rfl
  | 2 => rfl
  | j + 3 => simp [legC]

set_option maxRecDepth 100000 in
set_option maxHeartbeats 4000000 in
theorem insert_end (g c vb : Nat) (l : List S36) (x : S36) (base : Nat) (w : World) (hO : Own3 w base (some ⟨g, 0, none⟩) c l) (hlen : l.length ≤ 100000) (hbase : base ≤ w.heap.size)
    (hv : w.heap[vb]? = some (.cells #[.int .i64 x.f0, .int .i64 x.f1, .bool x.f2] 36 (0, 0))) :
    Calls Try.prog 56 #[.slice (some ⟨g, 0, none⟩) l.length c, .int .i64 l.length, .slice (some ⟨vb, 0, none⟩) 1 1] w fun e w' =>
      ∃ A' c', e = .returned (.slice A' (l.length + 1) c') ∧ Own3 w' base A' c' (ins l l.length x) ∧ w.grownBy w' (some g) := by
  obtain ⟨i0, hi0, hz0, hz1, hz2⟩ := info_parts info36z
  have hle := hO.le
  have hcm : c ≤ maxLen := (own3_row hO).choose_spec.2.2.2.1
  unfold maxLen at hcm
  by_cases hcn : c = l.length
  · subst hcn
    go_enter Try.func56, Try.ntmps56
    go_wp2_with (at_builtin; refine wpList_append_own _ rfl _ _ 22 rfl base 36 i0 (.agg #[.int .i64 0, .int .i64 0, .bool false]) 3 24 Try.underlying22 hi0 hz0 hz1 hz2 rfl (by decide) _ _ _ rfl hO ⟨vb, 0, none⟩ 1 1 (legC x) rfl rfl (leg_cells hv) (legC_one_cell x) (by unfold maxLen; omega) (by omega) hbase ?_; intro v' w1 hown' hgrow _; obtain ⟨g', cap', rfl⟩ := ownsRow_succ hown')
    go_ret
    refine ⟨_, _, rfl, ?_, hgrow⟩
    show World.ownsRow _ _ _ _ _ _ _
    rw [ins_len _ _ _ (Nat.le_refl _), ins_end, flat_append, flat_one]
    exact hown'
  · go_enter Try.func56, Try.ntmps56
    go_wp2_with (at_builtin; refine wpList_append_own _ rfl _ _ 22 rfl base 36 i0 (.agg #[.int .i64 0, .int .i64 0, .bool false]) 3 24 Try.underlying22 hi0 hz0 hz1 hz2 rfl (by decide) _ _ _ rfl hO ⟨vb, 0, none⟩ 1 1 (legC x) rfl rfl (leg_cells hv) (legC_one_cell x) (by unfold maxLen; omega) (by omega) hbase ?_; intro v' w1 hown' hgrow _; obtain ⟨g', cap', rfl⟩ := ownsRow_succ hown')
    go_ret
    refine ⟨_, _, rfl, ?_, hgrow⟩
    show World.ownsRow _ _ _ _ _ _ _
    rw [ins_len _ _ _ (Nat.le_refl _), ins_end, flat_append, flat_one]
    exact hown'

set_option maxRecDepth 100000 in
set_option maxHeartbeats 4000000 in
theorem insert_nil (vb : Nat) (x : S36) (base : Nat) (w : World) (hbase : base ≤ w.heap.size)
    (hv : w.heap[vb]? = some (.cells #[.int .i64 x.f0, .int .i64 x.f1, .bool x.f2] 36 (0, 0))) :
    Calls Try.prog 56 #[.slice none 0 0, .int .i64 0, .slice (some ⟨vb, 0, none⟩) 1 1] w fun e w' =>
      ∃ A' c', e = .returned (.slice A' 1 c') ∧ Own3 w' base A' c' [x] ∧ w.grownBy w' none := by
  obtain ⟨i0, hi0, hz0, hz1, hz2⟩ := info_parts info36z
  have hO := World.ownsRow_nil w base 36 3
  go_enter Try.func56, Try.ntmps56
  go_wp2_with (at_builtin; refine wpList_append_own _ rfl _ _ 22 rfl base 36 i0 (.agg #[.int .i64 0, .int .i64 0, .bool false]) 3 24 Try.underlying22 hi0 hz0 hz1 hz2 rfl (by decide) _ _ _ rfl hO ⟨vb, 0, none⟩ 1 1 (legC x) rfl rfl (leg_cells hv) (legC_one_cell x) (by unfold maxLen; omega) (by omega) hbase ?_; intro v' w1 hown' hgrow _; obtain ⟨g', cap', rfl⟩ := ownsRow_succ hown')
  go_ret
  refine ⟨_, _, rfl, ?_, hgrow⟩
  show World.ownsRow _ _ _ _ _ _ _
  rw [flat_one]
  exact hown'

theorem size_row (cur : Array Value) (o : Nat) (cs : List Value) (h : o + cs.length ≤ cur.size) : (cur.toList.take o ++ cs ++ cur.toList.drop (o + cs.length)).toArray.size = cur.size := by
  simp only [List.size_toArray, List.length_append, List.length_take, List.length_drop, Array.length_toList]; omega

set_option maxRecDepth 100000 in
set_option maxHeartbeats 4000000 in
theorem insert_shift (g c vb i : Nat) (l : List S36) (x : S36) (base : Nat) (w : World) (hO : Own3 w base (some ⟨g, 0, none⟩) c l) (hlen : l.length ≤ 100000) (hbase : base ≤ w.heap.size)
    (hv : w.heap[vb]? = some (.cells #[.int .i64 x.f0, .int .i64 x.f1, .bool x.f2] 36 (0, 0))) (hvg : vb ≠ g) (hi : i < l.length) (hroom : l.length + 1 ≤ c) :
    Calls Try.prog 56 #[.slice (some ⟨g, 0, none⟩) l.length c, .int .i64 i, .slice (some ⟨vb, 0, none⟩) 1 1] w fun e w' =>
      ∃ A' c', e = .returned (.slice A' (l.length + 1) c') ∧ Own3 w' base A' c' (ins l i x) ∧ w.grownBy w' (some g) := by
  obtain ⟨cur, hg, hb, hnc, hcm, hcs, htake⟩ := own3_row hO
  have hcells := fun j u (h : (flat l)[j]? = some u) => hO.cells (g := g) rfl j u h
  have hglt : g < w.heap.size := blk_lt hg
  have hvlt : vb < w.heap.size := blk_lt hv
  obtain ⟨n, hn⟩ : ∃ n, n = l.length := ⟨_, rfl⟩
  have hD : (flat (l.drop i)).length = (n - i) * 3 := by rw [flat_len, List.length_drop, hn]
  have htk : flat (l.take i) = cur.toList.take (i * 3) := by
    rw [flat_take l i (by omega), ← htake, List.take_take, Nat.min_eq_left (by omega)]
  obtain ⟨PA, PB, PC, PD, hL, hA, hB, hC, hAe⟩ := four_parts cur.toList (i * 3) 3 ((n - i) * 3) (by simp; omega)
  have hX : (legC x).length = 3 := rfl
  have hr1 : cur.toList.take ((i + 1) * 3) ++ flat (l.drop i) ++ cur.toList.drop ((i + 1) * 3 + (flat (l.drop i)).length) = PA ++ PB ++ (flat (l.drop i) ++ PD) := by
    rw [hL, ← List.append_assoc (PA ++ PB) PC PD]
    rw [seg_mid (PA ++ PB) PC PD (flat (l.drop i)) ((i + 1) * 3) (by simp; omega) (by omega), List.append_assoc]
  have hr2 : (PA ++ PB ++ (flat (l.drop i) ++ PD)).take (i * 3) ++ legC x ++ (PA ++ PB ++ (flat (l.drop i) ++ PD)).drop (i * 3 + (legC x).length) = PA ++ legC x ++ (flat (l.drop i) ++ PD) :=
    seg_mid PA PB (flat (l.drop i) ++ PD) (legC x) (i * 3) hA.symm (by rw [hX, hB])
  have hm1 : Nat.min (n + 1 - i) (n + 1 - (i + 1)) = n - i := by show min _ _ = _; omega
  have hm2 : Nat.min 1 (n + 1 - i) = 1 := by show min _ _ = _; omega
  obtain ⟨c1, hc1⟩ : ∃ c1, c1 = (PA ++ PB ++ (flat (l.drop i) ++ PD)).toArray := ⟨_, rfl⟩
  obtain ⟨c2, hc2⟩ : ∃ c2, c2 = (PA ++ legC x ++ (flat (l.drop i) ++ PD)).toArray := ⟨_, rfl⟩
  have hs0 : cur.size = i * 3 + 3 + ((n - i) * 3 + PD.length) := by
    have := congrArg List.length hL
    simp only [Array.length_toList, List.length_append] at this
    omega
  have hs1 : c1.size = cur.size := by rw [hc1]; simp only [List.size_toArray, List.length_append]; omega
  have hs2 : c2.size = cur.size := by rw [hc2]; simp only [List.size_toArray, List.length_append, hX]; omega
  have run1 : ∀ ty dc sc, (Builtin.copy_ #[22, 22] ty #[.slice (some ⟨g, (i + 1) * 3, none⟩) (n + 1 - (i + 1)) dc, .slice (some ⟨g, i * 3, none⟩) (n + 1 - i) sc]).run Try.prog w.drew = .ok (goInt ((n - i : Nat))) (w.drew.setRow g c1) := fun ty dc sc => by
    have h := run_copy3 w.drew g ((i + 1) * 3) (n + 1 - (i + 1)) dc ⟨g, i * 3, none⟩ (n + 1 - i) sc cur (flat (l.drop i)) hg (by rw [hm1]; exact hD)
      (fun j v hj => by
        have h2 := hcells (i * 3 + j) v (by rw [← List.getElem?_drop]; rw [flat_drop l i (by omega)] at hj; exact hj)
        rw [Addr.add_lit, Nat.zero_add] at h2; rw [Addr.add_lit]; exact h2) (by omega) (flat_one_cell _) ty
    rw [hm1, hr1, ← hc1] at h
    exact h
  have run2 : ∀ W, W.heap[g]? = some (.cells c1 36 (0, 0)) → W.heap[vb]? = w.heap[vb]? → ∀ ty dc, (Builtin.copy_ #[22, 22] ty #[.slice (some ⟨g, i * 3, none⟩) (n + 1 - i) dc, .slice (some ⟨vb, 0, none⟩) 1 1]).run Try.prog W = .ok (goInt 1) (W.setRow g c2) := fun W hW hWv ty dc => by
    have h := run_copy3 W g (i * 3) (n + 1 - i) dc ⟨vb, 0, none⟩ 1 1 c1 (legC x) hW (by rw [hm2]; rfl) (leg_cells (hWv.trans hv)) (by rw [hX, hs1]; omega) (legC_one_cell x) ty
    rw [hm2, hc1] at h
    simp only [List.toList_toArray] at h
    rw [hr2, ← hc2] at h
    exact h
  have hrow1 : (w.drew.setRow g c1).heap[g]? = some (.cells c1 36 (0, 0)) := setRow_heap w.drew g cur c1 36 (0, 0) hg
  have hoth : ∀ k, k ≠ g → (w.drew.setRow g c1).heap[k]? = w.heap[k]? := fun k hk => setRow_other w.drew g k _ hk
  have hov : ∀ lb cb, (callFunc 61 #[.slice (some ⟨vb, 0, none⟩) 1 1, .slice (some ⟨g, (i + 1) * 3, none⟩) lb cb]).run Try.prog w = .ok (.value (.bool false)) w := fun lb cb => by
    rw [run_callFunc_extern Try.func61 (by kernel_rfl) (by kernel_rfl) (by kernel_rfl) (e := Extern.SlicesOverlaps.overlaps #[22, 22] #[4]) (by kernel_rfl),
      Lib.run_overlaps_apart w 22 4 36 Try.underlying22 3 (fun w => by kernel_rfl) ⟨vb, 0, none⟩ ⟨g, (i + 1) * 3, none⟩ 1 1 lb cb hvg 36 36 3 (c * 3) (by simp [World.shape?, hv]) (by simp [World.shape?, hg, hcs]) (by omega) (by simp [World.frozen?, hv]) (by simp [World.frozen?, hv])]
    rfl
  have hfin : Own3 ((w.drew.setRow g c1).setRow g c2) base (some ⟨g, 0, none⟩) c (ins l i x) ∧ w.grownBy ((w.drew.setRow g c1).setRow g c2) (some g) := by
    refine ⟨own3_mk (setRow_heap (w.drew.setRow g c1) g c1 c2 36 (0, 0) hrow1) hb (by rw [ins_len _ _ _ (by omega)]; exact hroom) hcm (by omega) ?_, ⟨rfl, rfl, rfl, by simp, fun k _ hk => ?_⟩⟩
    · rw [ins_len _ _ _ (by omega), flat_ins, htk, ← hAe, hc2]
      simp only [List.toList_toArray]
      rw [← List.append_assoc, List.take_left']
      simp only [List.length_append, hX]; omega
    · have hne : k ≠ g := fun e => hk (by rw [e])
      exact (setRow_other (w.drew.setRow g c1) g k _ hne).trans (hoth k hne)
  have HF := Aside0.mk hfin
  have hvoth := hoth vb hvg
  clear hfin hr1 hr2 hL hA hB hC hAe hc1 hc2 hs0 hs1 hs2 htake htk hO hcells hm1 hm2 hX hD hoth
  have hw1 : IntKind.i64.wrap ((i : Int) + 1) = (i : Int) + 1 := by rw [IntKind.wrap_i64]; omega
  have hb2 : ¬ (c = i + 1) := by omega
  have hb4 : ¬ (c = i) := by omega
  have hz2 : ¬ ((i : Int) = (n : Int)) := by omega
  unfold maxLen at hcm
  rw [← hn] at hroom hlen hnc hi ⊢
  clear hn
  go_enter Try.func56, Try.ntmps56
  go_wp2_with (simp only [hov])
  have hb1 : (0 : Int) ≤ (i : Int) + 1 := by omega
  have hin : i ≤ n := by omega
  have hb3 : (i : Int) ≤ (n : Int) + 1 := by omega
  simp only [Nat.add_sub_add_right] at run1
  go_region_law (refine step_copy_runI rfl _ _ 22 22 rfl (.slice (some ⟨g, (i + 1) * 3, none⟩) (n - i) (c - (i + 1))) (.slice (some ⟨g, i * 3, none⟩) (n + 1 - i) (c - i)) (by simp [Act.eval, Act.put]) (by simp [Act.eval, Act.put]) (run1 _ _ _) ?_)
  have run2' := run2 _ hrow1 hvoth
  clear run2
  go_wp2_with (simp only [run2'])
  go_ret
  exact ⟨_, _, rfl, HF.out⟩

set_option maxRecDepth 100000 in
set_option maxHeartbeats 4000000 in
theorem insert_grow (g c vb i : Nat) (l : List S36) (x : S36) (base : Nat) (w : World) (hO : Own3 w base (some ⟨g, 0, none⟩) c l) (hlen : l.length ≤ 100000) (hbase : base ≤ w.heap.size)
    (hv : w.heap[vb]? = some (.cells #[.int .i64 x.f0, .int .i64 x.f1, .bool x.f2] 36 (0, 0))) (hi : i < l.length) (hroom : c < l.length + 1) :
    Calls Try.prog 56 #[.slice (some ⟨g, 0, none⟩) l.length c, .int .i64 i, .slice (some ⟨vb, 0, none⟩) 1 1] w fun e w' =>
      ∃ A' c', e = .returned (.slice A' (l.length + 1) c') ∧ Own3 w' base A' c' (ins l i x) ∧ w.grownBy w' (some g) := by
  obtain ⟨cur, hg, hb, hnc, hcm, hcs, htake⟩ := own3_row hO
  have hcells := fun j u (h : (flat l)[j]? = some u) => hO.cells (g := g) rfl j u h
  have hglt : g < w.heap.size := blk_lt hg
  have hvlt : vb < w.heap.size := blk_lt hv
  obtain ⟨i0, hi0, hz0, hz1, hz2⟩ := info_parts info36z
  obtain ⟨n, hn⟩ : ∃ n, n = l.length := ⟨_, rfl⟩
  have hD : (flat (l.drop i)).length = (n - i) * 3 := by rw [flat_len, List.length_drop, hn]
  have hT : (flat (l.take i)).length = i * 3 := by rw [flat_len, List.length_take]; omega
  have hX : (legC x).length = 3 := rfl
  have hkk : (n : Int) + 1 - (i : Int) = ((n + 1 - i : Nat) : Int) := by omega
  have hik : i + (n + 1 - i) = n + 1 := by omega
  have hold : (Builtin.firstCells i0.size i (.slice (some ⟨g, 0, none⟩) i c)).run Try.prog w.drew = .ok (flat (l.take i)).toArray w.drew := by
    rw [hz1]
    exact run_firstCells_some w.drew 3 i ⟨g, 0, none⟩ i c (flat (l.take i)) hT (fun j v hj => by
      rw [flat_take l i (by omega), List.getElem?_take] at hj
      split at hj
      · exact hcells j v hj
      · cases hj)
  obtain ⟨G, hG⟩ : ∃ G, G = grownCap w (n + 1) c 36 := ⟨_, rfl⟩
  have hGn : n + 1 ≤ G := by rw [hG]; exact grownCap_ge w _ _ _
  have hGm : G ≤ maxLen := by rw [hG]; exact grownCap_le_maxLen w (n + 1) c 36 (by unfold maxLen; omega)
  obtain ⟨ROW, hROW⟩ : ∃ ROW : Array Value, ROW = (flat (l.take i)).toArray ++ Builtin.zeroCells (Value.agg #[.int .i64 0, .int .i64 0, .bool false]).cells (n + 1 - i) ++ Builtin.zeroCells (Value.agg #[.int .i64 0, .int .i64 0, .bool false]).cells (G - (n + 1)) := ⟨_, rfl⟩
  have hRs : ROW.size = G * 3 := by
    rw [hROW]
    simp only [Array.size_append, List.size_toArray, hT, size_zeroCells]
    show i * 3 + (n + 1 - i) * 3 + (G - (n + 1)) * 3 = G * 3
    omega
  have hRt : ROW.toList.take (i * 3) = flat (l.take i) := by
    rw [hROW]
    simp only [Array.toList_append, List.append_assoc]
    rw [List.take_left' hT]
  have hrz : ∀ ty, (Builtin.append_ #[22, 3] ty #[.slice (some ⟨g, 0, none⟩) i c, .int .i64 ((n : Int) + 1 - (i : Int))]).run Try.prog w =
      .ok (.slice (some ⟨w.heap.size, 0, none⟩) (n + 1) G) (w.drew.alloc (.cells ROW 36)) := fun ty => by
    have h := Lib.run_append_grow_zeros w 22 3 ty 36 i0 _ .i64 .i64 Try.underlying22 Try.underlying3 hi0 hz0 (some ⟨g, 0, none⟩) i c (flat (l.take i)) hold (n + 1 - i) (by omega) (by omega) (by omega) (by omega) (by rw [hz2]; omega) (by rw [hz2, hik]; exact growslice_fits (by omega) (by omega))
    rw [hik, ← hG, ← hROW] at h
    rw [hkk]
    exact h
  obtain ⟨PA, PB, PC, PD, hL, hA, hB, hC, hAe⟩ := four_parts ROW.toList (i * 3) 3 ((n - i) * 3) (by simp; omega)
  have hr1 : ROW.toList.take (i * 3) ++ legC x ++ ROW.toList.drop (i * 3 + (legC x).length) = PA ++ legC x ++ (PC ++ PD) := by
    rw [hL]
    exact seg_mid PA PB (PC ++ PD) (legC x) (i * 3) hA.symm (by rw [hX, hB])
  have hr2 : (PA ++ legC x ++ (PC ++ PD)).take ((i + 1) * 3) ++ flat (l.drop i) ++ (PA ++ legC x ++ (PC ++ PD)).drop ((i + 1) * 3 + (flat (l.drop i)).length) = PA ++ legC x ++ (flat (l.drop i) ++ PD) := by
    rw [← List.append_assoc (PA ++ legC x) PC PD]
    rw [seg_mid (PA ++ legC x) PC PD (flat (l.drop i)) ((i + 1) * 3) (by simp [hX]; omega) (by omega), List.append_assoc]
  have hm1 : Nat.min (n - i) (n + 1 - (i + 1)) = n - i := by show min _ _ = _; omega
  have hm2 : Nat.min 1 (n + 1 - i) = 1 := by show min _ _ = _; omega
  obtain ⟨c1, hc1⟩ : ∃ c1, c1 = (PA ++ legC x ++ (PC ++ PD)).toArray := ⟨_, rfl⟩
  obtain ⟨c2, hc2⟩ : ∃ c2, c2 = (PA ++ legC x ++ (flat (l.drop i) ++ PD)).toArray := ⟨_, rfl⟩
  have hs0 : ROW.size = i * 3 + 3 + ((n - i) * 3 + PD.length) := by
    have := congrArg List.length hL
    simp only [Array.length_toList, List.length_append] at this
    omega
  have hs1 : c1.size = ROW.size := by rw [hc1]; simp only [List.size_toArray, List.length_append, hX]; omega
  have hs2 : c2.size = ROW.size := by rw [hc2]; simp only [List.size_toArray, List.length_append, hX]; omega
  obtain ⟨D, hDD⟩ : ∃ D, D = w.heap.size := ⟨_, rfl⟩
  have hW0 : (w.drew.alloc (.cells ROW 36)).heap[D]? = some (.cells ROW 36 (0, 0)) := by rw [hDD]; exact heap_alloc_new w.drew _
  have hW0o : ∀ k, k < D → (w.drew.alloc (.cells ROW 36)).heap[k]? = w.heap[k]? := fun k hk => heap_alloc_old w.drew _ (by rw [hDD] at hk; exact hk)
  rw [← hDD] at hrz hglt hvlt hbase
  obtain ⟨W0, hW0e⟩ : ∃ W0, W0 = w.drew.alloc (.cells ROW 36) := ⟨_, rfl⟩
  have hgr0 : w.grownBy W0 (some g) := by rw [hW0e]; exact ⟨rfl, rfl, rfl, by simp, fun k hk _ => heap_alloc_old w.drew _ hk⟩
  rw [← hW0e] at hrz hW0 hW0o
  have hsz0 : W0.heap.size = D + 1 := by rw [hW0e, hDD]; simp
  clear hW0e
  have run1 : ∀ ty dc, (Builtin.copy_ #[22, 22] ty #[.slice (some ⟨D, i * 3, none⟩) (n + 1 - i) dc, .slice (some ⟨vb, 0, none⟩) 1 1]).run Try.prog W0 = .ok (goInt 1) (W0.setRow D c1) := fun ty dc => by
    have h := run_copy3 W0 D (i * 3) (n + 1 - i) dc ⟨vb, 0, none⟩ 1 1 ROW (legC x) hW0 (by rw [hm2]; rfl) (leg_cells ((hW0o vb hvlt).trans hv)) (by rw [hX]; omega) (legC_one_cell x) ty
    rw [hm2, hr1, ← hc1] at h
    exact h
  have hW1 : (W0.setRow D c1).drew.heap[D]? = some (.cells c1 36 (0, 0)) := setRow_heap W0 D ROW c1 36 (0, 0) hW0
  have hW1o : ∀ k, k < D → (W0.setRow D c1).drew.heap[k]? = w.heap[k]? := fun k hk => (setRow_other W0 D k _ (by omega)).trans (hW0o k hk)
  have run2 : ∀ ty dc sc, (Builtin.copy_ #[22, 22] ty #[.slice (some ⟨D, (i + 1) * 3, none⟩) (n + 1 - (i + 1)) dc, .slice (some ⟨g, i * 3, none⟩) (n - i) sc]).run Try.prog (W0.setRow D c1).drew = .ok (goInt ((n - i : Nat))) ((W0.setRow D c1).drew.setRow D c2) := fun ty dc sc => by
    have h := run_copy3 (W0.setRow D c1).drew D ((i + 1) * 3) (n + 1 - (i + 1)) dc ⟨g, i * 3, none⟩ (n - i) sc c1 (flat (l.drop i)) hW1 (by rw [hm1]; exact hD)
      (fun j v hj => by
        have h2 := hcells (i * 3 + j) v (by rw [← List.getElem?_drop]; rw [flat_drop l i (by omega)] at hj; exact hj)
        rw [Addr.add_lit, Nat.zero_add] at h2; rw [Addr.add_lit]
        rw [World.cell?_of_block (w := w) (hW1o g hglt)]; exact h2) (by omega) (flat_one_cell _) ty
    rw [hm1, hc1] at h
    simp only [List.toList_toArray] at h
    rw [hr2, ← hc2, ← hc1] at h
    exact h
  have hfin : Own3 ((W0.setRow D c1).drew.setRow D c2) base (some ⟨D, 0, none⟩) G (ins l i x) ∧ w.grownBy ((W0.setRow D c1).drew.setRow D c2) (some g) := by
    refine ⟨own3_mk (setRow_heap (W0.setRow D c1).drew D c1 c2 36 (0, 0) hW1) hbase (by rw [ins_len _ _ _ (by omega)]; omega) hGm (by omega) ?_, ⟨hgr0.os, hgr0.tape, hgr0.output, ?_, fun k hk hr => ?_⟩⟩
    · rw [ins_len _ _ _ (by omega), flat_ins, ← hRt, ← hAe, hc2]
      simp only [List.toList_toArray]
      rw [← List.append_assoc, List.take_left']
      simp only [List.length_append, hX]; omega
    · have : ((W0.setRow D c1).drew.setRow D c2).heap.size = W0.heap.size := by simp
      rw [this]; exact hgr0.size
    · have hne : k ≠ D := by omega
      exact (setRow_other (W0.setRow D c1).drew D k _ hne).trans ((setRow_other W0 D k _ hne).trans (hgr0.block k hk hr))
  have HF := Aside0.mk hfin
  clear hfin hr1 hr2 hL hA hB hC hAe hc1 hc2 hs0 hs1 hs2 htake hO hcells hm1 hm2 hX hD hT hkk hik hold hG hROW hRs hRt hgr0 hW0o hW0 hW1 hW1o hsz0 hDD
  have hw1 : IntKind.i64.wrap ((i : Int) + 1) = (i : Int) + 1 := by rw [IntKind.wrap_i64]; omega
  have hb1 : (0 : Int) ≤ (i : Int) + 1 := by omega
  have hin : i ≤ n := by omega
  have hb3 : (i : Int) ≤ (n : Int) + 1 := by omega
  have hb2 : ¬ (G = i + 1) := by omega
  have hb4 : ¬ (G = i) := by omega
  have hb5 : ¬ (c = i) := by omega
  have hz2' : ¬ ((i : Int) = (n : Int)) := by omega
  have hz3 : (c : Int) < (n : Int) + 1 := by omega
  unfold maxLen at hcm hGm
  rw [← hn] at hroom hlen hnc hi ⊢
  simp only [Nat.add_sub_add_right] at run2
  clear hn hi0 hz0 hz1 hz2 i0
  go_enter Try.func56, Try.ntmps56
  go_wp2_with (first | (at_builtin; refine Lib.wpList_append_run _ rfl _ _ _ _ rfl _ _ rfl rfl _ _ (hrz _) ?_) | (simp only [run1]))
  go_region_law (refine step_copy_runI rfl _ _ 22 22 rfl (.slice (some ⟨D, (i + 1) * 3, none⟩) (n - i) (G - (i + 1))) (.slice (some ⟨g, i * 3, none⟩) (n - i) (c - i)) (by simp [Act.eval, Act.put]) (by simp [Act.eval, Act.put]) (run2 _ _ _) ?_)
  go_wp2
  go_ret
  exact ⟨_, _, rfl, HF.out⟩

/-- slices.Insert at one leg, wherever. -/
theorem insert_any (A : Option Addr) (c vb i : Nat) (l : List S36) (x : S36) (base : Nat) (w : World) (hO : Own3 w base A c l) (hlen : l.length ≤ 100000) (hbase : base ≤ w.heap.size)
    (hv : w.heap[vb]? = some (.cells #[.int .i64 x.f0, .int .i64 x.f1, .bool x.f2] 36 (0, 0))) (hvg : ∀ g, A = some ⟨g, 0, none⟩ → vb ≠ g) (hi : i ≤ l.length) :
    Calls Try.prog 56 #[.slice A l.length c, .int .i64 i, .slice (some ⟨vb, 0, none⟩) 1 1] w fun e w' =>
      ∃ A' c', e = .returned (.slice A' (l.length + 1) c') ∧ Own3 w' base A' c' (ins l i x) ∧ w.grownBy w' (Value.ownBlock (.slice A l.length c)) := by
  have hform : (A = none ∧ c = 0 ∧ l = []) ∨ ∃ g, A = some ⟨g, 0, none⟩ := by
    rcases hO.2 with ⟨e, e2⟩ | ⟨g, cap, cur, e, _⟩
    · simp only [Value.slice.injEq] at e
      exact .inl ⟨e.1, e.2.2, List.length_eq_zero_iff.1 e2⟩
    · simp only [Value.slice.injEq] at e
      exact .inr ⟨g, e.1⟩
  rcases hform with ⟨rfl, rfl, rfl⟩ | ⟨g, rfl⟩
  · obtain rfl : i = 0 := by simpa using hi
    exact insert_nil vb x base w hbase hv
  · by_cases he : i = l.length
    · subst he
      exact insert_end g c vb l x base w hO hlen hbase hv
    · by_cases hr : l.length + 1 ≤ c
      · exact insert_shift g c vb i l x base w hO hlen hbase hv (hvg g rfl) (by omega) hr
      · exact insert_grow g c vb i l x base w hO hlen hbase hv (by omega) (by omega)
end Go.Proofs.Ytmjenmhidnkbdaa.P
