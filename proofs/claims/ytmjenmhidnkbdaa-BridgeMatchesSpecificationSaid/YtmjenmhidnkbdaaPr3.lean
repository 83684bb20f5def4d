/- Plain laws: what the reference's operations answer is what the program's answer. -/
import Derived.Test.YtmjenmhidnkbdaaPr2
import Derived.Test.YtmjenmhidnkbdaaPx12
import Derived.Test.YtmjenmhidnkbdaaPx13
import Derived.Test.YtmjenmhidnkbdaaPx11
import Derived.Test.YtmjenmhidnkbdaaPx10
import Derived.Test.YtmjenmhidnkbdaaPx0
import Derived.Test.YtmjenmhidnkbdaaPx1
import Derived.Test.YtmjenmhidnkbdaaPx2
import Derived.Test.YtmjenmhidnkbdaaHd
import Derived.Test.YtmjenmhidnkbdaaSane
import Derived.Test.YtmjenmhidnkbdaaPg
namespace Go.Proofs.Ytmjenmhidnkbdaa.P
open Go.RowKit Go.Proofs.YtmjenmhidnkbdaaW.PrintWords Go.Proofs.YtmjenmhidnkbdaaW.PrintLast Go.Proofs.YtmjenmhidnkbdaaW.PrintMore
set_option linter.unusedVariables false
set_option linter.unusedSimpArgs false

/-- Nothing to clear from here on. -/
theorem leave_none (m : List S36) (c : Int) (hl : m.length ≤ 2000) : ∀ (n i K : Nat), n = m.length - i → i ≤ m.length → n < K →
    (∀ q, i ≤ q → q < m.length → cfAt m q ≠ c) → crossbarref18_leave.l0 K m c (i : Int) = some m := by
  intro n
  induction n with
  | zero =>
    intro i K hn hi hK h
    obtain ⟨K, rfl⟩ : ∃ J, K = J + 1 := ⟨K - 1, by omega⟩
    simp only [crossbarref18_leave.l0]
    rw [if_neg (by omega)]
  | succ n ih =>
    intro i K hn hi hK h
    obtain ⟨K, rfl⟩ : ∃ J, K = J + 1 := ⟨K - 1, by omega⟩
    simp only [crossbarref18_leave.l0]
    have h1 := h i (Nat.le_refl _) (by omega)
    unfold cfAt at h1
    rw [if_pos (by omega), if_pos (by omega), if_neg h1, w64 i (by omega)]
    exact ih (i + 1) K (by omega) (by omega) (by omega) fun q h1 h2 => h q (by omega) h2
/-- One leg to clear, at j. -/
theorem leave_one (m : List S36) (c : Int) (hl : m.length ≤ 2000) (hc : c ≠ 0) (j : Nat) (hj : j < m.length) (hu : ∀ q, q < m.length → (cfAt m q = c ↔ q = j)) : ∀ (n i K : Nat), n = m.length - i → i ≤ j → n < K →
    crossbarref18_leave.l0 K m c (i : Int) = some (outOf m j) := by
  intro n
  induction n with
  | zero => intro i K hn hi hK; omega
  | succ n ih =>
    intro i K hn hi hK
    obtain ⟨K, rfl⟩ : ∃ J, K = J + 1 := ⟨K - 1, by omega⟩
    simp only [crossbarref18_leave.l0]
    rw [if_pos (by omega), if_pos (by omega), w64 i (by omega)]
    by_cases e : i = j
    · subst e
      have h1 := (hu i hj).2 rfl
      unfold cfAt at h1
      rw [if_pos h1]
      simp only [Option.bind_some, Int.toNat_natCast]
      have hset : (m.set i ⟨(rd_T36 m (i : Int)).f0, 0, (rd_T36 m (i : Int)).f2⟩).set i ⟨(rd_T36 (m.set i ⟨(rd_T36 m (i : Int)).f0, 0, (rd_T36 m (i : Int)).f2⟩) (i : Int)).f0, (rd_T36 (m.set i ⟨(rd_T36 m (i : Int)).f0, 0, (rd_T36 m (i : Int)).f2⟩) (i : Int)).f1, false⟩ = outOf m i := by
        rw [rd_set m i i _ hj, if_pos rfl, List.set_set]
        rfl
      rw [hset]
      refine leave_none (outOf m i) c (by rw [outOf_len]; omega) (m.length - (i + 1)) (i + 1) K (by rw [outOf_len]) (by rw [outOf_len]; omega) (by omega) fun q h2 h3 => ?_
      rw [outOf_len] at h3
      unfold cfAt
      rw [rd_out m i q h3, if_neg (by omega)]
      exact fun h => by have := (hu q h3).1 h; omega
    · have h1 : ¬ cfAt m i = c := fun h => e ((hu i (by omega)).1 h)
      unfold cfAt at h1
      rw [if_neg h1]
      exact ih (i + 1) K (by omega) (by omega) (by omega)
theorem leave_f (l : List S36) (i : Nat) (hl : l.length ≤ 1000) (hi : i < l.length) (h0 : ∀ z ∈ l, 0 ≤ z.f1) (K : Nat) (hK : 2002 < K) : crossbarref18_leave.f K l (i : Int) = some (lv l i) := by
  unfold crossbarref18_leave.f
  simp only [Option.bind_some, List.nil_append, List.length_nil, Nat.zero_add]
  rw [if_pos (by omega), if_pos (by omega), if_pos (by omega)]
  simp only [Int.toNat_natCast]
  have hset : (l.set i ⟨(rd_T36 l (i : Int)).f0, 0, (rd_T36 l (i : Int)).f2⟩).set i ⟨(rd_T36 (l.set i ⟨(rd_T36 l (i : Int)).f0, 0, (rd_T36 l (i : Int)).f2⟩) (i : Int)).f0, (rd_T36 (l.set i ⟨(rd_T36 l (i : Int)).f0, 0, (rd_T36 l (i : Int)).f2⟩) (i : Int)).f1, false⟩ = outOf l i := by
    rw [rd_set l i i _ hi, if_pos rfl, List.set_set]
    rfl
  rw [hset]
  obtain ⟨K, rfl⟩ : ∃ J, K = J + 1 := ⟨K - 1, by omega⟩
  have hge := h0 _ (at_mem hi)
  rw [size_f (outOf l i) _ (by rw [outOf_len]; omega) (K + 1) (by omega)]
  simp only [Option.bind_some, crossbarref18_leave.j0]
  have hcf : cfAt l i = (rd_T36 l (i : Int)).f1 := rfl
  rcases lv_cases l i hi with ⟨e, hne⟩ | ⟨j, hj, hji, hn0, hcj, hu, e⟩
  · rw [e]
    by_cases hp : (rd_T36 l (i : Int)).f1 > 0
    · have := hne (by rw [hcf]; omega)
      rw [hcf] at this
      have hb : (((cnt (outOf l i) (rd_T36 l (i : Int)).f1 : Nat) : Int) == 1) = false := by
        rw [beq_eq_false_iff_ne]; omega
      rw [if_pos hp, hb, if_neg (by decide)]
    · rw [if_neg hp, if_neg (by decide)]
  · rw [e]
    have hp : (rd_T36 l (i : Int)).f1 > 0 := by rw [hcf] at hn0; omega
    have hu2 : ∀ q, q < (outOf l i).length → (cfAt (outOf l i) q = (rd_T36 l (i : Int)).f1 ↔ q = j) := by
      intro q hq
      rw [outOf_len] at hq
      unfold cfAt
      rw [rd_out l i q hq]
      by_cases eq : q = i
      · rw [if_pos eq]
        constructor
        · intro h; have : (0 : Int) = (rd_T36 l (i : Int)).f1 := h; omega
        · intro h; omega
      · rw [if_neg eq]
        constructor
        · intro h; exact hu q hq eq h
        · intro h; subst h; exact hcj
    have hone : cnt (outOf l i) (rd_T36 l (i : Int)).f1 = 1 := by
      rw [← mem_cnt]
      have : mem (outOf l i) (rd_T36 l (i : Int)).f1 = [j] := by
        unfold mem memTo
        refine filter_range _ (by rw [outOf_len]; exact hj) fun q hq => ?_
        rw [beq_iff_eq]
        exact hu2 q hq
      rw [this]; rfl
    rw [if_pos hp, hone, if_pos (by decide)]
    exact leave_one (outOf l i) _ (by rw [outOf_len]; omega) (by omega) j (by rw [outOf_len]; exact hj) hu2 _ 0 K rfl (Nat.zero_le _) (by rw [outOf_len]; omega)

theorem ok_ge {l : List S36} {nx : Int} (h : Ok l nx) : ∀ z ∈ l, 0 ≤ z.f1 := fun z hz => (h.leg z hz).c0
theorem lv_ge {l : List S36} {i : Nat} (hi : i < l.length) (h : ∀ z ∈ l, 0 ≤ z.f1) : ∀ z ∈ lv l i, 0 ≤ z.f1 := fun z hz => by
  rcases lv_mem hi hz with h2 | ⟨h2, _⟩
  · exact h z h2
  · omega
theorem edit_of {op : Does} {l : List S36} {nx e : Int} (h : checkE l nx = e) (he : e ≠ 0) : editF op l nx = ([], 0, e) := by
  unfold editF
  rw [h, if_pos he]
theorem add_l0 (l : List S36) (nx id : Int) (hl : l.length ≤ 1000) : ∀ (n i K : Nat), n = l.length - i → i ≤ pos l id → n < K → crossbarref18_Add.l0 K id (i : Int) l nx = some (ins l (pos l id) ⟨id, 0, false⟩, nx, 0) := by
  intro n
  have hple : pos l id ≤ l.length := by
    unfold pos; exact (List.takeWhile_sublist _).length_le
  have hend : ∀ (i : Nat), i = pos l id → ((some (l.take ((i : Int)).toNat : List (S36))).bind fun y251 => (if ([] : List (S36)).length + y251.length < 5864062014805 then ((some (([] : List (S36)) ++ y251 : List (S36))).bind fun y255 => (if y255.length < 5864062014805 then ((some (y255 ++ [(⟨id, 0, false⟩ : S36)] : List (S36))).bind fun y258 => ((some (l.drop ((i : Int)).toNat : List (S36))).bind fun y261 => (if y258.length + y261.length < 5864062014805 then (some ((y258 ++ y261), nx, (0 : Int))) else (none)))) else (none))) else (none))) = some (ins l (pos l id) ⟨id, 0, false⟩, nx, 0) := by
    intro i hi
    subst hi
    simp only [Option.bind_some, List.nil_append, List.length_nil, Nat.zero_add, Int.toNat_natCast, List.length_append, List.length_take, List.length_drop, List.length_cons]
    rw [if_pos (by omega), if_pos (by omega), if_pos (by omega)]
    simp [ins]
  obtain ⟨p1, p2⟩ := pos_spec l id
  induction n with
  | zero =>
    intro i K hn hi hK
    obtain ⟨K, rfl⟩ : ∃ J, K = J + 1 := ⟨K - 1, by omega⟩
    simp only [crossbarref18_Add.l0]
    rw [if_neg (by omega), if_pos (by omega), if_pos (by omega)]
    exact hend i (by omega)
  | succ n ih =>
    intro i K hn hi hK
    obtain ⟨K, rfl⟩ : ∃ J, K = J + 1 := ⟨K - 1, by omega⟩
    simp only [crossbarref18_Add.l0]
    rw [if_pos (by omega), if_pos (by omega)]
    by_cases e : i = pos l id
    · have := p2 _ (by rw [← e]; exact rd_at l i (by omega))
      rw [if_neg this, if_pos (by omega)]
      exact hend i e
    · have := p1 i _ (by omega) (rd_at l i (by omega))
      rw [if_pos this, w64 i (by omega)]
      exact ih (i + 1) K (by omega) (by omega) (by omega)
theorem fnd_there {l : List S36} (hs : Sorted l) (id : Int) : there l id = true ↔ fnd l id ≥ 0 := by
  constructor
  · intro h
    have hp : pos l id < l.length ∧ (rd_T36 l (pos l id : Int)).f0 = id := by
      unfold there at h
      simpa using h
    have hge := idx_ge (fun z => z.f0 == id) l
    refine Decidable.byContradiction fun hn => ?_
    have h2 := idx_neg (fun z => z.f0 == id) l (by unfold fnd at hn; omega) _ (at_mem hp.1)
    simp [hp.2] at h2
  · intro h
    obtain ⟨k, _, hk, he⟩ := fnd_some (show ¬ fnd l id < 0 by omega)
    exact found_there hs hk he
theorem refadd_f (l : List S36) (nx id : Int) (hl : l.length ≤ 1000) (K : Nat) (hK : 5000 ≤ K) : crossbarref18_Add.f K l nx id = some (editF (addOp id) l nx) := by
  unfold crossbarref18_Add.f
  rw [refcheck_f l nx hl K (by omega)]
  simp only [Option.bind_some]
  obtain ⟨K, rfl⟩ : ∃ J, K = J + 1 := ⟨K - 1, by omega⟩
  rcases checkE_01 l nx hl with hc | hc
  · have hok := ok_of_check hc
    rw [hc, if_pos rfl]
    simp only [crossbarref18_Add.j0, find_f l id (by omega) K (by omega), Option.bind_some, if_true]
    by_cases h1 : okId id = false
    · have e : addOp id l nx = (1, l, nx) := by unfold addOp; rw [if_pos h1]
      rw [editF_err hc e (by decide)]
      by_cases h2 : id < 0
      · rw [if_pos h2]
      · rw [if_neg h2, if_pos]
        unfold okId at h1
        simp at h1
        simp
        omega
    · have h1' : okId id = true := by simpa using h1
      have h2 : 0 ≤ id ∧ id ≤ 1099511627776 := by unfold okId at h1'; simpa using h1'
      rw [if_neg (by omega), if_neg (by simp; omega)]
      by_cases ht : there l id = true
      · have e : addOp id l nx = (180, l, nx) := by unfold addOp; rw [if_neg h1, if_pos ht]
        rw [editF_err hc e (by decide), if_pos ((fnd_there hok.s id).1 ht)]
      · have e : addOp id l nx = (0, ins l (pos l id) ⟨id, 0, false⟩, nx) := by unfold addOp; rw [if_neg h1, if_neg ht, if_neg (by omega)]
        rw [editF_ok hc e, if_neg (fun h => ht ((fnd_there hok.s id).2 h)), if_neg (by omega)]
        exact add_l0 l nx id hl _ 0 K rfl (Nat.zero_le _) (by omega)
  · rw [hc, if_neg (by decide), edit_of hc (by decide)]

theorem rm_cut {m : List S36} (hs : Sorted m) {k : Nat} (hk : k < m.length) {id : Int} (h : (rd_T36 m (k : Int)).f0 = id) : m.take k ++ m.drop (k + 1) = rm m id := by
  have e : m = m.take k ++ (rd_T36 m (k : Int) :: m.drop (k + 1)) := by rw [← drop_rd hk, List.take_append_drop]
  have hne : ∀ q, q < m.length → q ≠ k → (rd_T36 m (q : Int)).f0 ≠ id := fun q hq hqk h2 => hqk (sorted_inj hs hq hk (by rw [h2, h]))
  have e1 : (m.take k).filter (fun x => !(x.f0 == id)) = m.take k := by
    rw [List.filter_eq_self]
    intro z hz
    obtain ⟨q, hq⟩ := List.mem_iff_getElem?.1 hz
    have hq1 := (List.getElem?_eq_some_iff.1 hq).1
    rw [List.length_take] at hq1
    rw [List.getElem?_take] at hq
    rw [if_pos (by omega), rd_at m q (by omega)] at hq
    injection hq with hq
    have := hne q (by omega) (by omega)
    rw [hq] at this
    simpa using this
  have e2 : (m.drop (k + 1)).filter (fun x => !(x.f0 == id)) = m.drop (k + 1) := by
    rw [List.filter_eq_self]
    intro z hz
    obtain ⟨q, hq⟩ := List.mem_iff_getElem?.1 hz
    have hq1 := (List.getElem?_eq_some_iff.1 hq).1
    rw [List.length_drop] at hq1
    rw [List.getElem?_drop, rd_at m _ (by omega)] at hq
    injection hq with hq
    have := hne (k + 1 + q) (by omega) (by omega)
    rw [hq] at this
    simpa using this
  have : rm m id = rm (m.take k ++ (rd_T36 m (k : Int) :: m.drop (k + 1))) id := by rw [← e]
  rw [this]
  unfold rm
  rw [List.filter_append, List.filter_cons, h, e1, e2]
  simp
theorem refremove_f (l : List S36) (nx id : Int) (hl : l.length ≤ 1000) (K : Nat) (hK : 5000 ≤ K) : crossbarref18_Remove.f K l nx id = some (editF (removeOp id) l nx) := by
  unfold crossbarref18_Remove.f
  rw [refcheck_f l nx hl K (by omega)]
  simp only [Option.bind_some]
  rcases checkE_01 l nx hl with hc | hc
  · have hok := ok_of_check hc
    rw [hc, if_pos rfl, find_f l id (by omega) K (by omega)]
    simp only [Option.bind_some]
    by_cases h1 : fnd l id < 0
    · have e : removeOp id l nx = (180, l, nx) := by unfold removeOp; exact if_pos h1
      rw [editF_err hc e (by decide), if_pos h1]
    · obtain ⟨k, hk, hkl, hid⟩ := fnd_some h1
      have e : removeOp id l nx = (0, rm (lv l k) id, nx) := by
        unfold removeOp
        simp only
        rw [if_neg h1, hk, Int.toNat_natCast]
      rw [editF_ok hc e, if_neg h1, hk, leave_f l k hl hkl (ok_ge hok) K (by omega)]
      have hlen := lv_len l k
      simp only [Option.bind_some, List.nil_append, List.length_nil, Nat.zero_add, Int.toNat_natCast, w64 k (by omega), List.length_take, List.length_drop, lv_len]
      rw [if_pos (by omega), if_pos (by omega), if_pos (by omega), if_pos (by omega), if_pos (by omega), if_pos (by omega)]
      have hid2 : (rd_T36 (lv l k) (k : Int)).f0 = id := by rw [lv_rd hkl]; exact hid
      rw [rm_cut (lv_sorted hok.s k) (by omega) hid2]
  · rw [hc, if_neg (by decide), edit_of hc (by decide)]

theorem refconnect_f (l : List S36) (nx x y : Int) (hl : l.length ≤ 1000) (K : Nat) (hK : 5000 ≤ K) : crossbarref18_Connect.f K l nx x y = some (editF (connectOp x y) l nx) := by
  unfold crossbarref18_Connect.f
  rw [refcheck_f l nx hl K (by omega)]
  simp only [Option.bind_some]
  obtain ⟨K, rfl⟩ : ∃ J, K = J + 1 := ⟨K - 1, by omega⟩
  rcases checkE_01 l nx hl with hc | hc
  · have hok := ok_of_check hc
    rw [hc, if_pos rfl, find_f l x (by omega) (K + 1) (by omega), find_f l y (by omega) (K + 1) (by omega)]
    simp only [Option.bind_some, crossbarref18_Connect.j0, if_true]
    by_cases h1 : fnd l x < 0
    · have e : connectOp x y l nx = (180, l, nx) := by unfold connectOp; exact if_pos (.inl h1)
      rw [editF_err hc e (by decide), if_pos h1]
    by_cases h2 : fnd l y < 0
    · have e : connectOp x y l nx = (180, l, nx) := by unfold connectOp; exact if_pos (.inr (.inl h2))
      rw [editF_err hc e (by decide), if_neg h1, if_pos h2]
    rw [if_neg h1, if_neg h2]
    obtain ⟨i, hi, hil, hxi⟩ := fnd_some h1
    obtain ⟨k, hk, hkl, hyk⟩ := fnd_some h2
    by_cases h3 : x = y
    · have e : connectOp x y l nx = (180, l, nx) := by unfold connectOp; exact if_pos (.inr (.inr (by rw [h3])))
      rw [editF_err hc e (by decide), if_pos (by simpa using h3)]
    rw [if_neg (by simpa using h3)]
    have hik : i ≠ k := fun e => by subst e; exact h3 (hxi.symm.trans hyk)
    have hcond : ¬ (fnd l x < 0 ∨ fnd l y < 0 ∨ fnd l x = fnd l y) := by rw [hi, hk]; omega
    by_cases h4 : nx = 1099511627776
    · have e : connectOp x y l nx = (2, l, nx) := by unfold connectOp; simp only; rw [if_neg hcond, if_pos h4]
      rw [editF_err hc e (by decide), if_pos h4]
    have e : connectOp x y l nx = (0, setCf (setCf (lv (lv l i) k) i nx) k nx, nx + 1) := by
      unfold connectOp
      simp only
      rw [if_neg hcond, if_neg h4, hi, hk, Int.toNat_natCast, Int.toNat_natCast]
    rw [editF_ok hc e, if_neg h4, hi, hk, leave_f l i hl hil (ok_ge hok) K (by omega)]
    simp only [Option.bind_some]
    rw [leave_f (lv l i) k (by rw [lv_len]; omega) (by rw [lv_len]; exact hkl) (lv_ge hil (ok_ge hok)) K (by omega)]
    simp only [Option.bind_some, lv_len, Int.toNat_natCast]
    rw [if_pos (by omega), if_pos (by omega), if_pos (by omega), if_pos (by omega)]
    have hw : wrap64 (nx + 1) = nx + 1 := by
      have := hok.n1; have := hok.n2
      unfold wrap64; omega
    rw [hw]
    rfl
  · rw [hc, if_neg (by decide), edit_of hc (by decide)]

theorem merge_l0 (l : List S36) (nx : Int) (i k : Nat) (hi : i < l.length) (hk : k < l.length) (hl : l.length ≤ 1000) : ∀ (n j K : Nat), n = l.length - j → j ≤ l.length → n < K →
    crossbarref18_Merge.l0 K (i : Int) (k : Int) (mvTo l (rd_T36 l (k : Int)).f1 (rd_T36 l (i : Int)).f1 j) (j : Int) l nx = some (moveTo l (rd_T36 l (k : Int)).f1 (rd_T36 l (i : Int)).f1, nx, 0) := by
  intro n
  induction n with
  | zero =>
    intro j K hn hj hK
    obtain ⟨K, rfl⟩ : ∃ J, K = J + 1 := ⟨K - 1, by omega⟩
    simp only [crossbarref18_Merge.l0, mvTo_len]
    rw [if_neg (by omega), show j = l.length by omega, mvTo_all]
  | succ n ih =>
    intro j K hn hj hK
    obtain ⟨K, rfl⟩ : ∃ J, K = J + 1 := ⟨K - 1, by omega⟩
    simp only [crossbarref18_Merge.l0, mvTo_len]
    have a1 : (j : Int) < (l.length : Int) := by omega
    have a2 : 0 ≤ (j : Int) := by omega
    have a3 : (k : Int) < (l.length : Int) := by omega
    have a4 : 0 ≤ (k : Int) := by omega
    have a5 : (i : Int) < (l.length : Int) := by omega
    have a6 : 0 ≤ (i : Int) := by omega
    simp only [if_pos a1, if_pos a2, if_pos a3, if_pos a4, if_pos a5, if_pos a6, w64 j (by omega)]
    by_cases e : (rd_T36 l (j : Int)).f1 = (rd_T36 l (k : Int)).f1
    · rw [if_pos e, Int.toNat_natCast]
      have h1 := mvTo_get l (rd_T36 l (k : Int)).f1 (rd_T36 l (i : Int)).f1 j j _ (rd_at l j (by omega))
      rw [if_neg (by omega)] at h1
      have h2 : rd_T36 (mvTo l (rd_T36 l (k : Int)).f1 (rd_T36 l (i : Int)).f1 j) (j : Int) = rd_T36 l (j : Int) := by
        have := rd_at (mvTo l (rd_T36 l (k : Int)).f1 (rd_T36 l (i : Int)).f1 j) j (by rw [mvTo_len]; omega)
        rw [h1] at this
        injection this with this
        exact this.symm
      rw [h2, mvTo_step l _ _ j _ (rd_at l j (by omega)) e]
      exact ih (j + 1) K (by omega) (by omega) (by omega)
    · rw [if_neg e, ← mvTo_same l _ _ j _ (rd_at l j (by omega)) e]
      exact ih (j + 1) K (by omega) (by omega) (by omega)
theorem refmerge_f (l : List S36) (nx x y : Int) (hl : l.length ≤ 1000) (K : Nat) (hK : 5000 ≤ K) : crossbarref18_Merge.f K l nx x y = some (editF (mergeOp x y) l nx) := by
  unfold crossbarref18_Merge.f
  rw [refcheck_f l nx hl K (by omega)]
  simp only [Option.bind_some]
  obtain ⟨K, rfl⟩ : ∃ J, K = J + 1 := ⟨K - 1, by omega⟩
  rcases checkE_01 l nx hl with hc | hc
  · rw [hc, if_pos rfl, find_f l x (by omega) (K + 1) (by omega), find_f l y (by omega) (K + 1) (by omega)]
    simp only [Option.bind_some, crossbarref18_Merge.j0, if_true, List.nil_append, List.length_nil, Nat.zero_add]
    by_cases h1 : fnd l x < 0
    · have e : mergeOp x y l nx = (180, l, nx) := by unfold mergeOp; exact if_pos (.inl h1)
      rw [editF_err hc e (by decide), if_pos h1]
    by_cases h2 : fnd l y < 0
    · have e : mergeOp x y l nx = (180, l, nx) := by unfold mergeOp; exact if_pos (.inr (.inl h2))
      rw [editF_err hc e (by decide), if_neg h1, if_pos h2]
    rw [if_neg h1, if_neg h2]
    obtain ⟨i, hi, hil, hxi⟩ := fnd_some h1
    obtain ⟨k, hk, hkl, hyk⟩ := fnd_some h2
    have a1 : fnd l x < (l.length : Int) := by omega
    have a2 : 0 ≤ fnd l x := by omega
    have a3 : fnd l y < (l.length : Int) := by omega
    have a4 : 0 ≤ fnd l y := by omega
    simp only [if_pos a1, if_pos a2, if_pos a3, if_pos a4]
    by_cases h3 : (rd_T36 l (fnd l x)).f1 = 0
    · have e : mergeOp x y l nx = (180, l, nx) := by unfold mergeOp; exact if_pos (.inr (.inr (.inl h3)))
      rw [editF_err hc e (by decide), if_pos h3]
    by_cases h4 : (rd_T36 l (fnd l y)).f1 = 0
    · have e : mergeOp x y l nx = (180, l, nx) := by unfold mergeOp; exact if_pos (.inr (.inr (.inr (.inl h4))))
      rw [editF_err hc e (by decide), if_neg h3, if_pos h4]
    by_cases h5 : (rd_T36 l (fnd l x)).f1 = (rd_T36 l (fnd l y)).f1
    · have e : mergeOp x y l nx = (180, l, nx) := by unfold mergeOp; exact if_pos (.inr (.inr (.inr (.inr h5))))
      rw [editF_err hc e (by decide), if_neg h3, if_neg h4, if_pos (by simpa using h5)]
    have e : mergeOp x y l nx = (0, moveTo l (rd_T36 l (fnd l y)).f1 (rd_T36 l (fnd l x)).f1, nx) := by
      unfold mergeOp
      exact if_neg (by rintro (h | h | h | h | h) <;> contradiction)
    rw [editF_ok hc e, if_neg h3, if_neg h4, if_neg (by simpa using h5), if_pos (by omega), hi, hk]
    have := merge_l0 l nx i k hil hkl hl _ 0 K rfl (Nat.zero_le _) (by omega)
    rw [mvTo_zero] at this
    exact this
  · rw [hc, if_neg (by decide), edit_of hc (by decide)]

theorem refhold_f (l : List S36) (nx x : Int) (on : Bool) (hl : l.length ≤ 1000) (K : Nat) (hK : 5000 ≤ K) : crossbarref18_Hold.f K l nx x on = some (editF (holdOp x on) l nx) := by
  unfold crossbarref18_Hold.f
  rw [refcheck_f l nx hl K (by omega)]
  simp only [Option.bind_some]
  rcases checkE_01 l nx hl with hc | hc
  · rw [hc, if_pos rfl, find_f l x (by omega) K (by omega)]
    simp only [Option.bind_some, List.nil_append, List.length_nil, Nat.zero_add]
    by_cases h1 : fnd l x < 0
    · have e : holdOp x on l nx = (180, l, nx) := by unfold holdOp; exact if_pos (.inl h1)
      rw [editF_err hc e (by decide), if_pos h1]
    obtain ⟨i, hi, hil, hxi⟩ := fnd_some h1
    rw [if_neg h1, if_pos (by omega), if_pos (by omega)]
    by_cases h3 : (rd_T36 l (fnd l x)).f1 = 0
    · have e : holdOp x on l nx = (180, l, nx) := by unfold holdOp; exact if_pos (.inr (.inl h3))
      rw [editF_err hc e (by decide), if_pos h3]
    by_cases h4 : (rd_T36 l (fnd l x)).f2 = on
    · have e : holdOp x on l nx = (180, l, nx) := by unfold holdOp; exact if_pos (.inr (.inr h4))
      rw [editF_err hc e (by decide), if_neg h3, if_pos (by simpa using h4)]
    have e : holdOp x on l nx = (0, l.set (fnd l x).toNat ⟨(rd_T36 l (fnd l x)).f0, (rd_T36 l (fnd l x)).f1, on⟩, nx) := by
      unfold holdOp
      exact if_neg (by rintro (h | h | h) <;> contradiction)
    rw [editF_ok hc e, if_neg h3, if_neg (by simpa using h4), if_pos (by omega), if_pos (by omega)]
  · rw [hc, if_neg (by decide), edit_of hc (by decide)]

theorem refhears_l0 (l : List S36) (nx : Int) (i : Nat) (hi : i < l.length) (hl : l.length ≤ 1000) : ∀ (n j K : Nat), n = l.length - j → j ≤ l.length → n < K →
    crossbarref18_Hears.l0 K (i : Int) (hTo l i j) (j : Int) l nx = some (hTo l i l.length) := by
  intro n
  induction n with
  | zero =>
    intro j K hn hj hK
    obtain ⟨K, rfl⟩ : ∃ J, K = J + 1 := ⟨K - 1, by omega⟩
    simp only [crossbarref18_Hears.l0]
    rw [if_neg (by omega), show j = l.length by omega]
  | succ n ih =>
    intro j K hn hj hK
    obtain ⟨K, rfl⟩ : ∃ J, K = J + 1 := ⟨K - 1, by omega⟩
    have hr := ih (j + 1) K (by omega) (by omega) (by omega)
    rw [hTo_succ] at hr
    have hlen : (hTo l i j).length ≤ j := by
      unfold hTo
      rw [List.length_map]
      refine Nat.le_trans (List.length_filter_le _ _) ?_
      rw [List.length_range]; exact Nat.le_refl _
    simp only [crossbarref18_Hears.l0]
    rw [if_pos (by omega), w64 j (by omega)]
    by_cases e : (j : Int) = (i : Int)
    · rw [if_pos e]
      rw [if_neg (by rintro ⟨_, h, _⟩; omega), List.append_nil] at hr
      exact hr
    rw [if_neg e, if_pos (by omega), if_pos (by omega), if_pos (by omega)]
    by_cases h1 : (rd_T36 l (j : Int)).f1 = (rd_T36 l (i : Int)).f1
    · rw [if_pos h1]
      by_cases h2 : (rd_T36 l (j : Int)).f2 = true
      · rw [if_pos h2]
        rw [if_neg (by rintro ⟨_, _, h⟩; rw [h2] at h; cases h), List.append_nil] at hr
        exact hr
      · rw [if_neg h2, if_pos (by omega)]
        rw [if_pos ⟨h1, by omega, by simpa using h2⟩] at hr
        exact hr
    · rw [if_neg h1]
      rw [if_neg (by rintro ⟨h, _⟩; exact h1 h), List.append_nil] at hr
      exact hr
theorem refhears_f (l : List S36) (nx x : Int) (hl : l.length ≤ 1000) (K : Nat) (hK : 5000 ≤ K) : crossbarref18_Hears.f K l nx x = some (hearsL l x) := by
  unfold crossbarref18_Hears.f
  obtain ⟨K, rfl⟩ : ∃ J, K = J + 1 := ⟨K - 1, by omega⟩
  rw [find_f l x (by omega) (K + 1) (by omega)]
  simp only [Option.bind_some, crossbarref18_Hears.j0, if_true]
  unfold hearsL
  simp only [at_]
  by_cases h1 : fnd l x < 0
  · rw [if_pos h1, if_pos (.inl h1)]
  obtain ⟨i, hi, hil, hxi⟩ := fnd_some h1
  rw [if_neg h1, if_pos (by omega), if_pos (by omega)]
  by_cases h2 : (rd_T36 l (fnd l x)).f1 = 0
  · rw [if_pos h2, if_pos (.inr (.inl h2))]
  rw [if_neg h2]
  by_cases h3 : (rd_T36 l (fnd l x)).f2 = true
  · rw [if_pos h3, if_pos (.inr (.inr h3))]
  rw [if_neg h3, if_neg (by rintro (h | h | h) <;> contradiction), hi, Int.toNat_natCast]
  have := refhears_l0 l nx i hil hl _ 0 K rfl (Nat.zero_le _) (by omega)
  exact this
end Go.Proofs.Ytmjenmhidnkbdaa.P
