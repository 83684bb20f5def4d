/- Plain laws of bridges. -/
import Derived.Test.YtmjenmhidnkbdaaPx2
import Derived.Test.YtmjenmhidnkbdaaPs
import Derived.Test.YtmjenmhidnkbdaaPx0
import Derived.Test.YtmjenmhidnkbdaaHd
import Derived.Test.YtmjenmhidnkbdaaSane
/- Plain laws of the bridge: who hears whom. -/
namespace Go.Proofs.Ytmjenmhidnkbdaa.P
open Go.RowKit Go.Proofs.YtmjenmhidnkbdaaW.PrintWords Go.Proofs.YtmjenmhidnkbdaaW.PrintLast Go.Proofs.YtmjenmhidnkbdaaW.PrintMore
set_option linter.unusedVariables false
set_option linter.unusedSimpArgs false

theorem w64 (i : Nat) (h : i ≤ 100000) : wrap64 ((i : Int) + 1) = ((i + 1 : Nat) : Int) := by unfold wrap64; omega

theorem hearsL_len (l : List S36) (x : Int) : (hearsL l x).length ≤ l.length := by
  unfold hearsL
  simp only
  split
  · simp
  · exact hTo_len _ _ _

/-- Whether a leg hears another. -/
def hb (l : List S36) (x y : Int) : Bool := decide (y ∈ hearsL l x)
theorem idx_neg (p : S36 → Bool) (l : List S36) (h : idx p l < 0) : ∀ x ∈ l, p x = false := by
  induction l with
  | nil => simp
  | cons x l ih =>
    intro y hy
    by_cases hp : p x = true
    · simp [idx, hp] at h
    · have hp' : p x = false := by simpa using hp
      have e : idx p (x :: l) = if idx p l < 0 then -1 else idx p l + 1 := by simp [idx, hp']
      rcases List.mem_cons.1 hy with rfl | hy
      · exact hp'
      · refine ih ?_ y hy
        by_cases h0 : idx p l < 0
        · exact h0
        · rw [e, if_neg h0] at h; omega

/-- Two legs hear each other. -/
def Hr (l : List S36) (x y : Int) : Prop := ∃ a ∈ l, ∃ b ∈ l, a.f0 = x ∧ b.f0 = y ∧ a.f1 = b.f1 ∧ a.f1 ≠ 0 ∧ a.f2 = false ∧ b.f2 = false ∧ x ≠ y
theorem Hr.symm {l : List S36} {x y : Int} : Hr l x y → Hr l y x := fun ⟨a, ha, b, hb, h1, h2, h3, h4, h5, h6, h7⟩ => ⟨b, hb, a, ha, h2, h1, h3.symm, by rw [← h3]; exact h4, h6, h5, fun e => h7 e.symm⟩

theorem mem_at {l : List S36} {a : S36} (h : a ∈ l) : ∃ j, j < l.length ∧ rd_T36 l (j : Int) = a := by
  obtain ⟨j, hj⟩ := List.mem_iff_getElem?.1 h
  have hl := (List.getElem?_eq_some_iff.1 hj).1
  refine ⟨j, hl, ?_⟩
  rw [rd_at l j hl] at hj
  injection hj
theorem at_mem {l : List S36} {j : Nat} (h : j < l.length) : rd_T36 l (j : Int) ∈ l := List.mem_iff_getElem?.2 ⟨j, rd_at l j h⟩
theorem sorted_inj {l : List S36} (hs : Sorted l) {i j : Nat} (hi : i < l.length) (hj : j < l.length) (h : (rd_T36 l (i : Int)).f0 = (rd_T36 l (j : Int)).f0) : i = j := by
  rcases Nat.lt_trichotomy i j with h1 | h1 | h1
  · have := pair_lt hs h1 (rd_at l i hi) (rd_at l j hj); omega
  · exact h1
  · have := pair_lt hs h1 (rd_at l j hj) (rd_at l i hi); omega

theorem fnd_some {l : List S36} {x : Int} (h : ¬ fnd l x < 0) : ∃ k : Nat, fnd l x = k ∧ k < l.length ∧ (rd_T36 l (k : Int)).f0 = x := by
  have h0 : 0 ≤ fnd l x := by omega
  obtain ⟨z, hz, hp, _⟩ := idx_spec (fun z => z.f0 == x) l h0
  change l[(fnd l x).toNat]? = some z at hz
  have hl := (List.getElem?_eq_some_iff.1 hz).1
  refine ⟨(fnd l x).toNat, by omega, hl, ?_⟩
  rw [rd_at l _ hl] at hz
  injection hz with hz
  rw [hz]
  simpa using hp

end Go.Proofs.Ytmjenmhidnkbdaa.P

/- Plain laws: what the printed loops over pairs of legs tell. -/
namespace Go.Proofs.Ytmjenmhidnkbdaa.P
open Go.RowKit Go.Proofs.YtmjenmhidnkbdaaW.PrintWords Go.Proofs.YtmjenmhidnkbdaaW.PrintLast Go.Proofs.YtmjenmhidnkbdaaW.PrintMore
set_option linter.unusedVariables false
set_option linter.unusedSimpArgs false

theorem same_l (a : List S36) (na nb : Int) (ha : a.length ≤ 2000) : ∀ (K i : Nat), i ≤ a.length → a.length - i < K → crossbarref18_Same.l0 K (i : Int) a na a nb = some true := by
  intro K
  induction K with
  | zero => intro i _ h; omega
  | succ K ih =>
    intro i hi hK
    simp only [crossbarref18_Same.l0]
    by_cases hlt : i < a.length
    · rw [if_pos (by omega), if_pos (by omega), if_pos (by omega), w64 i (by omega)]
      simp only [beq_self_eq_true, Bool.not_true, Bool.or_self, Bool.false_eq_true, if_false]
      exact ih (i + 1) (by omega) (by omega)
    · rw [if_neg (by omega)]
theorem same_f (a : List S36) (na : Int) (ha : a.length ≤ 2000) (K : Nat) (hK : 2002 < K) : crossbarref18_Same.f K a na a na = some true := by
  obtain ⟨k, rfl⟩ : ∃ k, K = k + 1 := ⟨K - 1, by omega⟩
  unfold crossbarref18_Same.f
  rw [if_pos rfl]
  simp only [bne_self_eq_false, crossbarref18_Same.j0, Bool.false_eq_true, if_false]
  exact same_l a na na ha k 0 (by omega) (by omega)
end Go.Proofs.Ytmjenmhidnkbdaa.P

/- Plain laws: what a bridge that passes its check is; what keeps it so. -/
namespace Go.Proofs.Ytmjenmhidnkbdaa.P
open Go.RowKit Go.Proofs.YtmjenmhidnkbdaaW.PrintWords Go.Proofs.YtmjenmhidnkbdaaW.PrintLast Go.Proofs.YtmjenmhidnkbdaaW.PrintMore
set_option linter.unusedVariables false
set_option linter.unusedSimpArgs false

/-- One leg is right. -/
structure LegOk (nx : Int) (z : S36) : Prop where
  id : okId z.f0 = true
  c0 : 0 ≤ z.f1
  c1 : z.f1 < nx
  h : z.f1 = 0 → z.f2 = false
/-- A bridge is right. -/
structure Ok (l : List S36) (nx : Int) : Prop where
  n1 : 1 ≤ nx
  n2 : nx ≤ 1099511627776
  s : Sorted l
  leg : ∀ z ∈ l, LegOk nx z
  two : ∀ z ∈ l, 0 < z.f1 → 2 ≤ cnt l z.f1
  len : l.length ≤ 1024

theorem okLeg_iff (nx last : Int) (z : S36) : okLeg nx last z = true ↔ LegOk nx z ∧ last < z.f0 := by
  unfold okLeg
  simp only [Bool.and_eq_true, decide_eq_true_eq, Bool.not_eq_true']
  constructor
  · rintro ⟨⟨⟨⟨h1, h2⟩, h3⟩, h4⟩, h5⟩
    refine ⟨⟨h1, h3, h4, fun e => ?_⟩, h2⟩
    simpa [e] using h5
  · rintro ⟨⟨h1, h3, h4, h5⟩, h2⟩
    refine ⟨⟨⟨⟨h1, h2⟩, h3⟩, h4⟩, ?_⟩
    by_cases e : z.f1 = 0
    · simp [e, h5 e]
    · simp [e]
theorem scan_iff (nx : Int) (l : List S36) : ∀ last, scan nx last l = true ↔ (∀ z ∈ l, LegOk nx z ∧ last < z.f0) ∧ Sorted l := by
  induction l with
  | nil => intro last; simp [scan, Sorted]
  | cons x l ih =>
    intro last
    simp only [scan, Bool.and_eq_true, okLeg_iff, ih]
    constructor
    · rintro ⟨⟨h1, h2⟩, h3, h4⟩
      refine ⟨fun z hz => ?_, List.Pairwise.cons (fun z hz => (h3 z hz).2) h4⟩
      rcases List.mem_cons.1 hz with rfl | hz
      · exact ⟨h1, h2⟩
      · exact ⟨(h3 z hz).1, by have := (h3 z hz).2; omega⟩
    · rintro ⟨h1, h2⟩
      obtain ⟨h3, h4⟩ := List.pairwise_cons.1 h2
      exact ⟨h1 x (by simp), fun z hz => ⟨(h1 z (by simp [hz])).1, h3 z hz⟩, h4⟩
theorem ok_of_check {l : List S36} {nx : Int} (h : checkE l nx = 0) : Ok l nx := by
  unfold checkE at h
  split at h
  · cases h
  · rename_i h1
    split at h
    · cases h
    · rename_i h2
      split at h
      · cases h
      · rename_i h3
        split at h
        · cases h
        · rename_i h4
          have h2' : scan nx (-1) l = true := by simpa using h2
          obtain ⟨a, b⟩ := (scan_iff nx l (-1)).1 h2'
          refine ⟨by omega, by omega, b, fun z hz => (a z hz).1, fun z hz h0 => ?_, by omega⟩
          refine Classical.byContradiction fun hc => h3 ?_
          exact List.any_eq_true.2 ⟨z, hz, by simp [h0]; omega⟩
theorem editF_ok {op : Does} {l m : List S36} {nx n : Int} (hc : checkE l nx = 0) (h : op l nx = (0, m, n)) : editF op l nx = (m, n, 0) := by
  unfold editF
  rw [if_neg (by rw [hc]; simp), h]
  rfl
theorem editF_err {op : Does} {l m : List S36} {nx n e : Int} (hc : checkE l nx = 0) (h : op l nx = (e, m, n)) (he : e ≠ 0) : editF op l nx = ([], 0, e) := by
  unfold editF
  rw [if_neg (by rw [hc]; simp), h]
  exact if_pos he
/-! ### who hears whom, elsewhere -/
/-- Legs but x and y are the same, or lose a conference in which they were alone but for these. -/
structure Frame (a b : List S36) (x y : Int) : Prop where
  fwd : ∀ z ∈ a, z.f0 ≠ x → z.f0 ≠ y → z ∈ b ∨ ∀ w ∈ a, w.f0 ≠ x → w.f0 ≠ y → w.f1 = z.f1 → w.f0 = z.f0
  bwd : ∀ z ∈ b, z.f0 ≠ x → z.f0 ≠ y → z ∈ a ∨ z.f1 = 0
theorem Frame.hr {a b : List S36} {x y p q : Int} (h : Frame a b x y) (h1 : p ≠ x) (h2 : p ≠ y) (h3 : q ≠ x) (h4 : q ≠ y) : Hr a p q ↔ Hr b p q := by
  constructor
  · rintro ⟨u, hu, v, hv, rfl, rfl, e, e0, k1, k2, hne⟩
    rcases h.fwd u hu h1 h2 with hu' | hd
    · rcases h.fwd v hv h3 h4 with hv' | hd
      · exact ⟨u, hu', v, hv', rfl, rfl, e, e0, k1, k2, hne⟩
      · exact absurd (hd u hu h1 h2 e) hne
    · exact absurd (hd v hv h3 h4 e.symm).symm hne
  · rintro ⟨u, hu, v, hv, rfl, rfl, e, e0, k1, k2, hne⟩
    rcases h.bwd u hu h1 h2 with hu' | hd
    · rcases h.bwd v hv h3 h4 with hv' | hd
      · exact ⟨u, hu', v, hv', rfl, rfl, e, e0, k1, k2, hne⟩
      · exact absurd (e.trans hd) e0
    · exact absurd hd e0
/-! ### one leg turned -/
theorem ids_sorted {a b : List S36} (h : ids a = ids b) (ha : Sorted a) : Sorted b := by
  unfold Sorted at ha ⊢
  rw [← List.pairwise_map (f := S36.f0) (R := fun x y : Int => x < y)] at ha ⊢
  have : a.map S36.f0 = b.map S36.f0 := h
  rw [← this]
  exact ha
theorem mem_set {l : List S36} {i : Nat} {z w : S36} (h : w ∈ l.set i z) : w = z ∨ ∃ q, q ≠ i ∧ l[q]? = some w := by
  obtain ⟨q, hq⟩ := List.mem_iff_getElem?.1 h
  by_cases e : i = q
  · subst e
    rw [List.getElem?_set] at hq
    split at hq
    · split at hq
      · injection hq with hq; exact .inl hq.symm
      · cases hq
    · exact absurd rfl (by assumption)
  · rw [List.getElem?_set_ne e] at hq
    exact .inr ⟨q, fun e2 => e e2.symm, hq⟩
end Go.Proofs.Ytmjenmhidnkbdaa.P

/- Plain laws: what leaving a conference does. -/
namespace Go.Proofs.Ytmjenmhidnkbdaa.P
open Go.RowKit Go.Proofs.YtmjenmhidnkbdaaW.PrintWords Go.Proofs.YtmjenmhidnkbdaaW.PrintLast Go.Proofs.YtmjenmhidnkbdaaW.PrintMore
set_option linter.unusedVariables false
set_option linter.unusedSimpArgs false

theorem rd_set (l : List S36) (i q : Nat) (z : S36) (hq : q < l.length) : rd_T36 (l.set i z) (q : Int) = if q = i then z else rd_T36 l (q : Int) := by
  have h1 := rd_at (l.set i z) q (by rw [List.length_set]; exact hq)
  by_cases e : q = i
  · subst e
    rw [List.getElem?_set_self hq] at h1
    injection h1 with h1
    rw [if_pos rfl, ← h1]
  · rw [List.getElem?_set_ne (fun e2 => e e2.symm), rd_at l q hq] at h1
    injection h1 with h1
    rw [if_neg e, ← h1]
theorem rd_out (l : List S36) (i q : Nat) (hq : q < l.length) : rd_T36 (outOf l i) (q : Int) = if q = i then ⟨(rd_T36 l (i : Int)).f0, 0, false⟩ else rd_T36 l (q : Int) := rd_set l i q _ hq

theorem memTo_cnt (l : List S36) (c : Int) : ∀ n, n ≤ l.length → (memTo l c n).length = cnt (l.take n) c := by
  intro n
  induction n with
  | zero => intro _; simp [memTo, cnt]
  | succ n ih =>
    intro hn
    rw [memTo_succ, cnt_succ l n _ c (rd_at l n (by omega)), List.length_append, ih (by omega)]
    have : cfAt l n = (rd_T36 l (n : Int)).f1 := rfl
    rw [this]
    by_cases e : (rd_T36 l (n : Int)).f1 = c <;> simp [e]
theorem mem_cnt (l : List S36) (c : Int) : (mem l c).length = cnt l c := by
  unfold mem
  rw [memTo_cnt l c l.length (Nat.le_refl _), List.take_length]
theorem mem_iff (l : List S36) (c : Int) (q : Nat) : q ∈ mem l c ↔ q < l.length ∧ cfAt l q = c := by
  simp [mem, memTo]

/-- What leaving makes. -/
theorem lv_cases (l : List S36) (i : Nat) (hi : i < l.length) :
    (lv l i = outOf l i ∧ (cfAt l i ≠ 0 → cnt (outOf l i) (cfAt l i) ≠ 1)) ∨
    (∃ j, j < l.length ∧ j ≠ i ∧ cfAt l i ≠ 0 ∧ cfAt l j = cfAt l i ∧ (∀ q, q < l.length → q ≠ i → cfAt l q = cfAt l i → q = j) ∧ lv l i = outOf (outOf l i) j) := by
  have hcf : ∀ q, q < l.length → cfAt (outOf l i) q = if q = i then 0 else cfAt l q := by
    intro q hq
    unfold cfAt
    rw [rd_out l i q hq]
    split <;> rfl
  by_cases h0 : cfAt l i = 0
  · left
    refine ⟨?_, fun h => absurd h0 h⟩
    unfold lv
    rw [if_pos h0]
  · have hlv : lv l i = match mem (outOf l i) (cfAt l i) with | [j] => outOf (outOf l i) j | _ => outOf l i := by
      unfold lv
      rw [if_neg h0]
      rfl
    have hc := mem_cnt (outOf l i) (cfAt l i)
    have hm := mem_iff (outOf l i) (cfAt l i)
    rw [outOf_len] at hm
    generalize mem (outOf l i) (cfAt l i) = M at *
    match M, hlv, hc, hm with
    | [], hlv, hc, hm => exact .inl ⟨hlv, fun _ e => by rw [e] at hc; simp at hc⟩
    | a :: b :: M, hlv, hc, hm => exact .inl ⟨hlv, fun _ e => by rw [e] at hc; simp at hc⟩
    | [j], hlv, hc, hm =>
      right
      obtain ⟨hj, hcj⟩ := (hm j).1 (by simp)
      rw [hcf j hj] at hcj
      have hji : j ≠ i := fun e => by rw [if_pos e] at hcj; exact h0 hcj.symm
      rw [if_neg hji] at hcj
      refine ⟨j, hj, hji, h0, hcj, fun q hq hqi hqc => ?_, hlv⟩
      have : q ∈ [j] := (hm q).2 ⟨hq, by rw [hcf q hq, if_neg hqi]; exact hqc⟩
      simpa using this

theorem lv_sorted {l : List S36} (hs : Sorted l) (i : Nat) : Sorted (lv l i) := ids_sorted (ids_lv l i).symm hs
/-- The leg that left; a leg that was in no conference. -/
theorem lv_rd {l : List S36} {i : Nat} (hi : i < l.length) : rd_T36 (lv l i) (i : Int) = ⟨(rd_T36 l (i : Int)).f0, 0, false⟩ := by
  rcases lv_cases l i hi with ⟨e, _⟩ | ⟨j, hj, hji, _, _, _, e⟩
  · rw [e, rd_out l i i hi, if_pos rfl]
  · rw [e, rd_out (outOf l i) j i (by rw [outOf_len]; exact hi), if_neg (fun e2 => hji e2.symm), rd_out l i i hi, if_pos rfl]
/-- Every leg's conference: as it was, or none. -/
theorem lv_mem {l : List S36} {i : Nat} (hi : i < l.length) {z : S36} (hz : z ∈ lv l i) : z ∈ l ∨ (z.f1 = 0 ∧ z.f2 = false ∧ ∃ w ∈ l, w.f0 = z.f0) := by
  rcases lv_cases l i hi with ⟨e, _⟩ | ⟨j, hj, hji, hc, hcj, _, e⟩
  · rw [e] at hz
    rcases mem_set hz with rfl | ⟨q, _, hq⟩
    · exact .inr ⟨rfl, rfl, _, at_mem hi, rfl⟩
    · exact .inl (List.mem_iff_getElem?.2 ⟨q, hq⟩)
  · rw [e] at hz
    rcases mem_set hz with rfl | ⟨q, _, hq⟩
    · exact .inr ⟨rfl, rfl, _, at_mem hj, by rw [rd_out l i j hj, if_neg hji]⟩
    · have hq2 := (List.getElem?_eq_some_iff.1 hq).1
      rw [outOf_len] at hq2
      have h3 := rd_at (outOf l i) q (by rw [outOf_len]; exact hq2)
      rw [hq] at h3
      injection h3 with h3
      rw [rd_out l i q hq2] at h3
      split at h3
      · subst h3; exact .inr ⟨rfl, rfl, _, at_mem hi, rfl⟩
      · rw [h3]; exact .inl (at_mem hq2)

theorem Frame.trans {a b c : List S36} {x y : Int} (h : Frame a b x x) (k : Frame b c y y) : Frame a c x y := by
  refine ⟨fun z hz h1 h2 => ?_, fun z hz h1 h2 => ?_⟩
  · rcases h.fwd z hz h1 h1 with hz' | hal
    · rcases k.fwd z hz' h2 h2 with hz'' | hal
      · exact .inl hz''
      · refine .inr fun w hw w1 w2 hc => ?_
        rcases h.fwd w hw w1 w1 with hw' | hal2
        · exact hal w hw' w2 w2 hc
        · exact (hal2 z hz h1 h1 hc.symm).symm
    · exact .inr fun w hw w1 _ hc => hal w hw w1 w1 hc
  · rcases k.bwd z hz h2 h2 with hz' | h0
    · exact h.bwd z hz' h1 h1
    · exact .inr h0
theorem Frame.same {a b c : List S36} {x y : Int} (h : Frame a b x y) (k : ∀ z : S36, z.f0 ≠ x → z.f0 ≠ y → (z ∈ b ↔ z ∈ c)) : Frame a c x y :=
  ⟨fun z hz h1 h2 => (h.fwd z hz h1 h2).imp (fun hz => (k z h1 h2).1 hz) id, fun z hz h1 h2 => h.bwd z ((k z h1 h2).2 hz) h1 h2⟩

theorem filter_range {n j : Nat} (P : Nat → Bool) (hj : j < n) (hP : ∀ q, q < n → (P q = true ↔ q = j)) : (List.range n).filter P = [j] := by
  induction n with
  | zero => omega
  | succ n ih =>
    rw [List.range_succ, List.filter_append]
    by_cases e : j = n
    · subst e
      have h1 : (List.range j).filter P = [] := by
        rw [List.filter_eq_nil_iff]
        intro q hq
        have hq' := List.mem_range.1 hq
        rw [hP q (by omega)]
        omega
      have h2 : P j = true := (hP j (by omega)).2 rfl
      rw [h1]
      simp [h2]
    · have h2 : P n = false := by
        rw [← Bool.not_eq_true, hP n (by omega)]
        exact fun e2 => e e2.symm
      rw [ih (by omega) (fun q hq => hP q (by omega))]
      simp [h2]
end Go.Proofs.Ytmjenmhidnkbdaa.P

/- A new leg hears nobody and removing it restores the bridge; removing any leg does not affect pairs of other legs. -/
namespace Go.Proofs.Ytmjenmhidnkbdaa.P
open Go.RowKit Go.Proofs.YtmjenmhidnkbdaaW.PrintWords Go.Proofs.YtmjenmhidnkbdaaW.PrintLast Go.Proofs.YtmjenmhidnkbdaaW.PrintMore
set_option linter.unusedVariables false
set_option linter.unusedSimpArgs false

theorem pos_spec (l : List S36) (id : Int) : (∀ (q : Nat) (x : S36), q < pos l id → l[q]? = some x → x.f0 < id) ∧ (∀ x, l[pos l id]? = some x → ¬ x.f0 < id) := by
  induction l with
  | nil => exact ⟨fun q x h => by simp [pos] at h, fun x h => by simp at h⟩
  | cons y l ih =>
    by_cases hy : y.f0 < id
    · have e : pos (y :: l) id = pos l id + 1 := by simp [pos, hy]
      rw [e]
      refine ⟨fun q x hq hx => ?_, fun x hx => ih.2 x (by simpa using hx)⟩
      cases q with
      | zero => obtain rfl : y = x := by simpa using hx
                exact hy
      | succ q => exact ih.1 q x (by omega) (by simpa using hx)
    · have e : pos (y :: l) id = 0 := by simp [pos, hy]
      rw [e]
      refine ⟨fun q x hq => by omega, fun x hx => ?_⟩
      obtain rfl : y = x := by simpa using hx
      exact hy
theorem found_there {l : List S36} (hs : Sorted l) {id : Int} {k : Nat} (hk : k < l.length) (h : (rd_T36 l (k : Int)).f0 = id) : there l id = true := by
  have hp : pos l id = k := pos_of l id k (by omega) (fun q x hq hx => by have := pair_lt hs hq hx (rd_at l k hk); omega) (fun x hx => by rw [rd_at l k hk] at hx; injection hx with hx; rw [← hx]; omega)
  unfold there
  rw [hp]
  simp [hk, h]

end Go.Proofs.Ytmjenmhidnkbdaa.P
