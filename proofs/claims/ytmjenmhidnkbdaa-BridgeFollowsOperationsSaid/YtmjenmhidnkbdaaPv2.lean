/- Several texts in one. -/
import Derived.Test.YtmjenmhidnkbdaaPx2
import Derived.Test.YtmjenmhidnkbdaaPs
import Derived.Test.YtmjenmhidnkbdaaPx0
import Derived.Test.YtmjenmhidnkbdaaHd
import Derived.Test.YtmjenmhidnkbdaaSane
import Derived.Test.YtmjenmhidnkbdaaPx1
/- Plain laws of the bridge: who hears whom. -/
namespace Go.Proofs.Ytmjenmhidnkbdaa.P
open Go.RowKit Go.Proofs.YtmjenmhidnkbdaaW.PrintWords Go.Proofs.YtmjenmhidnkbdaaW.PrintLast Go.Proofs.YtmjenmhidnkbdaaW.PrintMore
set_option linter.unusedVariables false
set_option linter.unusedSimpArgs false

theorem w64 (i : Nat) (h : i ≤ 100000) : wrap64 ((i : Int) + 1) = ((i + 1 : Nat) : Int) := by unfold wrap64; omega

theorem hears_l0 (y : Int) (xs : List Int) (hx : xs.length ≤ 2000) : ∀ (K i : Nat), i ≤ xs.length → xs.length - i < K → crossbarlaw18_hears.l0 K y xs (i : Int) = some (decide (y ∈ xs.drop i)) := by
  intro K
  induction K with
  | zero => intro i _ h; omega
  | succ K ih =>
    intro i hi hK
    simp only [crossbarlaw18_hears.l0]
    by_cases h : i < xs.length
    · rw [if_pos (by omega), if_pos (by omega), List.drop_eq_getElem_cons h]
      have hr : rd xs (i : Int) = xs[i] := by simp [rd, h]
      rw [hr]
      by_cases e : xs[i] = y
      · rw [if_pos e]; simp [e]
      · rw [if_neg e, w64 i (by omega), ih (i + 1) (by omega) (by omega)]
        have hn : ¬ y = xs[i] := fun e2 => e e2.symm
        congr 1
        refine decide_eq_decide.2 ?_
        rw [List.mem_cons]
        exact ⟨.inr, fun h2 => h2.resolve_left hn⟩
    · rw [if_neg (by omega), List.drop_eq_nil_of_le (by omega)]
      simp

theorem hearsL_len (l : List S36) (x : Int) : (hearsL l x).length ≤ l.length := by
  unfold hearsL
  simp only
  split
  · simp
  · exact hTo_len _ _ _

/-- Whether a leg hears another. -/
def hb (l : List S36) (x y : Int) : Bool := decide (y ∈ hearsL l x)
theorem hears_f (l : List S36) (nx x y : Int) (K : Nat) (hl : l.length ≤ 2000) (hK : 2000 < K) : crossbarlaw18_hears.f K l nx x y = some (hb l x y) := by
  unfold crossbarlaw18_hears.f bridge_Hears.f
  rw [if_pos hl]
  have := hearsL_len l x
  exact (hears_l0 y (hearsL l x) (by omega) K 0 (by omega) (by omega)).trans (by simp [hb])

theorem idx_neg (p : S36 → Bool) (l : List S36) (h : idx p l < 0) : ∀ x ∈ l, p x = false := by
  induction l with
  | nil => simp
  | cons x l ih =>
    intro y hy
    by_cases hp : p x = true
    · simp [idx, hp] at h
    · have hp' : p x = false := by simpa using hp
      have e : idx p (x :: l) = if idx p l < 0 then -1 else idx p l + 1 := by simp [idx, hp']
      rcases List.mem_cons.1 hy with rfl | hy
      · exact hp'
      · refine ih ?_ y hy
        by_cases h0 : idx p l < 0
        · exact h0
        · rw [e, if_neg h0] at h; omega

/-- Two legs hear each other. -/
def Hr (l : List S36) (x y : Int) : Prop := ∃ a ∈ l, ∃ b ∈ l, a.f0 = x ∧ b.f0 = y ∧ a.f1 = b.f1 ∧ a.f1 ≠ 0 ∧ a.f2 = false ∧ b.f2 = false ∧ x ≠ y
theorem Hr.symm {l : List S36} {x y : Int} : Hr l x y → Hr l y x := fun ⟨a, ha, b, hb, h1, h2, h3, h4, h5, h6, h7⟩ => ⟨b, hb, a, ha, h2, h1, h3.symm, by rw [← h3]; exact h4, h6, h5, fun e => h7 e.symm⟩

theorem mem_hTo (l : List S36) (k n : Nat) (y : Int) : y ∈ hTo l k n ↔ ∃ j, j < n ∧ cfAt l j = cfAt l k ∧ j ≠ k ∧ (rd_T36 l (j : Int)).f2 = false ∧ (rd_T36 l (j : Int)).f0 = y := by
  unfold hTo
  simp only [List.mem_map, List.mem_filter, List.mem_range, Bool.and_eq_true, beq_iff_eq, Bool.not_eq_true', beq_eq_false_iff_ne]
  constructor
  · rintro ⟨j, ⟨hj, ⟨h1, h2⟩, h3⟩, h4⟩
    exact ⟨j, hj, h1, h2, h3, h4⟩
  · rintro ⟨j, hj, h1, h2, h3, h4⟩
    exact ⟨j, ⟨hj, ⟨h1, h2⟩, h3⟩, h4⟩

theorem mem_at {l : List S36} {a : S36} (h : a ∈ l) : ∃ j, j < l.length ∧ rd_T36 l (j : Int) = a := by
  obtain ⟨j, hj⟩ := List.mem_iff_getElem?.1 h
  have hl := (List.getElem?_eq_some_iff.1 hj).1
  refine ⟨j, hl, ?_⟩
  rw [rd_at l j hl] at hj
  injection hj
theorem at_mem {l : List S36} {j : Nat} (h : j < l.length) : rd_T36 l (j : Int) ∈ l := List.mem_iff_getElem?.2 ⟨j, rd_at l j h⟩
theorem sorted_inj {l : List S36} (hs : Sorted l) {i j : Nat} (hi : i < l.length) (hj : j < l.length) (h : (rd_T36 l (i : Int)).f0 = (rd_T36 l (j : Int)).f0) : i = j := by
  rcases Nat.lt_trichotomy i j with h1 | h1 | h1
  · have := pair_lt hs h1 (rd_at l i hi) (rd_at l j hj); omega
  · exact h1
  · have := pair_lt hs h1 (rd_at l j hj) (rd_at l i hi); omega

theorem fnd_some {l : List S36} {x : Int} (h : ¬ fnd l x < 0) : ∃ k : Nat, fnd l x = k ∧ k < l.length ∧ (rd_T36 l (k : Int)).f0 = x := by
  have h0 : 0 ≤ fnd l x := by omega
  obtain ⟨z, hz, hp, _⟩ := idx_spec (fun z => z.f0 == x) l h0
  change l[(fnd l x).toNat]? = some z at hz
  have hl := (List.getElem?_eq_some_iff.1 hz).1
  refine ⟨(fnd l x).toNat, by omega, hl, ?_⟩
  rw [rd_at l _ hl] at hz
  injection hz with hz
  rw [hz]
  simpa using hp

theorem mem_hears {l : List S36} (hs : Sorted l) (x y : Int) : y ∈ hearsL l x ↔ Hr l x y := by
  unfold hearsL
  simp only
  by_cases h : fnd l x < 0
  · rw [if_pos (.inl h)]
    simp only [List.not_mem_nil, false_iff]
    rintro ⟨a, ha, b, hb, h1, _⟩
    have := idx_neg (fun z => z.f0 == x) l h a ha
    simp [h1] at this
  · obtain ⟨k, hk, hkl, hx⟩ := fnd_some h
    rw [hk]
    simp only [Int.toNat_natCast]
    by_cases h0 : (rd_T36 l (k : Int)).f1 = 0
    · rw [if_pos (.inr (.inl h0))]
      simp only [List.not_mem_nil, false_iff]
      rintro ⟨a, ha, b, hb, h1, h2, h3, h4, _⟩
      obtain ⟨j, hj, rfl⟩ := mem_at ha
      have := sorted_inj hs hj hkl (by rw [h1, hx])
      subst this
      exact h4 h0
    · by_cases h2 : (rd_T36 l (k : Int)).f2 = true
      · rw [if_pos (.inr (.inr h2))]
        simp only [List.not_mem_nil, false_iff]
        rintro ⟨a, ha, b, hb, h1, _, h3, h4, h5, _⟩
        obtain ⟨j, hj, rfl⟩ := mem_at ha
        have := sorted_inj hs hj hkl (by rw [h1, hx])
        subst this
        rw [h2] at h5
        cases h5
      · rw [if_neg (by rintro (h' | h' | h'); omega; exact h0 h'; exact h2 h'), mem_hTo]
        have h2' : (rd_T36 l (k : Int)).f2 = false := by simpa using h2
        constructor
        · rintro ⟨j, hj, e1, e2, e3, e4⟩
          refine ⟨_, at_mem hkl, _, at_mem hj, hx, e4, e1.symm, h0, h2', e3, fun e => e2 ?_⟩
          exact sorted_inj hs hj hkl (by rw [e4, hx, e])
        · rintro ⟨a, ha, b, hb, h1, e4, e1, h4, h5, e3, hne⟩
          obtain ⟨i, hi, rfl⟩ := mem_at ha
          obtain ⟨j, hj, rfl⟩ := mem_at hb
          have := sorted_inj hs hi hkl (by rw [h1, hx])
          subst this
          refine ⟨j, hj, e1.symm, fun e => hne ?_, e3, e4⟩
          subst e
          rw [← h1, ← e4]

theorem hb_iff {l : List S36} (hs : Sorted l) (x y : Int) : hb l x y = true ↔ Hr l x y := by
  unfold hb
  rw [decide_eq_true_iff]
  exact mem_hears hs x y
end Go.Proofs.Ytmjenmhidnkbdaa.P

/- Plain laws: what a bridge that passes its check is; what keeps it so. -/
namespace Go.Proofs.Ytmjenmhidnkbdaa.P
open Go.RowKit Go.Proofs.YtmjenmhidnkbdaaW.PrintWords Go.Proofs.YtmjenmhidnkbdaaW.PrintLast Go.Proofs.YtmjenmhidnkbdaaW.PrintMore
set_option linter.unusedVariables false
set_option linter.unusedSimpArgs false

/-- One leg is right. -/
structure LegOk (nx : Int) (z : S36) : Prop where
  id : okId z.f0 = true
  c0 : 0 ≤ z.f1
  c1 : z.f1 < nx
  h : z.f1 = 0 → z.f2 = false
/-- A bridge is right. -/
structure Ok (l : List S36) (nx : Int) : Prop where
  n1 : 1 ≤ nx
  n2 : nx ≤ 1099511627776
  s : Sorted l
  leg : ∀ z ∈ l, LegOk nx z
  two : ∀ z ∈ l, 0 < z.f1 → 2 ≤ cnt l z.f1
  len : l.length ≤ 1024

theorem okLeg_iff (nx last : Int) (z : S36) : okLeg nx last z = true ↔ LegOk nx z ∧ last < z.f0 := by
  unfold okLeg
  simp only [Bool.and_eq_true, decide_eq_true_eq, Bool.not_eq_true']
  constructor
  · rintro ⟨⟨⟨⟨h1, h2⟩, h3⟩, h4⟩, h5⟩
    refine ⟨⟨h1, h3, h4, fun e => ?_⟩, h2⟩
    simpa [e] using h5
  · rintro ⟨⟨h1, h3, h4, h5⟩, h2⟩
    refine ⟨⟨⟨⟨h1, h2⟩, h3⟩, h4⟩, ?_⟩
    by_cases e : z.f1 = 0
    · simp [e, h5 e]
    · simp [e]
theorem scan_iff (nx : Int) (l : List S36) : ∀ last, scan nx last l = true ↔ (∀ z ∈ l, LegOk nx z ∧ last < z.f0) ∧ Sorted l := by
  induction l with
  | nil => intro last; simp [scan, Sorted]
  | cons x l ih =>
    intro last
    simp only [scan, Bool.and_eq_true, okLeg_iff, ih]
    constructor
    · rintro ⟨⟨h1, h2⟩, h3, h4⟩
      refine ⟨fun z hz => ?_, List.Pairwise.cons (fun z hz => (h3 z hz).2) h4⟩
      rcases List.mem_cons.1 hz with rfl | hz
      · exact ⟨h1, h2⟩
      · exact ⟨(h3 z hz).1, by have := (h3 z hz).2; omega⟩
    · rintro ⟨h1, h2⟩
      obtain ⟨h3, h4⟩ := List.pairwise_cons.1 h2
      exact ⟨h1 x (by simp), fun z hz => ⟨(h1 z (by simp [hz])).1, h3 z hz⟩, h4⟩
theorem okId_ge {n : Int} (h : okId n = true) : 0 ≤ n := by
  unfold okId at h
  simp only [Bool.and_eq_true, decide_eq_true_eq] at h
  exact h.1

theorem check_of_ok {l : List S36} {nx : Int} (h : Ok l nx) : checkE l nx = 0 := by
  have hs : scan nx (-1) l = true := (scan_iff nx l (-1)).2 ⟨fun z hz => ⟨h.leg z hz, by have := okId_ge (h.leg z hz).id; omega⟩, h.s⟩
  have hl : lone l = false := lone_not fun x hx => by
    obtain ⟨z, hz, rfl⟩ := cnt_pos l x hx
    rintro ⟨h0, h1⟩
    have := h.two z hz h0
    omega
  unfold checkE
  rw [if_neg (by have := h.n1; have := h.n2; omega), hs, hl]
  have := h.len
  rw [if_neg (by simp), if_neg (by simp), if_neg (by omega)]
theorem editF_ok {op : Does} {l m : List S36} {nx n : Int} (hc : checkE l nx = 0) (h : op l nx = (0, m, n)) : editF op l nx = (m, n, 0) := by
  unfold editF
  rw [if_neg (by rw [hc]; simp), h]
  rfl
theorem editF_err {op : Does} {l m : List S36} {nx n e : Int} (hc : checkE l nx = 0) (h : op l nx = (e, m, n)) (he : e ≠ 0) : editF op l nx = ([], 0, e) := by
  unfold editF
  rw [if_neg (by rw [hc]; simp), h]
  exact if_pos he
/-! ### who hears whom, elsewhere -/
/-- Legs but x and y are the same, or lose a conference in which they were alone but for these. -/
structure Frame (a b : List S36) (x y : Int) : Prop where
  fwd : ∀ z ∈ a, z.f0 ≠ x → z.f0 ≠ y → z ∈ b ∨ ∀ w ∈ a, w.f0 ≠ x → w.f0 ≠ y → w.f1 = z.f1 → w.f0 = z.f0
  bwd : ∀ z ∈ b, z.f0 ≠ x → z.f0 ≠ y → z ∈ a ∨ z.f1 = 0
theorem Frame.hr {a b : List S36} {x y p q : Int} (h : Frame a b x y) (h1 : p ≠ x) (h2 : p ≠ y) (h3 : q ≠ x) (h4 : q ≠ y) : Hr a p q ↔ Hr b p q := by
  constructor
  · rintro ⟨u, hu, v, hv, rfl, rfl, e, e0, k1, k2, hne⟩
    rcases h.fwd u hu h1 h2 with hu' | hd
    · rcases h.fwd v hv h3 h4 with hv' | hd
      · exact ⟨u, hu', v, hv', rfl, rfl, e, e0, k1, k2, hne⟩
      · exact absurd (hd u hu h1 h2 e) hne
    · exact absurd (hd v hv h3 h4 e.symm).symm hne
  · rintro ⟨u, hu, v, hv, rfl, rfl, e, e0, k1, k2, hne⟩
    rcases h.bwd u hu h1 h2 with hu' | hd
    · rcases h.bwd v hv h3 h4 with hv' | hd
      · exact ⟨u, hu', v, hv', rfl, rfl, e, e0, k1, k2, hne⟩
      · exact absurd (e.trans hd) e0
    · exact absurd hd e0
/-! ### one leg turned -/
theorem ids_sorted {a b : List S36} (h : ids a = ids b) (ha : Sorted a) : Sorted b := by
  unfold Sorted at ha ⊢
  rw [← List.pairwise_map (f := S36.f0) (R := fun x y : Int => x < y)] at ha ⊢
  have : a.map S36.f0 = b.map S36.f0 := h
  rw [← this]
  exact ha
theorem ids_set (l : List S36) (i : Nat) (z : S36) (h : ∀ (y : S36), l[i]? = some y → y.f0 = z.f0) : ids (l.set i z) = ids l := by
  unfold ids
  rw [List.map_set]
  refine List.ext_getElem? fun q => ?_
  by_cases e : i = q
  · subst e
    by_cases hl : i < l.length
    · rw [List.getElem?_set_self (by simpa using hl), List.getElem?_map, List.getElem?_eq_getElem hl]
      simp [h _ (List.getElem?_eq_getElem hl)]
    · rw [List.set_eq_of_length_le (by simp; omega)]
  · rw [List.getElem?_set_ne e]
theorem mem_set {l : List S36} {i : Nat} {z w : S36} (h : w ∈ l.set i z) : w = z ∨ ∃ q, q ≠ i ∧ l[q]? = some w := by
  obtain ⟨q, hq⟩ := List.mem_iff_getElem?.1 h
  by_cases e : i = q
  · subst e
    rw [List.getElem?_set] at hq
    split at hq
    · split at hq
      · injection hq with hq; exact .inl hq.symm
      · cases hq
    · exact absurd rfl (by assumption)
  · rw [List.getElem?_set_ne e] at hq
    exact .inr ⟨q, fun e2 => e e2.symm, hq⟩
theorem set_mem {l : List S36} {i q : Nat} {z w : S36} (h : l[q]? = some w) (hne : q ≠ i) : w ∈ l.set i z :=
  List.mem_iff_getElem?.2 ⟨q, by rw [List.getElem?_set_ne (fun e => hne e.symm)]; exact h⟩
theorem set_self {l : List S36} {i : Nat} (z : S36) (h : i < l.length) : z ∈ l.set i z := List.mem_iff_getElem?.2 ⟨i, List.getElem?_set_self h⟩
theorem cnt_set {l : List S36} {i : Nat} {z y : S36} (hy : l[i]? = some y) (c : Int) : cnt (l.set i z) c + (if y.f1 = c then 1 else 0) = cnt l c + (if z.f1 = c then 1 else 0) := by
  induction l generalizing i with
  | nil => simp at hy
  | cons w l ih =>
    have hcons : ∀ (w : S36) (m : List S36), cnt (w :: m) c = (if w.f1 = c then 1 else 0) + cnt m c := by
      intro w m
      unfold cnt
      by_cases e : w.f1 = c
      · simp [e]; omega
      · simp [e]
    cases i with
    | zero =>
      obtain rfl : w = y := by simpa using hy
      simp only [List.set_cons_zero, hcons]
      omega
    | succ i =>
      simp only [List.set_cons_succ, hcons]
      have := ih (i := i) (by simpa using hy)
      omega

/-- A leg is put on hold or taken off hold. -/
theorem ok_hold {l : List S36} {nx : Int} (h : Ok l nx) {i : Nat} (hi : i < l.length) (h1 : (rd_T36 l (i : Int)).f1 ≠ 0) (on : Bool) : Ok (l.set i ⟨(rd_T36 l (i : Int)).f0, (rd_T36 l (i : Int)).f1, on⟩) nx := by
  have hz := rd_at l i hi
  have hids := ids_set l i ⟨(rd_T36 l (i : Int)).f0, (rd_T36 l (i : Int)).f1, on⟩ (fun y hy => by rw [hz] at hy; injection hy with hy; rw [← hy])
  have hcnt : ∀ c, cnt (l.set i ⟨(rd_T36 l (i : Int)).f0, (rd_T36 l (i : Int)).f1, on⟩) c = cnt l c := fun c => by
    have := cnt_set (z := ⟨(rd_T36 l (i : Int)).f0, (rd_T36 l (i : Int)).f1, on⟩) hz c
    simp only at this
    omega
  have hl := h.leg _ (at_mem hi)
  refine ⟨h.n1, h.n2, ids_sorted hids.symm h.s, fun w hw => ?_, fun w hw h0 => ?_, by rw [List.length_set]; exact h.len⟩
  · rcases mem_set hw with rfl | ⟨q, _, hq⟩
    · exact ⟨hl.id, hl.c0, hl.c1, fun e => absurd e h1⟩
    · exact h.leg w (List.mem_iff_getElem?.2 ⟨q, hq⟩)
  · rw [hcnt]
    rcases mem_set hw with rfl | ⟨q, _, hq⟩
    · exact h.two (rd_T36 l (i : Int)) (at_mem hi) h0
    · exact h.two w (List.mem_iff_getElem?.2 ⟨q, hq⟩) h0
end Go.Proofs.Ytmjenmhidnkbdaa.P

/- Plain laws: what leaving a conference does. -/
namespace Go.Proofs.Ytmjenmhidnkbdaa.P
open Go.RowKit Go.Proofs.YtmjenmhidnkbdaaW.PrintWords Go.Proofs.YtmjenmhidnkbdaaW.PrintLast Go.Proofs.YtmjenmhidnkbdaaW.PrintMore
set_option linter.unusedVariables false
set_option linter.unusedSimpArgs false

theorem rd_set (l : List S36) (i q : Nat) (z : S36) (hq : q < l.length) : rd_T36 (l.set i z) (q : Int) = if q = i then z else rd_T36 l (q : Int) := by
  have h1 := rd_at (l.set i z) q (by rw [List.length_set]; exact hq)
  by_cases e : q = i
  · subst e
    rw [List.getElem?_set_self hq] at h1
    injection h1 with h1
    rw [if_pos rfl, ← h1]
  · rw [List.getElem?_set_ne (fun e2 => e e2.symm), rd_at l q hq] at h1
    injection h1 with h1
    rw [if_neg e, ← h1]
theorem rd_out (l : List S36) (i q : Nat) (hq : q < l.length) : rd_T36 (outOf l i) (q : Int) = if q = i then ⟨(rd_T36 l (i : Int)).f0, 0, false⟩ else rd_T36 l (q : Int) := rd_set l i q _ hq

theorem memTo_cnt (l : List S36) (c : Int) : ∀ n, n ≤ l.length → (memTo l c n).length = cnt (l.take n) c := by
  intro n
  induction n with
  | zero => intro _; simp [memTo, cnt]
  | succ n ih =>
    intro hn
    rw [memTo_succ, cnt_succ l n _ c (rd_at l n (by omega)), List.length_append, ih (by omega)]
    have : cfAt l n = (rd_T36 l (n : Int)).f1 := rfl
    rw [this]
    by_cases e : (rd_T36 l (n : Int)).f1 = c <;> simp [e]
theorem mem_cnt (l : List S36) (c : Int) : (mem l c).length = cnt l c := by
  unfold mem
  rw [memTo_cnt l c l.length (Nat.le_refl _), List.take_length]
theorem mem_iff (l : List S36) (c : Int) (q : Nat) : q ∈ mem l c ↔ q < l.length ∧ cfAt l q = c := by
  simp [mem, memTo]

/-- What leaving makes. -/
theorem lv_cases (l : List S36) (i : Nat) (hi : i < l.length) :
    (lv l i = outOf l i ∧ (cfAt l i ≠ 0 → cnt (outOf l i) (cfAt l i) ≠ 1)) ∨
    (∃ j, j < l.length ∧ j ≠ i ∧ cfAt l i ≠ 0 ∧ cfAt l j = cfAt l i ∧ (∀ q, q < l.length → q ≠ i → cfAt l q = cfAt l i → q = j) ∧ lv l i = outOf (outOf l i) j) := by
  have hcf : ∀ q, q < l.length → cfAt (outOf l i) q = if q = i then 0 else cfAt l q := by
    intro q hq
    unfold cfAt
    rw [rd_out l i q hq]
    split <;> rfl
  by_cases h0 : cfAt l i = 0
  · left
    refine ⟨?_, fun h => absurd h0 h⟩
    unfold lv
    rw [if_pos h0]
  · have hlv : lv l i = match mem (outOf l i) (cfAt l i) with | [j] => outOf (outOf l i) j | _ => outOf l i := by
      unfold lv
      rw [if_neg h0]
      rfl
    have hc := mem_cnt (outOf l i) (cfAt l i)
    have hm := mem_iff (outOf l i) (cfAt l i)
    rw [outOf_len] at hm
    generalize mem (outOf l i) (cfAt l i) = M at *
    match M, hlv, hc, hm with
    | [], hlv, hc, hm => exact .inl ⟨hlv, fun _ e => by rw [e] at hc; simp at hc⟩
    | a :: b :: M, hlv, hc, hm => exact .inl ⟨hlv, fun _ e => by rw [e] at hc; simp at hc⟩
    | [j], hlv, hc, hm =>
      right
      obtain ⟨hj, hcj⟩ := (hm j).1 (by simp)
      rw [hcf j hj] at hcj
      have hji : j ≠ i := fun e => by rw [if_pos e] at hcj; exact h0 hcj.symm
      rw [if_neg hji] at hcj
      refine ⟨j, hj, hji, h0, hcj, fun q hq hqi hqc => ?_, hlv⟩
      have : q ∈ [j] := (hm q).2 ⟨hq, by rw [hcf q hq, if_neg hqi]; exact hqc⟩
      simpa using this

theorem lv_sorted {l : List S36} (hs : Sorted l) (i : Nat) : Sorted (lv l i) := ids_sorted (ids_lv l i).symm hs
/-- The leg that left; a leg that was in no conference. -/
theorem lv_rd {l : List S36} {i : Nat} (hi : i < l.length) : rd_T36 (lv l i) (i : Int) = ⟨(rd_T36 l (i : Int)).f0, 0, false⟩ := by
  rcases lv_cases l i hi with ⟨e, _⟩ | ⟨j, hj, hji, _, _, _, e⟩
  · rw [e, rd_out l i i hi, if_pos rfl]
  · rw [e, rd_out (outOf l i) j i (by rw [outOf_len]; exact hi), if_neg (fun e2 => hji e2.symm), rd_out l i i hi, if_pos rfl]
/-- Every leg's conference: as it was, or none. -/
theorem lv_mem {l : List S36} {i : Nat} (hi : i < l.length) {z : S36} (hz : z ∈ lv l i) : z ∈ l ∨ (z.f1 = 0 ∧ z.f2 = false ∧ ∃ w ∈ l, w.f0 = z.f0) := by
  rcases lv_cases l i hi with ⟨e, _⟩ | ⟨j, hj, hji, hc, hcj, _, e⟩
  · rw [e] at hz
    rcases mem_set hz with rfl | ⟨q, _, hq⟩
    · exact .inr ⟨rfl, rfl, _, at_mem hi, rfl⟩
    · exact .inl (List.mem_iff_getElem?.2 ⟨q, hq⟩)
  · rw [e] at hz
    rcases mem_set hz with rfl | ⟨q, _, hq⟩
    · exact .inr ⟨rfl, rfl, _, at_mem hj, by rw [rd_out l i j hj, if_neg hji]⟩
    · have hq2 := (List.getElem?_eq_some_iff.1 hq).1
      rw [outOf_len] at hq2
      have h3 := rd_at (outOf l i) q (by rw [outOf_len]; exact hq2)
      rw [hq] at h3
      injection h3 with h3
      rw [rd_out l i q hq2] at h3
      split at h3
      · subst h3; exact .inr ⟨rfl, rfl, _, at_mem hi, rfl⟩
      · rw [h3]; exact .inl (at_mem hq2)

theorem Frame.trans {a b c : List S36} {x y : Int} (h : Frame a b x x) (k : Frame b c y y) : Frame a c x y := by
  refine ⟨fun z hz h1 h2 => ?_, fun z hz h1 h2 => ?_⟩
  · rcases h.fwd z hz h1 h1 with hz' | hal
    · rcases k.fwd z hz' h2 h2 with hz'' | hal
      · exact .inl hz''
      · refine .inr fun w hw w1 w2 hc => ?_
        rcases h.fwd w hw w1 w1 with hw' | hal2
        · exact hal w hw' w2 w2 hc
        · exact (hal2 z hz h1 h1 hc.symm).symm
    · exact .inr fun w hw w1 _ hc => hal w hw w1 w1 hc
  · rcases k.bwd z hz h2 h2 with hz' | h0
    · exact h.bwd z hz' h1 h1
    · exact .inr h0
theorem Frame.same {a b c : List S36} {x y : Int} (h : Frame a b x y) (k : ∀ z : S36, z.f0 ≠ x → z.f0 ≠ y → (z ∈ b ↔ z ∈ c)) : Frame a c x y :=
  ⟨fun z hz h1 h2 => (h.fwd z hz h1 h2).imp (fun hz => (k z h1 h2).1 hz) id, fun z hz h1 h2 => h.bwd z ((k z h1 h2).2 hz) h1 h2⟩

end Go.Proofs.Ytmjenmhidnkbdaa.P

/- A new leg hears nobody and removing it restores the bridge; removing any leg does not affect pairs of other legs. -/
namespace Go.Proofs.Ytmjenmhidnkbdaa.P
open Go.RowKit Go.Proofs.YtmjenmhidnkbdaaW.PrintWords Go.Proofs.YtmjenmhidnkbdaaW.PrintLast Go.Proofs.YtmjenmhidnkbdaaW.PrintMore
set_option linter.unusedVariables false
set_option linter.unusedSimpArgs false

theorem pos_spec (l : List S36) (id : Int) : (∀ (q : Nat) (x : S36), q < pos l id → l[q]? = some x → x.f0 < id) ∧ (∀ x, l[pos l id]? = some x → ¬ x.f0 < id) := by
  induction l with
  | nil => exact ⟨fun q x h => by simp [pos] at h, fun x h => by simp at h⟩
  | cons y l ih =>
    by_cases hy : y.f0 < id
    · have e : pos (y :: l) id = pos l id + 1 := by simp [pos, hy]
      rw [e]
      refine ⟨fun q x hq hx => ?_, fun x hx => ih.2 x (by simpa using hx)⟩
      cases q with
      | zero => obtain rfl : y = x := by simpa using hx
                exact hy
      | succ q => exact ih.1 q x (by omega) (by simpa using hx)
    · have e : pos (y :: l) id = 0 := by simp [pos, hy]
      rw [e]
      refine ⟨fun q x hq => by omega, fun x hx => ?_⟩
      obtain rfl : y = x := by simpa using hx
      exact hy
theorem no_there {l : List S36} (hs : Sorted l) {id : Int} (h : there l id = false) : ∀ z ∈ l, z.f0 ≠ id := by
  intro z hz e
  obtain ⟨q, hq, rfl⟩ := mem_at hz
  have hp := pos_spec l id
  by_cases h1 : q < pos l id
  · have := hp.1 q _ h1 (rd_at l q hq); omega
  · have hpl : pos l id < l.length := by omega
    by_cases h2 : q = pos l id
    · unfold there at h
      rw [← h2] at h
      simp [hq, e] at h
    · have h3 := pair_lt hs (show pos l id < q by omega) (rd_at l _ hpl) (rd_at l q hq)
      have := hp.2 _ (rd_at l _ hpl)
      omega
theorem found_there {l : List S36} (hs : Sorted l) {id : Int} {k : Nat} (hk : k < l.length) (h : (rd_T36 l (k : Int)).f0 = id) : there l id = true := by
  have hp : pos l id = k := pos_of l id k (by omega) (fun q x hq hx => by have := pair_lt hs hq hx (rd_at l k hk); omega) (fun x hx => by rw [rd_at l k hk] at hx; injection hx with hx; rw [← hx]; omega)
  unfold there
  rw [hp]
  simp [hk, h]

theorem mem_ins {l : List S36} {p : Nat} {x z : S36} : z ∈ ins l p x ↔ z = x ∨ z ∈ l := by
  unfold ins
  constructor
  · intro h
    rcases List.mem_append.1 h with h | h
    · exact .inr (List.mem_of_mem_take h)
    · rcases List.mem_cons.1 h with h | h
      · exact .inl h
      · exact .inr (List.mem_of_mem_drop h)
  · rintro (rfl | h)
    · simp
    · rw [← List.take_append_drop p l] at h
      rcases List.mem_append.1 h with h | h
      · exact List.mem_append_left _ h
      · exact List.mem_append_right _ (List.mem_cons_of_mem _ h)
theorem sorted_ins {l : List S36} (hs : Sorted l) {id : Int} (h : there l id = false) (x : S36) (hx : x.f0 = id) : Sorted (ins l (pos l id) x) := by
  have hn := no_there hs h
  have hp := pos_spec l id
  have hs' := hs
  unfold Sorted at hs'
  rw [← List.take_append_drop (pos l id) l, List.pairwise_append] at hs'
  obtain ⟨h1, h2, h3⟩ := hs'
  have lo : ∀ z ∈ l.take (pos l id), z.f0 < x.f0 := by
    intro z hz
    obtain ⟨q, hq⟩ := List.mem_iff_getElem?.1 hz
    rw [List.getElem?_take] at hq
    split at hq
    · rw [hx]; exact hp.1 q z (by assumption) hq
    · cases hq
  have hi : ∀ z ∈ l.drop (pos l id), x.f0 < z.f0 := by
    intro z hz
    obtain ⟨q, hq⟩ := List.mem_iff_getElem?.1 hz
    rw [List.getElem?_drop] at hq
    have hne := hn z (List.mem_iff_getElem?.2 ⟨_, hq⟩)
    have hl := (List.getElem?_eq_some_iff.1 hq).1
    have hpl : pos l id < l.length := by omega
    have h5 := hp.2 _ (rd_at l _ hpl)
    by_cases e : q = 0
    · subst e
      rw [Nat.add_zero, rd_at l _ hpl] at hq
      injection hq with hq
      rw [hq] at h5
      omega
    · have := pair_lt hs (show pos l id < pos l id + q by omega) (rd_at l _ hpl) hq
      omega
  unfold Sorted ins
  rw [List.pairwise_append]
  refine ⟨h1, List.Pairwise.cons hi h2, fun a ha b hb => ?_⟩
  rcases List.mem_cons.1 hb with rfl | hb
  · exact lo a ha
  · exact h3 a ha b hb
theorem cnt_ins (l : List S36) (p : Nat) (x : S36) (c : Int) : cnt (ins l p x) c = cnt l c + (if x.f1 = c then 1 else 0) := by
  have e : cnt l c = cnt (l.take p) c + cnt (l.drop p) c := by
    unfold cnt
    rw [← List.length_append, ← List.filter_append, List.take_append_drop]
  rw [e]
  unfold cnt ins
  rw [List.filter_append, List.length_append]
  by_cases h : x.f1 = c <;> simp [h]
  omega
theorem ok_add {l : List S36} {nx : Int} (h : Ok l nx) {id : Int} (hid : okId id = true) (ht : there l id = false) (hlen : l.length ≠ 1024) : Ok (ins l (pos l id) ⟨id, 0, false⟩) nx := by
  refine ⟨h.n1, h.n2, sorted_ins h.s ht _ rfl, fun z hz => ?_, fun z hz h0 => ?_, ?_⟩
  · rcases mem_ins.1 hz with rfl | hz
    · exact ⟨hid, by simp, by have := h.n1; simp; omega, fun _ => rfl⟩
    · exact h.leg z hz
  · rw [cnt_ins]
    rcases mem_ins.1 hz with rfl | hz
    · simp at h0
    · have := h.two z hz h0
      omega
  · rw [ins_len _ _ _ (pos_le l id)]
    have := h.len
    omega

theorem rm_mem {l : List S36} {id : Int} {z : S36} : z ∈ rm l id ↔ z ∈ l ∧ z.f0 ≠ id := by
  unfold rm
  rw [List.mem_filter]
  simp
/-- Whoever leaves a right bridge leaves a right one. -/
theorem cnt_lv {l : List S36} {nx : Int} (h : Ok l nx) {k : Nat} (hk : k < l.length) {z : S36} (hz : z ∈ lv l k) (h0 : 0 < z.f1) : 2 ≤ cnt (lv l k) z.f1 := by
  have hzl : z ∈ l := by
    rcases lv_mem hk hz with hz | ⟨e, _⟩
    · exact hz
    · omega
  have h2 := h.two z hzl h0
  rcases lv_cases l k hk with ⟨e, hc⟩ | ⟨j, hj, hjk, hc0, hcj, huniq, e⟩
  · rw [e] at hz ⊢
    have h3 := cnt_set (z := ⟨(rd_T36 l (k : Int)).f0, 0, false⟩) (rd_at l k hk) z.f1
    have h4 := cnt_of _ z hz
    have e0 : ¬ ((0 : Int) = z.f1) := by omega
    change cnt (outOf l k) z.f1 + _ = _ at h3
    simp only [e0, if_false] at h3
    by_cases hck : (rd_T36 l (k : Int)).f1 = z.f1
    · have h5 : cnt (outOf l k) z.f1 ≠ 1 := by
        have := hc (by show (rd_T36 l (k : Int)).f1 ≠ 0; omega)
        have e2 : cfAt l k = z.f1 := hck
        rw [e2] at this
        exact this
      omega
    · rw [if_neg hck] at h3
      omega
  · obtain ⟨q, hq, hqz⟩ := mem_at hz
    rw [lv_len] at hq
    have hqd : rd_T36 (outOf (outOf l k) j) (q : Int) = if q = j then ⟨(rd_T36 (outOf l k) (j : Int)).f0, 0, false⟩ else if q = k then ⟨(rd_T36 l (k : Int)).f0, 0, false⟩ else rd_T36 l (q : Int) := by
      rw [rd_out (outOf l k) j q (by rw [outOf_len]; exact hq), rd_out l k q hq]
    have hqj : q ≠ j := fun e2 => by
      rw [e, hqd, if_pos e2] at hqz
      rw [← hqz] at h0
      simp at h0
    have hqk : q ≠ k := fun e2 => by
      rw [e, hqd, if_neg hqj, if_pos e2] at hqz
      rw [← hqz] at h0
      simp at h0
    rw [e, hqd, if_neg hqj, if_neg hqk] at hqz
    have hne : (rd_T36 l (k : Int)).f1 ≠ z.f1 := fun e2 => hqj (huniq q hq hqk (by show (rd_T36 l (q : Int)).f1 = (rd_T36 l (k : Int)).f1; rw [hqz, e2]))
    have hnej : (rd_T36 l (j : Int)).f1 ≠ z.f1 := fun e2 => hne (by rw [← e2]; exact hcj.symm)
    rw [e]
    have h3 := cnt_set (z := ⟨(rd_T36 l (k : Int)).f0, 0, false⟩) (rd_at l k hk) z.f1
    have h4 := cnt_set (z := ⟨(rd_T36 (outOf l k) (j : Int)).f0, 0, false⟩) (rd_at (outOf l k) j (by rw [outOf_len]; exact hj)) z.f1
    change cnt (outOf l k) z.f1 + _ = _ at h3
    change cnt (outOf (outOf l k) j) z.f1 + _ = _ at h4
    have e0 : ¬ ((0 : Int) = z.f1) := by omega
    have e1 : (rd_T36 (outOf l k) (j : Int)).f1 = (rd_T36 l (j : Int)).f1 := by rw [rd_out l k j hj, if_neg hjk]
    rw [e1] at h4
    simp only [e0, hne, hnej, if_false] at h3 h4
    omega
theorem ok_remove {l : List S36} {nx : Int} (h : Ok l nx) {k : Nat} (hk : k < l.length) {x : Int} (hx : (rd_T36 l (k : Int)).f0 = x) : Ok (rm (lv l k) x) nx := by
  have hsm := lv_sorted h.s k
  refine ⟨h.n1, h.n2, ?_, fun z hz => ?_, fun z hz h0 => ?_, ?_⟩
  · exact List.Pairwise.sublist List.filter_sublist hsm
  · rcases lv_mem hk (rm_mem.1 hz).1 with hz | ⟨e1, e2, w, hw, hwz⟩
    · exact h.leg z hz
    · exact ⟨by rw [← hwz]; exact (h.leg w hw).id, by omega, by have := h.n1; omega, fun _ => e2⟩
  · have h1 := cnt_lv h hk (rm_mem.1 hz).1 h0
    have e : cnt (rm (lv l k) x) z.f1 = cnt (lv l k) z.f1 := by
      unfold cnt rm
      rw [List.filter_filter]
      congr 1
      refine List.filter_congr fun w hw => ?_
      by_cases hwx : w.f0 = x
      · obtain ⟨q, hq, rfl⟩ := mem_at hw
        have hql := hq
        rw [lv_len] at hql
        have : q = k := sorted_inj hsm hq (by rw [lv_len]; exact hk) (by rw [hwx, lv_rd hk]; exact hx.symm)
        subst this
        rw [lv_rd hk]
        have : ((0 : Int) == z.f1) = false := by simp; omega
        simp [this]
      · simp [hwx]
    rw [e]
    exact h1
  · have := rm_len (lv l k) x
    rw [lv_len] at this
    have := h.len
    omega

end Go.Proofs.Ytmjenmhidnkbdaa.P

/- Merge keeps all pairs that hear each other, joins the two legs unless one is on hold, and connects the same legs whichever of the two is given first. -/
namespace Go.Proofs.Ytmjenmhidnkbdaa.P
open Go.RowKit Go.Proofs.YtmjenmhidnkbdaaW.PrintWords Go.Proofs.YtmjenmhidnkbdaaW.PrintLast Go.Proofs.YtmjenmhidnkbdaaW.PrintMore
set_option linter.unusedVariables false
set_option linter.unusedSimpArgs false

/-- Where a conference goes. -/
def mf (a b c : Int) : Int := if c = a then b else c
def mv (a b : Int) (w : S36) : S36 := if w.f1 = a then ⟨w.f0, b, w.f2⟩ else w
theorem mv_f0 (a b : Int) (w : S36) : (mv a b w).f0 = w.f0 := by unfold mv; split <;> rfl
theorem mv_f1 (a b : Int) (w : S36) : (mv a b w).f1 = mf a b w.f1 := by unfold mv mf; split <;> rfl
theorem mv_f2 (a b : Int) (w : S36) : (mv a b w).f2 = w.f2 := by unfold mv; split <;> rfl
theorem move_eq (l : List S36) (a b : Int) : moveTo l a b = l.map (mv a b) := rfl
theorem mem_move {l : List S36} {a b : Int} {z : S36} : z ∈ moveTo l a b ↔ ∃ w ∈ l, mv a b w = z := by rw [move_eq, List.mem_map]
theorem ids_move (l : List S36) (a b : Int) : ids (moveTo l a b) = ids l := by
  unfold ids
  rw [move_eq, List.map_map]
  exact List.map_congr_left fun w _ => mv_f0 a b w
theorem cnt_move (l : List S36) (a b c : Int) : cnt l c ≤ cnt (moveTo l a b) (mf a b c) := by
  induction l with
  | nil => simp [cnt]
  | cons w l ih =>
    have hcons : ∀ (w : S36) (m : List S36) (c : Int), cnt (w :: m) c = (if w.f1 = c then 1 else 0) + cnt m c := by
      intro w m c
      unfold cnt
      by_cases e : w.f1 = c
      · simp [e]; omega
      · simp [e]
    have e : moveTo (w :: l) a b = mv a b w :: moveTo l a b := rfl
    rw [e, hcons, hcons, mv_f1]
    by_cases h : w.f1 = c
    · rw [if_pos h, h, if_pos rfl]; omega
    · rw [if_neg h]; omega
theorem ok_move {l : List S36} {nx a b : Int} (h : Ok l nx) (ha : 0 < a) (hb' : 0 < b) (hbn : b < nx) : Ok (moveTo l a b) nx := by
  refine ⟨h.n1, h.n2, ids_sorted (ids_move l a b).symm h.s, fun z hz => ?_, fun z hz h0 => ?_, by rw [moveTo_len]; exact h.len⟩
  · obtain ⟨w, hw, rfl⟩ := mem_move.1 hz
    have hl := h.leg w hw
    refine ⟨by rw [mv_f0]; exact hl.id, ?_, ?_, ?_⟩
    · rw [mv_f1]; unfold mf; split; omega; exact hl.c0
    · rw [mv_f1]; unfold mf; split; omega; exact hl.c1
    · rw [mv_f1, mv_f2]; unfold mf; split
      · intro e; omega
      · exact hl.h
  · obtain ⟨w, hw, rfl⟩ := mem_move.1 hz
    rw [mv_f1] at h0 ⊢
    have h1 : 0 < w.f1 := by
      unfold mf at h0
      split at h0
      · omega
      · exact h0
    exact Nat.le_trans (h.two w hw h1) (cnt_move l a b w.f1)

end Go.Proofs.Ytmjenmhidnkbdaa.P

/- After Connect the two legs hear exactly each other, and all pairs of other legs are as before. -/
namespace Go.Proofs.Ytmjenmhidnkbdaa.P
open Go.RowKit Go.Proofs.YtmjenmhidnkbdaaW.PrintWords Go.Proofs.YtmjenmhidnkbdaaW.PrintLast Go.Proofs.YtmjenmhidnkbdaaW.PrintMore
set_option linter.unusedVariables false
set_option linter.unusedSimpArgs false

theorem rd_ids {a b : List S36} (h : ids a = ids b) {q : Nat} (hq : q < a.length) : (rd_T36 a (q : Int)).f0 = (rd_T36 b (q : Int)).f0 := by
  have hl : a.length = b.length := by
    have := congrArg List.length h
    simpa [ids] using this
  have h1 := congrArg (fun m => m[q]?) h
  simp only [ids, List.getElem?_map, rd_at a q hq, rd_at b q (by omega), Option.map_some, Option.some.injEq] at h1
  exact h1
end Go.Proofs.Ytmjenmhidnkbdaa.P

/- Plain laws: a bridge by its legs' numbers; what each operation does to it. -/
namespace Go.Proofs.Ytmjenmhidnkbdaa.P
open Go.RowKit Go.Proofs.YtmjenmhidnkbdaaW.PrintWords Go.Proofs.YtmjenmhidnkbdaaW.PrintLast Go.Proofs.YtmjenmhidnkbdaaW.PrintMore
set_option linter.unusedVariables false
set_option linter.unusedSimpArgs false

/-- The leg of a number. -/
def lk (l : List S36) (p : Int) : Option S36 := l.find? fun z => z.f0 == p
/-- Its conference, 0 if there is none. -/
def cf (l : List S36) (p : Int) : Int := match lk l p with
  | some z => z.f1
  | none => 0
/-- Whether it is on hold. -/
def hdB (l : List S36) (p : Int) : Bool := match lk l p with
  | some z => z.f2
  | none => false
theorem one_leg {l : List S36} (hs : Sorted l) {z w : S36} (hz : z ∈ l) (hw : w ∈ l) (h : z.f0 = w.f0) : z = w := by
  obtain ⟨i, hi, rfl⟩ := mem_at hz
  obtain ⟨j, hj, rfl⟩ := mem_at hw
  rw [sorted_inj hs hi hj h]
theorem lk_iff {l : List S36} (hs : Sorted l) {p : Int} {z : S36} : lk l p = some z ↔ z ∈ l ∧ z.f0 = p := by
  constructor
  · intro h
    exact ⟨List.mem_of_find?_eq_some h, by have := List.find?_some h; simpa using this⟩
  · rintro ⟨hz, he⟩
    cases h : lk l p with
    | none =>
      have := List.find?_eq_none.1 h z hz
      simp [he] at this
    | some w =>
      have h1 := List.mem_of_find?_eq_some h
      have h2 : w.f0 = p := by have := List.find?_some h; simpa using this
      rw [one_leg hs hz h1 (by rw [he, h2])]
theorem lk_none {l : List S36} {p : Int} (h : ∀ z ∈ l, z.f0 ≠ p) : lk l p = none := List.find?_eq_none.2 fun z hz => by simpa using h z hz
theorem cf_of {l : List S36} (hs : Sorted l) {z : S36} (hz : z ∈ l) : cf l z.f0 = z.f1 := by
  unfold cf; rw [(lk_iff hs).2 ⟨hz, rfl⟩]
theorem hd_of {l : List S36} (hs : Sorted l) {z : S36} (hz : z ∈ l) : hdB l z.f0 = z.f2 := by
  unfold hdB; rw [(lk_iff hs).2 ⟨hz, rfl⟩]
theorem cf_leg {l : List S36} (hs : Sorted l) {p : Int} (h : cf l p ≠ 0) : ∃ z ∈ l, z.f0 = p ∧ z.f1 = cf l p := by
  cases e : lk l p with
  | none => unfold cf at h; rw [e] at h; exact absurd rfl h
  | some z =>
    obtain ⟨hz, he⟩ := (lk_iff hs).1 e
    exact ⟨z, hz, he, by unfold cf; rw [e]⟩
theorem hd_leg {l : List S36} (hs : Sorted l) {p : Int} (h : hdB l p = true) : ∃ z ∈ l, z.f0 = p ∧ z.f2 = true := by
  cases e : lk l p with
  | none => unfold hdB at h; rw [e] at h; cases h
  | some z =>
    obtain ⟨hz, he⟩ := (lk_iff hs).1 e
    exact ⟨z, hz, he, by unfold hdB at h; rw [e] at h; exact h⟩

/-! ### The operations -/
theorem set_sorted {l : List S36} (hs : Sorted l) {i : Nat} (hi : i < l.length) {z : S36} (hz : (rd_T36 l (i : Int)).f0 = z.f0) : Sorted (l.set i z) :=
  ids_sorted (ids_set l i z (fun y hy => by rw [rd_at l i hi] at hy; injection hy with hy; rw [← hy, hz])).symm hs
theorem lk_set {l : List S36} (hs : Sorted l) {i : Nat} (hi : i < l.length) {z : S36} (hz : (rd_T36 l (i : Int)).f0 = z.f0) (p : Int) : lk (l.set i z) p = if p = z.f0 then some z else lk l p := by
  have hs2 := set_sorted hs hi hz
  refine Option.ext fun w => ?_
  rw [lk_iff hs2]
  by_cases e : p = z.f0
  · rw [if_pos e]
    constructor
    · rintro ⟨h1, h2⟩
      rw [one_leg hs2 (set_self z hi) h1 (by rw [h2, e])]
    · intro h
      injection h with h
      subst h
      exact ⟨set_self z hi, e.symm⟩
  · rw [if_neg e, lk_iff hs]
    constructor
    · rintro ⟨h1, h2⟩
      rcases mem_set h1 with rfl | ⟨q, _, hq⟩
      · exact absurd h2.symm e
      · exact ⟨List.mem_iff_getElem?.2 ⟨q, hq⟩, h2⟩
    · rintro ⟨h1, h2⟩
      obtain ⟨q, hq, rfl⟩ := mem_at h1
      have hqi : q ≠ i := fun e2 => e (by rw [← h2, e2, hz])
      exact ⟨set_mem (rd_at l q hq) hqi, h2⟩
theorem lk_ins {l : List S36} (hs : Sorted l) {x : Int} (ht : there l x = false) (n : S36) (hn : n.f0 = x) (p : Int) : lk (ins l (pos l x) n) p = if p = x then some n else lk l p := by
  have hs2 := sorted_ins hs ht n hn
  have hno := no_there hs ht
  refine Option.ext fun w => ?_
  rw [lk_iff hs2, mem_ins]
  by_cases e : p = x
  · rw [if_pos e]
    constructor
    · rintro ⟨rfl | h1, h2⟩
      · rfl
      · exact absurd (by rw [h2, e]) (hno w h1)
    · intro h
      injection h with h
      subst h
      exact ⟨.inl rfl, by rw [hn, e]⟩
  · rw [if_neg e, lk_iff hs]
    constructor
    · rintro ⟨rfl | h1, h2⟩
      · exact absurd (by rw [← h2, hn]) e
      · exact ⟨h1, h2⟩
    · rintro ⟨h1, h2⟩
      exact ⟨.inr h1, h2⟩
theorem rm_sorted {m : List S36} (hs : Sorted m) (x : Int) : Sorted (rm m x) := List.Pairwise.sublist List.filter_sublist hs
theorem lk_rm {m : List S36} (hs : Sorted m) (x p : Int) : lk (rm m x) p = if p = x then none else lk m p := by
  refine Option.ext fun w => ?_
  rw [lk_iff (rm_sorted hs x), rm_mem]
  by_cases e : p = x
  · rw [if_pos e]
    constructor
    · rintro ⟨⟨h1, h2⟩, h3⟩; exact absurd (by rw [h3, e]) h2
    · intro h; cases h
  · rw [if_neg e, lk_iff hs]
    constructor
    · rintro ⟨⟨h1, h2⟩, h3⟩; exact ⟨h1, h3⟩
    · rintro ⟨h1, h3⟩; exact ⟨⟨h1, fun h => e (by rw [← h3, h])⟩, h3⟩
theorem move_sorted {l : List S36} (hs : Sorted l) (a b : Int) : Sorted (moveTo l a b) := ids_sorted (ids_move l a b).symm hs
theorem lk_move {l : List S36} (hs : Sorted l) (a b p : Int) : lk (moveTo l a b) p = (lk l p).map (mv a b) := by
  refine Option.ext fun w => ?_
  rw [lk_iff (move_sorted hs a b), mem_move, Option.map_eq_some_iff]
  constructor
  · rintro ⟨⟨u, hu, rfl⟩, h2⟩
    exact ⟨u, (lk_iff hs).2 ⟨hu, by rw [← h2, mv_f0]⟩, rfl⟩
  · rintro ⟨u, hu, rfl⟩
    obtain ⟨h1, h2⟩ := (lk_iff hs).1 hu
    exact ⟨⟨u, h1, rfl⟩, by rw [mv_f0, h2]⟩

theorem cnt_two {m : List S36} (hs : Sorted m) {c : Int} (h : 2 ≤ cnt m c) (p : Int) : ∃ w ∈ m, w.f1 = c ∧ w.f0 ≠ p := by
  have hsub : List.Sublist (m.filter fun x => x.f1 == c) m := List.filter_sublist
  have hp : Sorted (m.filter fun x => x.f1 == c) := List.Pairwise.sublist hsub hs
  unfold cnt at h
  have hmem : ∀ w ∈ m.filter (fun x => x.f1 == c), w ∈ m ∧ w.f1 = c := fun w hw => by
    rw [List.mem_filter] at hw
    exact ⟨hw.1, by simpa using hw.2⟩
  generalize m.filter (fun x => x.f1 == c) = L at *
  match L, h with
  | a :: b :: r, _ =>
    have hab : a.f0 < b.f0 := (List.pairwise_cons.1 hp).1 b (by simp)
    obtain ⟨a1, a2⟩ := hmem a (by simp)
    obtain ⟨b1, b2⟩ := hmem b (by simp)
    by_cases e : a.f0 = p
    · exact ⟨b, b1, b2, by omega⟩
    · exact ⟨a, a1, a2, e⟩
theorem two_cnt {m : List S36} {z w : S36} (hz : z ∈ m) (hw : w ∈ m) (h : z.f1 = w.f1) (hne : z.f0 ≠ w.f0) : 2 ≤ cnt m z.f1 := by
  unfold cnt
  have h1 : z ∈ m.filter (fun x => x.f1 == z.f1) := List.mem_filter.2 ⟨hz, by simp⟩
  have h2 : w ∈ m.filter (fun x => x.f1 == z.f1) := List.mem_filter.2 ⟨hw, by simp [h]⟩
  generalize m.filter (fun x => x.f1 == z.f1) = L at *
  match L, h1, h2 with
  | [], h1, _ => simp at h1
  | [a], h1, h2 =>
    have e1 : z = a := by simpa using h1
    have e2 : w = a := by simpa using h2
    exact absurd (by rw [e1, e2]) hne
  | a :: b :: r, _, _ => simp only [List.length_cons]; omega

/-- What leaving does: the leg alone, and with it the last other one of its conference. -/
theorem lk_lv {l : List S36} (hs : Sorted l) {i : Nat} (hi : i < l.length) {x c : Int} (hx : (rd_T36 l (i : Int)).f0 = x) (hc : (rd_T36 l (i : Int)).f1 = c) :
    ((∀ p, lk (lv l i) p = if p = x then some ⟨x, 0, false⟩ else lk l p) ∧ (c ≠ 0 → ∀ p, p ≠ x → cf l p = c → ∃ q, q ≠ x ∧ q ≠ p ∧ cf l q = c)) ∨
    (∃ y, y ≠ x ∧ cf l y = c ∧ c ≠ 0 ∧ (∀ q, q ≠ x → cf l q = c → q = y) ∧ ∀ p, lk (lv l i) p = if p = x then some ⟨x, 0, false⟩ else if p = y then some ⟨y, 0, false⟩ else lk l p) := by
  have hz : (rd_T36 l (i : Int)).f0 = (⟨x, 0, false⟩ : S36).f0 := hx
  have ho : outOf l i = l.set i ⟨x, 0, false⟩ := by unfold outOf; rw [hx]
  have hso : Sorted (outOf l i) := by rw [ho]; exact set_sorted hs hi hz
  have hlo : ∀ p, lk (outOf l i) p = if p = x then some ⟨x, 0, false⟩ else lk l p := fun p => by rw [ho]; exact lk_set hs hi hz p
  rcases lv_cases l i hi with ⟨e, hne⟩ | ⟨j, hj, hji, hn0, hcj, hu, e⟩
  · left
    rw [e]
    refine ⟨hlo, fun h0 p hp hpc => ?_⟩
    have h1 := hne (by show (rd_T36 l (i : Int)).f1 ≠ 0; rw [hc]; exact h0)
    have hci : cfAt l i = c := hc
    rw [hci] at h1
    obtain ⟨z, hzl, hzp, hzc⟩ := cf_leg hs (p := p) (by rw [hpc]; exact h0)
    have hzo : z ∈ outOf l i := ((lk_iff hso).1 (by rw [hlo, if_neg hp]; exact (lk_iff hs).2 ⟨hzl, hzp⟩)).1
    have h2 := cnt_of _ z hzo
    rw [hzc, hpc] at h2
    obtain ⟨w, hw, hwc, hwp⟩ := cnt_two hso (c := c) (by omega) p
    have hwx : w.f0 ≠ x := fun e2 => by
      have := (lk_iff hso).2 ⟨hw, rfl⟩
      rw [hlo, if_pos e2] at this
      injection this with this
      rw [← this] at hwc
      exact h0 hwc.symm
    have hwl : w ∈ l := ((lk_iff hs).1 (by have := (lk_iff hso).2 ⟨hw, rfl⟩; rwa [hlo, if_neg hwx] at this)).1
    exact ⟨w.f0, hwx, hwp, by rw [cf_of hs hwl, hwc]⟩
  · right
    have hcj' : (rd_T36 l (j : Int)).f1 = c := by
      have : (rd_T36 l (j : Int)).f1 = (rd_T36 l (i : Int)).f1 := hcj
      rw [this, hc]
    have hjx : (rd_T36 l (j : Int)).f0 ≠ x := fun e2 => hji (sorted_inj hs hj hi (by rw [e2, hx]))
    refine ⟨(rd_T36 l (j : Int)).f0, hjx, by rw [cf_of hs (at_mem hj), hcj'], by rw [← hc]; exact hn0, fun q hq hqc => ?_, fun p => ?_⟩
    · obtain ⟨z, hzl, hzq, hzc⟩ := cf_leg hs (p := q) (by rw [hqc, ← hc]; exact hn0)
      obtain ⟨k, hk, rfl⟩ := mem_at hzl
      have hki : k ≠ i := fun e2 => hq (by rw [← hzq, e2, hx])
      have := hu k hk hki (by show (rd_T36 l (k : Int)).f1 = (rd_T36 l (i : Int)).f1; rw [hzc, hqc, hc])
      rw [← hzq, this]
    · have hjo : j < (outOf l i).length := by rw [outOf_len]; exact hj
      have hrj : rd_T36 (outOf l i) (j : Int) = rd_T36 l (j : Int) := by rw [rd_out l i j hj, if_neg hji]
      have ho2 : outOf (outOf l i) j = (outOf l i).set j ⟨(rd_T36 l (j : Int)).f0, 0, false⟩ := by
        show (outOf l i).set j ⟨(rd_T36 (outOf l i) (j : Int)).f0, 0, false⟩ = _
        rw [hrj]
      rw [e, ho2, lk_set hso hjo (by rw [hrj]) p, hlo]
      by_cases e1 : p = x
      · subst e1
        rw [if_neg (fun h => hjx h.symm), if_pos rfl, if_pos rfl]
      · simp only [if_neg e1]

/-! ### What a right bridge is, by its legs' numbers -/
theorem ok_two {l : List S36} {nx : Int} (h : Ok l nx) {p : Int} (h0 : cf l p ≠ 0) : ∃ q, q ≠ p ∧ cf l q = cf l p := by
  obtain ⟨z, hz, hp, hc⟩ := cf_leg h.s h0
  have h1 := (h.leg z hz).c0
  obtain ⟨w, hw, hwc, hwp⟩ := cnt_two h.s (h.two z hz (by omega)) p
  exact ⟨w.f0, hwp, by rw [cf_of h.s hw, hwc, hc]⟩
theorem ok_hd {l : List S36} {nx : Int} (h : Ok l nx) {p : Int} (hh : hdB l p = true) : cf l p ≠ 0 := by
  obtain ⟨z, hz, hp, h2⟩ := hd_leg h.s hh
  intro h0
  rw [← hp, cf_of h.s hz] at h0
  have := (h.leg z hz).h h0
  rw [h2] at this; cases this
theorem ok_lt {l : List S36} {nx : Int} (h : Ok l nx) (p : Int) : 0 ≤ cf l p ∧ cf l p < nx := by
  by_cases h0 : cf l p = 0
  · have := h.n1; omega
  · obtain ⟨z, hz, hp, hc⟩ := cf_leg h.s h0
    have h1 := h.leg z hz
    rw [← hc]; exact ⟨h1.c0, h1.c1⟩
/-- The other way. -/
theorem ok_mk {l : List S36} {nx : Int} (n1 : 1 ≤ nx) (n2 : nx ≤ 1099511627776) (hs : Sorted l) (hlen : l.length ≤ 1024) (hid : ∀ z ∈ l, okId z.f0 = true)
    (hc : ∀ p, 0 ≤ cf l p ∧ cf l p < nx) (hh : ∀ p, hdB l p = true → cf l p ≠ 0) (ht : ∀ p, cf l p ≠ 0 → ∃ q, q ≠ p ∧ cf l q = cf l p) : Ok l nx := by
  refine ⟨n1, n2, hs, fun z hz => ⟨hid z hz, ?_, ?_, fun h0 => ?_⟩, fun z hz h0 => ?_, hlen⟩
  · rw [← cf_of hs hz]; exact (hc _).1
  · rw [← cf_of hs hz]; exact (hc _).2
  · cases e : z.f2 with
    | false => rfl
    | true => exact absurd (by rw [cf_of hs hz]; exact h0) (hh z.f0 (by rw [hd_of hs hz]; exact e))
  · obtain ⟨q, hq, hqc⟩ := ht z.f0 (by rw [cf_of hs hz]; omega)
    rw [cf_of hs hz] at hqc
    obtain ⟨w, hw, hwq, hwc⟩ := cf_leg hs (p := q) (by rw [hqc]; omega)
    exact two_cnt hz hw (by rw [hwc, hqc]) (by rw [hwq]; exact fun e => hq e.symm)

/-- Two legs are in one conference. -/
def jb (l : List S36) (p q : Int) : Bool := decide (p ≠ q) && decide (cf l p = cf l q) && decide (cf l p ≠ 0)
theorem jb_iff {l : List S36} {p q : Int} : jb l p q = true ↔ p ≠ q ∧ cf l p = cf l q ∧ cf l p ≠ 0 := by
  unfold jb; simp [and_assoc]
/-- Who hears whom. -/
theorem hb_jb {l : List S36} {nx : Int} (h : Ok l nx) (p q : Int) : hb l p q = (jb l p q && !hdB l p && !hdB l q) := by
  rw [Bool.eq_iff_iff, hb_iff h.s]
  simp only [Bool.and_eq_true, jb_iff, Bool.not_eq_true']
  constructor
  · rintro ⟨a, ha, b, hb', rfl, rfl, e, e0, k1, k2, hne⟩
    rw [cf_of h.s ha, cf_of h.s hb', hd_of h.s ha, hd_of h.s hb']
    exact ⟨⟨⟨hne, e, e0⟩, k1⟩, k2⟩
  · rintro ⟨⟨⟨hne, e, e0⟩, k1⟩, k2⟩
    obtain ⟨a, ha, hap, hac⟩ := cf_leg h.s e0
    obtain ⟨b, hb', hbp, hbc⟩ := cf_leg h.s (p := q) (by rw [← e]; exact e0)
    subst hap
    subst hbp
    rw [hd_of h.s ha] at k1
    rw [hd_of h.s hb'] at k2
    exact ⟨a, ha, b, hb', rfl, rfl, by rw [hac, hbc, e], by rw [hac]; exact e0, k1, k2, hne⟩

/-- Leaving, for who is with whom and who is on hold; what is left is right. -/
theorem lv_all {l : List S36} {nx : Int} (h : Ok l nx) {i : Nat} (hi : i < l.length) {x : Int} (hx : (rd_T36 l (i : Int)).f0 = x) :
    Ok (lv l i) nx ∧ cf (lv l i) x = 0 ∧ hdB (lv l i) x = false ∧ (∀ p, (lk (lv l i) p).isSome = (lk l p).isSome) ∧ (∀ p q, jb (lv l i) p q = (jb l p q && decide (p ≠ x) && decide (q ≠ x))) ∧
    (∀ p, hdB (lv l i) p = (hdB l p && decide (cf (lv l i) p ≠ 0))) ∧ (∀ z ∈ lv l i, ∃ w ∈ l, w.f0 = z.f0) := by
  have hsl := lv_sorted h.s i
  have hxs : lk l x = some (rd_T36 l (i : Int)) := (lk_iff h.s).2 ⟨at_mem hi, hx⟩
  have hcx : cf l x = (rd_T36 l (i : Int)).f1 := by unfold cf; rw [hxs]
  have hidl : ∀ z ∈ lv l i, ∃ w ∈ l, w.f0 = z.f0 := fun z hz => by
    rcases lv_mem hi hz with hz | ⟨_, _, w, hw, e⟩
    · exact ⟨z, hz, rfl⟩
    · exact ⟨w, hw, e⟩
  have hid : ∀ z ∈ lv l i, okId z.f0 = true := fun z hz => by
    obtain ⟨w, hw, e⟩ := hidl z hz
    rw [← e]; exact (h.leg w hw).id
  have hlen : (lv l i).length ≤ 1024 := by rw [lv_len]; exact h.len
  have hn1 := h.n1
  have hcx' : cf l x = (rd_T36 l (i : Int)).f1 := hcx
  rcases lk_lv h.s hi hx rfl with ⟨hl, hmore⟩ | ⟨y, hyx, hyc, hc0, hu, hl⟩
  · have hcf : ∀ p, cf (lv l i) p = if p = x then 0 else cf l p := fun p => by
      unfold cf; rw [hl]; by_cases e : p = x
      · simp [e]
      · simp [e]
    have hhd : ∀ p, hdB (lv l i) p = if p = x then false else hdB l p := fun p => by
      unfold hdB; rw [hl]; by_cases e : p = x
      · simp [e]
      · simp [e]
    rw [← hcx] at hmore
    refine ⟨ok_mk h.n1 h.n2 hsl hlen hid (fun p => ?_) (fun p hp => ?_) (fun p hp => ?_), by rw [hcf, if_pos rfl], by rw [hhd, if_pos rfl], fun p => ?_, fun p q => ?_, fun p => ?_, hidl⟩
    · rw [hcf]; split
      · omega
      · exact ok_lt h p
    · rw [hhd] at hp
      rw [hcf]
      by_cases e : p = x
      · rw [if_pos e] at hp; cases hp
      · rw [if_neg e] at hp ⊢; exact ok_hd h hp
    · rw [hcf] at hp
      by_cases e : p = x
      · rw [if_pos e] at hp; exact absurd rfl hp
      · rw [if_neg e] at hp
        by_cases ec : cf l p = cf l x
        · obtain ⟨q, hq1, hq2, hq3⟩ := hmore (by rw [← ec]; exact hp) p e ec
          exact ⟨q, hq2, by rw [hcf, if_neg hq1, hcf, if_neg e, hq3, ec]⟩
        · obtain ⟨q, hq, hqc⟩ := ok_two h hp
          have hqx : q ≠ x := fun e2 => ec (by rw [← hqc, e2])
          exact ⟨q, hq, by rw [hcf, if_neg hqx, hcf, if_neg e, hqc]⟩
    · rw [hl]; by_cases e : p = x
      · rw [if_pos e, e, hxs]; rfl
      · rw [if_neg e]
    · rw [Bool.eq_iff_iff]
      simp only [Bool.and_eq_true, jb_iff, decide_eq_true_eq]
      rw [hcf, hcf]
      by_cases e1 : p = x
      · simp [e1]
      · by_cases e2 : q = x
        · rw [if_neg e1, if_pos e2]
          constructor
          · rintro ⟨h1, h2, h3⟩; exact absurd h2 h3
          · rintro ⟨_, h3⟩; exact absurd e2 h3
        · rw [if_neg e1, if_neg e2]
          exact ⟨fun h => ⟨⟨h, e1⟩, e2⟩, fun h => h.1.1⟩
    · rw [hhd, hcf]
      by_cases e : p = x
      · simp [e]
      · simp only [if_neg e]
        cases hh : hdB l p with
        | false => rfl
        | true => simp [ok_hd h hh]
  · rw [← hcx] at hyc hc0 hu
    have hyl : (lk l y).isSome = true := by
      obtain ⟨z, hz, hp, _⟩ := cf_leg h.s (p := y) (by rw [hyc]; exact hc0)
      rw [(lk_iff h.s).2 ⟨hz, hp⟩]; rfl
    have hcf : ∀ p, cf (lv l i) p = if p = x then 0 else if p = y then 0 else cf l p := fun p => by
      unfold cf; rw [hl]
      by_cases e : p = x
      · simp [e]
      · by_cases e2 : p = y
        · simp [e2, hyx]
        · simp [e, e2]
    have hhd : ∀ p, hdB (lv l i) p = if p = x then false else if p = y then false else hdB l p := fun p => by
      unfold hdB; rw [hl]
      by_cases e : p = x
      · simp [e]
      · by_cases e2 : p = y
        · simp [e2, hyx]
        · simp [e, e2]
    refine ⟨ok_mk h.n1 h.n2 hsl hlen hid (fun p => ?_) (fun p hp => ?_) (fun p hp => ?_), by rw [hcf, if_pos rfl], by rw [hhd, if_pos rfl], fun p => ?_, fun p q => ?_, fun p => ?_, hidl⟩
    · rw [hcf]; split
      · omega
      · split
        · omega
        · exact ok_lt h p
    · rw [hhd] at hp
      rw [hcf]
      by_cases e : p = x
      · rw [if_pos e] at hp; cases hp
      · by_cases e2 : p = y
        · rw [if_neg e, if_pos e2] at hp; cases hp
        · rw [if_neg e, if_neg e2] at hp ⊢; exact ok_hd h hp
    · rw [hcf] at hp
      by_cases e : p = x
      · rw [if_pos e] at hp; exact absurd rfl hp
      · by_cases e2 : p = y
        · rw [if_neg e, if_pos e2] at hp; exact absurd rfl hp
        · rw [if_neg e, if_neg e2] at hp
          have hpc : cf l p ≠ cf l x := fun ec => e2 (hu p e ec)
          obtain ⟨q, hq, hqc⟩ := ok_two h hp
          have hqx : q ≠ x := fun e3 => hpc (by rw [← hqc, e3])
          have hqy : q ≠ y := fun e3 => hpc (by rw [← hqc, e3, hyc])
          exact ⟨q, hq, by rw [hcf, if_neg hqx, if_neg hqy, hcf, if_neg e, if_neg e2, hqc]⟩
    · rw [hl]; by_cases e : p = x
      · rw [if_pos e, e, hxs]; rfl
      · by_cases e2 : p = y
        · rw [if_neg e, if_pos e2, e2, hyl]; rfl
        · rw [if_neg e, if_neg e2]
    · rw [Bool.eq_iff_iff]
      simp only [Bool.and_eq_true, jb_iff, decide_eq_true_eq]
      rw [hcf, hcf]
      by_cases e1 : p = x
      · simp [e1]
      · by_cases e2 : q = x
        · rw [if_neg e1, if_pos e2]
          constructor
          · rintro ⟨h1, h2, h3⟩; exact absurd h2 h3
          · rintro ⟨_, h3⟩; exact absurd e2 h3
        · rw [if_neg e1, if_neg e2]
          by_cases e3 : p = y
          · rw [if_pos e3]
            constructor
            · rintro ⟨h1, h2, h3⟩; exact absurd rfl h3
            · rintro ⟨⟨⟨h1, h2, h3⟩, _⟩, _⟩
              subst e3
              exact absurd (hu q e2 (by rw [← h2, hyc])).symm h1
          · rw [if_neg e3]
            by_cases e4 : q = y
            · rw [if_pos e4]
              constructor
              · rintro ⟨h1, h2, h3⟩; exact absurd h2 h3
              · rintro ⟨⟨⟨h1, h2, h3⟩, _⟩, _⟩
                subst e4
                exact absurd (hu p e1 (by rw [h2, hyc])) e3
            · rw [if_neg e4]
              exact ⟨fun h => ⟨⟨h, e1⟩, e2⟩, fun h => h.1.1⟩
    · rw [hhd, hcf]
      by_cases e : p = x
      · simp [e]
      · by_cases e2 : p = y
        · simp [e2]
        · simp only [if_neg e, if_neg e2]
          cases hh : hdB l p with
          | false => rfl
          | true => simp [ok_hd h hh]
end Go.Proofs.Ytmjenmhidnkbdaa.P

/- Plain laws: the law's own model of a bridge, as eighty places; it goes with the bridge. -/
namespace Go.Proofs.Ytmjenmhidnkbdaa.P
open Go.RowKit Go.Proofs.YtmjenmhidnkbdaaW.PrintWords Go.Proofs.YtmjenmhidnkbdaaW.PrintLast Go.Proofs.YtmjenmhidnkbdaaW.PrintMore
set_option linter.unusedVariables false
set_option linter.unusedSimpArgs false

def upd (F : Nat → Bool) (i : Nat) (b : Bool) : Nat → Bool := fun j => if j = i then b else F j
def aloneF (F : Nat → Bool) (x : Nat) : Bool := (List.range 8).all fun y => !F (16 + x * 8 + y)
def clF (F : Nat → Bool) (x : Nat) : Nat → (Nat → Bool)
  | 0 => F
  | j + 1 => upd (upd (clF F x j) (16 + x * 8 + j) false) (16 + j * 8 + x) false
def hlF (F : Nat → Bool) : Nat → (Nat → Bool)
  | 0 => F
  | j + 1 => if aloneF (hlF F j) j = true then upd (hlF F j) (8 + j) false else hlF F j
def leaveF (F : Nat → Bool) (x : Nat) : Nat → Bool := hlF (clF F x 8) 8
def mgI (F0 : Nat → Bool) (x y p : Nat) (G : Nat → Bool) : Nat → (Nat → Bool)
  | 0 => G
  | q + 1 => if ((decide (p = x) || F0 (16 + p * 8 + x)) && (decide (q = y) || F0 (16 + q * 8 + y))) = true then upd (upd (mgI F0 x y p G q) (16 + p * 8 + q) true) (16 + q * 8 + p) true else mgI F0 x y p G q
def mgO (F0 : Nat → Bool) (x y : Nat) : Nat → (Nat → Bool)
  | 0 => F0
  | p + 1 => mgI F0 x y p (mgO F0 x y p) 8
def doF (kind x y : Nat) (F : Nat → Bool) : Bool × (Nat → Bool) :=
  if kind = 0 then (!F x, upd F x true)
  else if F x = false ∨ ((kind = 2 ∨ kind = 3) ∧ (F y = false ∨ x = y)) then (false, F)
  else if kind = 1 then (true, upd (leaveF F x) x false)
  else if kind = 2 then (true, upd (upd (leaveF (leaveF F x) y) (16 + x * 8 + y) true) (16 + y * 8 + x) true)
  else if kind = 3 then (if (aloneF F x || aloneF F y || F (16 + x * 8 + y)) = true then (false, F) else (true, mgO F x y 8))
  else if (aloneF F x || (F (8 + x) == decide (kind = 4))) = true then (false, F) else (true, upd F (8 + x) (decide (kind = 4)))

theorem aloneF_iff (F : Nat → Bool) (x : Nat) : aloneF F x = true ↔ ∀ y, y < 8 → F (16 + x * 8 + y) = false := by
  unfold aloneF
  rw [List.all_eq_true]
  simp
theorem aloneF_of {F G : Nat → Bool} {x : Nat} (h : ∀ y, y < 8 → F (16 + x * 8 + y) = G (16 + x * 8 + y)) : aloneF F x = aloneF G x := by
  rw [Bool.eq_iff_iff, aloneF_iff, aloneF_iff]
  exact ⟨fun a y hy => by rw [← h y hy]; exact a y hy, fun a y hy => by rw [h y hy]; exact a y hy⟩
theorem clF_at (F : Nat → Bool) (x : Nat) : ∀ j k, ((∃ y, y < j ∧ (k = 16 + x * 8 + y ∨ k = 16 + y * 8 + x)) → clF F x j k = false) ∧ ((∀ y, y < j → k ≠ 16 + x * 8 + y ∧ k ≠ 16 + y * 8 + x) → clF F x j k = F k) := by
  intro j
  induction j with
  | zero => intro k; exact ⟨fun ⟨y, h, _⟩ => by omega, fun _ => rfl⟩
  | succ j ih =>
    intro k
    simp only [clF, upd]
    constructor
    · rintro ⟨y, hy, h⟩
      by_cases e1 : k = 16 + j * 8 + x
      · rw [if_pos e1]
      · rw [if_neg e1]
        by_cases e2 : k = 16 + x * 8 + j
        · rw [if_pos e2]
        · rw [if_neg e2]
          refine (ih k).1 ⟨y, ?_, h⟩
          by_cases e : y = j
          · subst e; rcases h with h | h
            · exact absurd h e2
            · exact absurd h e1
          · omega
    · intro h
      rw [if_neg (h j (by omega)).2, if_neg (h j (by omega)).1]
      exact (ih k).2 fun y hy => h y (by omega)
theorem clF_low (F : Nat → Bool) (x k : Nat) (hk : k < 16) : clF F x 8 k = F k := (clF_at F x 8 k).2 fun y hy => by omega
theorem clF_jn (F : Nat → Bool) (x p q : Nat) (hx : x < 8) (hp : p < 8) (hq : q < 8) : clF F x 8 (16 + p * 8 + q) = (F (16 + p * 8 + q) && decide (p ≠ x) && decide (q ≠ x)) := by
  obtain ⟨h1, h2⟩ := clF_at F x 8 (16 + p * 8 + q)
  by_cases e1 : p = x
  · rw [h1 ⟨q, hq, .inl (by rw [e1])⟩]; simp [e1]
  · by_cases e2 : q = x
    · rw [h1 ⟨p, hp, .inr (by rw [e2])⟩]; simp [e2]
    · rw [h2 fun y hy => by omega]; simp [e1, e2]
theorem hlF_at (G : Nat → Bool) : ∀ j, j ≤ 8 → ∀ k, hlF G j k = if 8 ≤ k ∧ k < 8 + j then (G k && !aloneF G (k - 8)) else G k := by
  intro j
  induction j with
  | zero => intro _ k; simp only [hlF]; rw [if_neg (by omega)]
  | succ j ih =>
    intro hj k
    have ih' := ih (by omega)
    have ha : aloneF (hlF G j) j = aloneF G j := aloneF_of fun y hy => by rw [ih' (16 + j * 8 + y), if_neg (by omega)]
    simp only [hlF]
    rw [ha]
    by_cases e : k = 8 + j
    · subst e
      have hk : hlF G j (8 + j) = G (8 + j) := by rw [ih', if_neg (by omega)]
      have h8 : 8 + j - 8 = j := by omega
      have hcc : 8 ≤ 8 + j ∧ 8 + j < 8 + (j + 1) := by omega
      simp only [if_pos hcc, h8]
      by_cases hal : aloneF G j = true
      · simp only [if_pos hal, hal]; simp [upd]
      · simp only [if_neg hal, hk]; simp [hal]
    · have hc : (8 ≤ k ∧ k < 8 + (j + 1)) ↔ (8 ≤ k ∧ k < 8 + j) := by omega
      simp only [hc]
      have hu : ∀ b, upd (hlF G j) (8 + j) b k = hlF G j k := fun b => by simp only [upd]; rw [if_neg e]
      split
      · rw [hu]; exact ih' k
      · exact ih' k
theorem leaveF_ex (F : Nat → Bool) (x p : Nat) (hp : p < 8) : leaveF F x p = F p := by
  unfold leaveF
  rw [hlF_at _ 8 (by omega), if_neg (by omega), clF_low F x p (by omega)]
theorem leaveF_jn (F : Nat → Bool) (x p q : Nat) (hx : x < 8) (hp : p < 8) (hq : q < 8) : leaveF F x (16 + p * 8 + q) = (F (16 + p * 8 + q) && decide (p ≠ x) && decide (q ≠ x)) := by
  unfold leaveF
  rw [hlF_at _ 8 (by omega), if_neg (by omega), clF_jn F x p q hx hp hq]
theorem leaveF_hd (F : Nat → Bool) (x p : Nat) (hp : p < 8) : leaveF F x (8 + p) = (F (8 + p) && !aloneF (clF F x 8) p) := by
  unfold leaveF
  rw [hlF_at _ 8 (by omega), if_pos (by omega), clF_low F x (8 + p) (by omega), show 8 + p - 8 = p by omega]

theorem mgI_low (F0 : Nat → Bool) (x y p : Nat) (G : Nat → Bool) (k : Nat) (hk : k < 16) : ∀ q, mgI F0 x y p G q k = G k := by
  intro q
  induction q with
  | zero => rfl
  | succ q ih =>
    simp only [mgI]
    split
    · rw [upd, if_neg (by omega), upd, if_neg (by omega), ih]
    · exact ih
theorem mgO_low (F0 : Nat → Bool) (x y k : Nat) (hk : k < 16) : ∀ p, mgO F0 x y p k = F0 k := by
  intro p
  induction p with
  | zero => rfl
  | succ p ih => simp only [mgO]; rw [mgI_low _ _ _ _ _ _ hk, ih]
theorem mgI_at (F0 : Nat → Bool) (x y p : Nat) (G : Nat → Bool) (hp : p < 8) (r s : Nat) (hr : r < 8) (hs : s < 8) : ∀ n, n ≤ 8 →
    (mgI F0 x y p G n (16 + r * 8 + s) = true ↔ G (16 + r * 8 + s) = true ∨ ∃ q, q < n ∧ (p = x ∨ F0 (16 + p * 8 + x) = true) ∧ (q = y ∨ F0 (16 + q * 8 + y) = true) ∧ ((r = p ∧ s = q) ∨ (r = q ∧ s = p))) := by
  intro n
  induction n with
  | zero => intro _; exact ⟨fun h => .inl h, fun h => h.elim id fun ⟨q, hq, _⟩ => by omega⟩
  | succ n ih =>
    intro hn
    have ih' := ih (by omega)
    simp only [mgI]
    by_cases hc : ((decide (p = x) || F0 (16 + p * 8 + x)) && (decide (n = y) || F0 (16 + n * 8 + y))) = true
    · rw [if_pos hc]
      simp only [Bool.and_eq_true, Bool.or_eq_true, decide_eq_true_eq] at hc
      by_cases e1 : r = n ∧ s = p
      · rw [upd, if_pos (by omega)]
        exact ⟨fun _ => .inr ⟨n, by omega, hc.1, hc.2, .inr e1⟩, fun _ => rfl⟩
      · rw [upd, if_neg (by omega)]
        by_cases e2 : r = p ∧ s = n
        · rw [upd, if_pos (by omega)]
          exact ⟨fun _ => .inr ⟨n, by omega, hc.1, hc.2, .inl e2⟩, fun _ => rfl⟩
        · rw [upd, if_neg (by omega), ih']
          constructor
          · rintro (h | ⟨q, hq, h⟩)
            · exact .inl h
            · exact .inr ⟨q, by omega, h⟩
          · rintro (h | ⟨q, hq, h1, h2, h3⟩)
            · exact .inl h
            · refine .inr ⟨q, ?_, h1, h2, h3⟩
              by_cases e : q = n
              · subst e
                rcases h3 with h3 | h3
                · exact absurd h3 e2
                · exact absurd h3 e1
              · omega
    · rw [if_neg hc, ih']
      simp only [Bool.and_eq_true, Bool.or_eq_true, decide_eq_true_eq] at hc
      constructor
      · rintro (h | ⟨q, hq, h⟩)
        · exact .inl h
        · exact .inr ⟨q, by omega, h⟩
      · rintro (h | ⟨q, hq, h1, h2, h3⟩)
        · exact .inl h
        · refine .inr ⟨q, ?_, h1, h2, h3⟩
          by_cases e : q = n
          · subst e; exact absurd ⟨h1, h2⟩ hc
          · omega
theorem mgO_at (F0 : Nat → Bool) (x y : Nat) (r s : Nat) (hr : r < 8) (hs : s < 8) : ∀ n, n ≤ 8 →
    (mgO F0 x y n (16 + r * 8 + s) = true ↔ F0 (16 + r * 8 + s) = true ∨ ∃ p, p < n ∧ ∃ q, q < 8 ∧ (p = x ∨ F0 (16 + p * 8 + x) = true) ∧ (q = y ∨ F0 (16 + q * 8 + y) = true) ∧ ((r = p ∧ s = q) ∨ (r = q ∧ s = p))) := by
  intro n
  induction n with
  | zero => intro _; exact ⟨fun h => .inl h, fun h => h.elim id fun ⟨q, hq, _⟩ => by omega⟩
  | succ n ih =>
    intro hn
    simp only [mgO]
    rw [mgI_at F0 x y n _ (by omega) r s hr hs 8 (Nat.le_refl _), ih (by omega)]
    constructor
    · rintro ((h | ⟨p, hp, h⟩) | h)
      · exact .inl h
      · exact .inr ⟨p, by omega, h⟩
      · exact .inr ⟨n, by omega, h⟩
    · rintro (h | ⟨p, hp, h⟩)
      · exact .inl (.inl h)
      · by_cases e : p = n
        · subst e; exact .inr h
        · exact .inl (.inr ⟨p, by omega, h⟩)

/-- The bridge and the model agree. -/
structure Sim (l : List S36) (F : Nat → Bool) : Prop where
  ids : ∀ z ∈ l, 0 ≤ z.f0 ∧ z.f0 < 8
  ex : ∀ p : Nat, p < 8 → F p = (lk l (p : Int)).isSome
  hd : ∀ p : Nat, p < 8 → F (8 + p) = hdB l (p : Int)
  jn : ∀ p q : Nat, p < 8 → q < 8 → F (16 + p * 8 + q) = jb l (p : Int) (q : Int)

theorem cf_lt {l : List S36} (hs : Sorted l) (hid : ∀ z ∈ l, 0 ≤ z.f0 ∧ z.f0 < 8) {q : Int} (h : cf l q ≠ 0) : ∃ n : Nat, q = (n : Int) ∧ n < 8 := by
  obtain ⟨z, hz, hp, _⟩ := cf_leg hs h
  have := hid z hz
  exact ⟨q.toNat, by omega, by omega⟩
theorem alone_cf {l : List S36} {nx : Int} (hok : Ok l nx) (hid : ∀ z ∈ l, 0 ≤ z.f0 ∧ z.f0 < 8) {F : Nat → Bool} (hj : ∀ p q : Nat, p < 8 → q < 8 → F (16 + p * 8 + q) = jb l (p : Int) (q : Int)) {x : Nat} (hx : x < 8) : aloneF F x = decide (cf l (x : Int) = 0) := by
  rw [Bool.eq_iff_iff, aloneF_iff, decide_eq_true_eq]
  constructor
  · intro h
    refine Decidable.byContradiction fun h0 => ?_
    obtain ⟨q, hq, hqc⟩ := ok_two hok h0
    obtain ⟨n, rfl, hn⟩ := cf_lt hok.s hid (q := q) (by rw [hqc]; exact h0)
    have h1 := h n hn
    rw [hj x n hx hn] at h1
    have h2 : jb l (x : Int) (n : Int) = true := jb_iff.2 ⟨fun e => hq e.symm, hqc.symm, h0⟩
    rw [h2] at h1; cases h1
  · intro h y hy
    rw [hj x y hx hy]
    cases e : jb l (x : Int) (y : Int) with
    | false => rfl
    | true => exact absurd h (jb_iff.1 e).2.2
theorem Sim.alone {l : List S36} {nx : Int} {F : Nat → Bool} (h : Sim l F) (hok : Ok l nx) {x : Nat} (hx : x < 8) : aloneF F x = decide (cf l (x : Int) = 0) := alone_cf hok h.ids h.jn hx

theorem len8 : ∀ (n : Nat) (l : List S36) (a : Int), Sorted l → (∀ z ∈ l, a ≤ z.f0 ∧ z.f0 < a + n) → l.length ≤ n := by
  intro n
  induction n with
  | zero =>
    intro l a hs h
    cases l with
    | nil => simp
    | cons z r => have := h z (by simp); omega
  | succ n ih =>
    intro l a hs h
    cases l with
    | nil => simp
    | cons z r =>
      obtain ⟨h1, h2⟩ := List.pairwise_cons.1 hs
      have hz := h z (by simp)
      have := ih r (a + 1) h2 fun w hw => by
        have h3 := h1 w hw
        have h4 := h w (by simp [hw])
        omega
      simp only [List.length_cons]; omega
theorem Sim.len {l : List S36} {F : Nat → Bool} (h : Sim l F) (hs : Sorted l) : l.length ≤ 8 := len8 8 l 0 hs fun z hz => by have := h.ids z hz; omega

theorem fnd_lk {l : List S36} (hs : Sorted l) (x : Int) : (fnd l x < 0 ↔ lk l x = none) := by
  constructor
  · intro h
    exact lk_none fun z hz => by have := idx_neg (fun z => z.f0 == x) l h z hz; simpa using this
  · intro h
    refine Decidable.byContradiction fun hn => ?_
    obtain ⟨k, _, hk, he⟩ := fnd_some hn
    have := (lk_iff hs).2 ⟨at_mem hk, he⟩
    rw [h] at this; cases this

/-- Leaving, on both sides. -/
theorem Sim.leave {l : List S36} {nx : Int} {F : Nat → Bool} (h : Sim l F) (hok : Ok l nx) {i x : Nat} (hi : i < l.length) (hx : x < 8) (he : (rd_T36 l (i : Int)).f0 = (x : Int)) : Sim (lv l i) (leaveF F x) := by
  obtain ⟨ok2, c0, h0, hex, hjb, hhd, hidl⟩ := lv_all hok hi he
  have hid : ∀ z ∈ lv l i, 0 ≤ z.f0 ∧ z.f0 < 8 := fun z hz => by
    obtain ⟨w, hw, e⟩ := hidl z hz
    rw [← e]; exact h.ids w hw
  have hne : ∀ p : Nat, decide ((p : Int) ≠ (x : Int)) = decide (p ≠ x) := fun p => by
    rw [Bool.eq_iff_iff]; simp only [decide_eq_true_eq]; omega
  refine ⟨hid, fun p hp => by rw [leaveF_ex F x p hp, h.ex p hp, hex], fun p hp => ?_, fun p q hp hq => ?_⟩
  · rw [leaveF_hd F x p hp, h.hd p hp, hhd]
    have := alone_cf ok2 hid (F := clF F x 8) (fun p q hp hq => by rw [clF_jn F x p q hx hp hq, hjb, h.jn p q hp hq, hne, hne]) hp
    rw [this]
    congr 1
    rw [Bool.eq_iff_iff]; simp
  · rw [leaveF_jn F x p q hx hp hq, hjb, h.jn p q hp hq, hne, hne]

/-- Connect, by the legs' numbers. -/
theorem con_all {l : List S36} {nx : Int} (hok : Ok l nx) (hnx : nx < 1099511627776) {i k : Nat} (hi : i < l.length) (hk : k < l.length) {x y : Int} (hxy : x ≠ y) (hx : (rd_T36 l (i : Int)).f0 = x) (hy : (rd_T36 l (k : Int)).f0 = y)
    (h0x : cf l x = 0) (h0y : cf l y = 0) (hdx : hdB l x = false) (hdy : hdB l y = false) :
    Ok (setCf (setCf l i nx) k nx) (nx + 1) ∧ (∀ p, (lk (setCf (setCf l i nx) k nx) p).isSome = (lk l p).isSome) ∧ (∀ p, hdB (setCf (setCf l i nx) k nx) p = hdB l p) ∧
    (∀ p q, jb (setCf (setCf l i nx) k nx) p q = (jb l p q || (decide (p = x) && decide (q = y)) || (decide (p = y) && decide (q = x)))) ∧ (∀ z ∈ setCf (setCf l i nx) k nx, ∃ w ∈ l, w.f0 = z.f0) := by
  have hik : i ≠ k := fun e => hxy (by rw [← hx, ← hy, e])
  have e1 : setCf l i nx = l.set i ⟨x, nx, false⟩ := by
    unfold setCf
    have : (rd_T36 l (i : Int)).f2 = false := by rw [← hd_of hok.s (at_mem hi), hx]; exact hdx
    rw [hx, this]
  have hs1 : Sorted (l.set i ⟨x, nx, false⟩) := set_sorted hok.s hi (z := ⟨x, nx, false⟩) hx
  have hr1 : rd_T36 (l.set i ⟨x, nx, false⟩) (k : Int) = rd_T36 l (k : Int) := by rw [rd_set l i k _ hk, if_neg (fun e => hik e.symm)]
  have e2 : setCf (setCf l i nx) k nx = (l.set i ⟨x, nx, false⟩).set k ⟨y, nx, false⟩ := by
    rw [e1]
    unfold setCf
    have : (rd_T36 l (k : Int)).f2 = false := by rw [← hd_of hok.s (at_mem hk), hy]; exact hdy
    rw [hr1, hy, this]
  have hk1 : k < (l.set i (⟨x, nx, false⟩ : S36)).length := by rw [List.length_set]; exact hk
  have hs2 : Sorted ((l.set i ⟨x, nx, false⟩).set k ⟨y, nx, false⟩) := set_sorted hs1 hk1 (z := ⟨y, nx, false⟩) (by rw [hr1]; exact hy)
  have hl : ∀ p, lk ((l.set i ⟨x, nx, false⟩).set k ⟨y, nx, false⟩) p = if p = y then some ⟨y, nx, false⟩ else if p = x then some ⟨x, nx, false⟩ else lk l p := fun p => by
    rw [lk_set hs1 hk1 (z := ⟨y, nx, false⟩) (by rw [hr1]; exact hy), lk_set hok.s hi (z := ⟨x, nx, false⟩) hx]
  rw [e2]
  have hex : ∀ p, (lk ((l.set i ⟨x, nx, false⟩).set k ⟨y, nx, false⟩) p).isSome = (lk l p).isSome := fun p => by
    rw [hl]
    by_cases h1 : p = y
    · rw [if_pos h1, h1, (lk_iff hok.s).2 ⟨at_mem hk, hy⟩]; rfl
    · rw [if_neg h1]
      by_cases h2 : p = x
      · rw [if_pos h2, h2, (lk_iff hok.s).2 ⟨at_mem hi, hx⟩]; rfl
      · rw [if_neg h2]
  have hcf : ∀ p, cf ((l.set i ⟨x, nx, false⟩).set k ⟨y, nx, false⟩) p = if p = y then nx else if p = x then nx else cf l p := fun p => by
    unfold cf; rw [hl]
    by_cases h1 : p = y
    · rw [if_pos h1, if_pos h1]
    · by_cases h2 : p = x
      · rw [if_neg h1, if_pos h2, if_neg h1, if_pos h2]
      · rw [if_neg h1, if_neg h2, if_neg h1, if_neg h2]
  have hhd : ∀ p, hdB ((l.set i ⟨x, nx, false⟩).set k ⟨y, nx, false⟩) p = hdB l p := fun p => by
    by_cases h1 : p = y
    · rw [h1, hdy]; unfold hdB; rw [hl, if_pos rfl]
    · by_cases h2 : p = x
      · rw [h2, hdx]; unfold hdB; rw [hl, if_neg (by rw [← h2]; exact h1), if_pos rfl]
      · unfold hdB; rw [hl, if_neg h1, if_neg h2]
  have hmem : ∀ z ∈ (l.set i ⟨x, nx, false⟩).set k ⟨y, nx, false⟩, ∃ w ∈ l, w.f0 = z.f0 := fun z hz => by
    have := (lk_iff hs2).2 ⟨hz, rfl⟩
    have h2 := hex z.f0
    rw [this] at h2
    cases h3 : lk l z.f0 with
    | none => rw [h3] at h2; cases h2
    | some w => exact ⟨w, (lk_iff hok.s).1 h3⟩
  have n1 := hok.n1
  have hlt := ok_lt hok
  refine ⟨ok_mk (by omega) (by omega) hs2 (by rw [List.length_set, List.length_set]; exact hok.len) (fun z hz => ?_) (fun p => ?_) (fun p hp => ?_) (fun p hp => ?_), hex, hhd, fun p q => ?_, hmem⟩
  · obtain ⟨w, hw, e⟩ := hmem z hz
    rw [← e]; exact (hok.leg w hw).id
  · rw [hcf]
    have := hlt p
    split
    · omega
    · split
      · omega
      · omega
  · rw [hhd] at hp
    have := ok_hd hok hp
    rw [hcf]
    split
    · omega
    · split
      · omega
      · exact this
  · rw [hcf] at hp ⊢
    by_cases h1 : p = y
    · exact ⟨x, by rw [h1]; exact hxy, by rw [hcf, if_neg hxy, if_pos rfl, if_pos h1]⟩
    · by_cases h2 : p = x
      · exact ⟨y, by rw [h2]; exact fun e => hxy e.symm, by rw [hcf, if_pos rfl, if_neg h1, if_pos h2]⟩
      · rw [if_neg h1, if_neg h2] at hp ⊢
        obtain ⟨q, hq, hqc⟩ := ok_two hok hp
        have q1 : q ≠ y := fun e => hp (by rw [← hqc, e]; exact h0y)
        have q2 : q ≠ x := fun e => hp (by rw [← hqc, e]; exact h0x)
        exact ⟨q, hq, by rw [hcf, if_neg q1, if_neg q2, hqc]⟩
  · rw [Bool.eq_iff_iff]
    simp only [Bool.or_eq_true, Bool.and_eq_true, jb_iff, decide_eq_true_eq]
    rw [hcf, hcf]
    have a1 := hlt p
    have a2 := hlt q
    by_cases p1 : p = y
    · subst p1
      by_cases q1 : q = p
      · subst q1; simp [h0y, hxy]; omega
      · by_cases q2 : q = x
        · subst q2; simp [h0y, hxy]; omega
        · simp [h0y, q1, q2]; omega
    · by_cases p2 : p = x
      · subst p2
        by_cases q1 : q = y
        · subst q1; simp [h0x, hxy]; omega
        · by_cases q2 : q = p
          · subst q2; simp [h0x, hxy]
          · simp [h0x, q1, q2, p1]; omega
      · by_cases q1 : q = y
        · subst q1; simp [p1, p2, h0y]; omega
        · by_cases q2 : q = x
          · subst q2; simp [p1, p2, h0x, q1]; omega
          · simp [p1, p2, q1, q2]

def applyE (kind x y : Nat) (l : List S36) (nx : Int) : List S36 × Int × Int :=
  if kind = 0 then editF (addOp (x : Int)) l nx else if kind = 1 then editF (removeOp (x : Int)) l nx else if kind = 2 then editF (connectOp (x : Int) (y : Int)) l nx
  else if kind = 3 then editF (mergeOp (x : Int) (y : Int)) l nx else editF (holdOp (x : Int) (decide (kind = 4))) l nx

theorem some_leg {l : List S36} {F : Nat → Bool} (h : Sim l F) (hs : Sorted l) {x : Nat} (hx : x < 8) (hF : F x = true) : ∃ i : Nat, fnd l (x : Int) = i ∧ i < l.length ∧ (rd_T36 l (i : Int)).f0 = (x : Int) := by
  refine fnd_some fun hn => ?_
  rw [fnd_lk hs] at hn
  rw [h.ex x hx, hn] at hF; cases hF
theorem no_leg {l : List S36} {F : Nat → Bool} (h : Sim l F) (hs : Sorted l) {x : Nat} (hx : x < 8) (hF : F x = false) : fnd l (x : Int) < 0 := by
  rw [fnd_lk hs]
  rw [h.ex x hx] at hF
  cases e : lk l (x : Int) with
  | none => rfl
  | some z => rw [e] at hF; cases hF

/-- One operation, on both sides. -/
theorem step {kind x y : Nat} (hkind : kind < 6) (hx : x < 8) (hy : y < 8) {l : List S36} {nx : Int} {F : Nat → Bool} (hok : Ok l nx) (hs : Sim l F) (hnx : nx < 1099511627776) :
    ((doF kind x y F).1 = true ∧ (applyE kind x y l nx).2.2 = 0 ∧ Ok (applyE kind x y l nx).1 (applyE kind x y l nx).2.1 ∧ Sim (applyE kind x y l nx).1 (doF kind x y F).2 ∧ (applyE kind x y l nx).2.1 ≤ nx + 1) ∨
    ((doF kind x y F).1 = false ∧ (applyE kind x y l nx).2.2 = 180 ∧ Sim l (doF kind x y F).2) := by
  have hck := check_of_ok hok
  have hsr := hok.s
  have hdx : ∀ p : Nat, (((p : Int) = (x : Int)) ↔ p = x) := fun p => by omega
  have hdy : ∀ p : Nat, (((p : Int) = (y : Int)) ↔ p = y) := fun p => by omega
  unfold doF applyE
  by_cases k0 : kind = 0
  · -- add
    rw [if_pos k0, if_pos k0]
    have hidx : okId (x : Int) = true := by unfold okId; simp; omega
    by_cases hF : F x = true
    · right
      obtain ⟨i, hi, hil, he⟩ := some_leg hs hsr hx hF
      have ht := found_there hsr hil he
      have e : addOp (x : Int) l nx = (180, l, nx) := by unfold addOp; rw [hidx, if_neg (by decide), if_pos ht]
      rw [editF_err hck e (by decide)]
      refine ⟨by simp [hF], rfl, ?_⟩
      have hu : upd F x true = F := by
        funext j; unfold upd; split
        · rename_i h; rw [h, hF]
        · rfl
      simp only [hu]; exact hs
    · left
      have hF' : F x = false := by simpa using hF
      have hn := no_leg hs hsr hx hF'
      have ht : there l (x : Int) = false := by
        cases e : there l (x : Int) with
        | false => rfl
        | true =>
          have hp : pos l (x : Int) < l.length ∧ (rd_T36 l (pos l (x : Int) : Int)).f0 = (x : Int) := by
            unfold there at e
            simpa using e
          have := (fnd_lk hsr (x : Int)).1 hn
          rw [(lk_iff hsr).2 ⟨at_mem hp.1, hp.2⟩] at this; cases this
      have hlen := hs.len hsr
      have e : addOp (x : Int) l nx = (0, ins l (pos l (x : Int)) ⟨(x : Int), 0, false⟩, nx) := by
        unfold addOp; rw [hidx, if_neg (by decide), ht, if_neg (by decide), if_neg (by omega)]
      rw [editF_ok hck e]
      have hok2 := ok_add hok hidx ht (by omega)
      have hl := lk_ins hsr ht ⟨(x : Int), 0, false⟩ rfl
      have hxn : lk l (x : Int) = none := (fnd_lk hsr (x : Int)).1 hn
      have hcf : ∀ p, cf (ins l (pos l (x : Int)) ⟨(x : Int), 0, false⟩) p = cf l p := fun p => by
        unfold cf; rw [hl]
        by_cases e : p = (x : Int)
        · rw [if_pos e, e, hxn]
        · rw [if_neg e]
      have hhd : ∀ p, hdB (ins l (pos l (x : Int)) ⟨(x : Int), 0, false⟩) p = hdB l p := fun p => by
        unfold hdB; rw [hl]
        by_cases e : p = (x : Int)
        · rw [if_pos e, e, hxn]
        · rw [if_neg e]
      refine ⟨by simp [hF'], rfl, hok2, ⟨fun z hz => ?_, fun p hp => ?_, fun p hp => ?_, fun p q hp hq => ?_⟩, by simp only; omega⟩
      · rcases mem_ins.1 hz with rfl | hz
        · exact ⟨by simp, by simp; omega⟩
        · exact hs.ids z hz
      · simp only [upd]
        rw [hl]
        by_cases e : p = x
        · rw [if_pos e, if_pos (by rw [e])]; rfl
        · rw [if_neg e, if_neg (by omega), hs.ex p hp]
      · simp only [upd]
        rw [if_neg (by omega), hs.hd p hp, hhd]
      · simp only [upd]
        rw [if_neg (by omega), hs.jn p q hp hq]
        unfold jb; rw [hcf, hcf]
  rw [if_neg k0, if_neg k0]
  by_cases hF : F x = false
  · right
    have hn := no_leg hs hsr hx hF
    rw [if_pos (.inl hF)]
    refine ⟨rfl, ?_, hs⟩
    by_cases k1 : kind = 1
    · rw [if_pos k1, editF_err hck (show removeOp (x : Int) l nx = (180, l, nx) by unfold removeOp; exact if_pos hn) (by decide)]
    rw [if_neg k1]
    by_cases k2 : kind = 2
    · rw [if_pos k2, editF_err hck (show connectOp (x : Int) (y : Int) l nx = (180, l, nx) by unfold connectOp; exact if_pos (.inl hn)) (by decide)]
    rw [if_neg k2]
    by_cases k3 : kind = 3
    · rw [if_pos k3, editF_err hck (show mergeOp (x : Int) (y : Int) l nx = (180, l, nx) by unfold mergeOp; exact if_pos (.inl hn)) (by decide)]
    rw [if_neg k3, editF_err hck (show holdOp (x : Int) (decide (kind = 4)) l nx = (180, l, nx) by unfold holdOp; exact if_pos (.inl hn)) (by decide)]
  have hF' : F x = true := by simpa using hF
  obtain ⟨i, hi, hil, hie⟩ := some_leg hs hsr hx hF'
  have hin : ¬ fnd l (x : Int) < 0 := by omega
  by_cases hbad : (kind = 2 ∨ kind = 3) ∧ (F y = false ∨ x = y)
  · right
    rw [if_pos (.inr hbad)]
    refine ⟨rfl, ?_, hs⟩
    have k1 : ¬ kind = 1 := by omega
    rw [if_neg k1]
    have hyn : F y = false → fnd l (y : Int) < 0 := fun h => no_leg hs hsr hy h
    by_cases k2 : kind = 2
    · rw [if_pos k2, editF_err hck (show connectOp (x : Int) (y : Int) l nx = (180, l, nx) from ?_) (by decide)]
      unfold connectOp
      refine if_pos ?_
      rcases hbad.2 with h | h
      · exact .inr (.inl (hyn h))
      · exact .inr (.inr (by rw [h]))
    have k3 : kind = 3 := by omega
    rw [if_neg k2, if_pos k3, editF_err hck (show mergeOp (x : Int) (y : Int) l nx = (180, l, nx) from ?_) (by decide)]
    unfold mergeOp
    refine if_pos ?_
    rcases hbad.2 with h | h
    · exact .inr (.inl (hyn h))
    · exact .inr (.inr (.inr (.inr (by rw [h]))))
  rw [if_neg (by rintro (h | h); exact hF h; exact hbad h)]
  by_cases k1 : kind = 1
  · -- remove
    left
    rw [if_pos k1, if_pos k1]
    have e : removeOp (x : Int) l nx = (0, rm (lv l i) (x : Int), nx) := by
      unfold removeOp
      simp only
      rw [if_neg hin, hi, Int.toNat_natCast]
    rw [editF_ok hck e]
    obtain ⟨ok2, c0, h0, hex, hjb, hhd, hidl⟩ := lv_all hok hil hie
    have hs2 := hs.leave hok hil hx hie
    have hl := lk_rm ok2.s (x : Int)
    have hcf : ∀ p, cf (rm (lv l i) (x : Int)) p = cf (lv l i) p := fun p => by
      by_cases e : p = (x : Int)
      · rw [e, c0]; unfold cf; rw [hl, if_pos rfl]
      · unfold cf; rw [hl, if_neg e]
    have hhd2 : ∀ p, hdB (rm (lv l i) (x : Int)) p = hdB (lv l i) p := fun p => by
      by_cases e : p = (x : Int)
      · rw [e, h0]; unfold hdB; rw [hl, if_pos rfl]
      · unfold hdB; rw [hl, if_neg e]
    refine ⟨rfl, rfl, ok_remove hok hil hie, ⟨fun z hz => hs2.ids z (rm_mem.1 hz).1, fun p hp => ?_, fun p hp => ?_, fun p q hp hq => ?_⟩, by simp only; omega⟩
    · simp only [upd]
      rw [hl]
      by_cases e : p = x
      · rw [if_pos e, if_pos (by rw [e])]; rfl
      · rw [if_neg e, if_neg (by omega), hs2.ex p hp]
    · simp only [upd]
      rw [if_neg (by omega), hs2.hd p hp, hhd2]
    · simp only [upd]
      rw [if_neg (by omega), hs2.jn p q hp hq]
      unfold jb; rw [hcf, hcf]
  rw [if_neg k1, if_neg k1]
  by_cases k2 : kind = 2
  · -- connect
    left
    rw [if_pos k2, if_pos k2]
    have hFy : F y = true := by
      cases e : F y with
      | true => rfl
      | false => exact absurd ⟨.inl k2, .inl e⟩ hbad
    have hxy : x ≠ y := fun e => hbad ⟨.inl k2, .inr e⟩
    obtain ⟨k, hk, hkl, hke⟩ := some_leg hs hsr hy hFy
    have hik : i ≠ k := fun e => hxy (by rw [e] at hie; have := hie.symm.trans hke; omega)
    have e : connectOp (x : Int) (y : Int) l nx = (0, setCf (setCf (lv (lv l i) k) i nx) k nx, nx + 1) := by
      unfold connectOp
      simp only
      rw [if_neg (by omega), if_neg (by omega), hi, hk, Int.toNat_natCast, Int.toNat_natCast]
    rw [editF_ok hck e]
    obtain ⟨ok2, c0, h0, hex, hjb, hhd, hidl⟩ := lv_all hok hil hie
    have hs2 := hs.leave hok hil hx hie
    have hl1 : (lv l i).length = l.length := lv_len l i
    have hke2 : (rd_T36 (lv l i) (k : Int)).f0 = (y : Int) := by rw [rd_ids (ids_lv l i) (by rw [hl1]; exact hkl)]; exact hke
    obtain ⟨ok3, c0', h0', hex', hjb', hhd', hidl'⟩ := lv_all ok2 (i := k) (by rw [hl1]; exact hkl) hke2
    have hs3 := hs2.leave ok2 (i := k) (by rw [hl1]; exact hkl) hy hke2
    have hl2 : (lv (lv l i) k).length = l.length := by rw [lv_len, hl1]
    have hie3 : (rd_T36 (lv (lv l i) k) (i : Int)).f0 = (x : Int) := by rw [rd_ids (ids_lv (lv l i) k) (by rw [hl2]; exact hil), rd_ids (ids_lv l i) (by rw [hl1]; exact hil)]; exact hie
    have hke3 : (rd_T36 (lv (lv l i) k) (k : Int)).f0 = (y : Int) := by rw [rd_ids (ids_lv (lv l i) k) (by rw [hl2]; exact hkl)]; exact hke2
    have hhx : hdB (lv (lv l i) k) (x : Int) = false := by rw [hhd', h0]; rfl
    have hcx : cf (lv (lv l i) k) (x : Int) = 0 := by
      refine Decidable.byContradiction fun hn => ?_
      obtain ⟨q, hq, hqc⟩ := ok_two ok3 hn
      have h1 : jb (lv (lv l i) k) (x : Int) q = true := jb_iff.2 ⟨fun e => hq e.symm, hqc.symm, hn⟩
      rw [hjb'] at h1
      simp only [Bool.and_eq_true, jb_iff] at h1
      exact h1.1.1.2.2 c0
    obtain ⟨ok4, ex4, hd4, jb4, id4⟩ := con_all ok3 hnx (i := i) (k := k) (by rw [hl2]; exact hil) (by rw [hl2]; exact hkl) (x := (x : Int)) (y := (y : Int)) (by omega) hie3 hke3 hcx c0' hhx h0'
    refine ⟨rfl, rfl, ok4, ⟨fun z hz => ?_, fun p hp => ?_, fun p hp => ?_, fun p q hp hq => ?_⟩, by simp only; omega⟩
    · obtain ⟨w, hw, e⟩ := id4 z hz
      rw [← e]; exact hs3.ids w hw
    · simp only [upd]
      rw [if_neg (by omega), if_neg (by omega), hs3.ex p hp, ex4]
    · simp only [upd]
      rw [if_neg (by omega), if_neg (by omega), hs3.hd p hp, hd4]
    · simp only [upd]
      rw [jb4, ← hs3.jn p q hp hq]
      have d1 : decide ((p : Int) = (x : Int)) = decide (p = x) := by rw [Bool.eq_iff_iff]; simp only [decide_eq_true_eq]; omega
      have d2 : decide ((q : Int) = (x : Int)) = decide (q = x) := by rw [Bool.eq_iff_iff]; simp only [decide_eq_true_eq]; omega
      have d3 : decide ((p : Int) = (y : Int)) = decide (p = y) := by rw [Bool.eq_iff_iff]; simp only [decide_eq_true_eq]; omega
      have d4 : decide ((q : Int) = (y : Int)) = decide (q = y) := by rw [Bool.eq_iff_iff]; simp only [decide_eq_true_eq]; omega
      rw [d1, d2, d3, d4]
      by_cases a1 : p = y ∧ q = x
      · rw [if_pos (by omega)]; simp [a1.1, a1.2]
      · rw [if_neg (by omega)]
        by_cases a2 : p = x ∧ q = y
        · rw [if_pos (by omega)]; simp [a2.1, a2.2]
        · rw [if_neg (by omega)]
          have b1 : (decide (p = x) && decide (q = y)) = false := by
            rw [Bool.eq_false_iff]; simp only [ne_eq, Bool.and_eq_true, decide_eq_true_eq]; exact a2
          have b2 : (decide (p = y) && decide (q = x)) = false := by
            rw [Bool.eq_false_iff]; simp only [ne_eq, Bool.and_eq_true, decide_eq_true_eq]; exact a1
          rw [b1, b2, Bool.or_false, Bool.or_false]
  rw [if_neg k2, if_neg k2]
  have hat : at_ l (fnd l (x : Int)) = rd_T36 l (i : Int) := by rw [hi]
  have hcfx : cf l (x : Int) = (rd_T36 l (i : Int)).f1 := by rw [← hie, cf_of hsr (at_mem hil)]
  by_cases k3 : kind = 3
  · -- merge
    rw [if_pos k3, if_pos k3]
    have hFy : F y = true := by
      cases e : F y with
      | true => rfl
      | false => exact absurd ⟨.inr k3, .inl e⟩ hbad
    have hxy : x ≠ y := fun e => hbad ⟨.inr k3, .inr e⟩
    obtain ⟨k, hk, hkl, hke⟩ := some_leg hs hsr hy hFy
    have hkn : ¬ fnd l (y : Int) < 0 := by omega
    have haty : at_ l (fnd l (y : Int)) = rd_T36 l (k : Int) := by rw [hk]
    have hcfy : cf l (y : Int) = (rd_T36 l (k : Int)).f1 := by rw [← hke, cf_of hsr (at_mem hkl)]
    have hcond : (aloneF F x || aloneF F y || F (16 + x * 8 + y)) = true ↔ (cf l (x : Int) = 0 ∨ cf l (y : Int) = 0 ∨ cf l (x : Int) = cf l (y : Int)) := by
      rw [hs.alone hok hx, hs.alone hok hy, hs.jn x y hx hy]
      simp only [Bool.or_eq_true, decide_eq_true_eq, jb_iff]
      constructor
      · rintro ((h | h) | h)
        · exact .inl h
        · exact .inr (.inl h)
        · exact .inr (.inr h.2.1)
      · rintro (h | h | h)
        · exact .inl (.inl h)
        · exact .inl (.inr h)
        · by_cases h0 : cf l (x : Int) = 0
          · exact .inl (.inl h0)
          · exact .inr ⟨by omega, h, h0⟩
    by_cases hc : (aloneF F x || aloneF F y || F (16 + x * 8 + y)) = true
    · right
      rw [if_pos hc]
      have e : mergeOp (x : Int) (y : Int) l nx = (180, l, nx) := by
        unfold mergeOp
        refine if_pos ?_
        rw [hat, haty, ← hcfx, ← hcfy]
        exact .inr (.inr (hcond.1 hc))
      rw [editF_err hck e (by decide)]
      exact ⟨rfl, rfl, hs⟩
    · left
      rw [if_neg hc]
      have hnc : ¬ (cf l (x : Int) = 0 ∨ cf l (y : Int) = 0 ∨ cf l (x : Int) = cf l (y : Int)) := fun h => hc (hcond.2 h)
      have e : mergeOp (x : Int) (y : Int) l nx = (0, moveTo l (cf l (y : Int)) (cf l (x : Int)), nx) := by
        unfold mergeOp
        rw [hcfx, hcfy, ← hat, ← haty]
        refine if_neg ?_
        rintro (h | h | h)
        · exact hin h
        · exact hkn h
        · rw [hat, haty, ← hcfx, ← hcfy] at h
          exact hnc h
      rw [editF_ok hck e]
      have hlx := ok_lt hok (x : Int)
      have hly := ok_lt hok (y : Int)
      have hok2 : Ok (moveTo l (cf l (y : Int)) (cf l (x : Int))) nx := ok_move hok (by omega) (by omega) hlx.2
      have hl := lk_move hsr (cf l (y : Int)) (cf l (x : Int))
      have hcf : ∀ p, cf (moveTo l (cf l (y : Int)) (cf l (x : Int))) p = mf (cf l (y : Int)) (cf l (x : Int)) (cf l p) := fun p => by
        have h1 : cf (moveTo l (cf l (y : Int)) (cf l (x : Int))) p = (match (lk l p).map (mv (cf l (y : Int)) (cf l (x : Int))) with
            | some z => z.f1
            | none => 0) := by rw [← hl p]; rfl
        rw [h1]
        cases e : lk l p with
        | none =>
          have : cf l p = 0 := by unfold cf; rw [e]
          rw [this]
          simp only [Option.map_none]
          unfold mf
          rw [if_neg (by omega)]
        | some z =>
          have : cf l p = z.f1 := by unfold cf; rw [e]
          rw [this]
          simp only [Option.map_some]
          exact mv_f1 _ _ z
      have hhd : ∀ p, hdB (moveTo l (cf l (y : Int)) (cf l (x : Int))) p = hdB l p := fun p => by
        unfold hdB; rw [hl]
        cases e : lk l p with
        | none => rfl
        | some z => simp only [Option.map_some]; exact mv_f2 _ _ z
      have hL : ∀ p : Nat, p < 8 → ((p = x ∨ F (16 + p * 8 + x) = true) ↔ cf l (p : Int) = cf l (x : Int)) := fun p hp => by
        rw [hs.jn p x hp hx, jb_iff]
        constructor
        · rintro (h | h)
          · rw [h]
          · exact h.2.1
        · intro h
          by_cases e : p = x
          · exact .inl e
          · exact .inr ⟨by omega, h, by omega⟩
      have hR : ∀ q : Nat, q < 8 → ((q = y ∨ F (16 + q * 8 + y) = true) ↔ cf l (q : Int) = cf l (y : Int)) := fun p hp => by
        rw [hs.jn p y hp hy, jb_iff]
        constructor
        · rintro (h | h)
          · rw [h]
          · exact h.2.1
        · intro h
          by_cases e : p = y
          · exact .inl e
          · exact .inr ⟨by omega, h, by omega⟩
      refine ⟨rfl, rfl, hok2, ⟨fun z hz => ?_, fun p hp => ?_, fun p hp => ?_, fun p q hp hq => ?_⟩, by simp only; omega⟩
      · obtain ⟨w, hw, rfl⟩ := mem_move.1 hz
        rw [mv_f0]; exact hs.ids w hw
      · simp only
        rw [mgO_low F x y p (by omega), hs.ex p hp, hl, Option.isSome_map]
      · simp only
        rw [mgO_low F x y (8 + p) (by omega), hs.hd p hp, hhd]
      · simp only
        rw [Bool.eq_iff_iff, mgO_at F x y p q hp hq 8 (Nat.le_refl _), hs.jn p q hp hq, jb_iff, jb_iff, hcf, hcf]
        have hex : (∃ p', p' < 8 ∧ ∃ q', q' < 8 ∧ (p' = x ∨ F (16 + p' * 8 + x) = true) ∧ (q' = y ∨ F (16 + q' * 8 + y) = true) ∧ ((p = p' ∧ q = q') ∨ (p = q' ∧ q = p'))) ↔
            ((cf l (p : Int) = cf l (x : Int) ∧ cf l (q : Int) = cf l (y : Int)) ∨ (cf l (q : Int) = cf l (x : Int) ∧ cf l (p : Int) = cf l (y : Int))) := by
          constructor
          · rintro ⟨p', hp', q', hq', h1, h2, ⟨rfl, rfl⟩ | ⟨rfl, rfl⟩⟩
            · exact .inl ⟨(hL _ hp').1 h1, (hR _ hq').1 h2⟩
            · exact .inr ⟨(hL _ hp').1 h1, (hR _ hq').1 h2⟩
          · rintro (⟨h1, h2⟩ | ⟨h1, h2⟩)
            · exact ⟨p, hp, q, hq, (hL p hp).2 h1, (hR q hq).2 h2, .inl ⟨rfl, rfl⟩⟩
            · exact ⟨q, hq, p, hp, (hL q hq).2 h1, (hR p hp).2 h2, .inr ⟨rfl, rfl⟩⟩
        rw [hex]
        have hpq : (p : Int) = (q : Int) → cf l (p : Int) = cf l (q : Int) := fun h => by rw [h]
        have hpq2 : (p : Int) ≠ (q : Int) ∨ (p : Int) = (q : Int) := by omega
        have hn0 : cf l (x : Int) ≠ 0 := fun h => hnc (.inl h)
        have hn1 : cf l (y : Int) ≠ 0 := fun h => hnc (.inr (.inl h))
        have hn2 : cf l (x : Int) ≠ cf l (y : Int) := fun h => hnc (.inr (.inr h))
        clear hnc hcond hL hR hex hcf hhd hl hok2 hlx hly hc e hcfx hcfy hat haty hk hkl hke hi hil hie hin hkn hok hs hck hbad hF hF' hFy hdx hdy hsr
        generalize cf l (p : Int) = u at *
        generalize cf l (q : Int) = v at *
        generalize cf l (x : Int) = a at *
        generalize cf l (y : Int) = b at *
        generalize (p : Int) = P at *
        generalize (q : Int) = Q at *
        unfold mf
        split <;> split <;> omega
  · -- hold
    rw [if_neg k3, if_neg k3]
    have hcond : (aloneF F x || (F (8 + x) == decide (kind = 4))) = true ↔ (cf l (x : Int) = 0 ∨ hdB l (x : Int) = decide (kind = 4)) := by
      rw [hs.alone hok hx, hs.hd x hx]
      simp only [Bool.or_eq_true, decide_eq_true_eq, beq_iff_eq]
    have hhx : hdB l (x : Int) = (rd_T36 l (i : Int)).f2 := by rw [← hie, hd_of hsr (at_mem hil)]
    by_cases hc : (aloneF F x || (F (8 + x) == decide (kind = 4))) = true
    · right
      rw [if_pos hc]
      have e : holdOp (x : Int) (decide (kind = 4)) l nx = (180, l, nx) := by
        unfold holdOp
        refine if_pos ?_
        rw [hat, ← hcfx, ← hhx]
        exact .inr (hcond.1 hc)
      rw [editF_err hck e (by decide)]
      exact ⟨rfl, rfl, hs⟩
    · left
      rw [if_neg hc]
      have hnc : ¬ (cf l (x : Int) = 0 ∨ hdB l (x : Int) = decide (kind = 4)) := fun h => hc (hcond.2 h)
      have e : holdOp (x : Int) (decide (kind = 4)) l nx = (0, l.set i ⟨(rd_T36 l (i : Int)).f0, (rd_T36 l (i : Int)).f1, decide (kind = 4)⟩, nx) := by
        unfold holdOp
        simp only
        rw [hat, ← hcfx, ← hhx, if_neg (by rintro (h | h); exact hin h; exact hnc h), hi, Int.toNat_natCast]
      rw [editF_ok hck e]
      have h1 : (rd_T36 l (i : Int)).f1 ≠ 0 := by rw [← hcfx]; exact fun h => hnc (.inl h)
      have hl := lk_set hsr hil (z := ⟨(rd_T36 l (i : Int)).f0, (rd_T36 l (i : Int)).f1, decide (kind = 4)⟩) rfl
      have hxs : lk l (x : Int) = some (rd_T36 l (i : Int)) := (lk_iff hsr).2 ⟨at_mem hil, hie⟩
      simp only [hie] at hl
      have hcf : ∀ p, cf (l.set i ⟨(rd_T36 l (i : Int)).f0, (rd_T36 l (i : Int)).f1, decide (kind = 4)⟩) p = cf l p := fun p => by
        simp only [hie]
        by_cases e : p = (x : Int)
        · rw [e, hcfx]; unfold cf; rw [hl, if_pos rfl]
        · unfold cf; rw [hl, if_neg e]
      have hhd : ∀ p, hdB (l.set i ⟨(rd_T36 l (i : Int)).f0, (rd_T36 l (i : Int)).f1, decide (kind = 4)⟩) p = if p = (x : Int) then decide (kind = 4) else hdB l p := fun p => by
        simp only [hie]
        by_cases e : p = (x : Int)
        · rw [if_pos e, e]; unfold hdB; rw [hl, if_pos rfl]
        · rw [if_neg e]; unfold hdB; rw [hl, if_neg e]
      refine ⟨rfl, rfl, ok_hold hok hil h1 _, ⟨fun z hz => ?_, fun p hp => ?_, fun p hp => ?_, fun p q hp hq => ?_⟩, by simp only; omega⟩
      · rcases mem_set hz with rfl | ⟨q, _, hq⟩
        · simp only; rw [hie]; omega
        · exact hs.ids z (List.mem_iff_getElem?.2 ⟨q, hq⟩)
      · simp only [upd]
        rw [if_neg (by omega), hs.ex p hp]
        simp only [hie]
        rw [hl]
        by_cases e : (p : Int) = (x : Int)
        · rw [if_pos e, e, hxs]; rfl
        · rw [if_neg e]
      · simp only [upd]
        rw [hhd]
        by_cases e : p = x
        · rw [if_pos (by omega), if_pos (by omega)]
        · rw [if_neg (by omega), if_neg (by omega), hs.hd p hp]
      · simp only [upd]
        rw [if_neg (by omega), hs.jn p q hp hq]
        unfold jb; rw [hcf, hcf]
end Go.Proofs.Ytmjenmhidnkbdaa.P
