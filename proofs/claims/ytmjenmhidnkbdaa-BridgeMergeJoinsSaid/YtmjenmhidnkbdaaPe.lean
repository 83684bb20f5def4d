/- Plain laws: what a bridge that passes its check is; what keeps it so. -/
import Derived.Test.YtmjenmhidnkbdaaPd
namespace Go.Proofs.Ytmjenmhidnkbdaa.P
open Go.RowKit Go.Proofs.YtmjenmhidnkbdaaW.PrintWords Go.Proofs.YtmjenmhidnkbdaaW.PrintLast Go.Proofs.YtmjenmhidnkbdaaW.PrintMore
set_option linter.unusedVariables false
set_option linter.unusedSimpArgs false

/-- One leg is right. -/
structure LegOk (nx : Int) (z : S36) : Prop where
  id : okId z.f0 = true
  c0 : 0 ≤ z.f1
  c1 : z.f1 < nx
  h : z.f1 = 0 → z.f2 = false
/-- A bridge is right. -/
structure Ok (l : List S36) (nx : Int) : Prop where
  n1 : 1 ≤ nx
  n2 : nx ≤ 1099511627776
  s : Sorted l
  leg : ∀ z ∈ l, LegOk nx z
  two : ∀ z ∈ l, 0 < z.f1 → 2 ≤ cnt l z.f1
  len : l.length ≤ 1024

theorem okLeg_iff (nx last : Int) (z : S36) : okLeg nx last z = true ↔ LegOk nx z ∧ last < z.f0 := by
  unfold okLeg
  simp only [Bool.and_eq_true, decide_eq_true_eq, Bool.not_eq_true']
  constructor
  · rintro ⟨⟨⟨⟨h1, h2⟩, h3⟩, h4⟩, h5⟩
    refine ⟨⟨h1, h3, h4, fun e => ?_⟩, h2⟩
    simpa [e] using h5
  · rintro ⟨⟨h1, h3, h4, h5⟩, h2⟩
    refine ⟨⟨⟨⟨h1, h2⟩, h3⟩, h4⟩, ?_⟩
    by_cases e : z.f1 = 0
    · simp [e, h5 e]
    · simp [e]
theorem scan_iff (nx : Int) (l : List S36) : ∀ last, scan nx last l = true ↔ (∀ z ∈ l, LegOk nx z ∧ last < z.f0) ∧ Sorted l := by
  induction l with
  | nil => intro last; simp [scan, Sorted]
  | cons x l ih =>
    intro last
    simp only [scan, Bool.and_eq_true, okLeg_iff, ih]
    constructor
    · rintro ⟨⟨h1, h2⟩, h3, h4⟩
      refine ⟨fun z hz => ?_, List.Pairwise.cons (fun z hz => (h3 z hz).2) h4⟩
      rcases List.mem_cons.1 hz with rfl | hz
      · exact ⟨h1, h2⟩
      · exact ⟨(h3 z hz).1, by have := (h3 z hz).2; omega⟩
    · rintro ⟨h1, h2⟩
      obtain ⟨h3, h4⟩ := List.pairwise_cons.1 h2
      exact ⟨h1 x (by simp), fun z hz => ⟨(h1 z (by simp [hz])).1, h3 z hz⟩, h4⟩
theorem okId_ge {n : Int} (h : okId n = true) : 0 ≤ n := by
  unfold okId at h
  simp only [Bool.and_eq_true, decide_eq_true_eq] at h
  exact h.1

theorem ok_of_check {l : List S36} {nx : Int} (h : checkE l nx = 0) : Ok l nx := by
  unfold checkE at h
  split at h
  · cases h
  · rename_i h1
    split at h
    · cases h
    · rename_i h2
      split at h
      · cases h
      · rename_i h3
        split at h
        · cases h
        · rename_i h4
          have h2' : scan nx (-1) l = true := by simpa using h2
          obtain ⟨a, b⟩ := (scan_iff nx l (-1)).1 h2'
          refine ⟨by omega, by omega, b, fun z hz => (a z hz).1, fun z hz h0 => ?_, by omega⟩
          refine Classical.byContradiction fun hc => h3 ?_
          exact List.any_eq_true.2 ⟨z, hz, by simp [h0]; omega⟩
theorem check_of_ok {l : List S36} {nx : Int} (h : Ok l nx) : checkE l nx = 0 := by
  have hs : scan nx (-1) l = true := (scan_iff nx l (-1)).2 ⟨fun z hz => ⟨h.leg z hz, by have := okId_ge (h.leg z hz).id; omega⟩, h.s⟩
  have hl : lone l = false := lone_not fun x hx => by
    obtain ⟨z, hz, rfl⟩ := cnt_pos l x hx
    rintro ⟨h0, h1⟩
    have := h.two z hz h0
    omega
  unfold checkE
  rw [if_neg (by have := h.n1; have := h.n2; omega), hs, hl]
  have := h.len
  rw [if_neg (by simp), if_neg (by simp), if_neg (by omega)]
theorem check_iff (l : List S36) (nx : Int) : checkE l nx = 0 ↔ Ok l nx := ⟨ok_of_check, check_of_ok⟩

theorem editF_ok {op : Does} {l m : List S36} {nx n : Int} (hc : checkE l nx = 0) (h : op l nx = (0, m, n)) : editF op l nx = (m, n, 0) := by
  unfold editF
  rw [if_neg (by rw [hc]; simp), h]
  rfl
theorem editF_err {op : Does} {l m : List S36} {nx n e : Int} (hc : checkE l nx = 0) (h : op l nx = (e, m, n)) (he : e ≠ 0) : editF op l nx = ([], 0, e) := by
  unfold editF
  rw [if_neg (by rw [hc]; simp), h]
  exact if_pos he
theorem editF_bad {op : Does} {l : List S36} {nx : Int} (hc : checkE l nx ≠ 0) : editF op l nx = ([], 0, checkE l nx) := by
  unfold editF
  exact if_pos hc

/-! ### who hears whom, elsewhere -/
theorem hb_eq_of {a b : List S36} (ha : Sorted a) (hb' : Sorted b) {p q : Int} (h : Hr a p q ↔ Hr b p q) : hb a p q = hb b p q := by
  rw [Bool.eq_iff_iff, hb_iff ha, hb_iff hb']
  exact h
/-- Legs but x and y are the same, or lose a conference in which they were alone but for these. -/
structure Frame (a b : List S36) (x y : Int) : Prop where
  fwd : ∀ z ∈ a, z.f0 ≠ x → z.f0 ≠ y → z ∈ b ∨ ∀ w ∈ a, w.f0 ≠ x → w.f0 ≠ y → w.f1 = z.f1 → w.f0 = z.f0
  bwd : ∀ z ∈ b, z.f0 ≠ x → z.f0 ≠ y → z ∈ a ∨ z.f1 = 0
theorem Frame.hr {a b : List S36} {x y p q : Int} (h : Frame a b x y) (h1 : p ≠ x) (h2 : p ≠ y) (h3 : q ≠ x) (h4 : q ≠ y) : Hr a p q ↔ Hr b p q := by
  constructor
  · rintro ⟨u, hu, v, hv, rfl, rfl, e, e0, k1, k2, hne⟩
    rcases h.fwd u hu h1 h2 with hu' | hd
    · rcases h.fwd v hv h3 h4 with hv' | hd
      · exact ⟨u, hu', v, hv', rfl, rfl, e, e0, k1, k2, hne⟩
      · exact absurd (hd u hu h1 h2 e) hne
    · exact absurd (hd v hv h3 h4 e.symm).symm hne
  · rintro ⟨u, hu, v, hv, rfl, rfl, e, e0, k1, k2, hne⟩
    rcases h.bwd u hu h1 h2 with hu' | hd
    · rcases h.bwd v hv h3 h4 with hv' | hd
      · exact ⟨u, hu', v, hv', rfl, rfl, e, e0, k1, k2, hne⟩
      · exact absurd (e.trans hd) e0
    · exact absurd hd e0
theorem Frame.oth {a b : List S36} {x y : Int} (h : Frame a b x y) (ha : Sorted a) (hb' : Sorted b) : Oth a b x y := fun p _ q _ h1 h2 h3 h4 => hb_eq_of ha hb' (h.hr h1 h2 h3 h4)

/-! ### one leg turned -/
theorem ids_sorted {a b : List S36} (h : ids a = ids b) (ha : Sorted a) : Sorted b := by
  unfold Sorted at ha ⊢
  rw [← List.pairwise_map (f := S36.f0) (R := fun x y : Int => x < y)] at ha ⊢
  have : a.map S36.f0 = b.map S36.f0 := h
  rw [← this]
  exact ha
theorem ids_set (l : List S36) (i : Nat) (z : S36) (h : ∀ (y : S36), l[i]? = some y → y.f0 = z.f0) : ids (l.set i z) = ids l := by
  unfold ids
  rw [List.map_set]
  refine List.ext_getElem? fun q => ?_
  by_cases e : i = q
  · subst e
    by_cases hl : i < l.length
    · rw [List.getElem?_set_self (by simpa using hl), List.getElem?_map, List.getElem?_eq_getElem hl]
      simp [h _ (List.getElem?_eq_getElem hl)]
    · rw [List.set_eq_of_length_le (by simp; omega)]
  · rw [List.getElem?_set_ne e]
theorem mem_set {l : List S36} {i : Nat} {z w : S36} (h : w ∈ l.set i z) : w = z ∨ ∃ q, q ≠ i ∧ l[q]? = some w := by
  obtain ⟨q, hq⟩ := List.mem_iff_getElem?.1 h
  by_cases e : i = q
  · subst e
    rw [List.getElem?_set] at hq
    split at hq
    · split at hq
      · injection hq with hq; exact .inl hq.symm
      · cases hq
    · exact absurd rfl (by assumption)
  · rw [List.getElem?_set_ne e] at hq
    exact .inr ⟨q, fun e2 => e e2.symm, hq⟩
theorem set_mem {l : List S36} {i q : Nat} {z w : S36} (h : l[q]? = some w) (hne : q ≠ i) : w ∈ l.set i z :=
  List.mem_iff_getElem?.2 ⟨q, by rw [List.getElem?_set_ne (fun e => hne e.symm)]; exact h⟩
theorem set_self {l : List S36} {i : Nat} (z : S36) (h : i < l.length) : z ∈ l.set i z := List.mem_iff_getElem?.2 ⟨i, List.getElem?_set_self h⟩
theorem cnt_set {l : List S36} {i : Nat} {z y : S36} (hy : l[i]? = some y) (c : Int) : cnt (l.set i z) c + (if y.f1 = c then 1 else 0) = cnt l c + (if z.f1 = c then 1 else 0) := by
  induction l generalizing i with
  | nil => simp at hy
  | cons w l ih =>
    have hcons : ∀ (w : S36) (m : List S36), cnt (w :: m) c = (if w.f1 = c then 1 else 0) + cnt m c := by
      intro w m
      unfold cnt
      by_cases e : w.f1 = c
      · simp [e]; omega
      · simp [e]
    cases i with
    | zero =>
      obtain rfl : w = y := by simpa using hy
      simp only [List.set_cons_zero, hcons]
      omega
    | succ i =>
      simp only [List.set_cons_succ, hcons]
      have := ih (i := i) (by simpa using hy)
      omega

theorem hold_frame' (l : List S36) (k : Nat) (z : S36) (hk : k < l.length) (hz : (rd_T36 l (k : Int)).f0 = z.f0) : Frame l (l.set k z) z.f0 z.f0 := by
  refine ⟨fun w hw h1 _ => .inl ?_, fun w hw h1 _ => .inl ?_⟩
  · obtain ⟨q, hq, rfl⟩ := mem_at hw
    refine set_mem (rd_at l q hq) (fun e => h1 ?_)
    subst e
    exact hz
  · rcases mem_set hw with rfl | ⟨q, _, hq⟩
    · exact absurd rfl h1
    · exact List.mem_iff_getElem?.2 ⟨q, hq⟩

/-- A leg is put on hold or taken off hold. -/
theorem ok_hold {l : List S36} {nx : Int} (h : Ok l nx) {i : Nat} (hi : i < l.length) (h1 : (rd_T36 l (i : Int)).f1 ≠ 0) (on : Bool) : Ok (l.set i ⟨(rd_T36 l (i : Int)).f0, (rd_T36 l (i : Int)).f1, on⟩) nx := by
  have hz := rd_at l i hi
  have hids := ids_set l i ⟨(rd_T36 l (i : Int)).f0, (rd_T36 l (i : Int)).f1, on⟩ (fun y hy => by rw [hz] at hy; injection hy with hy; rw [← hy])
  have hcnt : ∀ c, cnt (l.set i ⟨(rd_T36 l (i : Int)).f0, (rd_T36 l (i : Int)).f1, on⟩) c = cnt l c := fun c => by
    have := cnt_set (z := ⟨(rd_T36 l (i : Int)).f0, (rd_T36 l (i : Int)).f1, on⟩) hz c
    simp only at this
    omega
  have hl := h.leg _ (at_mem hi)
  refine ⟨h.n1, h.n2, ids_sorted hids.symm h.s, fun w hw => ?_, fun w hw h0 => ?_, by rw [List.length_set]; exact h.len⟩
  · rcases mem_set hw with rfl | ⟨q, _, hq⟩
    · exact ⟨hl.id, hl.c0, hl.c1, fun e => absurd e h1⟩
    · exact h.leg w (List.mem_iff_getElem?.2 ⟨q, hq⟩)
  · rw [hcnt]
    rcases mem_set hw with rfl | ⟨q, _, hq⟩
    · exact h.two (rd_T36 l (i : Int)) (at_mem hi) h0
    · exact h.two w (List.mem_iff_getElem?.2 ⟨q, hq⟩) h0
end Go.Proofs.Ytmjenmhidnkbdaa.P
