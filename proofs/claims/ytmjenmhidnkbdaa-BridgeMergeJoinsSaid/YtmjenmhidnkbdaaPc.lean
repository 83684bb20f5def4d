/- Plain laws of the bridge: who hears whom. -/
import Derived.Test.YtmjenmhidnkbdaaPx2
namespace Go.Proofs.Ytmjenmhidnkbdaa.P
open Go.RowKit Go.Proofs.YtmjenmhidnkbdaaW.PrintWords Go.Proofs.YtmjenmhidnkbdaaW.PrintLast Go.Proofs.YtmjenmhidnkbdaaW.PrintMore
set_option linter.unusedVariables false
set_option linter.unusedSimpArgs false

theorem w64 (i : Nat) (h : i ≤ 100000) : wrap64 ((i : Int) + 1) = ((i + 1 : Nat) : Int) := by unfold wrap64; omega

theorem hears_l0 (y : Int) (xs : List Int) (hx : xs.length ≤ 2000) : ∀ (K i : Nat), i ≤ xs.length → xs.length - i < K → crossbarlaw18_hears.l0 K y xs (i : Int) = some (decide (y ∈ xs.drop i)) := by
  intro K
  induction K with
  | zero => intro i _ h; omega
  | succ K ih =>
    intro i hi hK
    simp only [crossbarlaw18_hears.l0]
    by_cases h : i < xs.length
    · rw [if_pos (by omega), if_pos (by omega), List.drop_eq_getElem_cons h]
      have hr : rd xs (i : Int) = xs[i] := by simp [rd, h]
      rw [hr]
      by_cases e : xs[i] = y
      · rw [if_pos e]; simp [e]
      · rw [if_neg e, w64 i (by omega), ih (i + 1) (by omega) (by omega)]
        have hn : ¬ y = xs[i] := fun e2 => e e2.symm
        congr 1
        refine decide_eq_decide.2 ?_
        rw [List.mem_cons]
        exact ⟨.inr, fun h2 => h2.resolve_left hn⟩
    · rw [if_neg (by omega), List.drop_eq_nil_of_le (by omega)]
      simp

theorem hearsL_len (l : List S36) (x : Int) : (hearsL l x).length ≤ l.length := by
  unfold hearsL
  simp only
  split
  · simp
  · exact hTo_len _ _ _

/-- Whether a leg hears another. -/
def hb (l : List S36) (x y : Int) : Bool := decide (y ∈ hearsL l x)
theorem hears_f (l : List S36) (nx x y : Int) (K : Nat) (hl : l.length ≤ 2000) (hK : 2000 < K) : crossbarlaw18_hears.f K l nx x y = some (hb l x y) := by
  unfold crossbarlaw18_hears.f bridge_Hears.f
  rw [if_pos hl]
  have := hearsL_len l x
  exact (hears_l0 y (hearsL l x) (by omega) K 0 (by omega) (by omega)).trans (by simp [hb])

theorem idx_neg (p : S36 → Bool) (l : List S36) (h : idx p l < 0) : ∀ x ∈ l, p x = false := by
  induction l with
  | nil => simp
  | cons x l ih =>
    intro y hy
    by_cases hp : p x = true
    · simp [idx, hp] at h
    · have hp' : p x = false := by simpa using hp
      have e : idx p (x :: l) = if idx p l < 0 then -1 else idx p l + 1 := by simp [idx, hp']
      rcases List.mem_cons.1 hy with rfl | hy
      · exact hp'
      · refine ih ?_ y hy
        by_cases h0 : idx p l < 0
        · exact h0
        · rw [e, if_neg h0] at h; omega

/-- Two legs hear each other. -/
def Hr (l : List S36) (x y : Int) : Prop := ∃ a ∈ l, ∃ b ∈ l, a.f0 = x ∧ b.f0 = y ∧ a.f1 = b.f1 ∧ a.f1 ≠ 0 ∧ a.f2 = false ∧ b.f2 = false ∧ x ≠ y
theorem Hr.symm {l : List S36} {x y : Int} : Hr l x y → Hr l y x := fun ⟨a, ha, b, hb, h1, h2, h3, h4, h5, h6, h7⟩ => ⟨b, hb, a, ha, h2, h1, h3.symm, by rw [← h3]; exact h4, h6, h5, fun e => h7 e.symm⟩

theorem mem_hTo (l : List S36) (k n : Nat) (y : Int) : y ∈ hTo l k n ↔ ∃ j, j < n ∧ cfAt l j = cfAt l k ∧ j ≠ k ∧ (rd_T36 l (j : Int)).f2 = false ∧ (rd_T36 l (j : Int)).f0 = y := by
  unfold hTo
  simp only [List.mem_map, List.mem_filter, List.mem_range, Bool.and_eq_true, beq_iff_eq, Bool.not_eq_true', beq_eq_false_iff_ne]
  constructor
  · rintro ⟨j, ⟨hj, ⟨h1, h2⟩, h3⟩, h4⟩
    exact ⟨j, hj, h1, h2, h3, h4⟩
  · rintro ⟨j, hj, h1, h2, h3, h4⟩
    exact ⟨j, ⟨hj, ⟨h1, h2⟩, h3⟩, h4⟩

theorem mem_at {l : List S36} {a : S36} (h : a ∈ l) : ∃ j, j < l.length ∧ rd_T36 l (j : Int) = a := by
  obtain ⟨j, hj⟩ := List.mem_iff_getElem?.1 h
  have hl := (List.getElem?_eq_some_iff.1 hj).1
  refine ⟨j, hl, ?_⟩
  rw [rd_at l j hl] at hj
  injection hj
theorem at_mem {l : List S36} {j : Nat} (h : j < l.length) : rd_T36 l (j : Int) ∈ l := List.mem_iff_getElem?.2 ⟨j, rd_at l j h⟩
theorem sorted_inj {l : List S36} (hs : Sorted l) {i j : Nat} (hi : i < l.length) (hj : j < l.length) (h : (rd_T36 l (i : Int)).f0 = (rd_T36 l (j : Int)).f0) : i = j := by
  rcases Nat.lt_trichotomy i j with h1 | h1 | h1
  · have := pair_lt hs h1 (rd_at l i hi) (rd_at l j hj); omega
  · exact h1
  · have := pair_lt hs h1 (rd_at l j hj) (rd_at l i hi); omega

theorem fnd_some {l : List S36} {x : Int} (h : ¬ fnd l x < 0) : ∃ k : Nat, fnd l x = k ∧ k < l.length ∧ (rd_T36 l (k : Int)).f0 = x := by
  have h0 : 0 ≤ fnd l x := by omega
  obtain ⟨z, hz, hp, _⟩ := idx_spec (fun z => z.f0 == x) l h0
  change l[(fnd l x).toNat]? = some z at hz
  have hl := (List.getElem?_eq_some_iff.1 hz).1
  refine ⟨(fnd l x).toNat, by omega, hl, ?_⟩
  rw [rd_at l _ hl] at hz
  injection hz with hz
  rw [hz]
  simpa using hp

theorem mem_hears {l : List S36} (hs : Sorted l) (x y : Int) : y ∈ hearsL l x ↔ Hr l x y := by
  unfold hearsL
  simp only
  by_cases h : fnd l x < 0
  · rw [if_pos (.inl h)]
    simp only [List.not_mem_nil, false_iff]
    rintro ⟨a, ha, b, hb, h1, _⟩
    have := idx_neg (fun z => z.f0 == x) l h a ha
    simp [h1] at this
  · obtain ⟨k, hk, hkl, hx⟩ := fnd_some h
    rw [hk]
    simp only [Int.toNat_natCast]
    by_cases h0 : (rd_T36 l (k : Int)).f1 = 0
    · rw [if_pos (.inr (.inl h0))]
      simp only [List.not_mem_nil, false_iff]
      rintro ⟨a, ha, b, hb, h1, h2, h3, h4, _⟩
      obtain ⟨j, hj, rfl⟩ := mem_at ha
      have := sorted_inj hs hj hkl (by rw [h1, hx])
      subst this
      exact h4 h0
    · by_cases h2 : (rd_T36 l (k : Int)).f2 = true
      · rw [if_pos (.inr (.inr h2))]
        simp only [List.not_mem_nil, false_iff]
        rintro ⟨a, ha, b, hb, h1, _, h3, h4, h5, _⟩
        obtain ⟨j, hj, rfl⟩ := mem_at ha
        have := sorted_inj hs hj hkl (by rw [h1, hx])
        subst this
        rw [h2] at h5
        cases h5
      · rw [if_neg (by rintro (h' | h' | h'); omega; exact h0 h'; exact h2 h'), mem_hTo]
        have h2' : (rd_T36 l (k : Int)).f2 = false := by simpa using h2
        constructor
        · rintro ⟨j, hj, e1, e2, e3, e4⟩
          refine ⟨_, at_mem hkl, _, at_mem hj, hx, e4, e1.symm, h0, h2', e3, fun e => e2 ?_⟩
          exact sorted_inj hs hj hkl (by rw [e4, hx, e])
        · rintro ⟨a, ha, b, hb, h1, e4, e1, h4, h5, e3, hne⟩
          obtain ⟨i, hi, rfl⟩ := mem_at ha
          obtain ⟨j, hj, rfl⟩ := mem_at hb
          have := sorted_inj hs hi hkl (by rw [h1, hx])
          subst this
          refine ⟨j, hj, e1.symm, fun e => hne ?_, e3, e4⟩
          subst e
          rw [← h1, ← e4]

theorem hb_iff {l : List S36} (hs : Sorted l) (x y : Int) : hb l x y = true ↔ Hr l x y := by
  unfold hb
  rw [decide_eq_true_iff]
  exact mem_hears hs x y
theorem hb_symm {l : List S36} (hs : Sorted l) (x y : Int) : hb l x y = hb l y x := by
  rw [Bool.eq_iff_iff, hb_iff hs, hb_iff hs]
  exact ⟨Hr.symm, Hr.symm⟩
theorem hb_self {l : List S36} (hs : Sorted l) (x : Int) : hb l x x = false := by
  rw [← Bool.not_eq_true, hb_iff hs]
  rintro ⟨_, _, _, _, _, _, _, _, _, _, h⟩
  exact h rfl
end Go.Proofs.Ytmjenmhidnkbdaa.P
