/- Small laws that several statements share. -/
import Derived.Test.YtjaodgicpnoifaaPs
import Derived.Test.YtjaodgicpnoifaaSane
namespace Go.Proofs.Ytjaodgicpnoifaa.P
open Go.RowKit Go.Shelf Go.Proofs.YtjaodgicpnoifaaW.PrintWords Go.Proofs.YtjaodgicpnoifaaW.PrintLast Go.Proofs.YtjaodgicpnoifaaW.PrintMore
set_option linter.unusedVariables false
set_option linter.unusedSimpArgs false

theorem has_l0 (y : Int) (xs : List Int) (hx : xs.length ≤ 2000) : ∀ (K i : Nat), i ≤ xs.length → xs.length - i < K → crossbarlaw15_has.l0 K xs y (i : Int) = some (decide (y ∈ xs.drop i)) := by
  intro K
  induction K with
  | zero => intro i _ h; omega
  | succ K ih =>
    intro i hi hK
    simp only [crossbarlaw15_has.l0]
    by_cases h : i < xs.length
    · rw [if_pos (by omega), if_pos (by omega), List.drop_eq_getElem_cons h]
      have hr : rd xs (i : Int) = xs[i] := by simp [rd, h]
      rw [hr]
      by_cases e : xs[i] = y
      · rw [if_pos e]; simp [e]
      · rw [if_neg e, w64 i (by omega), ih (i + 1) (by omega) (by omega)]
        have hn : ¬ y = xs[i] := fun e2 => e e2.symm
        congr 1
        refine decide_eq_decide.2 ?_
        rw [List.mem_cons]
        exact ⟨.inr, fun h2 => h2.resolve_left hn⟩
    · rw [if_neg (by omega), List.drop_eq_nil_of_le (by omega)]
      simp
theorem has_f (y : Int) (xs : List Int) (hx : xs.length ≤ 2000) (K : Nat) (hK : xs.length < K) : crossbarlaw15_has.f K xs y = some (decide (y ∈ xs)) := by
  unfold crossbarlaw15_has.f
  have := has_l0 y xs hx K 0 (by omega) (by omega)
  simpa using this
/-- Small tables. -/
def fewB (l : List S47) : Bool := (l.take 20).all (fun z => decide (z.f1.length ≤ 20)) && decide (l.length ≤ 20)
theorem few_l0 (l : List S47) : ∀ (K i : Nat), i ≤ 20 → i ≤ l.length → 2 * (20 - i) + 2 ≤ K → (∀ z ∈ l.take i, z.f1.length ≤ 20) → crossbarref15_Few.l0 K l (i : Int) = some (fewB l) := by
  intro K
  induction K using Nat.strongRecOn with
  | ind K ih =>
  intro i hi hil hK hz
  obtain ⟨K, rfl⟩ : ∃ k, K = k + 2 := ⟨K - 2, by omega⟩
  simp only [crossbarref15_Few.l0]
  by_cases h : i < l.length
  · rw [if_pos (by omega)]
    simp only [crossbarref15_Few.j1]
    by_cases h20 : i < 20
    · rw [if_pos (by simp; omega), if_pos (by omega), if_pos (by omega)]
      have hrd : rd_T47 l (i : Int) = l[i] := by simp [rd_T47, h]
      rw [hrd]
      by_cases hlen : l[i].f1.length > 20
      · rw [if_pos (by omega)]
        have : fewB l = false := by
          unfold fewB
          have hm : l[i] ∈ l.take 20 := by
            rw [List.mem_take_iff_getElem]
            exact ⟨i, by omega, rfl⟩
          have : (l.take 20).all (fun z => decide (z.f1.length ≤ 20)) = false := by
            rw [List.all_eq_false]
            exact ⟨l[i], hm, by simp; omega⟩
          rw [this]; rfl
        rw [this]
      · rw [if_neg (by omega), w64 i (by omega)]
        refine ih K (by omega) (i + 1) (by omega) (by omega) (by omega) (fun z hz' => ?_)
        rw [List.take_add_one, List.getElem?_eq_getElem h] at hz'
        rcases List.mem_append.1 hz' with h1 | h1
        · exact hz z h1
        · obtain rfl : z = l[i] := by simpa using h1
          omega
    · rw [if_neg (by simp; omega)]
      have h20' : i = 20 := by omega
      subst h20'
      congr 1
      unfold fewB
      have : (l.take 20).all (fun z => decide (z.f1.length ≤ 20)) = true := List.all_eq_true.2 (fun z hz' => by simpa using hz z hz')
      rw [this]
      simp; omega
  · rw [if_neg (by omega)]
    simp only [crossbarref15_Few.j1]
    rw [if_neg (by simp)]
    congr 1
    unfold fewB
    have e : l.take 20 = l.take i := by rw [List.take_of_length_le (by omega), List.take_of_length_le (by omega)]
    have : (l.take 20).all (fun z => decide (z.f1.length ≤ 20)) = true := List.all_eq_true.2 (fun z hz' => by rw [e] at hz'; simpa using hz z hz')
    rw [this]
    simp; omega
theorem few_f (l : List S47) (K : Nat) (hK : 42 ≤ K) : crossbarref15_Few.f K l = some (fewB l) := few_l0 l K 0 (by omega) (by omega) (by omega) (by simp)
theorem few_tab {l : List S47} (h : fewB l = true) : l.length ≤ 20 ∧ (∀ z ∈ l, z.f1.length ≤ 20) ∧ okTab l = true := by
  unfold fewB at h
  simp only [Bool.and_eq_true, decide_eq_true_eq, List.all_eq_true] at h
  obtain ⟨h1, h2⟩ := h
  rw [List.take_of_length_le h2] at h1
  refine ⟨h2, h1, ?_⟩
  unfold okTab
  simp only [Bool.and_eq_true, decide_eq_true_eq, List.all_eq_true]
  exact ⟨by omega, fun z hz => by have := h1 z hz; omega⟩
theorem sane_f : crossbarlaw15_sane.f = some true := rfl

/-- The cost of the last choice with this group. -/
def scan (day : Bool) (g : Int) : List S49 → Int → Int
  | [], f => f
  | c :: l, f => scan day g l (if c.f0 = g then price day c else f)
theorem scan_none (day : Bool) (g : Int) : ∀ (l : List S49) (f : Int), (∀ c ∈ l, c.f0 ≠ g) → scan day g l f = f := by
  intro l
  induction l with
  | nil => intro f _; rfl
  | cons c l ih =>
    intro f h
    simp only [scan]
    rw [if_neg (h c (by simp))]
    exact ih f (fun x hx => h x (List.mem_cons_of_mem _ hx))
theorem scan_one (day : Bool) : ∀ (l : List S49) (z : S49) (f : Int), (l.map S49.f0).Nodup → z ∈ l → scan day z.f0 l f = price day z := by
  intro l
  induction l with
  | nil => intro z f _ h; simp at h
  | cons c l ih =>
    intro z f hn hz
    rw [List.map_cons, List.nodup_cons] at hn
    simp only [scan]
    rcases List.mem_cons.1 hz with rfl | hz
    · rw [if_pos rfl]
      exact scan_none day _ l _ (fun x hx e => hn.1 (List.mem_map.2 ⟨x, hx, e⟩))
    · exact ih z _ hn.2 hz
theorem rd49_get {l : List S49} {m : Nat} (h : m < l.length) : rd_T49 l (m : Int) = l[m] := by simp [rd_T49, h]
theorem rd_get {l : List Int} {m : Nat} (h : m < l.length) : rd l (m : Int) = l[m] := by simp [rd, h]
theorem ridx_at (t : Int) : ∀ (l : List S47) (n : Nat), ridx t l = (n : Int) → n < l.length ∧ (∀ (j : Nat) (x : S47), j < n → l[j]? = some x → x.f0 ≠ t) ∧ ∀ x, l[n]? = some x → x.f0 = t := by
  intro l
  induction l with
  | nil => intro n h; simp only [ridx] at h; omega
  | cons x l ih =>
    intro n h
    simp only [ridx] at h
    by_cases e : (x.f0 == t) = true
    · rw [if_pos e] at h
      obtain rfl : n = 0 := by omega
      refine ⟨by simp, fun j _ hj => by omega, fun y hy => ?_⟩
      have : x = y := by simpa using hy
      subst this
      simpa using e
    · rw [if_neg e] at h
      by_cases h2 : ridx t l < 0
      · rw [if_pos h2] at h; omega
      · rw [if_neg h2] at h
        obtain ⟨m, rfl⟩ : ∃ m, n = m + 1 := ⟨n - 1, by omega⟩
        obtain ⟨h3, h4, h5⟩ := ih m (by omega)
        refine ⟨by simpa using h3, fun j y hj hy => ?_, fun y hy => h5 y (by simpa using hy)⟩
        cases j with
        | zero =>
          have : x = y := by simpa using hy
          subst this
          simpa using e
        | succ j => exact h4 j y (by omega) (by simpa using hy)
theorem price_pos (day : Bool) (x : S49) (a : 0 ≤ x.f1) (b : 0 ≤ x.f2) : 0 ≤ price day x := by
  unfold price; split <;> assumption
end Go.Proofs.Ytjaodgicpnoifaa.P
