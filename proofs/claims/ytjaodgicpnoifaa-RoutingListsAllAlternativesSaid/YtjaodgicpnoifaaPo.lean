/- Small lists of links; what Distances answers, by cases. -/
import Derived.Test.YtjaodgicpnoifaaPn
import Derived.Test.YtjaodgicpnoifaaPxl
import Derived.Test.YtjaodgicpnoifaaSane
namespace Go.Proofs.Ytjaodgicpnoifaa.P
open Go.RowKit Go.Shelf Go.Proofs.YtjaodgicpnoifaaW.PrintWords Go.Proofs.YtjaodgicpnoifaaW.PrintLast Go.Proofs.YtjaodgicpnoifaaW.PrintMore
set_option linter.unusedVariables false
set_option linter.unusedSimpArgs false

def fewLB (l : List (List Int)) : Bool := (l.take 40).all (fun z => decide (z.length ≤ 10)) && decide (l.length ≤ 40)
theorem rdL1_at (l : List (List Int)) {i : Nat} (h : i < l.length) : rd_L1 l (i : Int) = l[i] := by simp [rd_L1, h]
theorem fewL_l0 (l : List (List Int)) : ∀ (K i : Nat), i ≤ 40 → i ≤ l.length → 2 * (40 - i) + 2 ≤ K → (∀ z ∈ l.take i, z.length ≤ 10) → crossbarref15_FewLinks.l0 K l (i : Int) = some (fewLB l) := by
  intro K
  induction K using Nat.strongRecOn with
  | ind K ih =>
  intro i hi hil hK hz
  obtain ⟨K, rfl⟩ : ∃ k, K = k + 2 := ⟨K - 2, by omega⟩
  simp only [crossbarref15_FewLinks.l0]
  by_cases h : i < l.length
  · rw [if_pos (by omega)]
    simp only [crossbarref15_FewLinks.j1]
    by_cases h20 : i < 40
    · rw [if_pos (by simp; omega), if_pos (by omega), if_pos (by omega)]
      rw [rdL1_at l h]
      by_cases hlen : l[i].length > 10
      · rw [if_pos (by omega)]
        have : fewLB l = false := by
          unfold fewLB
          have hm : l[i] ∈ l.take 40 := by
            rw [List.mem_take_iff_getElem]
            exact ⟨i, by omega, rfl⟩
          have : (l.take 40).all (fun z => decide (z.length ≤ 10)) = false := by
            rw [List.all_eq_false]
            exact ⟨l[i], hm, by simp; omega⟩
          rw [this]; rfl
        rw [this]
      · rw [if_neg (by omega), w64 i (by omega)]
        refine ih K (by omega) (i + 1) (by omega) (by omega) (by omega) (fun z hz' => ?_)
        rw [List.take_add_one, List.getElem?_eq_getElem h] at hz'
        rcases List.mem_append.1 hz' with h1 | h1
        · exact hz z h1
        · obtain rfl : z = l[i] := by simpa using h1
          omega
    · rw [if_neg (by simp; omega)]
      have h20' : i = 40 := by omega
      subst h20'
      congr 1
      unfold fewLB
      have : (l.take 40).all (fun z => decide (z.length ≤ 10)) = true := List.all_eq_true.2 (fun z hz' => by simpa using hz z hz')
      rw [this]
      simp; omega
  · rw [if_neg (by omega)]
    simp only [crossbarref15_FewLinks.j1]
    rw [if_neg (by simp)]
    congr 1
    unfold fewLB
    have e : l.take 40 = l.take i := by rw [List.take_of_length_le (by omega), List.take_of_length_le (by omega)]
    have : (l.take 40).all (fun z => decide (z.length ≤ 10)) = true := List.all_eq_true.2 (fun z hz' => by rw [e] at hz'; simpa using hz z hz')
    rw [this]
    simp; omega
theorem fewL_f (l : List (List Int)) (K : Nat) (hK : 82 ≤ K) : crossbarref15_FewLinks.f K l = some (fewLB l) := fewL_l0 l K 0 (by omega) (by omega) (by omega) (by simp)
theorem fewL_len {l : List (List Int)} (h : fewLB l = true) : l.length ≤ 40 := by
  unfold fewLB at h
  simp only [Bool.and_eq_true, decide_eq_true_eq] at h
  exact h.2
theorem dists_cases (n : Int) (l : List (List Int)) (t : List Int) : distsF n l t = ([], 1) ∨ ∃ (N : Nat) (F : Nat → Bool), n = (N : Int) ∧ 1 ≤ N ∧ N ≤ 6 ∧ readF (N : Int) l = some F ∧ (∀ x y, x < 6 → y < 6 → F (x * 6 + y) = true → y < N) ∧ (∀ x ∈ t, 0 ≤ x ∧ x < (N : Int)) ∧ distsF n l t = (distF N F (-1) t, 0) := by
  cases h : readF n l with
  | none => left; unfold distsF; rw [h]
  | some F =>
    obtain ⟨h1, h6, hlt⟩ := readF_ok h
    cases ha : t.all (hasF n) with
    | false => left; unfold distsF; rw [h]; simp only [ha]; rfl
    | true =>
      right
      obtain ⟨N, rfl⟩ : ∃ N : Nat, n = (N : Int) := ⟨n.toNat, by omega⟩
      refine ⟨N, F, rfl, by omega, by omega, h, fun x y hx hy hf => by have := hlt x y hx hy hf; omega, fun x hx => ?_, ?_⟩
      · have := List.all_eq_true.1 ha x hx
        simpa only [hasF, Bool.and_eq_true, decide_eq_true_eq] using this
      · unfold distsF; rw [h]; simp only [ha, if_true, Int.toNat_natCast]
/-- One target alone, in a network that read lets in. -/
theorem dists_one {N : Nat} {F : Nat → Bool} {l : List (List Int)} (hF : readF (N : Int) l = some F) (a : Int) : distsF (N : Int) l [a] = if 0 ≤ a ∧ a < (N : Int) then (distF N F (-1) [a], 0) else ([], 1) := by
  unfold distsF
  rw [hF]
  by_cases h : 0 ≤ a ∧ a < (N : Int)
  · rw [if_pos h]; simp [hasF, h.1, h.2]
  · rw [if_neg h]
    have : hasF (N : Int) a = false := by
      unfold hasF
      rw [Bool.and_eq_false_iff]
      by_cases h0 : 0 ≤ a
      · right; simp; omega
      · left; simpa using h0
    simp [this]
end Go.Proofs.Ytjaodgicpnoifaa.P
