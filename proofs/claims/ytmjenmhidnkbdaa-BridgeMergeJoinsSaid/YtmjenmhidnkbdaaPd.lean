/- Plain laws: what the printed loops over pairs of legs tell. -/
import Derived.Test.YtmjenmhidnkbdaaPc
import Derived.Test.YtmjenmhidnkbdaaPs
import Derived.Test.YtmjenmhidnkbdaaPx4
namespace Go.Proofs.Ytmjenmhidnkbdaa.P
open Go.RowKit Go.Proofs.YtmjenmhidnkbdaaW.PrintWords Go.Proofs.YtmjenmhidnkbdaaW.PrintLast Go.Proofs.YtmjenmhidnkbdaaW.PrintMore
set_option linter.unusedVariables false
set_option linter.unusedSimpArgs false

/-- All pairs of legs of a without x and y hear each other in b as in a. -/
def Oth (a b : List S36) (x y : Int) : Prop := ∀ p ∈ a, ∀ q ∈ a, p.f0 ≠ x → p.f0 ≠ y → q.f0 ≠ x → q.f0 ≠ y → hb a p.f0 q.f0 = hb b p.f0 q.f0

theorem others_l (a b : List S36) (na nb x y : Int) (ha : a.length ≤ 100) (hb' : b.length ≤ 2000) (h : Oth a b x y) : ∀ K : Nat,
    (∀ i : Nat, i ≤ a.length → 2001 + (a.length - i) * (a.length + 2) < K → crossbarlaw18_others.l0 K x y (i : Int) a na b nb = some true) ∧
    (∀ i j : Nat, i < a.length → j ≤ a.length → 2001 + (a.length - i - 1) * (a.length + 2) + 1 + (a.length - j) < K → crossbarlaw18_others.l1 K x y (i : Int) (j : Int) a na b nb = some true) := by
  intro K
  induction K with
  | zero => exact ⟨fun i _ h => by omega, fun i j _ _ h => by omega⟩
  | succ K ih =>
    obtain ⟨ih0, ih1⟩ := ih
    constructor
    · intro i hi hK
      simp only [crossbarlaw18_others.l0]
      by_cases hlt : i < a.length
      · rw [if_pos (by omega)]
        refine ih1 i 0 hlt (by omega) ?_
        have : (a.length - i) * (a.length + 2) = (a.length - i - 1) * (a.length + 2) + (a.length + 2) := by
          rw [← Nat.succ_mul]; congr 1; omega
        omega
      · rw [if_neg (by omega)]
    · intro i j hi hj hK
      simp only [crossbarlaw18_others.l1]
      by_cases hlt : j < a.length
      · rw [if_pos (by omega), if_pos (by omega), if_pos (by omega), if_pos (by omega)]
        have hw : wrap64 ((j : Int) + 1) = ((j + 1 : Nat) : Int) := w64 j (by omega)
        have hnext := ih1 i (j + 1) hi (by omega) (by omega)
        rw [hw]
        have hp := at_mem hi
        have hq := at_mem hlt
        by_cases c1 : (rd_T36 a (i : Int)).f0 = x
        · rw [if_pos c1]; exact hnext
        · rw [if_neg c1]
          by_cases c2 : (rd_T36 a (i : Int)).f0 = y
          · rw [if_pos c2]; exact hnext
          · rw [if_neg c2]
            by_cases c3 : (rd_T36 a (j : Int)).f0 = x
            · rw [if_pos c3]; exact hnext
            · rw [if_neg c3]
              by_cases c4 : (rd_T36 a (j : Int)).f0 = y
              · rw [if_pos c4]; exact hnext
              · rw [if_neg c4, hears_f a na _ _ K (by omega) (by omega), hears_f b nb _ _ K hb' (by omega)]
                simp only [Option.bind_some]
                rw [h _ hp _ hq c1 c2 c3 c4]
                simp only [bne_self_eq_false, Bool.false_eq_true, if_false]
                exact hnext
      · rw [if_neg (by omega)]
        have hw : wrap64 ((i : Int) + 1) = ((i + 1 : Nat) : Int) := w64 i (by omega)
        rw [hw]
        refine ih0 (i + 1) (by omega) ?_
        have e : a.length - (i + 1) = a.length - i - 1 := by omega
        rw [e]
        omega
theorem others_f (a b : List S36) (na nb x y : Int) (ha : a.length ≤ 100) (hb' : b.length ≤ 2000) (h : Oth a b x y) (K : Nat) (hK : 20000 ≤ K) : crossbarlaw18_others.f K a na b nb x y = some true := by
  refine (others_l a b na nb x y ha hb' h K).1 0 (by omega) ?_
  have : (a.length - 0) * (a.length + 2) ≤ 100 * 102 := Nat.mul_le_mul (by omega) (by omega)
  omega

theorem same_l (a : List S36) (na nb : Int) (ha : a.length ≤ 2000) : ∀ (K i : Nat), i ≤ a.length → a.length - i < K → crossbarref18_Same.l0 K (i : Int) a na a nb = some true := by
  intro K
  induction K with
  | zero => intro i _ h; omega
  | succ K ih =>
    intro i hi hK
    simp only [crossbarref18_Same.l0]
    by_cases hlt : i < a.length
    · rw [if_pos (by omega), if_pos (by omega), if_pos (by omega), w64 i (by omega)]
      simp only [beq_self_eq_true, Bool.not_true, Bool.or_self, Bool.false_eq_true, if_false]
      exact ih (i + 1) (by omega) (by omega)
    · rw [if_neg (by omega)]
theorem same_f (a : List S36) (na : Int) (ha : a.length ≤ 2000) (K : Nat) (hK : 2002 < K) : crossbarref18_Same.f K a na a na = some true := by
  obtain ⟨k, rfl⟩ : ∃ k, K = k + 1 := ⟨K - 1, by omega⟩
  unfold crossbarref18_Same.f
  rw [if_pos rfl]
  simp only [bne_self_eq_false, crossbarref18_Same.j0, Bool.false_eq_true, if_false]
  exact same_l a na na ha k 0 (by omega) (by omega)
theorem ints_one (y : Int) (K : Nat) (hK : 2 < K) : crossbarref18_Ints.f K [y] [y] = some true := by
  obtain ⟨k, rfl⟩ : ∃ k, K = k + 2 := ⟨K - 2, by omega⟩
  unfold crossbarref18_Ints.f
  simp [crossbarref18_Ints.l0, rd, wrap64]
end Go.Proofs.Ytmjenmhidnkbdaa.P
