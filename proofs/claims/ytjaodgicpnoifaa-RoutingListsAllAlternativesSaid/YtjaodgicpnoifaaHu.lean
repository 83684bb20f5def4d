/- The stable sort as plain Lean on lists. -/
import Derived.Test.YtjaodgicpnoifaaHg
namespace Go.Proofs.Ytjaodgicpnoifaa.P
open Go.RowKit Go.Shelf Go.Lib Go.Sort Go.Proofs.YtjaodgicpnoifaaW.PrintWords Go.Proofs.YtjaodgicpnoifaaW.PrintLast Go.Proofs.YtjaodgicpnoifaaW.PrintMore
set_option linter.unusedVariables false
set_option linter.unusedSimpArgs false

/-- One more, from the right, as far as it costs less. -/
def insRev (key : S49 → Int) (x : S49) : List S49 → List S49
  | [] => [x]
  | y :: ys => if key x < key y then y :: insRev key x ys else x :: y :: ys
def ins1 (key : S49 → Int) (x : S49) (P : List S49) : List S49 := (insRev key x P.reverse).reverse
def insAll (key : S49 → Int) : List S49 → List S49 → List S49
  | acc, [] => acc
  | acc, x :: l => insAll key (ins1 key x acc) l
theorem lt_of (key : S49 → Int) (x y : S49) : ltOf (cf key) x y = decide (key x < key y) := by
  unfold ltOf cf cmpI
  by_cases h : key x < key y
  · simp [h]
  · by_cases h2 : key y < key x <;> simp [h, h2]
theorem insRev_len (key : S49 → Int) (x : S49) : ∀ l, (insRev key x l).length = l.length + 1 := by
  intro l
  induction l with
  | nil => rfl
  | cons y l ih => simp only [insRev]; split <;> simp [ih]
theorem ins1_len (key : S49 → Int) (x : S49) (l : List S49) : (ins1 key x l).length = l.length + 1 := by simp [ins1, insRev_len]
theorem inner_eq (key : S49 → Int) (x : S49) : ∀ (P R : List S49), insInner (ltOf (cf key)) 0 P.length (P ++ x :: R).toArray = (ins1 key x P ++ R).toArray := by
  suffices H : ∀ (n : Nat) (P R : List S49), P.length = n → insInner (ltOf (cf key)) 0 P.length (P ++ x :: R).toArray = (ins1 key x P ++ R).toArray from fun P R => H _ P R rfl
  intro n
  induction n with
  | zero => intro P R hP; rw [List.length_eq_zero_iff.1 hP]; rfl
  | succ n ih0 =>
    intro P0 R hP0
    obtain ⟨P, y, rfl⟩ : ∃ P y, P0 = P ++ [y] := by
      rcases List.eq_nil_or_concat P0 with h | ⟨P, y, h⟩
      · rw [h] at hP0; cases hP0
      · exact ⟨P, y, by simpa using h⟩
    have ih := fun R => ih0 P R (by simpa using hP0)
    have e1 : (P ++ [y]).length = P.length + 1 := by simp
    have e2 : P ++ [y] ++ x :: R = P ++ y :: x :: R := by simp
    rw [e1, e2]
    have g1 : (P ++ y :: x :: R).toArray[P.length + 1]! = x := by
      rw [getElem!_pos _ _ (by simp)]; simp
    have g0 : (P ++ y :: x :: R).toArray[P.length]! = y := by
      rw [getElem!_pos _ _ (by simp)]; simp
    simp only [insInner, g1, g0, lt_of]
    have hr : ins1 key x (P ++ [y]) = if key x < key y then ins1 key x P ++ [y] else P ++ [y] ++ [x] := by
      unfold ins1
      rw [List.reverse_append]
      simp only [List.reverse_singleton, List.singleton_append, insRev]
      split <;> simp
    rw [hr]
    by_cases h : key x < key y
    · rw [if_pos (by simp [h]), if_pos h]
      have hs : Sort.swp (P ++ y :: x :: R).toArray (P.length + 1) P.length = (P ++ x :: y :: R).toArray := by
        unfold Sort.swp
        rw [g1, g0]
        simp [List.setIfInBounds_toArray, List.set_append_right]
      rw [hs, ih (y :: R)]
      simp
    · rw [if_neg (by simp [h]), if_neg h]
      simp
theorem outer_eq (key : S49 → Int) : ∀ (rest acc : List S49), insOuter (ltOf (cf key)) 0 (acc.length + rest.length) acc.length (acc ++ rest).toArray = (insAll key acc rest).toArray := by
  intro rest
  induction rest with
  | nil => intro acc; rw [insOuter, if_neg (by simp)]; simp [insAll]
  | cons x rest ih =>
    intro acc
    rw [insOuter, if_pos (by simp), inner_eq]
    have h := ih (ins1 key x acc)
    rw [ins1_len] at h
    simp only [List.length_cons, insAll]
    rw [show acc.length + (rest.length + 1) = acc.length + 1 + rest.length by omega]
    exact h
theorem srt_eq (key : S49 → Int) (l : List S49) : srt key l = insAll key [] l := by
  unfold srt insertionSort
  cases l with
  | nil => simp [insOuter, insAll]
  | cons x l =>
    have h := outer_eq key l [x]
    have e : insAll key [] (x :: l) = insAll key [x] l := rfl
    rw [e]
    have e2 : (x :: l).length = [x].length + l.length := by simp; omega
    rw [e2]
    have h2 := congrArg Array.toList h
    simpa using h2
end Go.Proofs.Ytjaodgicpnoifaa.P
