/- Plain laws: the reference's find and size. -/
import Derived.Test.YtmjenmhidnkbdaaPx9
import Derived.Test.YtmjenmhidnkbdaaPx7b
import Derived.Test.YtmjenmhidnkbdaaPg
namespace Go.Proofs.Ytmjenmhidnkbdaa.P
open Go.RowKit Go.Proofs.YtmjenmhidnkbdaaW.PrintWords Go.Proofs.YtmjenmhidnkbdaaW.PrintLast Go.Proofs.YtmjenmhidnkbdaaW.PrintMore
set_option linter.unusedVariables false
set_option linter.unusedSimpArgs false

theorem drop_rd {l : List S36} {i : Nat} (h : i < l.length) : l.drop i = rd_T36 l (i : Int) :: l.drop (i + 1) := by
  rw [List.drop_eq_getElem_cons h]
  have h2 := rd_at l i h
  rw [List.getElem?_eq_getElem h] at h2
  injection h2 with h2
  rw [h2]
theorem find_l0 (l : List S36) (x : Int) (hl : l.length ≤ 2000) : ∀ (K i : Nat), i ≤ l.length → l.length - i < K →
    crossbarref18_find.l0 K l x (i : Int) = some (if idx (fun z => z.f0 == x) (l.drop i) < 0 then -1 else (i : Int) + idx (fun z => z.f0 == x) (l.drop i)) := by
  intro K
  induction K with
  | zero => intro i _ h; omega
  | succ K ih =>
    intro i hi hK
    simp only [crossbarref18_find.l0]
    by_cases hlt : i < l.length
    · rw [if_pos (by omega), if_pos (by omega), drop_rd hlt, w64 i (by omega)]
      by_cases h : (rd_T36 l (i : Int)).f0 = x
      · rw [if_pos h]
        have e : idx (fun z => z.f0 == x) (rd_T36 l (i : Int) :: l.drop (i + 1)) = 0 := by simp [idx, h]
        rw [e]
        simp
      · rw [if_neg h, ih (i + 1) (by omega) (by omega)]
        have hne : ((rd_T36 l (i : Int)).f0 == x) = false := by simpa using h
        have e : idx (fun z => z.f0 == x) (rd_T36 l (i : Int) :: l.drop (i + 1)) = if idx (fun z => z.f0 == x) (l.drop (i + 1)) < 0 then -1 else idx (fun z => z.f0 == x) (l.drop (i + 1)) + 1 := by simp [idx, hne]
        rw [e]
        by_cases h0 : idx (fun z => z.f0 == x) (l.drop (i + 1)) < 0
        · simp [h0]
        · rw [if_neg h0, if_neg h0, if_neg (by omega)]
          congr 1
          omega
    · rw [if_neg (by omega), List.drop_eq_nil_of_le (by omega)]
      simp [idx]
theorem find_f (l : List S36) (x : Int) (hl : l.length ≤ 2000) (K : Nat) (hK : 2000 < K) : crossbarref18_find.f K l x = some (fnd l x) := by
  unfold crossbarref18_find.f
  have h := find_l0 l x hl K 0 (by omega) (by omega)
  rw [List.drop_zero] at h
  refine h.trans ?_
  have hge := idx_ge (fun z => z.f0 == x) l
  unfold fnd
  split
  · congr 1; omega
  · congr 1; omega
theorem size_l0 (l : List S36) (c : Int) (hl : l.length ≤ 2000) : ∀ (K i n : Nat), i ≤ l.length → n ≤ i → l.length - i < K → crossbarref18_size.l0 K l c (n : Int) (i : Int) = some ((n + cnt (l.drop i) c : Nat) : Int) := by
  intro K
  induction K with
  | zero => intro i _ _ _ h; omega
  | succ K ih =>
    intro i n hi hn hK
    simp only [crossbarref18_size.l0]
    by_cases hlt : i < l.length
    · rw [if_pos (by omega), if_pos (by omega), drop_rd hlt, w64 i (by omega)]
      have hcons : cnt (rd_T36 l (i : Int) :: l.drop (i + 1)) c = (if (rd_T36 l (i : Int)).f1 = c then 1 else 0) + cnt (l.drop (i + 1)) c := by
        unfold cnt
        by_cases e : (rd_T36 l (i : Int)).f1 = c
        · simp [e]; omega
        · simp [e]
      rw [hcons]
      by_cases h : (rd_T36 l (i : Int)).f1 = c
      · rw [if_pos h, if_pos h, w64 n (by omega), ih (i + 1) (n + 1) (by omega) (by omega) (by omega)]
        congr 2
        omega
      · rw [if_neg h, if_neg h, ih (i + 1) n (by omega) (by omega) (by omega)]
        congr 2
        omega
    · rw [if_neg (by omega), List.drop_eq_nil_of_le (by omega)]
      simp [cnt]
theorem size_f (l : List S36) (c : Int) (hl : l.length ≤ 2000) (K : Nat) (hK : 2000 < K) : crossbarref18_size.f K l c = some ((cnt l c : Nat) : Int) := by
  unfold crossbarref18_size.f
  have h := size_l0 l c hl K 0 0 (by omega) (by omega) (by omega)
  rw [List.drop_zero, Nat.zero_add] at h
  exact h
end Go.Proofs.Ytmjenmhidnkbdaa.P
