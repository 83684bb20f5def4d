/- Plain laws: what leaving a conference does. -/
import Derived.Test.YtmjenmhidnkbdaaPe
namespace Go.Proofs.Ytmjenmhidnkbdaa.P
open Go.RowKit Go.Proofs.YtmjenmhidnkbdaaW.PrintWords Go.Proofs.YtmjenmhidnkbdaaW.PrintLast Go.Proofs.YtmjenmhidnkbdaaW.PrintMore
set_option linter.unusedVariables false
set_option linter.unusedSimpArgs false

theorem rd_set (l : List S36) (i q : Nat) (z : S36) (hq : q < l.length) : rd_T36 (l.set i z) (q : Int) = if q = i then z else rd_T36 l (q : Int) := by
  have h1 := rd_at (l.set i z) q (by rw [List.length_set]; exact hq)
  by_cases e : q = i
  · subst e
    rw [List.getElem?_set_self hq] at h1
    injection h1 with h1
    rw [if_pos rfl, ← h1]
  · rw [List.getElem?_set_ne (fun e2 => e e2.symm), rd_at l q hq] at h1
    injection h1 with h1
    rw [if_neg e, ← h1]
theorem rd_out (l : List S36) (i q : Nat) (hq : q < l.length) : rd_T36 (outOf l i) (q : Int) = if q = i then ⟨(rd_T36 l (i : Int)).f0, 0, false⟩ else rd_T36 l (q : Int) := rd_set l i q _ hq

theorem memTo_cnt (l : List S36) (c : Int) : ∀ n, n ≤ l.length → (memTo l c n).length = cnt (l.take n) c := by
  intro n
  induction n with
  | zero => intro _; simp [memTo, cnt]
  | succ n ih =>
    intro hn
    rw [memTo_succ, cnt_succ l n _ c (rd_at l n (by omega)), List.length_append, ih (by omega)]
    have : cfAt l n = (rd_T36 l (n : Int)).f1 := rfl
    rw [this]
    by_cases e : (rd_T36 l (n : Int)).f1 = c <;> simp [e]
theorem mem_cnt (l : List S36) (c : Int) : (mem l c).length = cnt l c := by
  unfold mem
  rw [memTo_cnt l c l.length (Nat.le_refl _), List.take_length]
theorem mem_iff (l : List S36) (c : Int) (q : Nat) : q ∈ mem l c ↔ q < l.length ∧ cfAt l q = c := by
  simp [mem, memTo]

/-- What leaving makes. -/
theorem lv_cases (l : List S36) (i : Nat) (hi : i < l.length) :
    (lv l i = outOf l i ∧ (cfAt l i ≠ 0 → cnt (outOf l i) (cfAt l i) ≠ 1)) ∨
    (∃ j, j < l.length ∧ j ≠ i ∧ cfAt l i ≠ 0 ∧ cfAt l j = cfAt l i ∧ (∀ q, q < l.length → q ≠ i → cfAt l q = cfAt l i → q = j) ∧ lv l i = outOf (outOf l i) j) := by
  have hcf : ∀ q, q < l.length → cfAt (outOf l i) q = if q = i then 0 else cfAt l q := by
    intro q hq
    unfold cfAt
    rw [rd_out l i q hq]
    split <;> rfl
  by_cases h0 : cfAt l i = 0
  · left
    refine ⟨?_, fun h => absurd h0 h⟩
    unfold lv
    rw [if_pos h0]
  · have hlv : lv l i = match mem (outOf l i) (cfAt l i) with | [j] => outOf (outOf l i) j | _ => outOf l i := by
      unfold lv
      rw [if_neg h0]
      rfl
    have hc := mem_cnt (outOf l i) (cfAt l i)
    have hm := mem_iff (outOf l i) (cfAt l i)
    rw [outOf_len] at hm
    generalize mem (outOf l i) (cfAt l i) = M at *
    match M, hlv, hc, hm with
    | [], hlv, hc, hm => exact .inl ⟨hlv, fun _ e => by rw [e] at hc; simp at hc⟩
    | a :: b :: M, hlv, hc, hm => exact .inl ⟨hlv, fun _ e => by rw [e] at hc; simp at hc⟩
    | [j], hlv, hc, hm =>
      right
      obtain ⟨hj, hcj⟩ := (hm j).1 (by simp)
      rw [hcf j hj] at hcj
      have hji : j ≠ i := fun e => by rw [if_pos e] at hcj; exact h0 hcj.symm
      rw [if_neg hji] at hcj
      refine ⟨j, hj, hji, h0, hcj, fun q hq hqi hqc => ?_, hlv⟩
      have : q ∈ [j] := (hm q).2 ⟨hq, by rw [hcf q hq, if_neg hqi]; exact hqc⟩
      simpa using this

theorem lv_frame {l : List S36} (hs : Sorted l) {i : Nat} (hi : i < l.length) : Frame l (lv l i) (rd_T36 l (i : Int)).f0 (rd_T36 l (i : Int)).f0 := by
  rcases lv_cases l i hi with ⟨e, _⟩ | ⟨j, hj, hji, _, hcj, huniq, e⟩
  · rw [e]
    exact hold_frame' l i ⟨(rd_T36 l (i : Int)).f0, 0, false⟩ hi rfl
  · rw [e]
    refine ⟨fun z hz h1 _ => ?_, fun z hz h1 _ => ?_⟩
    · obtain ⟨q, hq, rfl⟩ := mem_at hz
      have hqi : q ≠ i := fun e2 => h1 (by rw [e2])
      by_cases hqj : q = j
      · right
        subst hqj
        intro w hw h2 _ h3
        obtain ⟨p, hp, rfl⟩ := mem_at hw
        have hpi : p ≠ i := fun e2 => h2 (by rw [e2])
        have : p = q := huniq p hp hpi (by show (rd_T36 l (p : Int)).f1 = _; rw [h3]; exact hcj)
        rw [this]
      · left
        have h3 : (outOf l i)[q]? = some (rd_T36 l (q : Int)) := by
          unfold outOf
          rw [List.getElem?_set_ne (fun e2 => hqi e2.symm)]
          exact rd_at l q hq
        exact set_mem h3 hqj
    · rcases mem_set hz with rfl | ⟨q, hqj, hq⟩
      · exact .inr rfl
      · left
        by_cases hqi : q = i
        · subst hqi
          unfold outOf at hq
          rw [List.getElem?_set_self hi] at hq
          injection hq with hq
          rw [← hq] at h1
          exact absurd rfl h1
        · unfold outOf at hq
          rw [List.getElem?_set_ne (fun e2 => hqi e2.symm)] at hq
          exact List.mem_iff_getElem?.2 ⟨q, hq⟩
theorem lv_sorted {l : List S36} (hs : Sorted l) (i : Nat) : Sorted (lv l i) := ids_sorted (ids_lv l i).symm hs
/-- The leg that left; a leg that was in no conference. -/
theorem lv_rd {l : List S36} {i : Nat} (hi : i < l.length) : rd_T36 (lv l i) (i : Int) = ⟨(rd_T36 l (i : Int)).f0, 0, false⟩ := by
  rcases lv_cases l i hi with ⟨e, _⟩ | ⟨j, hj, hji, _, _, _, e⟩
  · rw [e, rd_out l i i hi, if_pos rfl]
  · rw [e, rd_out (outOf l i) j i (by rw [outOf_len]; exact hi), if_neg (fun e2 => hji e2.symm), rd_out l i i hi, if_pos rfl]
theorem lv_rd0 {l : List S36} {i q : Nat} (hi : i < l.length) (hq : q < l.length) (h0 : (rd_T36 l (q : Int)).f1 = 0) (h2 : (rd_T36 l (q : Int)).f2 = false) : rd_T36 (lv l i) (q : Int) = rd_T36 l (q : Int) := by
  have hz : (⟨(rd_T36 l (q : Int)).f0, 0, false⟩ : S36) = rd_T36 l (q : Int) := by rw [← h0, ← h2]
  by_cases hqi : q = i
  · subst hqi
    rw [lv_rd hi, hz]
  · rcases lv_cases l i hi with ⟨e, _⟩ | ⟨j, hj, hji, hc, hcj, _, e⟩
    · rw [e, rd_out l i q hq, if_neg hqi]
    · have hqj : q ≠ j := fun e2 => hc (by rw [← hcj, ← e2]; exact h0)
      rw [e, rd_out (outOf l i) j q (by rw [outOf_len]; exact hq), if_neg hqj, rd_out l i q hq, if_neg hqi]
/-- Every leg's conference: as it was, or none. -/
theorem lv_mem {l : List S36} {i : Nat} (hi : i < l.length) {z : S36} (hz : z ∈ lv l i) : z ∈ l ∨ (z.f1 = 0 ∧ z.f2 = false ∧ ∃ w ∈ l, w.f0 = z.f0) := by
  rcases lv_cases l i hi with ⟨e, _⟩ | ⟨j, hj, hji, hc, hcj, _, e⟩
  · rw [e] at hz
    rcases mem_set hz with rfl | ⟨q, _, hq⟩
    · exact .inr ⟨rfl, rfl, _, at_mem hi, rfl⟩
    · exact .inl (List.mem_iff_getElem?.2 ⟨q, hq⟩)
  · rw [e] at hz
    rcases mem_set hz with rfl | ⟨q, _, hq⟩
    · exact .inr ⟨rfl, rfl, _, at_mem hj, by rw [rd_out l i j hj, if_neg hji]⟩
    · have hq2 := (List.getElem?_eq_some_iff.1 hq).1
      rw [outOf_len] at hq2
      have h3 := rd_at (outOf l i) q (by rw [outOf_len]; exact hq2)
      rw [hq] at h3
      injection h3 with h3
      rw [rd_out l i q hq2] at h3
      split at h3
      · subst h3; exact .inr ⟨rfl, rfl, _, at_mem hi, rfl⟩
      · rw [h3]; exact .inl (at_mem hq2)

theorem Frame.trans {a b c : List S36} {x y : Int} (h : Frame a b x x) (k : Frame b c y y) : Frame a c x y := by
  refine ⟨fun z hz h1 h2 => ?_, fun z hz h1 h2 => ?_⟩
  · rcases h.fwd z hz h1 h1 with hz' | hal
    · rcases k.fwd z hz' h2 h2 with hz'' | hal
      · exact .inl hz''
      · refine .inr fun w hw w1 w2 hc => ?_
        rcases h.fwd w hw w1 w1 with hw' | hal2
        · exact hal w hw' w2 w2 hc
        · exact (hal2 z hz h1 h1 hc.symm).symm
    · exact .inr fun w hw w1 _ hc => hal w hw w1 w1 hc
  · rcases k.bwd z hz h2 h2 with hz' | h0
    · exact h.bwd z hz' h1 h1
    · exact .inr h0
theorem Frame.same {a b c : List S36} {x y : Int} (h : Frame a b x y) (k : ∀ z : S36, z.f0 ≠ x → z.f0 ≠ y → (z ∈ b ↔ z ∈ c)) : Frame a c x y :=
  ⟨fun z hz h1 h2 => (h.fwd z hz h1 h2).imp (fun hz => (k z h1 h2).1 hz) id, fun z hz h1 h2 => h.bwd z ((k z h1 h2).2 hz) h1 h2⟩

theorem filter_range {n j : Nat} (P : Nat → Bool) (hj : j < n) (hP : ∀ q, q < n → (P q = true ↔ q = j)) : (List.range n).filter P = [j] := by
  induction n with
  | zero => omega
  | succ n ih =>
    rw [List.range_succ, List.filter_append]
    by_cases e : j = n
    · subst e
      have h1 : (List.range j).filter P = [] := by
        rw [List.filter_eq_nil_iff]
        intro q hq
        have hq' := List.mem_range.1 hq
        rw [hP q (by omega)]
        omega
      have h2 : P j = true := (hP j (by omega)).2 rfl
      rw [h1]
      simp [h2]
    · have h2 : P n = false := by
        rw [← Bool.not_eq_true, hP n (by omega)]
        exact fun e2 => e e2.symm
      rw [ih (by omega) (fun q hq => hP q (by omega))]
      simp [h2]
theorem hTo_one {l : List S36} {i j : Nat} (hj : j < l.length) (h : ∀ q, q < l.length → (cfAt l q = cfAt l i ∧ q ≠ i ∧ (rd_T36 l (q : Int)).f2 = false ↔ q = j)) : hTo l i l.length = [(rd_T36 l (j : Int)).f0] := by
  unfold hTo
  rw [filter_range (j := j) _ hj (fun q hq => by
    rw [← h q hq]
    simp only [Bool.and_eq_true, beq_iff_eq, Bool.not_eq_true', beq_eq_false_iff_ne, and_assoc])]
  rfl
end Go.Proofs.Ytmjenmhidnkbdaa.P
