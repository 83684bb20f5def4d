/- Plain laws: the reference's Check answers as Check does. -/
import Derived.Test.YtmjenmhidnkbdaaPr
import Derived.Test.YtmjenmhidnkbdaaPx8
namespace Go.Proofs.Ytmjenmhidnkbdaa.P
open Go.RowKit Go.Proofs.YtmjenmhidnkbdaaW.PrintWords Go.Proofs.YtmjenmhidnkbdaaW.PrintLast Go.Proofs.YtmjenmhidnkbdaaW.PrintMore
set_option linter.unusedVariables false
set_option linter.unusedSimpArgs false

theorem w64m (i : Nat) (h : i ≤ 100000) (h0 : 0 < i) : wrap64 ((i : Int) - 1) = ((i - 1 : Nat) : Int) := by unfold wrap64; omega

/-- The leg at an index is as the reference asks. -/
structure Good (l : List S36) (nx : Int) (q : Nat) : Prop where
  a : okLeg nx (lastId l q) (rd_T36 l (q : Int)) = true
  b : 0 < (rd_T36 l (q : Int)).f1 → 2 ≤ cnt l (rd_T36 l (q : Int)).f1

theorem ck_step (l : List S36) (nx : Int) (hl : l.length ≤ 2000) (i K : Nat) (hi : i < l.length) (hK : 2000 < K) :
    (Good l nx i → crossbarref18_Check.l0 (K + 2) (i : Int) l nx = crossbarref18_Check.l0 K ((i + 1 : Nat) : Int) l nx) ∧ (¬ Good l nx i → crossbarref18_Check.l0 (K + 2) (i : Int) l nx = some 1) := by
  have h1 : (i : Int) < (l.length : Int) := by omega
  have h2 : 0 ≤ (i : Int) := by omega
  have hs := size_f l (rd_T36 l (i : Int)).f1 hl K hK
  have hw := w64 i (by omega)
  have hgood : Good l nx i ↔ (0 ≤ (rd_T36 l (i : Int)).f0 ∧ (rd_T36 l (i : Int)).f0 ≤ 1099511627776 ∧ lastId l i < (rd_T36 l (i : Int)).f0 ∧ 0 ≤ (rd_T36 l (i : Int)).f1 ∧ (rd_T36 l (i : Int)).f1 < nx ∧ ((rd_T36 l (i : Int)).f1 = 0 → (rd_T36 l (i : Int)).f2 = false)) ∧ (0 < (rd_T36 l (i : Int)).f1 → 2 ≤ cnt l (rd_T36 l (i : Int)).f1) := by
    constructor
    · rintro ⟨h, hb⟩
      refine ⟨?_, hb⟩
      rw [okLeg_iff] at h
      obtain ⟨⟨p1, p2, p3, p4⟩, p5⟩ := h
      simp only [okId, Bool.and_eq_true, decide_eq_true_eq] at p1
      exact ⟨p1.1, p1.2, p5, p2, p3, p4⟩
    · rintro ⟨⟨p0, p1, p2, p3, p4, p5⟩, hb⟩
      refine ⟨?_, hb⟩
      rw [okLeg_iff]
      exact ⟨⟨by simp only [okId, Bool.and_eq_true, decide_eq_true_eq]; exact ⟨p0, p1⟩, p3, p4, p5⟩, p2⟩
  have hlast : (0 : Int) < (i : Int) → rd_T36 l (wrap64 ((i : Int) - 1)) = rd_T36 l ((i - 1 : Nat) : Int) ∧ 0 ≤ wrap64 ((i : Int) - 1) ∧ wrap64 ((i : Int) - 1) < (l.length : Int) ∧ lastId l i = (rd_T36 l ((i - 1 : Nat) : Int)).f0 := fun h => by
    rw [w64m i (by omega) (by omega)]
    exact ⟨rfl, by omega, by omega, by unfold lastId; rw [if_neg (by omega)]⟩
  have hlast0 : ¬ (0 : Int) < (i : Int) → lastId l i = -1 := fun h => by unfold lastId; rw [if_pos (by omega)]
  rw [hgood]
  clear hgood
  simp only [crossbarref18_Check.l0, crossbarref18_Check.j2, if_pos h1, if_pos h2, hs, hw, Option.bind_some, decide_eq_true_eq, if_true, gt_iff_lt, ge_iff_le]
  clear hs hw
  by_cases hi0 : (0 : Int) < (i : Int)
  · obtain ⟨q1, q2, q3, q4⟩ := hlast hi0
    rw [q1, q4]
    simp only [if_pos hi0, if_pos q2, if_pos q3]
    clear hlast hlast0 q1 q2 q3 q4
    generalize (rd_T36 l ((i - 1 : Nat) : Int)).f0 = la
    generalize rd_T36 l (i : Int) = z
    generalize cnt l z.f1 = n
    generalize crossbarref18_Check.l0 K ((i + 1 : Nat) : Int) l nx = R
    clear h1 h2 hi hl hK
    by_cases a1 : z.f0 < 0
    · simp only [if_pos a1]; exact ⟨fun h => by omega, fun _ => by trivial⟩
    by_cases a2 : 1099511627776 < z.f0
    · simp only [if_neg a1, if_pos a2]; exact ⟨fun h => by omega, fun _ => by trivial⟩
    by_cases a3 : z.f0 ≤ la
    · simp only [if_neg a1, if_neg a2, if_pos a3]; exact ⟨fun h => by omega, fun _ => by trivial⟩
    by_cases a4 : z.f1 < 0
    · simp only [if_neg a1, if_neg a2, if_neg a3, if_pos a4]; exact ⟨fun h => by omega, fun _ => by trivial⟩
    by_cases a5 : nx ≤ z.f1
    · simp only [if_neg a1, if_neg a2, if_neg a3, if_neg a4, if_pos a5]; exact ⟨fun h => by omega, fun _ => by trivial⟩
    simp only [if_neg a1, if_neg a2, if_neg a3, if_neg a4, if_neg a5]
    by_cases a6 : z.f1 = 0
    · simp only [if_pos a6]
      have a8 : ¬ 0 < z.f1 := by omega
      by_cases a7 : z.f2 = true
      · simp only [if_pos a7]
        refine ⟨fun h => ?_, fun _ => by trivial⟩
        have := h.1.2.2.2.2.2 a6
        rw [a7] at this; cases this
      · simp only [if_neg a7, if_neg a8]
        refine ⟨fun _ => by trivial, fun h => ?_⟩
        exact absurd ⟨⟨by omega, by omega, by omega, by omega, by omega, fun _ => by simpa using a7⟩, fun h => absurd h a8⟩ h
    · have a8 : 0 < z.f1 := by omega
      simp only [if_neg a6, if_pos a8]
      by_cases a9 : ((n : Nat) : Int) < 2
      · simp only [if_pos a9]
        exact ⟨fun h => by have := h.2 a8; omega, fun _ => by trivial⟩
      · simp only [if_neg a9]
        refine ⟨fun _ => by trivial, fun h => ?_⟩
        exact absurd ⟨⟨by omega, by omega, by omega, by omega, by omega, fun e => absurd e a6⟩, fun _ => by omega⟩ h
  · rw [hlast0 hi0]
    simp only [if_neg hi0]
    clear hlast hlast0
    generalize rd_T36 l (i : Int) = z
    generalize cnt l z.f1 = n
    generalize crossbarref18_Check.l0 K ((i + 1 : Nat) : Int) l nx = R
    clear h1 h2 hi hl hK
    by_cases a1 : z.f0 < 0
    · simp only [if_pos a1]; exact ⟨fun h => by omega, fun _ => by trivial⟩
    by_cases a2 : 1099511627776 < z.f0
    · simp only [if_neg a1, if_pos a2]; exact ⟨fun h => by omega, fun _ => by trivial⟩
    by_cases a4 : z.f1 < 0
    · simp only [if_neg a1, if_neg a2, if_pos a4]; exact ⟨fun h => by omega, fun _ => by trivial⟩
    by_cases a5 : nx ≤ z.f1
    · simp only [if_neg a1, if_neg a2, if_neg a4, if_pos a5]; exact ⟨fun h => by omega, fun _ => by trivial⟩
    simp only [if_neg a1, if_neg a2, if_neg a4, if_neg a5]
    by_cases a6 : z.f1 = 0
    · simp only [if_pos a6]
      have a8 : ¬ 0 < z.f1 := by omega
      by_cases a7 : z.f2 = true
      · simp only [if_pos a7]
        refine ⟨fun h => ?_, fun _ => by trivial⟩
        have := h.1.2.2.2.2.2 a6
        rw [a7] at this; cases this
      · simp only [if_neg a7, if_neg a8]
        refine ⟨fun _ => by trivial, fun h => ?_⟩
        exact absurd ⟨⟨by omega, by omega, by omega, by omega, by omega, fun _ => by simpa using a7⟩, fun h => absurd h a8⟩ h
    · have a8 : 0 < z.f1 := by omega
      simp only [if_neg a6, if_pos a8]
      by_cases a9 : ((n : Nat) : Int) < 2
      · simp only [if_pos a9]
        exact ⟨fun h => by have := h.2 a8; omega, fun _ => by trivial⟩
      · simp only [if_neg a9]
        refine ⟨fun _ => by trivial, fun h => ?_⟩
        exact absurd ⟨⟨by omega, by omega, by omega, by omega, by omega, fun e => absurd e a6⟩, fun _ => by omega⟩ h

theorem ck_loop (l : List S36) (nx : Int) (hl : l.length ≤ 1000) : ∀ (n i K : Nat), n = l.length - i → i ≤ l.length → 2 * n + 2003 ≤ K →
    ((∀ q, i ≤ q → q < l.length → Good l nx q) → crossbarref18_Check.l0 K (i : Int) l nx = some 0) ∧ ((∃ q, i ≤ q ∧ q < l.length ∧ ¬ Good l nx q) → crossbarref18_Check.l0 K (i : Int) l nx = some 1) := by
  intro n
  induction n with
  | zero =>
    intro i K hn hi hK
    obtain ⟨K, rfl⟩ : ∃ J, K = J + 1 := ⟨K - 1, by omega⟩
    refine ⟨fun _ => ?_, fun ⟨q, h1, h2, _⟩ => by omega⟩
    simp only [crossbarref18_Check.l0]
    rw [if_neg (by omega), if_neg (by omega)]
  | succ n ih =>
    intro i K hn hi hK
    obtain ⟨K, rfl⟩ : ∃ J, K = J + 2 := ⟨K - 2, by omega⟩
    obtain ⟨s1, s2⟩ := ck_step l nx (by omega) i K (by omega) (by omega)
    obtain ⟨j1, j2⟩ := ih (i + 1) K (by omega) (by omega) (by omega)
    by_cases hg : Good l nx i
    · rw [s1 hg]
      refine ⟨fun h => j1 fun q hq h2 => h q (by omega) h2, fun ⟨q, h1, h2, h3⟩ => j2 ⟨q, ?_, h2, h3⟩⟩
      by_cases e : q = i
      · subst e; exact absurd hg h3
      · omega
    · rw [s2 hg]
      exact ⟨fun h => absurd (h i (Nat.le_refl _) (by omega)) hg, fun _ => by trivial⟩

theorem checkE_all {l : List S36} {nx : Int} (h1 : ¬ (nx < 1 ∨ 1099511627776 < nx)) (hl : l.length ≤ 1024) (h : ∀ q, q < l.length → Good l nx q) : checkE l nx = 0 := by
  have hs : scan nx (-1) l = true := scan_true nx l (-1) fun k x hx => by
    have hk := (List.getElem?_eq_some_iff.1 hx).1
    have := (h k hk).a
    have e := rd_at l k hk
    rw [hx] at e
    injection e with e
    rw [← e] at this
    exact this
  have hn : lone l = false := by
    refine lone_not fun x hx ⟨h0, h2⟩ => ?_
    obtain ⟨z, hz, he⟩ := cnt_pos l x hx
    obtain ⟨j, hj, hr⟩ := mem_at hz
    have := (h j hj).b
    rw [hr, he] at this
    have := this h0
    omega
  unfold checkE
  rw [if_neg h1, hs, hn, if_neg (by simp), if_neg (by simp), if_neg (by omega)]
theorem checkE_some {l : List S36} {nx : Int} {q : Nat} (hq : q < l.length) (h : ¬ Good l nx q) : checkE l nx = 1 := by
  by_cases ha : okLeg nx (lastId l q) (rd_T36 l (q : Int)) = true
  · have hb : ¬ (0 < (rd_T36 l (q : Int)).f1 → 2 ≤ cnt l (rd_T36 l (q : Int)).f1) := fun hb => h ⟨ha, hb⟩
    have h0 : 0 < (rd_T36 l (q : Int)).f1 := by
      refine Decidable.byContradiction fun hn => hb fun h => absurd h hn
    have h2 : cnt l (rd_T36 l (q : Int)).f1 < 2 := by
      refine Decidable.byContradiction fun hn => hb fun _ => by omega
    have hlone : lone l = true := by
      unfold lone
      rw [List.any_eq_true]
      exact ⟨_, at_mem hq, by simp [h0, h2]⟩
    unfold checkE
    rw [hlone]
    split
    · rfl
    · split <;> rfl
  · exact checkE_bad (rd_at l q hq) (by simpa using ha)
theorem refcheck_f (l : List S36) (nx : Int) (hl : l.length ≤ 1000) (K : Nat) (hK : 4010 ≤ K) : crossbarref18_Check.f K l nx = some (checkE l nx) := by
  obtain ⟨K, rfl⟩ : ∃ J, K = J + 1 := ⟨K - 1, by omega⟩
  unfold crossbarref18_Check.f
  by_cases h1 : nx < 1
  · rw [if_pos h1]
    simp only [crossbarref18_Check.j0, if_true]
    unfold checkE
    rw [if_pos (.inl h1)]
  · rw [if_neg h1]
    simp only [crossbarref18_Check.j0]
    by_cases h2 : nx > 1099511627776
    · rw [if_pos (by simpa using h2)]
      unfold checkE
      rw [if_pos (.inr h2)]
    · rw [if_neg (by simpa using h2)]
      obtain ⟨j1, j2⟩ := ck_loop l nx hl l.length 0 K rfl (Nat.zero_le _) (by omega)
      by_cases hg : ∀ q, q < l.length → Good l nx q
      · rw [checkE_all (by omega) (by omega) hg]
        exact j1 fun q _ h => hg q h
      · obtain ⟨q, hq⟩ := Classical.not_forall.1 hg
        obtain ⟨hq, hb⟩ := Classical.not_imp.1 hq
        rw [checkE_some hq hb]
        exact j2 ⟨q, Nat.zero_le _, hq, hb⟩
theorem checkE_01 (l : List S36) (nx : Int) (hl : l.length ≤ 1000) : checkE l nx = 0 ∨ checkE l nx = 1 := by
  unfold checkE
  split
  · exact .inr rfl
  · split
    · exact .inr rfl
    · split
      · exact .inr rfl
      · rw [if_neg (by omega)]; exact .inl rfl
end Go.Proofs.Ytmjenmhidnkbdaa.P
