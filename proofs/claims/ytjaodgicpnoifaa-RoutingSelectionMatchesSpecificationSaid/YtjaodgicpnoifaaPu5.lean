/- Several texts in one. -/
import Derived.Test.YtjaodgicpnoifaaPt
import Derived.Test.YtjaodgicpnoifaaPx5
import Derived.Test.YtjaodgicpnoifaaPx8
/- Printed functions with enough fuel; the reference's Check as plain Lean. -/
namespace Go.Proofs.Ytjaodgicpnoifaa.P
open Go.RowKit Go.Shelf Go.Proofs.YtjaodgicpnoifaaW.PrintWords Go.Proofs.YtjaodgicpnoifaaW.PrintLast Go.Proofs.YtjaodgicpnoifaaW.PrintMore
set_option linter.unusedVariables false
set_option linter.unusedSimpArgs false

/-- With enough fuel it answers r. -/
def Ev {α : Type} (f : Nat → Option α) (r : α) : Prop := ∃ K0, ∀ K, K0 ≤ K → f K = some r
section
variable {α β : Type} {f g : Nat → Option α} {r : α}
theorem Ev.step (hf : Ev f r) (h : ∀ K, g (K + 1) = f K) : Ev g r := by
  obtain ⟨K0, h0⟩ := hf
  refine ⟨K0 + 1, fun K hK => ?_⟩
  obtain ⟨K, rfl⟩ : ∃ k, K = k + 1 := ⟨K - 1, by omega⟩
  rw [h]; exact h0 K (by omega)
theorem Ev.now (h : ∀ K, g (K + 1) = some r) : Ev g r := ⟨1, fun K hK => by
  obtain ⟨K, rfl⟩ : ∃ k, K = k + 1 := ⟨K - 1, by omega⟩
  exact h K⟩
theorem Ev.const (h : ∀ K, g K = some r) : Ev g r := ⟨0, fun K _ => h K⟩
theorem Ev.same (hf : Ev f r) (h : ∀ K, g K = f K) : Ev g r := by
  obtain ⟨K0, h0⟩ := hf
  exact ⟨K0, fun K hK => by rw [h]; exact h0 K hK⟩
theorem Ev.bind {e : Nat → Option β} {b : β} {h : Nat → β → Option α} (he : Ev e b) (hh : Ev (fun K => h K b) r) (hg : ∀ K, g K = (e K).bind (h K)) : Ev g r := by
  obtain ⟨K0, h0⟩ := he
  obtain ⟨K1, h1⟩ := hh
  refine ⟨max K0 K1, fun K hK => ?_⟩
  rw [hg, h0 K (by omega), Option.bind_some]
  exact h1 K (by omega)
theorem Ev.ex (h : Ev f r) : ∃ K, f K = some r := by
  obtain ⟨K0, h0⟩ := h
  exact ⟨K0, h0 K0 (Nat.le_refl _)⟩
end

/-- A choice that Check lets in. -/
def okc (g : Int) (c : S49) : Prop := 0 ≤ c.f0 ∧ c.f0 < g ∧ 0 ≤ c.f1 ∧ c.f1 ≤ 1000000 ∧ 0 ≤ c.f2 ∧ c.f2 ≤ 1000000
instance (g : Int) (c : S49) : Decidable (okc g c) := by unfold okc; infer_instance
theorem okCh_iff (g : Int) (F : Nat → Bool) (c : S49) : okCh g F c = true ↔ okc g c ∧ F c.f0.toNat = false := by
  unfold okCh okc
  simp only [Bool.and_eq_true, decide_eq_true_eq, Bool.not_eq_true']
  constructor
  · rintro ⟨⟨⟨⟨a, b⟩, c1⟩, d⟩, e⟩
    refine ⟨⟨a, b, ?_, ?_, ?_, ?_⟩, c1⟩ <;> (split at d <;> split at e <;> omega)
  · rintro ⟨⟨a, b, c1, c2, c3, c4⟩, d⟩
    refine ⟨⟨⟨⟨a, b⟩, d⟩, ?_⟩, ?_⟩ <;> (split <;> omega)
/-- Choice j is fine. -/
def goodC (g : Int) (C : List S49) (j : Nat) : Prop := okc g (rd_T49 C (j : Int)) ∧ ∀ m, m < j → (rd_T49 C (m : Int)).f0 ≠ (rd_T49 C (j : Int)).f0
theorem rd49_cons (c : S49) (C : List S49) (j : Nat) : rd_T49 (c :: C) ((j + 1 : Nat) : Int) = rd_T49 C (j : Int) := by simp [rd_T49]
theorem rd49_zero (c : S49) (C : List S49) : rd_T49 (c :: C) ((0 : Nat) : Int) = c := by simp [rd_T49]
theorem okChs_iff (g : Int) : ∀ (C : List S49) (F : Nat → Bool), okChs g F C = true ↔ ∀ j, j < C.length → goodC g C j ∧ F (rd_T49 C (j : Int)).f0.toNat = false := by
  intro C
  induction C with
  | nil => intro F; simp [okChs]
  | cons c C ih =>
    intro F
    simp only [okChs, Bool.and_eq_true, okCh_iff, ih]
    constructor
    · rintro ⟨⟨h1, h2⟩, h3⟩ j hj
      cases j with
      | zero => rw [rd49_zero]; exact ⟨⟨by rw [rd49_zero]; exact h1, fun m hm => by omega⟩, h2⟩
      | succ j =>
        obtain ⟨⟨a, b⟩, d⟩ := h3 j (by simpa using hj)
        rw [rd49_cons]
        have hd : (rd_T49 C (j : Int)).f0.toNat ≠ c.f0.toNat ∧ F (rd_T49 C (j : Int)).f0.toNat = false := by
          unfold upd at d
          split at d
          · cases d
          · rename_i hne; exact ⟨hne, d⟩
        refine ⟨⟨by rw [rd49_cons]; exact a, fun m hm => ?_⟩, hd.2⟩
        rw [rd49_cons]
        cases m with
        | zero => rw [rd49_zero]; intro e; exact hd.1 (by rw [e])
        | succ m => rw [rd49_cons]; exact b m (by omega)
    · intro h
      refine ⟨?_, fun j hj => ?_⟩
      · obtain ⟨⟨a, _⟩, d⟩ := h 0 (by simp)
        rw [rd49_zero] at a d
        exact ⟨a, d⟩
      · obtain ⟨⟨a, b⟩, d⟩ := h (j + 1) (by simpa using hj)
        rw [rd49_cons] at a d
        refine ⟨⟨a, fun m hm => ?_⟩, ?_⟩
        · have := b (m + 1) (by omega)
          rwa [rd49_cons, rd49_cons] at this
        · unfold upd
          have h0 := b 0 (by omega)
          rw [rd49_zero, rd49_cons] at h0
          have hc0 : 0 ≤ c.f0 := by
            obtain ⟨⟨a0, _⟩, _⟩ := h 0 (by simp)
            rw [rd49_zero] at a0; exact a0.1
          have := a.1
          rw [if_neg (by omega)]
          exact d
/-- Route j is fine. -/
def goodR (g : Int) (l : List S47) (j : Nat) : Prop := -1 ≤ (rd_T47 l (j : Int)).f0 ∧ (rd_T47 l (j : Int)).f0 < 6 ∧ (0 < j → (rd_T47 l ((j - 1 : Nat) : Int)).f0 < (rd_T47 l (j : Int)).f0) ∧ ∀ k, k < (rd_T47 l (j : Int)).f1.length → goodC g (rd_T47 l (j : Int)).f1 k
theorem rd47_cons (c : S47) (C : List S47) (j : Nat) : rd_T47 (c :: C) ((j + 1 : Nat) : Int) = rd_T47 C (j : Int) := by simp [rd_T47]
theorem rd47_zero (c : S47) (C : List S47) : rd_T47 (c :: C) ((0 : Nat) : Int) = c := by simp [rd_T47]
theorem okRt_iff (g : Int) : ∀ (l : List S47) (last : Int), -2 ≤ last → (okRt g last l = true ↔ ∀ j, j < l.length → goodR g l j ∧ (j = 0 → last < (rd_T47 l (j : Int)).f0)) := by
  intro l
  induction l with
  | nil => intro last _; simp [okRt]
  | cons r l ih =>
    intro last hlast
    simp only [okRt, Bool.and_eq_true, decide_eq_true_eq, okChs_iff]
    constructor
    · rintro ⟨⟨⟨h1, h2⟩, h3⟩, h4⟩ j hj
      cases j with
      | zero =>
        rw [rd47_zero]
        exact ⟨⟨by rw [rd47_zero]; omega, by rw [rd47_zero]; exact h2, fun h => by omega, fun k hk => by rw [rd47_zero] at hk ⊢; exact (h3 k hk).1⟩, fun _ => h1⟩
      | succ j =>
        obtain ⟨⟨a, b, c, d⟩, e⟩ := (ih r.f0 (by omega)).1 h4 j (by simpa using hj)
        refine ⟨⟨by rw [rd47_cons]; exact a, by rw [rd47_cons]; exact b, fun _ => ?_, by rw [rd47_cons]; exact d⟩, fun h => by omega⟩
        rw [rd47_cons]
        cases j with
        | zero => rw [show (0 + 1 - 1 : Nat) = 0 from rfl, rd47_zero]; exact e rfl
        | succ j => rw [show (j + 1 + 1 - 1 : Nat) = j + 1 from rfl, rd47_cons]; exact c (by omega)
    · intro h
      obtain ⟨⟨a, b, _, d⟩, e⟩ := h 0 (by simp)
      rw [rd47_zero] at a b d e
      refine ⟨⟨⟨e rfl, b⟩, fun k hk => ⟨d k hk, trivial⟩⟩, (ih r.f0 (by omega)).2 (fun j hj => ?_)⟩
      obtain ⟨⟨a', b', c', d'⟩, _⟩ := h (j + 1) (by simpa using hj)
      rw [rd47_cons] at a' b' c' d'
      refine ⟨⟨a', b', fun h0 => ?_, d'⟩, fun h0 => ?_⟩
      · have := c' (by omega)
        obtain ⟨i, rfl⟩ : ∃ i, j = i + 1 := ⟨j - 1, by omega⟩
        rw [show (i + 1 + 1 - 1 : Nat) = i + 1 from rfl, rd47_cons] at this
        exact this
      · subst h0
        have := c' (by omega)
        rw [show (0 + 1 - 1 : Nat) = 0 from rfl, rd47_zero] at this
        exact this
theorem okRt_good (g : Int) (l : List S47) : okRt g (-2) l = true ↔ ∀ j, j < l.length → goodR g l j := by
  rw [okRt_iff g l (-2) (by omega)]
  exact ⟨fun h j hj => (h j hj).1, fun h j hj => ⟨h j hj, fun e => by have := (h j hj).1; omega⟩⟩
theorem chk_good {l : List S47} {g : Int} (h0 : 0 ≤ g) (h6 : g ≤ 6) (h : ∀ j, j < l.length → goodR g l j) : chkF l g = 0 := by
  unfold chkF
  rw [if_neg (by omega), if_pos ((okRt_good g l).2 h)]
theorem chk_not {l : List S47} {g : Int} (h0 : 0 ≤ g) (h6 : g ≤ 6) (h : ¬ ∀ j, j < l.length → goodR g l j) : chkF l g = 1 := by
  unfold chkF
  rw [if_neg (by omega), if_neg (fun h2 => h ((okRt_good g l).1 h2))]

theorem cost_f (x : Int) : crossbarref15_cost.f x = some (decide (0 ≤ x ∧ x ≤ 1000000)) := by
  unfold crossbarref15_cost.f
  by_cases h : 0 ≤ x
  · rw [if_pos h]; simp [h]
  · rw [if_neg h]; simp [h]
section
variable {l : List S47} {g : Int} {i : Nat} {C : List S49} {r : Int}
theorem ck2_ok (hC : C.length ≤ 1000) (k : Nat) (hk : k < C.length) (hr : Ev (fun K => crossbarref15_Check.l1 K l g (i : Int) C ((k + 1 : Nat) : Int)) r) : ∀ (d m : Nat), d = k - m → m ≤ k → (∀ j, m ≤ j → j < k → (rd_T49 C (j : Int)).f0 ≠ (rd_T49 C (k : Int)).f0) → Ev (fun K => crossbarref15_Check.l2 K l g (i : Int) C (k : Int) (m : Int)) r := by
  intro d
  induction d with
  | zero =>
    intro m hd hm _
    refine hr.step (fun K => ?_)
    simp only [crossbarref15_Check.l2]
    rw [if_neg (by omega), w64 k (by omega)]
  | succ d ih =>
    intro m hd hm h
    refine (ih (m + 1) (by omega) (by omega) (fun j hj => h j (by omega))).step (fun K => ?_)
    simp only [crossbarref15_Check.l2]
    rw [if_pos (by omega), if_pos (by omega), if_pos (by omega), if_pos (by omega), if_pos (by omega), if_neg (h m (Nat.le_refl _) (by omega)), w64 m (by omega)]
theorem ck2_bad (hC : C.length ≤ 1000) (k : Nat) (hk : k < C.length) : ∀ (d m : Nat), d = k - m → m ≤ k → (∃ j, m ≤ j ∧ j < k ∧ (rd_T49 C (j : Int)).f0 = (rd_T49 C (k : Int)).f0) → Ev (fun K => crossbarref15_Check.l2 K l g (i : Int) C (k : Int) (m : Int)) 1 := by
  intro d
  induction d with
  | zero => intro m hd hm ⟨j, h1, h2, _⟩; omega
  | succ d ih =>
    intro m hd hm ⟨j, h1, h2, h3⟩
    by_cases he : (rd_T49 C (m : Int)).f0 = (rd_T49 C (k : Int)).f0
    · refine Ev.now (fun K => ?_)
      simp only [crossbarref15_Check.l2]
      rw [if_pos (by omega), if_pos (by omega), if_pos (by omega), if_pos (by omega), if_pos (by omega), if_pos he]
    · have hjm : j ≠ m := by rintro rfl; exact he h3
      refine (ih (m + 1) (by omega) (by omega) ⟨j, by omega, h2, h3⟩).step (fun K => ?_)
      simp only [crossbarref15_Check.l2]
      rw [if_pos (by omega), if_pos (by omega), if_pos (by omega), if_pos (by omega), if_pos (by omega), if_neg he, w64 m (by omega)]
theorem ck1_step (k : Nat) (hk : k < C.length) (K : Nat) : crossbarref15_Check.l1 (K + 1) l g (i : Int) C (k : Int) = crossbarref15_Check.j4 K l g (i : Int) C (k : Int) (decide (¬ okc g (rd_T49 C (k : Int)))) := by
  simp only [crossbarref15_Check.l1]
  rw [if_pos (by omega), if_pos (by omega)]
  unfold okc
  by_cases h0 : (rd_T49 C (k : Int)).f0 < 0
  · rw [if_pos h0]; congr 1; symm; simp; omega
  rw [if_neg h0]
  by_cases h1 : (rd_T49 C (k : Int)).f0 ≥ g
  · rw [if_pos h1]; congr 1; symm; simp; omega
  rw [if_neg h1, cost_f, cost_f]
  simp only [Option.bind_some]
  by_cases h2 : 0 ≤ (rd_T49 C (k : Int)).f1 ∧ (rd_T49 C (k : Int)).f1 ≤ 1000000
  · rw [if_pos (decide_eq_true h2)]
    congr 1
    by_cases h3 : 0 ≤ (rd_T49 C (k : Int)).f2 ∧ (rd_T49 C (k : Int)).f2 ≤ 1000000
    · rw [decide_eq_true h3]; symm; simp; omega
    · rw [decide_eq_false h3]; symm; simp; omega
  · rw [if_neg (by simpa using h2)]; congr 1; symm; simp; omega
theorem ck1_ok (hC : C.length ≤ 1000) (hi : i ≤ 1000) (hr : Ev (fun K => crossbarref15_Check.l0 K l g ((i + 1 : Nat) : Int)) r) : ∀ (d k : Nat), d = C.length - k → k ≤ C.length → (∀ j, k ≤ j → j < C.length → goodC g C j) → Ev (fun K => crossbarref15_Check.l1 K l g (i : Int) C (k : Int)) r := by
  intro d
  induction d with
  | zero =>
    intro k hd hk _
    refine hr.step (fun K => ?_)
    simp only [crossbarref15_Check.l1]
    rw [if_neg (by omega), w64 i (by omega)]
  | succ d ih =>
    intro k hd hk h
    have hkl : k < C.length := by omega
    obtain ⟨h1, h2⟩ := h k (Nat.le_refl _) hkl
    have e2 := ck2_ok (l := l) (g := g) (i := i) hC k hkl (ih (k + 1) (by omega) (by omega) (fun j hj => h j (by omega))) k 0 rfl (by omega) (fun j _ hj => h2 j hj)
    have e4 : Ev (fun K => crossbarref15_Check.j4 K l g (i : Int) C (k : Int) (decide (¬ okc g (rd_T49 C (k : Int))))) r := by
      refine e2.step (fun K => ?_)
      simp only [crossbarref15_Check.j4]
      rw [if_neg (by simpa using h1)]; rfl
    exact e4.step (fun K => ck1_step k hkl K)
theorem ck1_bad (hC : C.length ≤ 1000) (hi : i ≤ 1000) : ∀ (d k : Nat), d = C.length - k → k ≤ C.length → (∃ j, k ≤ j ∧ j < C.length ∧ ¬ goodC g C j) → Ev (fun K => crossbarref15_Check.l1 K l g (i : Int) C (k : Int)) 1 := by
  intro d
  induction d with
  | zero => intro k hd hk ⟨j, h1, h2, _⟩; omega
  | succ d ih =>
    intro k hd hk ⟨j, h1, h2, h3⟩
    have hkl : k < C.length := by omega
    by_cases hok : okc g (rd_T49 C (k : Int))
    · by_cases hdup : ∃ m, m < k ∧ (rd_T49 C (m : Int)).f0 = (rd_T49 C (k : Int)).f0
      · obtain ⟨m, hm, he⟩ := hdup
        have e2 := ck2_bad (l := l) (g := g) (i := i) hC k hkl k 0 rfl (by omega) ⟨m, by omega, hm, he⟩
        have e4 : Ev (fun K => crossbarref15_Check.j4 K l g (i : Int) C (k : Int) (decide (¬ okc g (rd_T49 C (k : Int))))) 1 := by
          refine e2.step (fun K => ?_)
          simp only [crossbarref15_Check.j4]
          rw [if_neg (by simpa using hok)]; rfl
        exact e4.step (fun K => ck1_step k hkl K)
      · have hn : ∀ m, m < k → (rd_T49 C (m : Int)).f0 ≠ (rd_T49 C (k : Int)).f0 := fun m hm he => hdup ⟨m, hm, he⟩
        have hjk : j ≠ k := by rintro rfl; exact h3 ⟨hok, hn⟩
        have e2 := ck2_ok (l := l) (g := g) (i := i) hC k hkl (ih (k + 1) (by omega) (by omega) ⟨j, by omega, h2, h3⟩) k 0 rfl (by omega) (fun j _ hj => hn j hj)
        have e4 : Ev (fun K => crossbarref15_Check.j4 K l g (i : Int) C (k : Int) (decide (¬ okc g (rd_T49 C (k : Int))))) 1 := by
          refine e2.step (fun K => ?_)
          simp only [crossbarref15_Check.j4]
          rw [if_neg (by simpa using hok)]; rfl
        exact e4.step (fun K => ck1_step k hkl K)
    · have e4 : Ev (fun K => crossbarref15_Check.j4 K l g (i : Int) C (k : Int) (decide (¬ okc g (rd_T49 C (k : Int))))) 1 := Ev.now (fun K => by
        simp only [crossbarref15_Check.j4]
        rw [if_pos (by simpa using hok)])
      exact e4.step (fun K => ck1_step k hkl K)
end
/-- The route's own numbers are fine. -/
def goodT (l : List S47) (j : Nat) : Prop := -1 ≤ (rd_T47 l (j : Int)).f0 ∧ (rd_T47 l (j : Int)).f0 < 6 ∧ (0 < j → (rd_T47 l ((j - 1 : Nat) : Int)).f0 < (rd_T47 l (j : Int)).f0)
instance (l : List S47) (j : Nat) : Decidable (goodT l j) := by unfold goodT; infer_instance
theorem ck0_step {l : List S47} {g : Int} (hl : l.length ≤ 1000) (k : Nat) (hk : k < l.length) (K : Nat) : crossbarref15_Check.l0 (K + 1) l g (k : Int) = crossbarref15_Check.j2 K l g (k : Int) (decide (¬ goodT l k)) := by
  simp only [crossbarref15_Check.l0]
  rw [if_pos (by omega), if_pos (by omega)]
  unfold goodT
  by_cases h0 : (rd_T47 l (k : Int)).f0 < -1
  · rw [if_pos h0]; congr 1; symm; simp; omega
  rw [if_neg h0]
  by_cases h1 : (rd_T47 l (k : Int)).f0 ≥ 6
  · rw [if_pos h1]; congr 1; symm; simp; omega
  rw [if_neg h1]
  by_cases h2 : 0 < k
  · have e : wrap64 ((k : Int) - 1) = ((k - 1 : Nat) : Int) := by unfold wrap64; omega
    rw [if_pos (by omega), e, if_pos (by omega), if_pos (by omega)]
    congr 1
    rw [decide_eq_decide]
    constructor
    · intro h h3; have := h3.2.2 h2; omega
    · intro h
      by_cases h4 : (rd_T47 l ((k - 1 : Nat) : Int)).f0 < (rd_T47 l (k : Int)).f0
      · exact absurd ⟨by omega, by omega, fun _ => h4⟩ h
      · omega
  · rw [if_neg (by omega)]; congr 1; symm; simp; omega
theorem ck0 {l : List S47} {g : Int} (hl : l.length ≤ 1000) (hc : ∀ z ∈ l, z.f1.length ≤ 1000) : ∀ (d k : Nat), d = l.length - k → k ≤ l.length → ∀ r, ((∀ j, k ≤ j → j < l.length → goodR g l j) → r = 0) → (¬ (∀ j, k ≤ j → j < l.length → goodR g l j) → r = 1) → Ev (fun K => crossbarref15_Check.l0 K l g (k : Int)) r := by
  intro d
  induction d with
  | zero =>
    intro k hd hk r h1 h2
    obtain rfl := h1 (fun j hj hj2 => by omega)
    refine Ev.now (fun K => ?_)
    simp only [crossbarref15_Check.l0]
    rw [if_neg (by omega)]
  | succ d ih =>
    intro k hd hk r h1 h2
    have hkl : k < l.length := by omega
    have hmem : rd_T47 l (k : Int) ∈ l := List.mem_iff_getElem?.2 ⟨k, rd47_at l k hkl⟩
    have hC := hc _ hmem
    have hn := ih (k + 1) (by omega) (by omega)
    by_cases hT : goodT l k
    · have e2 : ∀ r', Ev (fun K => crossbarref15_Check.l1 K l g (k : Int) (rd_T47 l (k : Int)).f1 ((0 : Nat) : Int)) r' → Ev (fun K => crossbarref15_Check.l0 K l g (k : Int)) r' := by
        intro r' e1
        have ej : Ev (fun K => crossbarref15_Check.j2 K l g (k : Int) (decide (¬ goodT l k))) r' := by
          refine e1.step (fun K => ?_)
          simp only [crossbarref15_Check.j2]
          rw [if_neg (by simpa using hT), if_pos (by omega), if_pos (by omega)]; rfl
        exact ej.step (fun K => ck0_step hl k hkl K)
      refine e2 r ?_
      by_cases hG : ∀ j, j < (rd_T47 l (k : Int)).f1.length → goodC g (rd_T47 l (k : Int)).f1 j
      · have hgk : goodR g l k := ⟨hT.1, hT.2.1, hT.2.2, hG⟩
        refine ck1_ok hC (by omega) (hn r (fun h => h1 (fun j hj hj2 => ?_)) (fun h => h2 (fun h3 => h (fun j hj => h3 j (by omega))))) _ 0 rfl (by omega) (fun j _ hj => hG j hj)
        by_cases e : j = k
        · subst e; exact hgk
        · exact h j (by omega) hj2
      · have hex : ∃ j, 0 ≤ j ∧ j < (rd_T47 l (k : Int)).f1.length ∧ ¬ goodC g (rd_T47 l (k : Int)).f1 j := by
          rcases Classical.not_forall.1 hG with ⟨j, hj⟩
          rcases Classical.not_imp.1 hj with ⟨a, b⟩
          exact ⟨j, by omega, a, b⟩
        obtain rfl := h2 (fun h => hG (h k (Nat.le_refl _) hkl).2.2.2)
        exact ck1_bad hC (by omega) _ 0 rfl (by omega) hex
    · obtain rfl := h2 (fun h => hT ⟨(h k (Nat.le_refl _) hkl).1, (h k (Nat.le_refl _) hkl).2.1, (h k (Nat.le_refl _) hkl).2.2.1⟩)
      have ej : Ev (fun K => crossbarref15_Check.j2 K l g (k : Int) (decide (¬ goodT l k))) 1 := Ev.now (fun K => by
        simp only [crossbarref15_Check.j2]
        rw [if_pos (by simpa using hT)])
      exact ej.step (fun K => ck0_step hl k hkl K)
theorem check_ev (l : List S47) (g : Int) (hl : l.length ≤ 1000) (hc : ∀ z ∈ l, z.f1.length ≤ 1000) : Ev (fun K => crossbarref15_Check.f K l g) (chkF l g) := by
  by_cases h0 : g < 0
  · refine (Ev.now (g := fun K => crossbarref15_Check.j0 K l g true) (r := chkF l g) (fun K => ?_)).same (fun K => ?_)
    · simp only [crossbarref15_Check.j0]
      rw [if_pos trivial]; unfold chkF; rw [if_pos (.inl h0)]
    · unfold crossbarref15_Check.f; rw [if_pos h0]
  by_cases h6 : g > 6
  · refine (Ev.now (g := fun K => crossbarref15_Check.j0 K l g true) (r := chkF l g) (fun K => ?_)).same (fun K => ?_)
    · simp only [crossbarref15_Check.j0]
      rw [if_pos trivial]; unfold chkF; rw [if_pos (.inr h6)]
    · unfold crossbarref15_Check.f; rw [if_neg h0, decide_eq_true h6]
  · have e0 := ck0 (g := g) hl hc l.length 0 rfl (by omega) (chkF l g) (fun h => chk_good (by omega) (by omega) (fun j hj => h j (by omega) hj)) (fun h => chk_not (by omega) (by omega) (fun h2 => h (fun j _ hj => h2 j hj)))
    refine (e0.step (g := fun K => crossbarref15_Check.j0 K l g false) (fun K => ?_)).same (fun K => ?_)
    · simp only [crossbarref15_Check.j0]
      rw [if_neg (by simp)]; rfl
    · unfold crossbarref15_Check.f; rw [if_neg h0, decide_eq_false h6]
end Go.Proofs.Ytjaodgicpnoifaa.P

/- RoutingSelectionMatchesSpecification as plain Lean. -/
namespace Go.Proofs.Ytjaodgicpnoifaa.P
open Go.RowKit Go.Shelf Go.Proofs.YtjaodgicpnoifaaW.PrintWords Go.Proofs.YtjaodgicpnoifaaW.PrintLast Go.Proofs.YtjaodgicpnoifaaW.PrintMore
set_option linter.unusedVariables false
set_option linter.unusedSimpArgs false

theorem price_f (c : S49) (s : Int) : crossbarref15_price.f c.f0 c.f1 c.f2 s = some (price (isDay s) c) := by
  unfold crossbarref15_price.f price isDay
  by_cases h : 28800 ≤ s
  · rw [if_pos h]
    by_cases h2 : s < 72000
    · rw [if_pos h2]; simp [h, h2]
    · rw [if_neg h2]; simp [h2]
  · rw [if_neg h]; simp [h]
theorem insRev_skip (key : S49 → Int) (x : S49) : ∀ (B A : List S49), (∀ b ∈ B, key x < key b) → insRev key x (B ++ A) = B ++ insRev key x A := by
  intro B
  induction B with
  | nil => intro A _; rfl
  | cons b B ih =>
    intro A h
    simp only [List.cons_append, insRev]
    rw [if_pos (h b (by simp)), ih A (fun y hy => h y (List.mem_cons_of_mem _ hy))]
theorem insRev_stop (key : S49 → Int) (x : S49) : ∀ (A : List S49), (∀ a ∈ A, key a ≤ key x) → insRev key x A = x :: A := by
  intro A h
  cases A with
  | nil => rfl
  | cons a A =>
    simp only [insRev]
    rw [if_neg (by have := h a (by simp); omega)]
theorem ins1_split (key : S49 → Int) (x : S49) (A B : List S49) (hA : ∀ a ∈ A, key a ≤ key x) (hB : ∀ b ∈ B, key x < key b) : ins1 key x (A ++ B) = A ++ [x] ++ B := by
  unfold ins1
  rw [List.reverse_append, insRev_skip key x _ _ (fun b hb => hB b (List.mem_reverse.1 hb)), insRev_stop key x _ (fun a ha => hA a (List.mem_reverse.1 ha))]
  simp
section
variable {C P : List S49} {s : Int} {i : Nat} {r : List Int}
theorem so1 (hC : C.length ≤ 1000) (hP : P.length ≤ 1000) (hi : i < C.length) (hs : P.Pairwise (fun a b => price (isDay s) a ≤ price (isDay s) b))
    (hr : Ev (fun K => crossbarref15_sorted.l0 K C s (ins1 (price (isDay s)) (rd_T49 C (i : Int)) P) ((i + 1 : Nat) : Int)) r) :
    ∀ (d k : Nat), d = P.length - k → k ≤ P.length → (∀ a ∈ P.take k, price (isDay s) a ≤ price (isDay s) (rd_T49 C (i : Int))) → Ev (fun K => crossbarref15_sorted.l1 K C s P (i : Int) (k : Int)) r := by
  intro d
  induction d with
  | zero =>
    intro k hd hk h
    have hkP : k = P.length := by omega
    subst hkP
    rw [List.take_of_length_le (Nat.le_refl _)] at h
    have e := ins1_split (price (isDay s)) (rd_T49 C (i : Int)) P [] h (by simp)
    rw [List.append_nil, List.append_nil] at e
    rw [e] at hr
    refine hr.step (fun K => ?_)
    simp only [crossbarref15_sorted.l1]
    rw [if_neg (by omega), if_pos (by omega), if_pos (by omega)]
    simp only [Option.bind_some, Int.toNat_natCast, List.take_of_length_le (Nat.le_refl P.length), List.drop_eq_nil_of_le (Nat.le_refl P.length), List.nil_append, List.append_nil, List.length_nil, List.length_append, List.length_singleton]
    rw [if_pos (by omega), if_pos (by omega), if_pos (by omega), if_pos (by omega), if_pos (by omega), w64 i (by omega)]
  | succ d ih =>
    intro k hd hk h
    have hkl : k < P.length := by omega
    by_cases hle : price (isDay s) (rd_T49 P (k : Int)) ≤ price (isDay s) (rd_T49 C (i : Int))
    · refine (ih (k + 1) (by omega) (by omega) (fun a ha => ?_)).step (fun K => ?_)
      · rw [List.take_add_one, List.getElem?_eq_getElem hkl] at ha
        rcases List.mem_append.1 ha with h1 | h1
        · exact h a h1
        · have e : a = P[k] := by simpa using h1
          rw [e, ← rd49_get hkl]; exact hle
      · simp only [crossbarref15_sorted.l1]
        rw [if_pos (by omega), if_pos (by omega), price_f, Option.bind_some, if_pos (by omega), if_pos (by omega), price_f, Option.bind_some, if_pos hle, w64 k (by omega)]
    · have hB : ∀ b ∈ P.drop k, price (isDay s) (rd_T49 C (i : Int)) < price (isDay s) b := by
        intro b hb
        rw [rd49_get hkl] at hle
        rw [List.drop_eq_getElem_cons hkl] at hb
        rcases List.mem_cons.1 hb with rfl | hb
        · omega
        · obtain ⟨j, hj, e⟩ := List.getElem_of_mem hb
          rw [List.getElem_drop] at e
          rw [List.pairwise_iff_getElem] at hs
          have hjl : k + 1 + j < P.length := by rw [List.length_drop] at hj; omega
          have := hs k (k + 1 + j) hkl hjl (by omega)
          rw [e] at this; omega
      have e := ins1_split (price (isDay s)) (rd_T49 C (i : Int)) (P.take k) (P.drop k) h hB
      rw [List.take_append_drop] at e
      rw [e] at hr
      refine hr.step (fun K => ?_)
      simp only [crossbarref15_sorted.l1]
      rw [if_pos (by omega), if_pos (by omega), price_f, Option.bind_some, if_pos (by omega), if_pos (by omega), price_f, Option.bind_some, if_neg hle, if_pos (by omega)]
      simp only [Option.bind_some, Int.toNat_natCast, List.nil_append, List.length_nil, List.length_append, List.length_singleton, List.length_take, List.length_drop]
      rw [if_pos (by omega), if_pos (by omega), if_pos (by omega), w64 i (by omega)]
theorem so2 (hP : P.length ≤ 1000) : ∀ (d k : Nat), d = P.length - k → k ≤ P.length → Ev (fun K => crossbarref15_sorted.l2 K P ((P.take k).map S49.f0) (k : Int)) (P.map S49.f0) := by
  intro d
  induction d with
  | zero =>
    intro k hd hk
    refine Ev.now (fun K => ?_)
    simp only [crossbarref15_sorted.l2]
    rw [if_neg (by omega), List.take_of_length_le (by omega)]
  | succ d ih =>
    intro k hd hk
    have hkl : k < P.length := by omega
    refine (ih (k + 1) (by omega) (by omega)).step (fun K => ?_)
    simp only [crossbarref15_sorted.l2]
    rw [if_pos (by omega), if_pos (by omega), if_pos (by rw [List.length_map, List.length_take]; omega), w64 k (by omega), rd49_get hkl]
    have e : (P.take (k + 1)).map S49.f0 = (P.take k).map S49.f0 ++ [P[k].f0] := by
      rw [List.take_add_one, List.getElem?_eq_getElem hkl, List.map_append]; rfl
    rw [e]
end
theorem so0 (C : List S49) (s : Int) (hC : C.length ≤ 1000) : ∀ (d i : Nat) (P : List S49), d = C.length - i → i ≤ C.length → P.length = i → P.Pairwise (fun a b => price (isDay s) a ≤ price (isDay s) b) →
    Ev (fun K => crossbarref15_sorted.l0 K C s P (i : Int)) ((insAll (price (isDay s)) P (C.drop i)).map S49.f0) := by
  intro d
  induction d with
  | zero =>
    intro i P hd hi hP hs
    rw [List.drop_eq_nil_of_le (by omega)]
    simp only [insAll]
    refine (so2 (P := P) (by omega) P.length 0 rfl (by omega)).step (fun K => ?_)
    simp only [crossbarref15_sorted.l0]
    rw [if_neg (by omega)]; rfl
  | succ d ih =>
    intro i P hd hi hP hs
    have hil : i < C.length := by omega
    rw [List.drop_eq_getElem_cons hil]
    simp only [insAll]
    have h2 := ih (i + 1) (ins1 (price (isDay s)) C[i] P) (by omega) (by omega) (by rw [ins1_len]; omega) (ins1_sorted _ _ _ hs)
    rw [← rd49_get hil] at h2 ⊢
    refine (so1 hC (by omega) hil hs h2 P.length 0 rfl (by omega) (by simp)).step (fun K => ?_)
    simp only [crossbarref15_sorted.l0]
    rw [if_pos (by omega)]; rfl
theorem sorted_ev (C : List S49) (s : Int) (hC : C.length ≤ 1000) : Ev (fun K => crossbarref15_sorted.f K C s) ((srt (price (isDay s)) C).map S49.f0) := by
  rw [srt_eq]
  have := so0 C s hC C.length 0 [] rfl (by omega) rfl List.Pairwise.nil
  exact this
/-- What find answers. -/
def findF (l : List S47) (t : Int) : List S49 × Bool := if ridx t l < 0 then ([], false) else ((rd_T47 l (ridx t l)).f1, true)
theorem find_ev (l : List S47) (t : Int) (hl : l.length ≤ 1000) : Ev (fun K => crossbarref15_find.f K l t) (findF l t) := by
  have go : ∀ (d i : Nat), d = l.length - i → i ≤ l.length → (∀ j, j < i → (rd_T47 l (j : Int)).f0 ≠ t) → Ev (fun K => crossbarref15_find.l0 K l t (i : Int)) (findF l t) := by
    intro d
    induction d with
    | zero =>
      intro i hd hi h
      have hm : ridx t l = -1 := ridx_miss t l (fun j x hj => by
        have hjl := (List.getElem?_eq_some_iff.1 hj).1
        have := h j (by omega)
        have e : rd_T47 l (j : Int) = x := by
          have := rd47_at l j hjl
          rw [hj] at this
          exact (Option.some.inj this).symm
        rw [e] at this
        simpa using this)
      refine Ev.now (fun K => ?_)
      simp only [crossbarref15_find.l0]
      rw [if_neg (by omega)]
      unfold findF; rw [hm, if_pos (by omega)]
    | succ d ih =>
      intro i hd hi h
      have hil : i < l.length := by omega
      by_cases he : (rd_T47 l (i : Int)).f0 = t
      · have hr : ridx t l = (i : Int) := by
          by_cases hneg : ridx t l < 0
          · exfalso
            have hall : ∀ (m : List S47), ridx t m < 0 → ∀ x ∈ m, x.f0 ≠ t := by
              intro m
              induction m with
              | nil => intro _ x hx; simp at hx
              | cons y m ihm =>
                intro hm x hx
                simp only [ridx] at hm
                split at hm
                · omega
                · rename_i hy
                  have hy' : y.f0 ≠ t := by simpa using hy
                  split at hm
                  · rename_i h2
                    rcases List.mem_cons.1 hx with rfl | hx
                    · exact hy'
                    · exact ihm h2 x hx
                  · omega
            exact hall l hneg _ (List.mem_iff_getElem?.2 ⟨i, rd47_at l i hil⟩) he
          · obtain ⟨n, hn⟩ : ∃ n : Nat, ridx t l = (n : Int) := ⟨(ridx t l).toNat, by omega⟩
            obtain ⟨a, b, c⟩ := ridx_at t l n hn
            rw [hn]
            rcases Nat.lt_trichotomy n i with h1 | h1 | h1
            · exact absurd (c _ (rd47_at l n a)) (h n h1)
            · rw [h1]
            · exact absurd he (b i _ h1 (rd47_at l i hil))
        refine Ev.now (fun K => ?_)
        simp only [crossbarref15_find.l0]
        rw [if_pos (by omega), if_pos (by omega), if_pos he]
        unfold findF; rw [hr, if_neg (by omega)]
      · refine (ih (i + 1) (by omega) (by omega) (fun j hj => ?_)).step (fun K => ?_)
        · by_cases e : j = i
          · subst e; exact he
          · exact h j (by omega)
        · simp only [crossbarref15_find.l0]
          rw [if_pos (by omega), if_pos (by omega), if_neg he, w64 i (by omega)]
  exact go l.length 0 rfl (by omega) (fun j hj => by omega)
theorem asked_f (t s : Int) : crossbarref15_asked.f t s = some (decide (-1 ≤ t ∧ t < 6 ∧ 0 ≤ s ∧ s < 86400)) := by
  unfold crossbarref15_asked.f
  by_cases h1 : t ≥ -1
  · rw [if_pos h1]
    by_cases h2 : t < 6
    · rw [if_pos h2]
      by_cases h3 : s ≥ 0
      · rw [if_pos h3]; congr 1; rw [decide_eq_decide]; omega
      · rw [if_neg h3]; congr 1; symm; rw [decide_eq_false_iff_not]; omega
    · rw [if_neg h2]; congr 1; symm; rw [decide_eq_false_iff_not]; omega
  · rw [if_neg h1]; congr 1; symm; rw [decide_eq_false_iff_not]; omega
theorem ask_of {l : List S47} {t s : Int} (h : chkF l 6 = 0) : askF l t s = if -1 ≤ t ∧ t < 6 ∧ 0 ≤ s ∧ s < 86400 then 0 else 1 := by
  unfold askF
  rw [if_neg (by rw [h]; simp)]
  by_cases h2 : -1 ≤ t ∧ t < 6 ∧ 0 ≤ s ∧ s < 86400
  · rw [if_pos h2, if_neg (by omega)]
  · rw [if_neg h2, if_pos (by omega)]
theorem order_ev (l : List S47) (t s : Int) (hl : l.length ≤ 1000) (hc : ∀ z ∈ l, z.f1.length ≤ 1000) : Ev (fun K => crossbarref15_Order.f K l t s) (ordF l t s) := by
  refine Ev.bind (check_ev l 6 hl hc) ?_ (fun K => rfl)
  by_cases h : chkF l 6 = 0
  · simp only [h, if_true]
    rw [asked_f]
    by_cases h2 : -1 ≤ t ∧ t < 6 ∧ 0 ≤ s ∧ s < 86400
    · rw [decide_eq_true h2]
      simp only [Option.bind_some, if_true]
      refine Ev.bind (find_ev l t hl) ?_ (fun K => rfl)
      have ha : askF l t s = 0 := by rw [ask_of h, if_pos h2]
      by_cases hr : ridx t l < 0
      · have e : findF l t = ([], false) := by unfold findF; rw [if_pos hr]
        have ho : ordF l t s = ([], 150) := by unfold ordF; rw [if_neg (by rw [ha]; simp), if_pos hr]
        rw [e, ho]
        exact Ev.const (fun K => by simp)
      · have e : findF l t = ((rd_T47 l (ridx t l)).f1, true) := by unfold findF; rw [if_neg hr]
        rw [e]
        simp only [if_true]
        obtain ⟨n, hn⟩ : ∃ n : Nat, ridx t l = (n : Int) := ⟨(ridx t l).toNat, by omega⟩
        have hm : rd_T47 l (ridx t l) ∈ l := by rw [hn]; exact List.mem_iff_getElem?.2 ⟨n, rd47_at l n (ridx_at t l n hn).1⟩
        refine Ev.bind (sorted_ev _ s (hc _ hm)) ?_ (fun K => rfl)
        refine Ev.const (fun K => ?_)
        unfold ordF; rw [if_neg (by rw [ha]; simp), if_neg hr]
    · rw [decide_eq_false h2]
      refine Ev.const (fun K => ?_)
      have ha : askF l t s = 1 := by rw [ask_of h, if_neg h2]
      unfold ordF; rw [if_pos (by rw [ha]; simp), ha]; rfl
  · simp only [if_neg h]
    refine Ev.const (fun K => ?_)
    have ha : askF l t s = chkF l 6 := by unfold askF; rw [if_pos h]
    unfold ordF; rw [if_pos (by rw [ha]; exact h), ha]
theorem sl0 (u : List Bool) (gs : List Int) (hg : ∀ g ∈ gs, 0 ≤ g) (hl : gs.length ≤ 1000) : ∀ (d i : Nat), d = gs.length - i → i ≤ gs.length → Ev (fun K => crossbarref15_Select.l0 K u gs (i : Int)) (pick1 u (gs.drop i)) := by
  intro d
  induction d with
  | zero =>
    intro i hd hi
    rw [List.drop_eq_nil_of_le (by omega)]
    refine Ev.now (fun K => ?_)
    simp only [crossbarref15_Select.l0]
    rw [if_neg (by omega)]; rfl
  | succ d ih =>
    intro i hd hi
    have hil : i < gs.length := by omega
    have h0 := hg _ (List.getElem_mem hil)
    have ih := ih (i + 1) (by omega) (by omega)
    rw [List.drop_eq_getElem_cons hil]
    by_cases hlt : gs[i] < (u.length : Int)
    · by_cases hu : u.getD gs[i].toNat false = true
      · refine Ev.now (fun K => ?_)
        simp only [crossbarref15_Select.l0, pick1]
        rw [if_pos (by omega), if_pos (by omega), rd_get hil, if_pos hlt, if_pos h0, if_pos (by exact hu), if_pos ⟨hlt, hu⟩]
      · simp only [pick1]
        rw [if_neg (by rintro ⟨_, h⟩; exact hu h)]
        refine ih.step (fun K => ?_)
        simp only [crossbarref15_Select.l0]
        rw [if_pos (by omega), if_pos (by omega), rd_get hil, if_pos hlt, if_pos h0, if_neg (by exact hu), w64 i (by omega)]
    · simp only [pick1]
      rw [if_neg (by rintro ⟨h, _⟩; exact hlt h)]
      refine ih.step (fun K => ?_)
      simp only [crossbarref15_Select.l0]
      rw [if_pos (by omega), if_pos (by omega), rd_get hil, if_neg hlt, w64 i (by omega)]
theorem select_ev (l : List S47) (t s hops : Int) (u : List Bool) (hl : l.length ≤ 1000) (hc : ∀ z ∈ l, z.f1.length ≤ 1000) : Ev (fun K => crossbarref15_Select.f K l t s hops u) (selF l t s hops u) := by
  refine Ev.bind (check_ev l 6 hl hc) ?_ (fun K => rfl)
  by_cases h : chkF l 6 = 0
  · simp only [h, if_true]
    rw [asked_f]
    by_cases h2 : -1 ≤ t ∧ t < 6 ∧ 0 ≤ s ∧ s < 86400
    · rw [decide_eq_true h2]
      simp only [Option.bind_some, if_true]
      have ha : askF l t s = 0 := by rw [ask_of h, if_pos h2]
      by_cases hh : hops < 0
      · rw [decide_eq_true hh]
        refine Ev.now (fun K => ?_)
        simp only [crossbarref15_Select.j0, if_true]
        unfold selF; rw [if_neg (by rw [ha]; simp), if_pos hh]
      rw [decide_eq_false hh]
      by_cases h8 : hops ≥ 8
      · refine Ev.now (fun K => ?_)
        simp only [crossbarref15_Select.j0]
        rw [if_neg (by simp), if_pos h8]
        unfold selF; rw [if_neg (by rw [ha]; simp), if_neg hh, if_pos h8]
      have key : Ev (fun K => (crossbarref15_find.f K l t).bind fun bt253 => ((crossbarref15_sorted.f K bt253.1 s).bind fun t257 => (crossbarref15_Select.l0 K u t257 0))) (selF l t s hops u) := by
        refine Ev.bind (find_ev l t hl) ?_ (fun K => rfl)
        by_cases hr : ridx t l < 0
        · have e : findF l t = ([], false) := by unfold findF; rw [if_pos hr]
          rw [e]
          refine Ev.bind (sorted_ev [] s (by simp)) ?_ (fun K => rfl)
          rw [srt_nil]
          have hv : selF l t s hops u = (0, 150) := by
            have ho : ordF l t s = ([], 150) := by unfold ordF; rw [if_neg (by rw [ha]; simp), if_pos hr]
            unfold selF
            rw [if_neg (by rw [ha]; simp), if_neg hh, if_neg h8, if_pos (by rw [ho]; simp), ho]
          rw [hv]
          exact sl0 u [] (by simp) (by simp) 0 0 rfl (by simp)
        · have e : findF l t = ((rd_T47 l (ridx t l)).f1, true) := by unfold findF; rw [if_neg hr]
          rw [e]
          obtain ⟨n, hn⟩ : ∃ n : Nat, ridx t l = (n : Int) := ⟨(ridx t l).toNat, by omega⟩
          have hm : rd_T47 l (ridx t l) ∈ l := by rw [hn]; exact List.mem_iff_getElem?.2 ⟨n, rd47_at l n (ridx_at t l n hn).1⟩
          refine Ev.bind (sorted_ev _ s (hc _ hm)) ?_ (fun K => rfl)
          have ho : ordF l t s = ((srt (price (isDay s)) (rd_T47 l (ridx t l)).f1).map S49.f0, 0) := by unfold ordF; rw [if_neg (by rw [ha]; simp), if_neg hr]
          have hge := ord_ge (l := l) (t := t) (s := s)
          have hv : selF l t s hops u = pick1 u (ordF l t s).1 := by
            unfold selF
            rw [if_neg (by rw [ha]; simp), if_neg hh, if_neg h8, if_neg (by rw [ho]; simp)]
          rw [hv]
          rw [ho] at hge ⊢
          have := sl0 u _ hge (by simp only [List.length_map, srt_len]; exact hc _ hm) _ 0 rfl (by omega)
          exact this
      refine key.step (fun K => ?_)
      simp only [crossbarref15_Select.j0]
      rw [if_neg (by simp), if_neg h8]
    · rw [decide_eq_false h2]
      simp only [Option.bind_some]
      refine (Ev.now (g := fun K => crossbarref15_Select.j0 K l t s hops u true) (fun K => ?_))
      simp only [crossbarref15_Select.j0, if_true]
      have ha : askF l t s = 1 := by rw [ask_of h, if_neg h2]
      unfold selF; rw [if_pos (by rw [ha]; simp), ha]
  · simp only [if_neg h]
    refine Ev.const (fun K => ?_)
    have ha : askF l t s = chkF l 6 := by unfold askF; rw [if_pos h]
    unfold selF; rw [if_pos (by rw [ha]; exact h), ha]
theorem routingSelectionMatchesSpecification_pure (l : List S47) (t s hops : Int) (u : List Bool) : ∃ K, crossbarlaw15_RoutingSelectionMatchesSpecification.f K l t s hops u = some true := by
  refine Ev.ex ?_
  have ht : Ev (fun K => crossbarlaw15_RoutingSelectionMatchesSpecification.j0 K l t s hops u true) true := Ev.now (fun K => by
    simp only [crossbarlaw15_RoutingSelectionMatchesSpecification.j0, if_true])
  have hfew : Ev (fun K => crossbarref15_Few.f K l) (fewB l) := ⟨42, fun K hK => few_f l K hK⟩
  refine Ev.bind (e := fun _ => crossbarlaw15_sane.f) (Ev.const (fun _ => sane_f)) ?_ (fun K => rfl)
  simp only [if_true]
  refine Ev.bind hfew ?_ (fun K => rfl)
  by_cases hf : fewB l = true
  · simp only [hf, if_true]
    obtain ⟨hl, hc, hok⟩ := few_tab hf
    by_cases hu : (u.length : Int) > 100
    · rw [decide_eq_true hu]; exact ht
    rw [decide_eq_false hu]
    have key : Ev (fun K => (routing_Order.f l t s).bind fun bt266 => ((crossbarref15_Order.f K l t s).bind fun bt270 => ((routing_Select.f l t s hops u).bind fun bt274 => ((crossbarref15_Select.f K l t s hops u).bind fun bt276 => ((crossbarref15_Ints.f K bt266.1 bt270.1).bind fun t278 => (if t278 = true then (if bt266.2 = bt270.2 then (if bt274.1 = bt276.1 then (some (bt274.2 == bt276.2)) else (some false)) else (some false)) else (some false))))))) true := by
      have ho : routing_Order.f l t s = some (ordF l t s) := by unfold routing_Order.f; rw [if_pos hok]
      have hs : routing_Select.f l t s hops u = some (selF l t s hops u) := by unfold routing_Select.f; rw [if_pos hok]
      rw [ho, hs]
      simp only [Option.bind_some]
      refine Ev.bind (order_ev l t s (by omega) (fun z hz => by have := hc z hz; omega)) ?_ (fun K => rfl)
      refine Ev.bind (select_ev l t s hops u (by omega) (fun z hz => by have := hc z hz; omega)) ?_ (fun K => rfl)
      have hol : (ordF l t s).1.length ≤ 2000 := by
        unfold ordF
        split
        · simp
        · split
          · simp
          · rename_i h1 h2
            obtain ⟨n, hn⟩ : ∃ n : Nat, ridx t l = (n : Int) := ⟨(ridx t l).toNat, by omega⟩
            have hm : rd_T47 l (ridx t l) ∈ l := by rw [hn]; exact List.mem_iff_getElem?.2 ⟨n, rd47_at l n (ridx_at t l n hn).1⟩
            have := hc _ hm
            rw [List.length_map, srt_len]; omega
      refine Ev.bind (⟨2001, fun K hK => ints_f _ hol K (by omega)⟩ : Ev (fun K => crossbarref15_Ints.f K (ordF l t s).1 (ordF l t s).1) true) ?_ (fun K => rfl)
      simp only [if_true]
      exact Ev.const (fun K => by simp)
    refine key.step (fun K => ?_)
    simp only [crossbarlaw15_RoutingSelectionMatchesSpecification.j0]
    rw [if_neg (by simp)]
  · simp only [hf]
    exact ht
end Go.Proofs.Ytjaodgicpnoifaa.P
