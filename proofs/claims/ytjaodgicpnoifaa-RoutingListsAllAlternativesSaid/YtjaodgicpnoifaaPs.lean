/- The stable sort: a permutation in order. The checked table: no group twice, no cost below zero. -/
import Derived.Test.YtjaodgicpnoifaaHu
import Derived.Test.YtjaodgicpnoifaaHz
namespace Go.Proofs.Ytjaodgicpnoifaa.P
open Go.RowKit Go.Shelf Go.Proofs.YtjaodgicpnoifaaW.PrintWords Go.Proofs.YtjaodgicpnoifaaW.PrintLast Go.Proofs.YtjaodgicpnoifaaW.PrintMore
set_option linter.unusedVariables false
set_option linter.unusedSimpArgs false

theorem insRev_perm (key : S49 → Int) (x : S49) : ∀ l, (insRev key x l).Perm (x :: l) := by
  intro l
  induction l with
  | nil => exact List.Perm.refl _
  | cons y l ih =>
    simp only [insRev]
    split
    · exact (List.Perm.cons y ih).trans (List.Perm.swap x y l)
    · exact List.Perm.refl _
theorem insRev_sorted (key : S49 → Int) (x : S49) : ∀ l, l.Pairwise (fun a b => key b ≤ key a) → (insRev key x l).Pairwise (fun a b => key b ≤ key a) := by
  intro l
  induction l with
  | nil => intro _; exact List.pairwise_singleton _ _
  | cons y l ih =>
    intro h
    obtain ⟨h1, h2⟩ := List.pairwise_cons.1 h
    simp only [insRev]
    split
    · rename_i hlt
      refine List.pairwise_cons.2 ⟨fun z hz => ?_, ih h2⟩
      rcases List.mem_cons.1 ((insRev_perm key x l).mem_iff.1 hz) with rfl | hz
      · omega
      · exact h1 z hz
    · rename_i hlt
      refine List.pairwise_cons.2 ⟨fun z hz => ?_, h⟩
      rcases List.mem_cons.1 hz with rfl | hz
      · omega
      · have := h1 z hz; omega
theorem ins1_perm (key : S49 → Int) (x : S49) (P : List S49) : (ins1 key x P).Perm (x :: P) :=
  ((List.reverse_perm _).trans (insRev_perm key x P.reverse)).trans (List.Perm.cons x (List.reverse_perm P))
theorem ins1_sorted (key : S49 → Int) (x : S49) (P : List S49) (h : P.Pairwise (fun a b => key a ≤ key b)) : (ins1 key x P).Pairwise (fun a b => key a ≤ key b) := by
  unfold ins1
  rw [List.pairwise_reverse]
  exact insRev_sorted key x P.reverse (List.pairwise_reverse.2 h)
theorem insAll_perm (key : S49 → Int) : ∀ (l acc : List S49), (insAll key acc l).Perm (acc ++ l) := by
  intro l
  induction l with
  | nil => intro acc; simp [insAll]
  | cons x l ih =>
    intro acc
    simp only [insAll]
    refine (ih _).trans ?_
    refine (List.Perm.append_right l (ins1_perm key x acc)).trans ?_
    exact (List.perm_middle (l₁ := acc) (l₂ := l) (a := x)).symm
theorem insAll_sorted (key : S49 → Int) : ∀ (l acc : List S49), acc.Pairwise (fun a b => key a ≤ key b) → (insAll key acc l).Pairwise (fun a b => key a ≤ key b) := by
  intro l
  induction l with
  | nil => intro acc h; exact h
  | cons x l ih => intro acc h; exact ih _ (ins1_sorted key x acc h)
theorem srt_perm (key : S49 → Int) (l : List S49) : (srt key l).Perm l := by rw [srt_eq]; exact insAll_perm key l []
theorem srt_sorted (key : S49 → Int) (l : List S49) : (srt key l).Pairwise (fun a b => key a ≤ key b) := by rw [srt_eq]; exact insAll_sorted key l [] List.Pairwise.nil

theorem okChs_nodup {g : Int} : ∀ (l : List S49) (F : Nat → Bool), okChs g F l = true → (l.map S49.f0).Nodup ∧ ∀ x ∈ l, F x.f0.toNat = false ∧ 0 ≤ x.f0 ∧ x.f0 < g ∧ 0 ≤ x.f1 ∧ 0 ≤ x.f2 ∧ x.f1 ≤ 1000000 ∧ x.f2 ≤ 1000000 := by
  intro l
  induction l with
  | nil => intro F _; exact ⟨List.nodup_nil, by simp⟩
  | cons c l ih =>
    intro F h
    simp only [okChs, Bool.and_eq_true] at h
    obtain ⟨hc, hl⟩ := h
    obtain ⟨h1, h2⟩ := ih _ hl
    unfold okCh at hc
    simp only [Bool.and_eq_true, decide_eq_true_eq, Bool.not_eq_true'] at hc
    obtain ⟨⟨⟨⟨c0, c1⟩, c2⟩, c3⟩, c4⟩ := hc
    have hc0 : F c.f0.toNat = false ∧ 0 ≤ c.f0 ∧ c.f0 < g ∧ 0 ≤ c.f1 ∧ 0 ≤ c.f2 ∧ c.f1 ≤ 1000000 ∧ c.f2 ≤ 1000000 := by
      refine ⟨c2, c0, c1, ?_, ?_, ?_, ?_⟩ <;> (split at c3 <;> split at c4 <;> omega)
    have hne : ∀ x ∈ l, x.f0 ≠ c.f0 := by
      intro x hx e
      have := (h2 x hx).1
      rw [e] at this
      simp [upd] at this
    refine ⟨?_, fun x hx => ?_⟩
    · rw [List.map_cons, List.nodup_cons]
      exact ⟨fun hm => by obtain ⟨x, hx, e⟩ := List.mem_map.1 hm; exact hne x hx e, h1⟩
    · rcases List.mem_cons.1 hx with rfl | hx
      · exact hc0
      · obtain ⟨a, b⟩ := h2 x hx
        refine ⟨?_, b⟩
        have h0 := b.1
        have e : x.f0.toNat ≠ c.f0.toNat := by have := hne x hx; omega
        simpa [upd, e] using a
/-- What a table that Check lets in is like. -/
theorem chk_ok {l : List S47} {g : Int} (h : chkF l g = 0) {z : S47} (hz : z ∈ l) : (z.f1.map S49.f0).Nodup ∧ ∀ x ∈ z.f1, 0 ≤ x.f0 ∧ x.f0 < g ∧ 0 ≤ x.f1 ∧ 0 ≤ x.f2 ∧ x.f1 ≤ 1000000 ∧ x.f2 ≤ 1000000 := by
  unfold chkF at h
  split at h
  · cases h
  · split at h
    · rename_i h2
      obtain ⟨a, b⟩ := okChs_nodup _ _ (okRt_mem l _ h2 _ hz)
      exact ⟨a, fun x hx => (b x hx).2⟩
    · cases h
end Go.Proofs.Ytjaodgicpnoifaa.P
