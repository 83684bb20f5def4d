/- What read makes of a list of links; distances in a network without a bar: bounded, symmetric. -/
import Derived.Test.YtjaodgicpnoifaaPb
namespace Go.Proofs.Ytjaodgicpnoifaa.P
open Go.RowKit Go.Shelf Go.Proofs.YtjaodgicpnoifaaW.PrintWords Go.Proofs.YtjaodgicpnoifaaW.PrintLast Go.Proofs.YtjaodgicpnoifaaW.PrintMore
set_option linter.unusedVariables false
set_option linter.unusedSimpArgs false

/-- A link between x and y is in the list. -/
def Lk (l : List (List Int)) (x y : Nat) : Prop := [(x : Int), (y : Int)] ∈ l ∨ [(y : Int), (x : Int)] ∈ l
theorem idx_inj {a b c d : Nat} (hb : b < 6) (hd : d < 6) (h : a * 6 + b = c * 6 + d) : a = c ∧ b = d := by omega
theorem rdStep_spec {n : Int} {F G : Nat → Bool} {z : List Int} (h : rdStep n F z = some G) (hn : n ≤ 6) : ∃ X Y : Nat, z = [(X : Int), (Y : Int)] ∧ (X : Int) < n ∧ (Y : Int) < n ∧ X ≠ Y ∧ F (X * 6 + Y) = false ∧ G = upd (upd F (X * 6 + Y) true) (Y * 6 + X) true := by
  unfold rdStep at h
  split at h
  · rename_i p q
    split at h
    · cases h
    · rename_i h0
      split at h
      · cases h
      · rename_i h2
        split at h
        · cases h
        · rename_i h3
          split at h
          · cases h
          · rename_i h4
            injection h with h
            have h2' : hasF n p = true := by simpa using h2
            have h3' : hasF n q = true := by simpa using h3
            simp only [hasF, Bool.and_eq_true, decide_eq_true_eq] at h2' h3'
            refine ⟨p.toNat, q.toNat, ?_, by omega, by omega, by omega, by simpa using h4, h.symm⟩
            rw [Int.toNat_of_nonneg h2'.1, Int.toNat_of_nonneg h3'.1]
  · cases h
/-- What the matrix says of the links read so far (done), and what the links say. -/
structure RM (n : Int) (F : Nat → Bool) (done : List (List Int)) : Prop where
  lk : ∀ x y, x < 6 → y < 6 → (F (x * 6 + y) = true ↔ Lk done x y)
  ok : ∀ z ∈ done, ∃ X Y : Nat, z = [(X : Int), (Y : Int)] ∧ (X : Int) < n ∧ (Y : Int) < n ∧ X ≠ Y
theorem RM.step {n : Int} {F G : Nat → Bool} {done : List (List Int)} {z : List Int} (hn : n ≤ 6) (h : RM n F done) (hz : rdStep n F z = some G) : RM n G (done ++ [z]) := by
  obtain ⟨X, Y, rfl, hX, hY, hne, hf, rfl⟩ := rdStep_spec hz hn
  refine ⟨fun x y hx hy => ?_, fun z hz => ?_⟩
  · unfold upd Lk
    simp only [List.mem_append, List.mem_singleton, List.cons.injEq, and_true]
    have := h.lk x y hx hy
    unfold Lk at this
    by_cases e1 : x * 6 + y = Y * 6 + X
    · obtain ⟨rfl, rfl⟩ := idx_inj hy (by omega) e1
      simp
    · rw [if_neg e1]
      by_cases e2 : x * 6 + y = X * 6 + Y
      · obtain ⟨rfl, rfl⟩ := idx_inj hy (by omega) e2
        simp
      · rw [if_neg e2, this]
        constructor
        · rintro (a | a)
          · exact .inl (.inl a)
          · exact .inr (.inl a)
        · rintro ((a | ⟨a, b⟩) | (a | ⟨a, b⟩))
          · exact .inl a
          · exact absurd (by omega) e2
          · exact .inr a
          · exact absurd (by omega) e1
  · rcases List.mem_append.1 hz with hz | hz
    · exact h.ok z hz
    · obtain rfl := List.mem_singleton.1 hz
      exact ⟨X, Y, rfl, hX, hY, hne⟩
theorem readR_RM {n : Int} (hn : n ≤ 6) : ∀ (l done : List (List Int)) (F G : Nat → Bool), RM n F done → readR n F l = some G → RM n G (done ++ l) := by
  intro l
  induction l with
  | nil => intro done F G h hr; simp only [readR] at hr; injection hr with hr; subst hr; simpa using h
  | cons z l ih =>
    intro done F G h hr
    simp only [readR] at hr
    split at hr
    · cases hr
    · rename_i F1 h1
      have := ih (done ++ [z]) F1 G (h.step hn h1) hr
      simpa using this
theorem readF_RM {n : Int} {l : List (List Int)} {F : Nat → Bool} (h : readF n l = some F) : RM n F l := by
  obtain ⟨_, h6, _⟩ := readF_ok h
  unfold readF at h
  split at h
  · cases h
  · split at h
    · cases h
    · have := readR_RM h6 l [] _ F ⟨fun x y _ _ => by simp [Lk], by simp⟩ h
      simpa using this
theorem RM.sym {n : Int} {F : Nat → Bool} {l : List (List Int)} (h : RM n F l) {x y : Nat} (hx : x < 6) (hy : y < 6) (hF : F (x * 6 + y) = true) : F (y * 6 + x) = true := by
  rw [h.lk y x hy hx]
  exact ((h.lk x y hx hy).1 hF).symm
section
variable {n : Nat} {F : Nat → Bool} {av : Int} {T : Nat → Prop} {d : List Int}
theorem Way.cons {k x y z : Nat} (he : Ed F av x y) (hw : Way F av k y z) : Way F av (k + 1) x z := by
  induction hw with
  | nil => exact .snoc (.nil x) he
  | snoc hw he2 ih => exact .snoc (ih he) he2
theorem Ed.rev (hs : ∀ x y, x < 6 → y < 6 → F (x * 6 + y) = true → F (y * 6 + x) = true) {x y : Nat} (h : Ed F (-1) x y) : Ed F (-1) y x := ⟨h.2.1, h.1, hs _ _ h.1 h.2.1 h.2.2.1, by omega⟩
theorem Way.rev (hs : ∀ x y, x < 6 → y < 6 → F (x * 6 + y) = true → F (y * 6 + x) = true) {k x y : Nat} (hw : Way F (-1) k x y) : Way F (-1) k y x := by
  induction hw with
  | nil => exact .nil _
  | snoc hw he ih => exact Way.cons (he.rev hs) ih
theorem pigeon : ∀ (k : Nat) (d : List Int), (∀ j : Nat, j < k → (j : Int) ∈ d) → k ≤ d.length := by
  intro k
  induction k with
  | zero => intro d _; omega
  | succ k ih =>
    intro d h
    have hk := h k (by omega)
    have := ih (d.erase (k : Int)) (fun j hj => (List.mem_erase_of_ne (by omega)).2 (h j (by omega)))
    rw [List.length_erase_of_mem hk] at this
    have : 0 < d.length := List.length_pos_of_mem hk
    omega
theorem Met.chain (h : Met n F av T d) : ∀ (k y : Nat), y < n → rd d (y : Int) = k → ∀ j : Nat, j ≤ k → (j : Int) ∈ d := by
  intro k
  induction k with
  | zero =>
    intro y hy hd j hj
    obtain rfl : j = 0 := by omega
    have hyd : y < d.length := by rw [h.len]; exact hy
    rw [← hd]; exact rd_mem hyd
  | succ k ih =>
    intro y hy hd j hj
    by_cases e : j = k + 1
    · subst e
      have hyd : y < d.length := by rw [h.len]; exact hy
      rw [← hd]; exact rd_mem hyd
    · obtain ⟨x, hx, _, hr⟩ := h.back y hy (by omega)
      exact ih x hx (by omega) j (by omega)
theorem Met.lt (h : Met n F av T d) {y : Nat} (hy : y < n) : rd d (y : Int) < n := by
  by_cases h0 : rd d (y : Int) < 0
  · omega
  · obtain ⟨k, hk⟩ : ∃ k : Nat, rd d (y : Int) = k := ⟨(rd d (y : Int)).toNat, by omega⟩
    have := pigeon (k + 1) d (fun j hj => h.chain k y hy hk j (by omega))
    rw [h.len] at this
    omega
/-- From a to b as far as from b to a. -/
theorem dist_sym (h6 : n ≤ 6) (hF : ∀ x y, x < 6 → y < 6 → F (x * 6 + y) = true → y < n) (hs : ∀ x y, x < 6 → y < 6 → F (x * 6 + y) = true → F (y * 6 + x) = true) {a b : Nat} (ha : a < n) (hb : b < n) :
    rd (distF n F (-1) [(a : Int)]) (b : Int) = rd (distF n F (-1) [(b : Int)]) (a : Int) := by
  have hm : ∀ c : Nat, c < n → Met n F (-1) (Tgt (-1) [(c : Int)]) (distF n F (-1) [(c : Int)]) := fun c hc => distF_met h6 hF (fun t ht => by obtain rfl := List.mem_singleton.1 ht; omega)
  have half : ∀ a b : Nat, a < n → b < n → 0 ≤ rd (distF n F (-1) [(a : Int)]) (b : Int) → 0 ≤ rd (distF n F (-1) [(b : Int)]) (a : Int) ∧ rd (distF n F (-1) [(b : Int)]) (a : Int) ≤ rd (distF n F (-1) [(a : Int)]) (b : Int) := by
    intro a b ha hb h0
    obtain ⟨k, hk⟩ : ∃ k : Nat, rd (distF n F (-1) [(a : Int)]) (b : Int) = k := ⟨(rd (distF n F (-1) [(a : Int)]) (b : Int)).toNat, by omega⟩
    obtain ⟨x, hx, hT, hw⟩ := (hm a ha).way k b hb hk
    have hxa : x = a := by have := List.mem_singleton.1 hT.1; omega
    subst hxa
    obtain ⟨_, e, f⟩ := (hm b hb).le hF (hw.rev hs) ⟨by simp, by omega⟩ hb
    exact ⟨e, by omega⟩
  have a1 := (hm a ha).neg (b : Int)
  have a2 := (hm b hb).neg (a : Int)
  have b1 := half a b ha hb
  have b2 := half b a hb ha
  omega
end
end Go.Proofs.Ytjaodgicpnoifaa.P
