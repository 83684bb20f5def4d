/- Distances are bounded; the choices of a route as plain Lean. -/
import Derived.Test.YtjaodgicpnoifaaHq
namespace Go.Proofs.Ytjaodgicpnoifaa.P
open Go.RowKit Go.Shelf Go.Proofs.YtjaodgicpnoifaaW.PrintWords Go.Proofs.YtjaodgicpnoifaaW.PrintLast Go.Proofs.YtjaodgicpnoifaaW.PrintMore
set_option linter.unusedVariables false
set_option linter.unusedSimpArgs false

theorem seedF_PI {n : Nat} {av : Int} (h6 : n ≤ 6) : ∀ (l d q : List Int), (∀ t ∈ l, 0 ≤ t ∧ t < n) → PI n n d q → (∀ i, rd d i ≤ 0) → PI n n (seedF av l d q).1 (seedF av l d q).2 := by
  intro l
  induction l with
  | nil => intro d q _ h _; exact h
  | cons t l ih =>
    intro d q ht h hz
    have ht2 : ∀ x ∈ l, 0 ≤ x ∧ x < n := fun x hx => ht x (List.mem_cons_of_mem _ hx)
    obtain ⟨h0, h1⟩ := ht t (by simp)
    obtain ⟨T, rfl⟩ : ∃ T : Nat, t = (T : Int) := ⟨t.toNat, by omega⟩
    simp only [seedF, Int.toNat_natCast]
    split
    · exact ih d q ht2 h hz
    · split
      · exact ih d q ht2 h hz
      · have hT : T < d.length := by rw [h.len]; omega
        exact ih _ _ ht2 (h.put (by omega) (by omega) (by omega) (by omega)) (fun i => by rw [rd_set hT]; split; omega; exact hz i)
theorem rowF_PI {n k : Nat} {F : Nat → Bool} {av x : Int} (hF : ∀ x y, x < 6 → y < 6 → F (x * 6 + y) = true → y < n) (hx0 : 0 ≤ x) (hx6 : x < 6) : ∀ (j y : Nat) (d q : List Int), y + j ≤ 6 → PI n k d q → 0 ≤ rd d x → rd d x + 1 + k ≤ 7 →
    PI n k (rowF F av x j y d q).1 (rowF F av x j y d q).2 ∧ rd (rowF F av x j y d q).1 x = rd d x := by
  intro j
  induction j with
  | zero => intro y d q _ h _ _; exact ⟨h, rfl⟩
  | succ j ih =>
    intro y d q hy h h0 h1
    simp only [rowF]
    split
    · exact ih _ _ _ (by omega) h h0 h1
    · rename_i hf
      split
      · exact ih _ _ _ (by omega) h h0 h1
      · split
        · exact ih _ _ _ (by omega) h h0 h1
        · rename_i hd
          have hyn : y < n := hF x.toNat y (by omega) (by omega) (by simpa using hf)
          have hyd : y < d.length := by rw [h.len]; exact hyn
          have hxy : x.toNat ≠ y := by
            intro e
            have : x = (y : Int) := by omega
            rw [this] at h0; exact hd h0
          have e : rd (d.set y (rd d x + 1)) x = rd d x := by rw [rd_set hyd, if_neg hxy]
          have h2 := ih (y + 1) (d.set y (rd d x + 1)) (q ++ [(y : Int)]) (by omega) (h.put hyn (by omega) (by omega) (by omega)) (by rw [e]; exact h0) (by rw [e]; exact h1)
          rw [e] at h2
          exact h2
theorem bfsF_bd {n : Nat} {F : Nat → Bool} {av : Int} (hn : n ≤ 6) (hF : ∀ x y, x < 6 → y < 6 → F (x * 6 + y) = true → y < n) : ∀ (k : Nat) (d q : List Int), PI n k d q → (bfsF F av k d q).length = n ∧ ∀ i, -1 ≤ rd (bfsF F av k d q) i ∧ rd (bfsF F av k d q) i ≤ 7 := by
  intro k
  induction k with
  | zero => intro d q h; exact ⟨h.len, fun i => by have := h.bd i; exact ⟨this.1, by have := this.2; show rd d i ≤ 7; omega⟩⟩
  | succ k ih =>
    intro d q h
    cases q with
    | nil => exact ⟨h.len, fun i => by have := h.bd i; exact ⟨this.1, by have := this.2; show rd d i ≤ 7; omega⟩⟩
    | cons x q =>
      obtain ⟨a, b, c⟩ := h.val x (by simp)
      exact ih _ _ (rowF_PI hF a (by omega) 6 0 d q (by omega) h.pop c (by have := (h.bd x).2; omega)).1
theorem rep_le (n : Nat) (i : Int) : rd (List.replicate n (-1 : Int)) i ≤ 0 := by
  simp only [rd, rdOf, List.getD_eq_getElem?_getD, List.getElem?_replicate]; split <;> simp
theorem distF_bd {n : Nat} {F : Nat → Bool} {av : Int} {l : List Int} (h6 : n ≤ 6) (hF : ∀ x y, x < 6 → y < 6 → F (x * 6 + y) = true → y < n) (hl : ∀ t ∈ l, 0 ≤ t ∧ t < n) : (distF n F av l).length = n ∧ ∀ i, -1 ≤ rd (distF n F av l) i ∧ rd (distF n F av l) i ≤ 7 :=
  bfsF_bd h6 hF n _ _ (seedF_PI h6 l _ _ hl (PI.start h6) (rep_le n))
/-- The choices towards the targets whose distances are D, in the peers' order. -/
def chsF (D : List Int) : Nat → List Int → List S49
  | _, [] => []
  | k, p :: ps => if 0 ≤ rd D p then ⟨k, 1 + rd D p, 1 + rd D p⟩ :: chsF D (k + 1) ps else chsF D (k + 1) ps
theorem chsF_len (D : List Int) : ∀ (ps : List Int) (k : Nat), (chsF D k ps).length ≤ ps.length := by
  intro ps
  induction ps with
  | nil => intro k; simp [chsF]
  | cons p ps ih =>
    intro k
    simp only [chsF]
    have := ih (k + 1)
    split <;> simp <;> omega
/-- A route. -/
def routeF (n : Nat) (F : Nat → Bool) (self : Int) (ps : List Int) (target : Int) (ts : List Int) : S47 := ⟨target, srt S49.f1 (chsF (distF n F self ts) 0 ps)⟩
end Go.Proofs.Ytjaodgicpnoifaa.P
