/- The breadth-first search as plain Lean. -/
import Derived.Test.YtjaodgicpnoifaaHn
namespace Go.Proofs.Ytjaodgicpnoifaa.P
open Go.RowKit Go.Shelf Go.Proofs.YtjaodgicpnoifaaW.PrintWords Go.Proofs.YtjaodgicpnoifaaW.PrintLast Go.Proofs.YtjaodgicpnoifaaW.PrintMore
set_option linter.unusedVariables false
set_option linter.unusedSimpArgs false

/-- How many exchanges have no distance yet. -/
def negs (d : List Int) : Nat := d.countP (fun v => decide (v < 0))
theorem negs_set : ∀ {d : List Int} {i : Nat} {v : Int}, i < d.length → d.getD i 0 < 0 → 0 ≤ v → negs (d.set i v) + 1 = negs d := by
  intro d
  induction d with
  | nil => intro i v hi; simp at hi
  | cons x d ih =>
    intro i v hi h hv
    cases i with
    | zero =>
      have h' : x < 0 := by simpa using h
      simp only [List.set_cons_zero, negs, List.countP_cons]
      rw [if_neg (by simp; omega), if_pos (by simpa using h')]
    | succ i =>
      have h2 := ih (i := i) (v := v) (by simpa using hi) (by simpa using h) hv
      simp only [List.set_cons_succ, negs, List.countP_cons] at h2 ⊢
      omega
theorem negs_le (d : List Int) : negs d ≤ d.length := List.countP_le_length
theorem negs_0 {d : List Int} (h : negs d = 0) (i : Int) : 0 ≤ rd d i := by
  unfold negs at h
  rw [List.countP_eq_zero] at h
  simp only [rd, rdOf, List.getD_eq_getElem?_getD]
  cases e : d[i.toNat]? with
  | none => simp
  | some v =>
    have := h v (List.mem_iff_getElem?.2 ⟨_, e⟩)
    simpa using this
theorem rd_set {d : List Int} {i : Nat} {v : Int} (hi : i < d.length) (j : Int) : rd (d.set i v) j = if j.toNat = i then v else rd d j := by
  simp only [rd, rdOf, List.getD_eq_getElem?_getD]
  by_cases h : j.toNat = i
  · rw [if_pos h, h, List.getElem?_set_self hi]; rfl
  · rw [if_neg h, List.getElem?_set_ne (fun e => h e.symm)]
def seedF (av : Int) : List Int → List Int → List Int → List Int × List Int
  | [], d, q => (d, q)
  | t :: l, d, q => if t = av then seedF av l d q else if 0 ≤ rd d t then seedF av l d q else seedF av l (d.set t.toNat 0) (q ++ [t])
def rowF (F : Nat → Bool) (av x : Int) : Nat → Nat → List Int → List Int → List Int × List Int
  | 0, _, d, q => (d, q)
  | k + 1, y, d, q => if F (x.toNat * 6 + y) = false then rowF F av x k (y + 1) d q else if (y : Int) = av then rowF F av x k (y + 1) d q else if 0 ≤ rd d (y : Int) then rowF F av x k (y + 1) d q else
      rowF F av x k (y + 1) (d.set y (rd d x + 1)) (q ++ [(y : Int)])
def bfsF (F : Nat → Bool) (av : Int) : Nat → List Int → List Int → List Int
  | 0, d, _ => d
  | _ + 1, d, [] => d
  | k + 1, d, x :: q => bfsF F av k (rowF F av x 6 0 d q).1 (rowF F av x 6 0 d q).2
/-- What distances answers. -/
def distF (n : Nat) (F : Nat → Bool) (av : Int) (l : List Int) : List Int := bfsF F av n (seedF av l (List.replicate n (-1)) []).1 (seedF av l (List.replicate n (-1)) []).2
theorem rowF_done {F : Nat → Bool} {av x : Int} {d : List Int} (h : negs d = 0) : ∀ (k y : Nat) (q : List Int), rowF F av x k y d q = (d, q) := by
  intro k
  induction k with
  | zero => intro y q; rfl
  | succ k ih =>
    intro y q
    simp only [rowF]
    rw [if_pos (negs_0 h _)]
    simp only [ih, ite_self]
theorem bfsF_done {F : Nat → Bool} {av : Int} {d : List Int} (h : negs d = 0) : ∀ (k : Nat) (q : List Int), bfsF F av k d q = d := by
  intro k
  induction k with
  | zero => intro q; rfl
  | succ k ih =>
    intro q
    cases q with
    | nil => rfl
    | cons x q => simp only [bfsF, rowF_done h]; exact ih q
theorem bfsF_nil {F : Nat → Bool} {av : Int} (k : Nat) (d : List Int) : bfsF F av k d [] = d := by cases k <;> rfl
/-- What holds of the distances and the queue. -/
structure PI (n k : Nat) (d q : List Int) : Prop where
  len : d.length = n
  cnt : q.length + negs d ≤ k
  val : ∀ x ∈ q, 0 ≤ x ∧ x < n ∧ 0 ≤ rd d x
  bd : ∀ i, -1 ≤ rd d i ∧ rd d i + k ≤ 7
theorem PI.put {n k : Nat} {d q : List Int} (h : PI n k d q) {y : Nat} (hy : y < n) (h0 : rd d (y : Int) < 0) {v : Int} (hv : 0 ≤ v) (hvk : v + k ≤ 7) : PI n k (d.set y v) (q ++ [(y : Int)]) where
  len := by rw [List.length_set]; exact h.len
  cnt := by
    have h1 : y < d.length := by rw [h.len]; exact hy
    have h2 := negs_set h1 (by simpa [rd, rdOf] using h0) hv
    have := h.cnt
    rw [List.length_append]; simp only [List.length_singleton]; omega
  val := by
    have h1 : y < d.length := by rw [h.len]; exact hy
    intro x hx
    rw [rd_set h1]
    rcases List.mem_append.1 hx with hx | hx
    · obtain ⟨a, b, c⟩ := h.val x hx
      exact ⟨a, b, by split <;> assumption⟩
    · obtain rfl := List.mem_singleton.1 hx
      exact ⟨by omega, by omega, by rw [if_pos (by simp)]; exact hv⟩
  bd := by
    have h1 : y < d.length := by rw [h.len]; exact hy
    intro i
    rw [rd_set h1]
    split
    · omega
    · exact h.bd i
theorem PI.pop {n k : Nat} {d q : List Int} {x : Int} (h : PI n (k + 1) d (x :: q)) : PI n k d q where
  len := h.len
  cnt := by have := h.cnt; simp only [List.length_cons] at this; omega
  val := fun y hy => h.val y (List.mem_cons_of_mem _ hy)
  bd := fun i => by have := h.bd i; omega
theorem negs_rep (n : Nat) : negs (List.replicate n (-1)) = n := by simp [negs, List.countP_replicate]
theorem PI.start {n : Nat} (h6 : n ≤ 6) : PI n n (List.replicate n (-1)) [] where
  len := by simp
  cnt := by rw [negs_rep]; simp
  val := by simp
  bd := fun i => by
    simp only [rd, rdOf, List.getD_eq_getElem?_getD]
    by_cases h : i.toNat < n
    · simp [List.getElem?_replicate, h]; omega
    · simp [List.getElem?_replicate, h]; omega
end Go.Proofs.Ytjaodgicpnoifaa.P
