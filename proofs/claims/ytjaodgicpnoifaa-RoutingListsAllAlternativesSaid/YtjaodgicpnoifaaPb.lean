/- Breadth-first search: its distances are those of shortest ways. -/
import Derived.Test.YtjaodgicpnoifaaHr
namespace Go.Proofs.Ytjaodgicpnoifaa.P
open Go.RowKit Go.Shelf Go.Proofs.YtjaodgicpnoifaaW.PrintWords Go.Proofs.YtjaodgicpnoifaaW.PrintLast Go.Proofs.YtjaodgicpnoifaaW.PrintMore
set_option linter.unusedVariables false
set_option linter.unusedSimpArgs false

/-- A link that the search may take. -/
def Ed (F : Nat → Bool) (av : Int) (x y : Nat) : Prop := x < 6 ∧ y < 6 ∧ F (x * 6 + y) = true ∧ (y : Int) ≠ av
/-- A way of k links from x to y that never enters av. -/
inductive Way (F : Nat → Bool) (av : Int) : Nat → Nat → Nat → Prop
  | nil (x : Nat) : Way F av 0 x x
  | snoc {k x y z : Nat} : Way F av k x y → Ed F av y z → Way F av (k + 1) x z
/-- Distances as they must be. -/
structure Met (n : Nat) (F : Nat → Bool) (av : Int) (T : Nat → Prop) (d : List Int) : Prop where
  len : d.length = n
  neg : ∀ i, -1 ≤ rd d i
  zero : ∀ y, y < n → (rd d (y : Int) = 0 ↔ T y)
  step : ∀ x y, x < n → 0 ≤ rd d (x : Int) → Ed F av x y → 0 ≤ rd d (y : Int) ∧ rd d (y : Int) ≤ rd d (x : Int) + 1
  back : ∀ y, y < n → 0 < rd d (y : Int) → ∃ x, x < n ∧ Ed F av x y ∧ rd d (x : Int) + 1 = rd d (y : Int)
section
variable {n : Nat} {F : Nat → Bool} {av : Int} {T : Nat → Prop} {d : List Int}
theorem Met.le (h : Met n F av T d) (hF : ∀ x y, x < 6 → y < 6 → F (x * 6 + y) = true → y < n) {k x y : Nat} (hw : Way F av k x y) (hT : T x) (hx : x < n) : y < n ∧ 0 ≤ rd d (y : Int) ∧ rd d (y : Int) ≤ k := by
  induction hw with
  | nil x => have := (h.zero x hx).2 hT; exact ⟨hx, by omega, by omega⟩
  | snoc hw he ih =>
    obtain ⟨a, b, c⟩ := ih hT hx
    obtain ⟨e, f⟩ := h.step _ _ a b he
    exact ⟨hF _ _ he.1 he.2.1 he.2.2.1, e, by omega⟩
theorem Met.way (h : Met n F av T d) : ∀ (k y : Nat), y < n → rd d (y : Int) = k → ∃ x, x < n ∧ T x ∧ Way F av k x y := by
  intro k
  induction k with
  | zero => intro y hy hd; exact ⟨y, hy, (h.zero y hy).1 hd, .nil y⟩
  | succ k ih =>
    intro y hy hd
    obtain ⟨x, hx, he, hr⟩ := h.back y hy (by omega)
    obtain ⟨t, ht, hT, hw⟩ := ih x hx (by omega)
    exact ⟨t, ht, hT, .snoc hw he⟩
/-- The distances are determined. -/
theorem Met.uniq {d' : List Int} (h : Met n F av T d) (h' : Met n F av T d') (hF : ∀ x y, x < 6 → y < 6 → F (x * 6 + y) = true → y < n) : d = d' := by
  have half : ∀ {a b : List Int}, Met n F av T a → Met n F av T b → ∀ y, y < n → 0 ≤ rd a (y : Int) → 0 ≤ rd b (y : Int) ∧ rd b (y : Int) ≤ rd a (y : Int) := by
    intro a b ha hb y hy h0
    obtain ⟨k, hk⟩ : ∃ k : Nat, rd a (y : Int) = k := ⟨(rd a (y : Int)).toNat, by omega⟩
    obtain ⟨x, hx, hT, hw⟩ := ha.way k y hy hk
    obtain ⟨_, e, f⟩ := hb.le hF hw hT hx
    exact ⟨e, by omega⟩
  refine List.ext_getElem (by rw [h.len, h'.len]) fun i h1 h2 => ?_
  have hi : i < n := by rw [← h.len]; exact h1
  have e1 : rd d (i : Int) = d[i] := by simp [rd, h1]
  have e2 : rd d' (i : Int) = d'[i] := by simp [rd, h2]
  rw [← e1, ← e2]
  have a1 := h.neg (i : Int)
  have a2 := h'.neg (i : Int)
  have b1 := half h h' i hi
  have b2 := half h' h i hi
  omega
end
/-- What holds while the search runs: besides PI, the queue is in order, and what has left it has been looked at. -/
structure BQ (n : Nat) (F : Nat → Bool) (av : Int) (T : Nat → Prop) (d q : List Int) : Prop where
  ord : q.Pairwise (fun a b => rd d a ≤ rd d b)
  top : ∀ x ∈ q, ∀ i, rd d i ≤ rd d x + 1
  done : ∀ x y : Nat, x < n → 0 ≤ rd d (x : Int) → (x : Int) ∉ q → Ed F av x y → 0 ≤ rd d (y : Int) ∧ rd d (y : Int) ≤ rd d (x : Int) + 1
  back : ∀ y, y < n → 0 < rd d (y : Int) → ∃ x, x < n ∧ Ed F av x y ∧ rd d (x : Int) + 1 = rd d (y : Int)
  zero : ∀ y, y < n → (rd d (y : Int) = 0 ↔ T y)
/-- The same in the middle of a row: x has left the queue, its neighbours below y have been looked at. -/
structure BR (n : Nat) (F : Nat → Bool) (av : Int) (T : Nat → Prop) (x y : Nat) (d q : List Int) : Prop where
  ord : q.Pairwise (fun a b => rd d a ≤ rd d b)
  top : ∀ i, rd d i ≤ rd d (x : Int) + 1
  bot : ∀ a ∈ q, rd d (x : Int) ≤ rd d a
  done : ∀ a b : Nat, a < n → 0 ≤ rd d (a : Int) → (a : Int) ∉ q → Ed F av a b → (a = x → b < y) → 0 ≤ rd d (b : Int) ∧ rd d (b : Int) ≤ rd d (a : Int) + 1
  back : ∀ y, y < n → 0 < rd d (y : Int) → ∃ x, x < n ∧ Ed F av x y ∧ rd d (x : Int) + 1 = rd d (y : Int)
  zero : ∀ y, y < n → (rd d (y : Int) = 0 ↔ T y)
section
variable {n k : Nat} {F : Nat → Bool} {av : Int} {T : Nat → Prop}
theorem rowF_BR (hF : ∀ x y, x < 6 → y < 6 → F (x * 6 + y) = true → y < n) (x : Nat) (hx6 : x < 6) (hxn : x < n) : ∀ (j y : Nat) (d q : List Int), y + j = 6 → PI n k d q → 0 ≤ rd d (x : Int) → rd d (x : Int) + 1 + k ≤ 7 → BR n F av T x y d q →
    BR n F av T x 6 (rowF F av (x : Int) j y d q).1 (rowF F av (x : Int) j y d q).2 := by
  intro j
  induction j with
  | zero =>
    intro y d q hy _ _ _ h
    have e : y = 6 := by omega
    rw [e] at h
    exact h
  | succ j ih =>
    intro y d q hy hP h0 h1 h
    simp only [rowF, Int.toNat_natCast]
    -- y is looked at and nothing is to be done
    have skip : (Ed F av x y → 0 ≤ rd d (y : Int)) → BR n F av T x (y + 1) d q := fun hs => by
      refine ⟨h.ord, h.top, h.bot, fun a b ha ha0 haq he hb => ?_, h.back, h.zero⟩
      by_cases hab : a = x ∧ b = y
      · obtain ⟨rfl, rfl⟩ := hab
        exact ⟨hs he, h.top _⟩
      · exact h.done a b ha ha0 haq he (fun e => by have := hb e; have : b ≠ y := fun e2 => hab ⟨e, e2⟩; omega)
    by_cases hf : F (x * 6 + y) = false
    · rw [if_pos hf]
      exact ih (y + 1) d q (by omega) hP h0 h1 (skip (fun he => by rw [he.2.2.1] at hf; cases hf))
    rw [if_neg hf]
    by_cases hya : (y : Int) = av
    · rw [if_pos hya]
      exact ih (y + 1) d q (by omega) hP h0 h1 (skip (fun he => absurd hya he.2.2.2))
    rw [if_neg hya]
    by_cases hd : 0 ≤ rd d (y : Int)
    · rw [if_pos hd]
      exact ih (y + 1) d q (by omega) hP h0 h1 (skip (fun _ => hd))
    rw [if_neg hd]
    have hyn : y < n := hF x y hx6 (by omega) (by simpa using hf)
    have hyd : y < d.length := by rw [hP.len]; exact hyn
    have hxy : x ≠ y := by rintro rfl; exact hd h0
    have hed : Ed F av x y := ⟨hx6, by omega, by simpa using hf, hya⟩
    have hne := hP.bd (y : Int)
    have hg : ∀ i : Int, rd (d.set y (rd d (x : Int) + 1)) i = if i.toNat = y then rd d (x : Int) + 1 else rd d i := fun i => rd_set hyd i
    have hgx : rd (d.set y (rd d (x : Int) + 1)) (x : Int) = rd d (x : Int) := by rw [hg, if_neg (by simpa using hxy)]
    have hgy : rd (d.set y (rd d (x : Int) + 1)) (y : Int) = rd d (x : Int) + 1 := by rw [hg, if_pos (by simp)]
    have hgo : ∀ a : Nat, a ≠ y → rd (d.set y (rd d (x : Int) + 1)) (a : Int) = rd d (a : Int) := fun a ha => by rw [hg, if_neg (by simpa using ha)]
    have hyq : (y : Int) ∉ q := fun hm => hd (hP.val _ hm).2.2
    have hq : ∀ a ∈ q, rd (d.set y (rd d (x : Int) + 1)) a = rd d a := fun a ha => by
      obtain ⟨v0, v1, _⟩ := hP.val a ha
      have hay : a ≠ (y : Int) := fun e => hyq (e ▸ ha)
      rw [hg, if_neg (by omega)]
    refine ih (y + 1) _ _ (by omega) (hP.put hyn (by omega) (by omega) (by omega)) (by rw [hgx]; exact h0) (by rw [hgx]; exact h1) ⟨?_, ?_, ?_, ?_, ?_, ?_⟩
    · rw [List.pairwise_append]
      refine ⟨h.ord.imp_of_mem (fun {a b} ha hb hab => by rw [hq a ha, hq b hb]; exact hab), List.pairwise_singleton _ _, fun a ha b hb => ?_⟩
      obtain rfl := List.mem_singleton.1 hb
      rw [hq a ha, hgy]; exact h.top a
    · intro i
      rw [hgx, hg]
      split
      · omega
      · exact h.top i
    · intro a ha
      rw [hgx]
      rcases List.mem_append.1 ha with ha | ha
      · rw [hq a ha]; exact h.bot a ha
      · obtain rfl := List.mem_singleton.1 ha
        rw [hgy]; omega
    · intro a b ha ha0 haq he hb
      have hay : a ≠ y := fun e => haq (by rw [e]; simp)
      have haq' : (a : Int) ∉ q := fun hm => haq (List.mem_append.2 (.inl hm))
      rw [hgo a hay] at ha0 ⊢
      by_cases hby : b = y
      · subst hby
        rw [hgy]
        refine ⟨by omega, ?_⟩
        by_cases hax : a = x
        · subst hax; omega
        · have := h.done a b ha ha0 haq' he (fun e => absurd e hax)
          omega
      · rw [hgo b hby]
        exact h.done a b ha ha0 haq' he (fun e => by have := hb e; omega)
    · intro z hz hz0
      by_cases hzy : z = y
      · subst hzy
        exact ⟨x, hxn, hed, by rw [hgx, hgy]⟩
      · rw [hgo z hzy] at hz0 ⊢
        obtain ⟨a, ha, hea, hra⟩ := h.back z hz hz0
        have hay : a ≠ y := by
          rintro rfl
          have := hP.bd (a : Int)
          omega
        exact ⟨a, ha, hea, by rw [hgo a hay]; exact hra⟩
    · intro z hz
      by_cases hzy : z = y
      · subst hzy
        rw [hgy]
        have := h.zero z hz
        constructor
        · intro e; omega
        · intro hT; have := this.2 hT; omega
      · rw [hgo z hzy]; exact h.zero z hz
theorem BQ.met {d : List Int} (hP : PI n k d []) (h : BQ n F av T d []) : Met n F av T d where
  len := hP.len
  neg := fun i => (hP.bd i).1
  zero := h.zero
  step := fun x y hx h0 he => h.done x y hx h0 (by simp) he
  back := h.back
theorem bfsF_met (h6 : n ≤ 6) (hF : ∀ x y, x < 6 → y < 6 → F (x * 6 + y) = true → y < n) : ∀ (k : Nat) (d q : List Int), PI n k d q → BQ n F av T d q → Met n F av T (bfsF F av k d q) := by
  intro k
  induction k with
  | zero =>
    intro d q hP h
    have hq : q = [] := List.length_eq_zero_iff.1 (by have := hP.cnt; omega)
    subst hq
    exact h.met hP
  | succ k ih =>
    intro d q hP h
    cases q with
    | nil => exact h.met hP
    | cons x q =>
      obtain ⟨v0, v1, v2⟩ := hP.val x (by simp)
      obtain ⟨X, rfl⟩ : ∃ X : Nat, x = (X : Int) := ⟨x.toNat, by omega⟩
      have hXn : X < n := by omega
      have hbd := (hP.bd (X : Int)).2
      obtain ⟨o1, o2⟩ := List.pairwise_cons.1 h.ord
      have hR : BR n F av T X 0 d q := ⟨o2, h.top _ (by simp), o1, fun a b ha ha0 haq he hb => by
        by_cases e : a = X
        · exact absurd (hb e) (by omega)
        · exact h.done a b ha ha0 (by rw [List.mem_cons]; rintro (e2 | e2); exact e (by omega); exact haq e2) he, h.back, h.zero⟩
      have hR2 := rowF_BR hF X (by omega) hXn 6 0 d q rfl hP.pop v2 (by omega) hR
      have hP2 := (rowF_PI (av := av) hF (by omega) (by omega) 6 0 d q (by omega) hP.pop v2 (by omega)).1
      simp only [bfsF]
      refine ih _ _ hP2 ⟨hR2.ord, fun z hz i => ?_, fun a b ha ha0 haq he => hR2.done a b ha ha0 haq he (fun _ => he.2.1), hR2.back, hR2.zero⟩
      have h1 := hR2.top i
      have h2 := hR2.bot z hz
      omega
end
/-- The targets taken so far. -/
structure SQ (n : Nat) (T0 : Nat → Prop) (d q : List Int) : Prop where
  len : d.length = n
  val : ∀ i, rd d i = 0 ∨ rd d i = -1
  zero : ∀ y, y < n → (rd d (y : Int) = 0 ↔ T0 y)
  inq : ∀ y, y < n → rd d (y : Int) = 0 → (y : Int) ∈ q
  qz : ∀ z ∈ q, rd d z = 0
theorem seedF_SQ {n : Nat} {av : Int} : ∀ (l d q : List Int) (T0 : Nat → Prop), (∀ t ∈ l, 0 ≤ t ∧ t < n) → SQ n T0 d q → SQ n (fun y => T0 y ∨ ((y : Int) ∈ l ∧ (y : Int) ≠ av)) (seedF av l d q).1 (seedF av l d q).2 := by
  intro l
  induction l with
  | nil =>
    intro d q T0 _ h
    exact ⟨h.len, h.val, fun y hy => by show rd d (y : Int) = 0 ↔ _; rw [h.zero y hy]; simp, h.inq, h.qz⟩
  | cons t l ih =>
    intro d q T0 hl h
    have hl2 : ∀ x ∈ l, 0 ≤ x ∧ x < n := fun x hx => hl x (List.mem_cons_of_mem _ hx)
    obtain ⟨t0, t1⟩ := hl t (by simp)
    obtain ⟨X, rfl⟩ : ∃ X : Nat, t = (X : Int) := ⟨t.toNat, by omega⟩
    simp only [seedF, Int.toNat_natCast]
    have turn : ∀ {T1 : Nat → Prop} {d' q' : List Int}, SQ n T1 d' q' → (∀ y, y < n → (T1 y ↔ T0 y ∨ ((y : Int) = (X : Int) ∧ (y : Int) ≠ av))) → SQ n (fun y => T0 y ∨ ((y : Int) ∈ (X : Int) :: l ∧ (y : Int) ≠ av)) (seedF av l d' q').1 (seedF av l d' q').2 := by
      intro T1 d' q' h1 ht
      have h2 := ih d' q' T1 hl2 h1
      refine ⟨h2.len, h2.val, fun y hy => ?_, h2.inq, h2.qz⟩
      rw [h2.zero y hy, ht y hy, List.mem_cons]
      constructor
      · rintro ((a | ⟨a, b⟩) | ⟨a, b⟩)
        · exact .inl a
        · exact .inr ⟨.inl a, b⟩
        · exact .inr ⟨.inr a, b⟩
      · rintro (a | ⟨a | a, b⟩)
        · exact .inl (.inl a)
        · exact .inl (.inr ⟨a, b⟩)
        · exact .inr ⟨a, b⟩
    by_cases hav : (X : Int) = av
    · rw [if_pos hav]
      exact turn h (fun y hy => ⟨.inl, fun e => e.resolve_right (by rintro ⟨a, b⟩; exact b (a.trans hav))⟩)
    rw [if_neg hav]
    by_cases h0 : 0 ≤ rd d (X : Int)
    · rw [if_pos h0]
      have hz : rd d (X : Int) = 0 := by rcases h.val (X : Int) with e | e <;> omega
      have hT := (h.zero X (by omega)).1 hz
      refine turn h (fun y hy => ⟨.inl, fun e => ?_⟩)
      rcases e with e | ⟨e, _⟩
      · exact e
      · have : y = X := by omega
        subst this; exact hT
    rw [if_neg h0]
    have hXd : X < d.length := by rw [h.len]; omega
    have hXq : (X : Int) ∉ q := fun hm => h0 (by rw [h.qz _ hm]; omega)
    have hg : ∀ i : Int, rd (d.set X 0) i = if i.toNat = X then 0 else rd d i := fun i => rd_set hXd i
    refine turn (T1 := fun y => T0 y ∨ y = X) ⟨by rw [List.length_set]; exact h.len, fun i => ?_, fun y hy => ?_, fun y hy hy0 => ?_, fun z hz => ?_⟩ (fun y hy => ?_)
    · rw [hg]; split
      · exact .inl rfl
      · exact h.val i
    · rw [hg]
      by_cases e : y = X
      · subst e; simp
      · rw [if_neg (by simpa using e), h.zero y hy]; simp [e]
    · rw [hg] at hy0
      by_cases e : y = X
      · subst e; simp
      · rw [if_neg (by simpa using e)] at hy0
        exact List.mem_append.2 (.inl (h.inq y hy hy0))
    · rw [hg]
      split
      · rfl
      · rcases List.mem_append.1 hz with hz | hz
        · exact h.qz z hz
        · obtain rfl := List.mem_singleton.1 hz
          rename_i hne
          exact absurd (Int.toNat_natCast X) hne
    · constructor
      · rintro (a | a)
        · exact .inl a
        · exact .inr ⟨by rw [a], by rw [a]; exact hav⟩
      · rintro (a | ⟨a, _⟩)
        · exact .inl a
        · exact .inr (by omega)
theorem SQ.start (n : Nat) : SQ n (fun _ => False) (List.replicate n (-1)) [] where
  len := by simp
  val := fun i => by simp only [rd, rdOf, List.getD_eq_getElem?_getD, List.getElem?_replicate]; split <;> simp
  zero := fun y hy => by simp [rd, rdOf, hy]
  inq := fun y hy h => by simp [rd, rdOf, hy] at h
  qz := by simp
/-- The targets of a search: those that it may enter. -/
def Tgt (av : Int) (l : List Int) (y : Nat) : Prop := (y : Int) ∈ l ∧ (y : Int) ≠ av
theorem distF_met {n : Nat} {F : Nat → Bool} {av : Int} {l : List Int} (h6 : n ≤ 6) (hF : ∀ x y, x < 6 → y < 6 → F (x * 6 + y) = true → y < n) (hl : ∀ t ∈ l, 0 ≤ t ∧ t < n) : Met n F av (Tgt av l) (distF n F av l) := by
  have hS := seedF_SQ (av := av) l _ _ _ hl (SQ.start n)
  have hP := seedF_PI (av := av) h6 l _ _ hl (PI.start h6) (rep_le n)
  refine bfsF_met h6 hF n _ _ hP ⟨?_, fun x hx i => ?_, fun x y hx h0 hxq he => ?_, fun y hy h0 => ?_, fun y hy => ?_⟩
  · exact (List.pairwise_of_forall_mem_list (fun a ha b hb => by rw [hS.qz a ha, hS.qz b hb]; omega))
  · rw [hS.qz x hx]
    rcases hS.val i with e | e <;> omega
  · have hz : rd (seedF av l (List.replicate n (-1)) []).1 (x : Int) = 0 := by rcases hS.val (x : Int) with e | e <;> omega
    exact absurd (hS.inq x hx hz) hxq
  · rcases hS.val (y : Int) with e | e <;> omega
  · rw [hS.zero y hy]; unfold Tgt; simp
end Go.Proofs.Ytjaodgicpnoifaa.P
