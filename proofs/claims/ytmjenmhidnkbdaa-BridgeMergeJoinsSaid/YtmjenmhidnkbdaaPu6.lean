/- Merge keeps all pairs that hear each other, joins the two legs unless one is on hold, and connects the same legs whichever of the two is given first. -/
import Derived.Test.YtmjenmhidnkbdaaPxm
import Derived.Test.YtmjenmhidnkbdaaPe
namespace Go.Proofs.Ytmjenmhidnkbdaa.P
open Go.RowKit Go.Proofs.YtmjenmhidnkbdaaW.PrintWords Go.Proofs.YtmjenmhidnkbdaaW.PrintLast Go.Proofs.YtmjenmhidnkbdaaW.PrintMore
set_option linter.unusedVariables false
set_option linter.unusedSimpArgs false

/-- Where a conference goes. -/
def mf (a b c : Int) : Int := if c = a then b else c
def mv (a b : Int) (w : S36) : S36 := if w.f1 = a then ⟨w.f0, b, w.f2⟩ else w
theorem mv_f0 (a b : Int) (w : S36) : (mv a b w).f0 = w.f0 := by unfold mv; split <;> rfl
theorem mv_f1 (a b : Int) (w : S36) : (mv a b w).f1 = mf a b w.f1 := by unfold mv mf; split <;> rfl
theorem mv_f2 (a b : Int) (w : S36) : (mv a b w).f2 = w.f2 := by unfold mv; split <;> rfl
theorem move_eq (l : List S36) (a b : Int) : moveTo l a b = l.map (mv a b) := rfl
theorem mem_move {l : List S36} {a b : Int} {z : S36} : z ∈ moveTo l a b ↔ ∃ w ∈ l, mv a b w = z := by rw [move_eq, List.mem_map]
theorem ids_move (l : List S36) (a b : Int) : ids (moveTo l a b) = ids l := by
  unfold ids
  rw [move_eq, List.map_map]
  exact List.map_congr_left fun w _ => mv_f0 a b w
theorem hr_move (l : List S36) (a b p q : Int) : Hr (moveTo l a b) p q ↔ ∃ u ∈ l, ∃ v ∈ l, u.f0 = p ∧ v.f0 = q ∧ mf a b u.f1 = mf a b v.f1 ∧ mf a b u.f1 ≠ 0 ∧ u.f2 = false ∧ v.f2 = false ∧ p ≠ q := by
  constructor
  · rintro ⟨z, hz, t, ht, h1, h2, h3, h4, h5, h6, h7⟩
    obtain ⟨u, hu, rfl⟩ := mem_move.1 hz
    obtain ⟨v, hv, rfl⟩ := mem_move.1 ht
    rw [mv_f0] at h1 h2
    rw [mv_f1] at h3 h4
    rw [mv_f1] at h3
    rw [mv_f2] at h5 h6
    exact ⟨u, hu, v, hv, h1, h2, h3, h4, h5, h6, h7⟩
  · rintro ⟨u, hu, v, hv, h1, h2, h3, h4, h5, h6, h7⟩
    exact ⟨_, mem_move.2 ⟨u, hu, rfl⟩, _, mem_move.2 ⟨v, hv, rfl⟩, by rw [mv_f0]; exact h1, by rw [mv_f0]; exact h2, by rw [mv_f1, mv_f1]; exact h3, by rw [mv_f1]; exact h4, by rw [mv_f2]; exact h5, by rw [mv_f2]; exact h6, h7⟩
theorem mf_swap {a b u v : Int} (ha : a ≠ 0) (hb' : b ≠ 0) (h : a ≠ b) : (mf a b u = mf a b v ∧ mf a b u ≠ 0) ↔ (mf b a u = mf b a v ∧ mf b a u ≠ 0) := by
  unfold mf
  split <;> split <;> split <;> split <;> omega
theorem hr_swap {l : List S36} {a b p q : Int} (ha : a ≠ 0) (hb' : b ≠ 0) (h : a ≠ b) : Hr (moveTo l a b) p q ↔ Hr (moveTo l b a) p q := by
  rw [hr_move, hr_move]
  constructor
  · rintro ⟨u, hu, v, hv, h1, h2, h3, h4, h5⟩
    obtain ⟨e1, e2⟩ := (mf_swap ha hb' h).1 ⟨h3, h4⟩
    exact ⟨u, hu, v, hv, h1, h2, e1, e2, h5⟩
  · rintro ⟨u, hu, v, hv, h1, h2, h3, h4, h5⟩
    obtain ⟨e1, e2⟩ := (mf_swap ha hb' h).2 ⟨h3, h4⟩
    exact ⟨u, hu, v, hv, h1, h2, e1, e2, h5⟩
theorem hr_keep {l : List S36} {a b p q : Int} (hb' : b ≠ 0) (h : Hr l p q) : Hr (moveTo l a b) p q := by
  obtain ⟨u, hu, v, hv, h1, h2, h3, h4, h5⟩ := h
  rw [hr_move]
  refine ⟨u, hu, v, hv, h1, h2, by rw [h3], ?_, h5⟩
  unfold mf
  split
  · exact hb'
  · exact h4
theorem cnt_move (l : List S36) (a b c : Int) : cnt l c ≤ cnt (moveTo l a b) (mf a b c) := by
  induction l with
  | nil => simp [cnt]
  | cons w l ih =>
    have hcons : ∀ (w : S36) (m : List S36) (c : Int), cnt (w :: m) c = (if w.f1 = c then 1 else 0) + cnt m c := by
      intro w m c
      unfold cnt
      by_cases e : w.f1 = c
      · simp [e]; omega
      · simp [e]
    have e : moveTo (w :: l) a b = mv a b w :: moveTo l a b := rfl
    rw [e, hcons, hcons, mv_f1]
    by_cases h : w.f1 = c
    · rw [if_pos h, h, if_pos rfl]; omega
    · rw [if_neg h]; omega
theorem ok_move {l : List S36} {nx a b : Int} (h : Ok l nx) (ha : 0 < a) (hb' : 0 < b) (hbn : b < nx) : Ok (moveTo l a b) nx := by
  refine ⟨h.n1, h.n2, ids_sorted (ids_move l a b).symm h.s, fun z hz => ?_, fun z hz h0 => ?_, by rw [moveTo_len]; exact h.len⟩
  · obtain ⟨w, hw, rfl⟩ := mem_move.1 hz
    have hl := h.leg w hw
    refine ⟨by rw [mv_f0]; exact hl.id, ?_, ?_, ?_⟩
    · rw [mv_f1]; unfold mf; split; omega; exact hl.c0
    · rw [mv_f1]; unfold mf; split; omega; exact hl.c1
    · rw [mv_f1, mv_f2]; unfold mf; split
      · intro e; omega
      · exact hl.h
  · obtain ⟨w, hw, rfl⟩ := mem_move.1 hz
    rw [mv_f1] at h0 ⊢
    have h1 : 0 < w.f1 := by
      unfold mf at h0
      split at h0
      · omega
      · exact h0
    exact Nat.le_trans (h.two w hw h1) (cnt_move l a b w.f1)

/-- Whether no leg x, no leg y is on hold. -/
def freeXY (x y : Int) (z : S36) : Bool := !(decide (z.f0 = x) || decide (z.f0 = y)) || !z.f2

theorem mj_l2 (c : List S36) (nx x y : Int) (hc : c.length ≤ 100) (hck : checkE c nx = 0) : ∀ (K i : Nat) (hd : Bool), i ≤ c.length → 2001 + (c.length - i) < K → hb c x y = (hd && (c.drop i).all (freeXY x y)) → MJ.l2 K x y 0 hd (i : Int) c nx = some true := by
  intro K
  induction K with
  | zero => intro i _ _ h; omega
  | succ K ih =>
    intro i hd hi hK hh
    simp only [MJ.l2]
    by_cases hlt : i < c.length
    · rw [if_pos (by omega), if_pos (by omega), w64 i (by omega)]
      have hdr : c.drop i = rd_T36 c (i : Int) :: c.drop (i + 1) := by
        rw [List.drop_eq_getElem_cons hlt]
        have h2 := rd_at c i hlt
        rw [List.getElem?_eq_getElem hlt] at h2
        injection h2 with h2
        rw [h2]
      rw [hdr, List.all_cons] at hh
      have nxt := fun hd' h => ih (i + 1) hd' (by omega) (by omega) h
      by_cases c1 : (rd_T36 c (i : Int)).f0 = x
      · rw [if_pos c1]
        have e : freeXY x y (rd_T36 c (i : Int)) = !(rd_T36 c (i : Int)).f2 := by simp [freeXY, c1]
        rw [e] at hh
        cases hd with
        | true => rw [if_pos rfl]; exact nxt _ (by rw [hh, Bool.true_and])
        | false => rw [if_neg (by simp)]; exact nxt _ (by rw [hh]; simp)
      · rw [if_neg c1]
        by_cases c2 : (rd_T36 c (i : Int)).f0 = y
        · rw [if_pos c2]
          have e : freeXY x y (rd_T36 c (i : Int)) = !(rd_T36 c (i : Int)).f2 := by simp [freeXY, c2]
          rw [e] at hh
          cases hd with
          | true => rw [if_pos rfl]; exact nxt _ (by rw [hh, Bool.true_and])
          | false => rw [if_neg (by simp)]; exact nxt _ (by rw [hh]; simp)
        · rw [if_neg c2]
          have e : freeXY x y (rd_T36 c (i : Int)) = true := by simp [freeXY, c1, c2]
          rw [e, Bool.true_and] at hh
          exact nxt _ hh
    · rw [if_neg (by omega)]
      have hnil : c.drop i = [] := List.drop_eq_nil_of_le (by omega)
      rw [hnil, List.all_nil, Bool.and_true] at hh
      simp only [if_true]
      rw [hears_f c nx x y K (by omega) (by omega)]
      simp only [Option.bind_some]
      rw [hh]
      simp only [beq_self_eq_true, if_true, bridge_Check.f]
      rw [if_pos (by omega), hck]
      rfl

theorem mj_l (l c d : List S36) (nx x y : Int) (hl : l.length ≤ 100) (hc : c.length ≤ 2000) (hd' : d.length ≤ 2000) (h1 : ∀ p q, hb l p q = true → hb c p q = true) (h2 : ∀ p q, hb c p q = hb d p q)
    (hfin : ∀ K, 3000 ≤ K → MJ.l2 K x y 0 true 0 c nx = some true) : ∀ K : Nat,
    (∀ i : Nat, i ≤ l.length → 3001 + (l.length - i) * (l.length + 2) < K → MJ.l0 K x y 0 (i : Int) l nx c nx d nx = some true) ∧
    (∀ i j : Nat, i < l.length → j ≤ l.length → 3001 + (l.length - i - 1) * (l.length + 2) + 1 + (l.length - j) < K → MJ.l1 K x y 0 (i : Int) (j : Int) l nx c nx d nx = some true) := by
  intro K
  induction K with
  | zero => exact ⟨fun i _ h => by omega, fun i j _ _ h => by omega⟩
  | succ K ih =>
    obtain ⟨ih0, ih1⟩ := ih
    constructor
    · intro i hi hK
      simp only [MJ.l0]
      by_cases hlt : i < l.length
      · rw [if_pos (by omega)]
        refine ih1 i 0 hlt (by omega) ?_
        have : (l.length - i) * (l.length + 2) = (l.length - i - 1) * (l.length + 2) + (l.length + 2) := by
          rw [← Nat.succ_mul]; congr 1; omega
        omega
      · rw [if_neg (by omega)]
        exact hfin K (by omega)
    · intro i j hi hj hK
      simp only [MJ.l1]
      by_cases hlt : j < l.length
      · rw [if_pos (by omega), if_pos (by omega), if_pos (by omega), if_pos (by omega)]
        have hnext := ih1 i (j + 1) hi (by omega) (by omega)
        rw [w64 j (by omega), hears_f l nx _ _ K (by omega) (by omega), hears_f c nx _ _ K hc (by omega), hears_f d nx _ _ K hd' (by omega)]
        simp only [Option.bind_some]
        have e2 := h2 (rd_T36 l (i : Int)).f0 (rd_T36 l (j : Int)).f0
        have e1 := h1 (rd_T36 l (i : Int)).f0 (rd_T36 l (j : Int)).f0
        rw [← e2]
        simp only [bne_self_eq_false, Bool.false_eq_true, if_false]
        cases hh : hb l (rd_T36 l (i : Int)).f0 (rd_T36 l (j : Int)).f0 with
        | true => simp only [if_true, e1 hh]; exact hnext
        | false => simp only [Bool.false_eq_true, if_false]; exact hnext
      · rw [if_neg (by omega), w64 i (by omega)]
        refine ih0 (i + 1) (by omega) ?_
        have e : l.length - (i + 1) = l.length - i - 1 := by omega
        rw [e]
        omega

theorem bridgeMergeJoins_pure (l : List S36) (nx x y : Int) : ∃ k, MJ.f k l nx x y = some true := by
  obtain ⟨K, hK⟩ : ∃ K, K = 30000 := ⟨_, rfl⟩
  refine ⟨K, ?_⟩
  unfold MJ.f crossbarlaw18_sane.f
  simp only [Option.bind_some, if_true]
  by_cases hlen : (l.length : Int) > 20
  · rw [if_pos hlen]
  · rw [if_neg hlen]
    have hl : l.length ≤ 2000 := by omega
    have hM : ∀ p q : Int, bridge_Merge.f l nx p q = some (editF (mergeOp p q) l nx) := fun p q => by unfold bridge_Merge.f; rw [if_pos hl]
    rw [hM, hM]
    simp only [Option.bind_some]
    by_cases hc : checkE l nx = 0
    · have hok := ok_of_check hc
      by_cases hi : fnd l x < 0 ∨ fnd l y < 0 ∨ (at_ l (fnd l x)).f1 = 0 ∨ (at_ l (fnd l y)).f1 = 0 ∨ (at_ l (fnd l x)).f1 = (at_ l (fnd l y)).f1
      · have e1 : editF (mergeOp x y) l nx = ([], 0, 180) := editF_err (m := l) (n := nx) hc (by simp only [mergeOp]; rw [if_pos hi]) (by decide)
        have hi' : fnd l y < 0 ∨ fnd l x < 0 ∨ (at_ l (fnd l y)).f1 = 0 ∨ (at_ l (fnd l x)).f1 = 0 ∨ (at_ l (fnd l y)).f1 = (at_ l (fnd l x)).f1 := by omega
        have e2 : editF (mergeOp y x) l nx = ([], 0, 180) := editF_err (m := l) (n := nx) hc (by simp only [mergeOp]; rw [if_pos hi']) (by decide)
        rw [e1, e2]
        rfl
      · obtain ⟨i, hi1, hil, hx⟩ := fnd_some (l := l) (x := x) (fun h => hi (.inl h))
        obtain ⟨k, hk1, hkl, hy⟩ := fnd_some (l := l) (x := y) (fun h => hi (.inr (.inl h)))
        have hi' : ¬ (fnd l y < 0 ∨ fnd l x < 0 ∨ (at_ l (fnd l y)).f1 = 0 ∨ (at_ l (fnd l x)).f1 = 0 ∨ (at_ l (fnd l y)).f1 = (at_ l (fnd l x)).f1) := by omega
        obtain ⟨cx, hcx⟩ : ∃ cx, cx = (rd_T36 l (i : Int)).f1 := ⟨_, rfl⟩
        obtain ⟨cy, hcy⟩ : ∃ cy, cy = (rd_T36 l (k : Int)).f1 := ⟨_, rfl⟩
        have e1 : editF (mergeOp x y) l nx = (moveTo l cy cx, nx, 0) := editF_ok hc (by simp only [mergeOp]; rw [if_neg hi, hi1, hk1, hcx, hcy])
        have e2 : editF (mergeOp y x) l nx = (moveTo l cx cy, nx, 0) := editF_ok hc (by simp only [mergeOp]; rw [if_neg hi', hi1, hk1, hcx, hcy])
        rw [hi1, hk1] at hi
        have hx0 : cx ≠ 0 := fun e => hi (.inr (.inr (.inl (by rw [← hcx]; exact e))))
        have hy0 : cy ≠ 0 := fun e => hi (.inr (.inr (.inr (.inl (by rw [← hcy]; exact e)))))
        have hxy : cx ≠ cy := fun e => hi (.inr (.inr (.inr (.inr (by rw [← hcx, ← hcy]; exact e)))))
        have lx := hok.leg _ (at_mem hil)
        have ly := hok.leg _ (at_mem hkl)
        have px : 0 < cx := by have := lx.c0; omega
        have py : 0 < cy := by have := ly.c0; omega
        have okc : Ok (moveTo l cy cx) nx := ok_move hok py px (by rw [hcx]; exact lx.c1)
        have okd : Ok (moveTo l cx cy) nx := ok_move hok px py (by rw [hcy]; exact ly.c1)
        rw [e1, e2]
        simp only [if_true]
        have hik : x ≠ y := fun e => by
          have : i = k := sorted_inj hok.s hil hkl (by rw [hx, hy, e])
          subst this
          exact hxy (by rw [hcx, hcy])
        refine (mj_l l (moveTo l cy cx) (moveTo l cx cy) nx x y (by omega) (by rw [moveTo_len]; omega) (by rw [moveTo_len]; omega) (fun p q h => ?_) (fun p q => ?_) (fun K' hK' => ?_) K).1 0 (by omega) ?_
        · rw [hb_iff hok.s] at h
          rw [hb_iff okc.s]
          exact hr_keep hx0 h
        · exact hb_eq_of okc.s okd.s (hr_swap hy0 hx0 (fun e => hxy e.symm))
        · refine mj_l2 (moveTo l cy cx) nx x y (by rw [moveTo_len]; omega) (check_of_ok okc) K' 0 true (by omega) (by rw [moveTo_len]; omega) ?_
          rw [List.drop_zero, Bool.true_and, Bool.eq_iff_iff, hb_iff okc.s, List.all_eq_true]
          constructor
          · rintro ⟨u, hu, v, hv, ux, vy, _, _, u2, v2, _⟩ z hz
            have huniq : ∀ w ∈ moveTo l cy cx, ∀ z ∈ moveTo l cy cx, w.f0 = z.f0 → w = z := by
              intro w hw z hz e
              obtain ⟨p, hp, rfl⟩ := mem_at hw
              obtain ⟨q, hq, rfl⟩ := mem_at hz
              rw [sorted_inj okc.s hp hq e]
            unfold freeXY
            by_cases z1 : z.f0 = x
            · rw [huniq z hz u hu (by rw [z1, ux]), u2]; simp
            · by_cases z2 : z.f0 = y
              · rw [huniq z hz v hv (by rw [z2, vy]), v2]; simp
              · simp [z1, z2]
          · intro hall
            have hu : mv cy cx (rd_T36 l (i : Int)) ∈ moveTo l cy cx := mem_move.2 ⟨_, at_mem hil, rfl⟩
            have hv : mv cy cx (rd_T36 l (k : Int)) ∈ moveTo l cy cx := mem_move.2 ⟨_, at_mem hkl, rfl⟩
            have u0 : (mv cy cx (rd_T36 l (i : Int))).f0 = x := by rw [mv_f0]; exact hx
            have v0 : (mv cy cx (rd_T36 l (k : Int))).f0 = y := by rw [mv_f0]; exact hy
            have hu2 := hall _ hu
            have hv2 := hall _ hv
            refine ⟨_, hu, _, hv, u0, v0, ?_, ?_, ?_, ?_, hik⟩
            · rw [mv_f1, mv_f1, ← hcx, ← hcy]; unfold mf; rw [if_neg hxy, if_pos rfl]
            · rw [mv_f1, ← hcx]; unfold mf; rw [if_neg hxy]; exact hx0
            · simpa [freeXY, u0] using hu2
            · simpa [freeXY, v0] using hv2
        · have : (l.length - 0) * (l.length + 2) ≤ 100 * 102 := Nat.mul_le_mul (by omega) (by omega)
          omega
    · have e1 : editF (mergeOp x y) l nx = ([], 0, checkE l nx) := editF_bad hc
      have e2 : editF (mergeOp y x) l nx = ([], 0, checkE l nx) := editF_bad hc
      rw [e1, e2]
      simp only
      rw [if_neg hc]
      simp
end Go.Proofs.Ytmjenmhidnkbdaa.P
