/- After Connect the two legs hear exactly each other, and all pairs of other legs are as before. -/
import Derived.Test.YtmjenmhidnkbdaaPx5
import Derived.Test.YtmjenmhidnkbdaaPg
namespace Go.Proofs.Ytmjenmhidnkbdaa.P
open Go.RowKit Go.Proofs.YtmjenmhidnkbdaaW.PrintWords Go.Proofs.YtmjenmhidnkbdaaW.PrintLast Go.Proofs.YtmjenmhidnkbdaaW.PrintMore
set_option linter.unusedVariables false
set_option linter.unusedSimpArgs false

theorem con_l0 (l b : List S36) (nx nb x y : Int) (hl : l.length ≤ 100) (hbl : b.length = l.length) (hno : ∀ z ∈ b, z.f0 ≠ x → z.f0 ≠ y → hb b z.f0 x = false ∧ hb b z.f0 y = false) (ho : Oth l b x y) : ∀ (K i : Nat), i ≤ b.length → 20001 + (b.length - i) < K →
    crossbarlaw18_BridgeConnectIsolates.l0 K x y true (i : Int) l nx b nb = some true := by
  intro K
  induction K with
  | zero => intro i _ h; omega
  | succ K ih =>
    intro i hi hK
    simp only [crossbarlaw18_BridgeConnectIsolates.l0]
    by_cases hlt : i < b.length
    · have hn := ih (i + 1) (by omega) (by omega)
      rw [if_pos (by omega), if_pos (by omega), w64 i (by omega)]
      by_cases c1 : (rd_T36 b (i : Int)).f0 = x
      · rw [if_pos c1]; exact hn
      · rw [if_neg c1]
        by_cases c2 : (rd_T36 b (i : Int)).f0 = y
        · rw [if_pos c2]; exact hn
        · obtain ⟨n1, n2⟩ := hno _ (at_mem hlt) c1 c2
          rw [if_neg c2, hears_f b nb _ _ K (by omega) (by omega), hears_f b nb _ _ K (by omega) (by omega)]
          simp only [Option.bind_some, n1, n2, Bool.false_eq_true, if_false]
          exact hn
    · rw [if_neg (by omega)]
      simp only [if_true]
      rw [others_f l b nx nb x y hl (by omega) ho K (by omega)]
      simp [hbl]

theorem rd_ids {a b : List S36} (h : ids a = ids b) {q : Nat} (hq : q < a.length) : (rd_T36 a (q : Int)).f0 = (rd_T36 b (q : Int)).f0 := by
  have hl : a.length = b.length := by
    have := congrArg List.length h
    simpa [ids] using this
  have h1 := congrArg (fun m => m[q]?) h
  simp only [ids, List.getElem?_map, rd_at a q hq, rd_at b q (by omega), Option.map_some, Option.some.injEq] at h1
  exact h1
theorem ids_cf (l : List S36) (i : Nat) (c : Int) : ids (setCf l i c) = ids l := by
  unfold setCf
  by_cases hi : i < l.length
  · exact ids_set l i _ (fun y hy => by rw [rd_at l i hi] at hy; injection hy with hy; rw [← hy])
  · rw [List.set_eq_of_length_le (by omega)]
theorem rd_cf (l : List S36) (i q : Nat) (c : Int) (hq : q < l.length) : rd_T36 (setCf l i c) (q : Int) = if q = i then ⟨(rd_T36 l (i : Int)).f0, c, (rd_T36 l (i : Int)).f2⟩ else rd_T36 l (q : Int) := rd_set l i q _ hq

/-- What Connect makes of a right bridge. -/
theorem connect_spec {l : List S36} {nx x y : Int} (hok : Ok l nx) {i k : Nat} (hi : i < l.length) (hk : k < l.length) (hik : i ≠ k) (hx : (rd_T36 l (i : Int)).f0 = x) (hy : (rd_T36 l (k : Int)).f0 = y)
    {b : List S36} (hbd : b = setCf (setCf (lv (lv l i) k) i nx) k nx) :
    b.length = l.length ∧ ids b = ids l ∧ rd_T36 b (i : Int) = ⟨x, nx, false⟩ ∧ rd_T36 b (k : Int) = ⟨y, nx, false⟩ ∧ (∀ q, q < l.length → q ≠ i → q ≠ k → (rd_T36 b (q : Int)).f1 < nx) ∧ Frame l b x y := by
  have l1 : (lv l i).length = l.length := lv_len l i
  have l2 : (lv (lv l i) k).length = l.length := by rw [lv_len, l1]
  have i1 : ids (lv l i) = ids l := ids_lv l i
  have i2 : ids (lv (lv l i) k) = ids l := by rw [ids_lv, i1]
  have r1 : rd_T36 (lv l i) (i : Int) = ⟨x, 0, false⟩ := by rw [lv_rd hi, hx]
  have y1 : (rd_T36 (lv l i) (k : Int)).f0 = y := by rw [rd_ids i1 (by rw [l1]; exact hk), hy]
  have r2 : rd_T36 (lv (lv l i) k) (i : Int) = ⟨x, 0, false⟩ := by
    rw [lv_rd0 (by rw [l1]; exact hk) (by rw [l1]; exact hi) (by rw [r1]) (by rw [r1]), r1]
  have r3 : rd_T36 (lv (lv l i) k) (k : Int) = ⟨y, 0, false⟩ := by rw [lv_rd (by rw [l1]; exact hk), y1]
  have hlt : ∀ z ∈ lv (lv l i) k, z.f1 < nx := by
    intro z hz
    have hn := hok.n1
    rcases lv_mem (by rw [l1]; exact hk) hz with hz1 | ⟨h0, _⟩
    · rcases lv_mem hi hz1 with hz2 | ⟨h0, _⟩
      · exact (hok.leg z hz2).c1
      · omega
    · omega
  have f1 : Frame l (lv (lv l i) k) x y := by
    have a1 := lv_frame hok.s hi
    have a2 := lv_frame (lv_sorted hok.s i) (i := k) (by rw [l1]; exact hk)
    rw [hx] at a1
    rw [y1] at a2
    exact a1.trans a2
  generalize lv (lv l i) k = m at *
  have lb : b.length = m.length := by rw [hbd, setCf_len, setCf_len]
  have rb : ∀ q, q < l.length → rd_T36 b (q : Int) = if q = k then ⟨y, nx, false⟩ else if q = i then ⟨x, nx, false⟩ else rd_T36 m (q : Int) := by
    intro q hq
    have e1 : rd_T36 (setCf m i nx) (k : Int) = ⟨y, 0, false⟩ := by rw [rd_cf m i k nx (by rw [l2]; exact hk), if_neg (fun e => hik e.symm), r3]
    rw [hbd, rd_cf (setCf m i nx) k q nx (by rw [setCf_len, l2]; exact hq), e1]
    by_cases hqk : q = k
    · rw [if_pos hqk, if_pos hqk]
    · rw [if_neg hqk, if_neg hqk, rd_cf m i q nx (by rw [l2]; exact hq), r2]
  refine ⟨by rw [lb, l2], by rw [hbd, ids_cf, ids_cf, i2], by rw [rb i hi, if_neg hik, if_pos rfl], by rw [rb k hk, if_pos rfl], fun q hq h1 h2 => ?_, f1.same fun z z1 z2 => ?_⟩
  · rw [rb q hq, if_neg h2, if_neg h1]
    exact hlt _ (at_mem (by rw [l2]; exact hq))
  · constructor
    · intro hz
      obtain ⟨q, hq, rfl⟩ := mem_at hz
      rw [l2] at hq
      have hqk : q ≠ k := fun e => z2 (by rw [e, r3])
      have hqi : q ≠ i := fun e => z1 (by rw [e, r2])
      have := rb q hq
      rw [if_neg hqk, if_neg hqi] at this
      rw [← this]
      exact at_mem (by rw [lb, l2]; exact hq)
    · intro hz
      obtain ⟨q, hq, rfl⟩ := mem_at hz
      rw [lb, l2] at hq
      have := rb q hq
      by_cases hqk : q = k
      · rw [if_pos hqk] at this; rw [this] at z2; exact absurd rfl z2
      · by_cases hqi : q = i
        · rw [if_neg hqk, if_pos hqi] at this; rw [this] at z1; exact absurd rfl z1
        · rw [if_neg hqk, if_neg hqi] at this
          rw [this]
          exact at_mem (by rw [l2]; exact hq)

/-- Two legs alone in a conference hear exactly each other. -/
theorem hears_pair {b : List S36} {x y nx : Int} {i k : Nat} (hi : i < b.length) (hk : k < b.length) (hik : i ≠ k) (hn : nx ≠ 0) (hf : fnd b x = i) (h1 : rd_T36 b (i : Int) = ⟨x, nx, false⟩) (h2 : rd_T36 b (k : Int) = ⟨y, nx, false⟩)
    (h3 : ∀ q, q < b.length → q ≠ i → q ≠ k → (rd_T36 b (q : Int)).f1 ≠ nx) : hearsL b x = [y] := by
  unfold hearsL
  simp only [hf, Int.toNat_natCast, at_, h1]
  rw [if_neg (by rintro (h | h | h); omega; exact hn h; cases h)]
  rw [hTo_one (j := k) hk (fun q hq => ?_), h2]
  constructor
  · rintro ⟨e1, e2, _⟩
    refine Classical.byContradiction fun e3 => h3 q hq e2 e3 ?_
    have : cfAt b i = nx := by show (rd_T36 b (i : Int)).f1 = nx; rw [h1]
    rw [this] at e1
    exact e1
  · rintro rfl
    exact ⟨by show (rd_T36 b (q : Int)).f1 = (rd_T36 b (i : Int)).f1; rw [h1, h2], fun e => hik e.symm, by rw [h2]⟩

theorem bridgeConnectIsolates_pure (l : List S36) (nx x y : Int) : ∃ k, crossbarlaw18_BridgeConnectIsolates.f k l nx x y = some true := by
  obtain ⟨K, hK⟩ : ∃ K, K = 30000 := ⟨_, rfl⟩
  refine ⟨K, ?_⟩
  unfold crossbarlaw18_BridgeConnectIsolates.f crossbarlaw18_sane.f
  simp only [Option.bind_some, if_true]
  by_cases hlen : (l.length : Int) > 20
  · rw [if_pos hlen]
  · rw [if_neg hlen]
    have hl : l.length ≤ 2000 := by omega
    unfold bridge_Connect.f
    rw [if_pos hl]
    simp only [Option.bind_some]
    have herr : ∀ e : Int, e ≠ 0 → editF (connectOp x y) l nx = ([], 0, e) → (if (editF (connectOp x y) l nx).2.2 = 0 then
        (bridge_Hears.f (editF (connectOp x y) l nx).1 (editF (connectOp x y) l nx).2.1 x).bind fun t131 => ((crossbarref18_Ints.f K t131 (([y] : List Int))).bind fun t137 => (if t137 = true then ((bridge_Hears.f (editF (connectOp x y) l nx).1 (editF (connectOp x y) l nx).2.1 y).bind fun t138 => ((crossbarref18_Ints.f K t138 (([x] : List Int))).bind fun t144 => (crossbarlaw18_BridgeConnectIsolates.j0 K x y t144 l nx (editF (connectOp x y) l nx).1 (editF (connectOp x y) l nx).2.1))) else (crossbarlaw18_BridgeConnectIsolates.j0 K x y false l nx (editF (connectOp x y) l nx).1 (editF (connectOp x y) l nx).2.1)))
        else if ((editF (connectOp x y) l nx).1.length : Int) = 0 then some ((editF (connectOp x y) l nx).2.1 == 0) else some false) = some true := by
      intro e he hE
      rw [hE]
      simp only [he, if_false, List.length_nil]
      rfl
    by_cases hc : checkE l nx = 0
    · have hok := ok_of_check hc
      by_cases hi : fnd l x < 0 ∨ fnd l y < 0 ∨ fnd l x = fnd l y
      · exact herr 180 (by decide) (editF_err (m := l) (n := nx) hc (by simp [connectOp, hi]) (by decide))
      · by_cases hn : nx = 1099511627776
        · exact herr 2 (by decide) (editF_err (m := l) (n := nx) hc (by simp only [connectOp]; rw [if_neg hi, if_pos hn]) (by decide))
        · obtain ⟨i, hi1, hil, hx⟩ := fnd_some (l := l) (x := x) (fun h => hi (.inl h))
          obtain ⟨k, hk1, hkl, hy⟩ := fnd_some (l := l) (x := y) (fun h => hi (.inr (.inl h)))
          have hik : i ≠ k := fun e => hi (.inr (.inr (by rw [hi1, hk1, e])))
          obtain ⟨b, hbd⟩ : ∃ b, b = setCf (setCf (lv (lv l i) k) i nx) k nx := ⟨_, rfl⟩
          have e : editF (connectOp x y) l nx = (b, nx + 1, 0) := editF_ok hc (by
            simp only [connectOp]
            rw [if_neg hi, if_neg hn, hi1, hk1]
            simp only [Int.toNat_natCast]
            rw [← hbd])
          rw [e]
          obtain ⟨hbl, hids, hbi, hbk, hbo, hfr⟩ := connect_spec hok hil hkl hik hx hy hbd
          have hsb : Sorted b := ids_sorted hids.symm hok.s
          have hn0 : nx ≠ 0 := by have := hok.n1; omega
          have hfx : fnd b x = i := by rw [idx_ids b l x hids]; exact hi1
          have hfy : fnd b y = k := by rw [idx_ids b l y hids]; exact hk1
          have hX : hearsL b x = [y] := hears_pair (by omega) (by omega) hik hn0 hfx hbi hbk (fun q hq h1 h2 => by have := hbo q (by omega) h1 h2; omega)
          have hY : hearsL b y = [x] := hears_pair (by omega) (by omega) (fun e => hik e.symm) hn0 hfy hbk hbi (fun q hq h1 h2 => by have := hbo q (by omega) h2 h1; omega)
          simp only [if_true, bridge_Hears.f]
          have hbl2 : b.length ≤ 2000 := by omega
          simp only [hbl2, if_true, hX, hY, Option.bind_some]
          rw [ints_one y K (by omega)]
          simp only [Option.bind_some, if_true]
          rw [ints_one x K (by omega)]
          simp only [Option.bind_some]
          obtain ⟨K', rfl⟩ : ∃ K', K = K' + 1 := ⟨K - 1, by omega⟩
          simp only [crossbarlaw18_BridgeConnectIsolates.j0]
          have hno : ∀ (w : Int) (j : Nat), j < b.length → rd_T36 b (j : Int) = ⟨w, nx, false⟩ → ∀ z ∈ b, z.f0 ≠ x → z.f0 ≠ y → hb b z.f0 w = false := by
            intro w j hj hw z hz z1 z2
            rw [← Bool.not_eq_true, hb_iff hsb]
            rintro ⟨u, hu, v, hv, hux, hvx, hc1, _⟩
            obtain ⟨p, hp, rfl⟩ := mem_at hu
            obtain ⟨q, hq, rfl⟩ := mem_at hv
            have : q = j := sorted_inj hsb hq hj (by rw [hvx, hw])
            subst this
            rw [hw] at hc1
            simp only at hc1
            have hpi : p ≠ i := fun e => z1 (by rw [← hux, e, hbi])
            have hpk : p ≠ k := fun e => z2 (by rw [← hux, e, hbk])
            have := hbo p (by omega) hpi hpk
            omega
          exact con_l0 l b nx (nx + 1) x y (by omega) hbl (fun z hz z1 z2 => ⟨hno x i (by omega) hbi z hz z1 z2, hno y k (by omega) hbk z hz z1 z2⟩) (hfr.oth hok.s hsb) K' 0 (by omega) (by omega)
    · exact herr (checkE l nx) hc (editF_bad hc)
end Go.Proofs.Ytmjenmhidnkbdaa.P
