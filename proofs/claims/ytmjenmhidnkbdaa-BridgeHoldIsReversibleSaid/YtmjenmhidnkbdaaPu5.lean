/- A leg put on hold neither hears nor is heard; other pairs are as before; taking it off hold restores the bridge. -/
import Derived.Test.YtmjenmhidnkbdaaPx6
import Derived.Test.YtmjenmhidnkbdaaPe
namespace Go.Proofs.Ytmjenmhidnkbdaa.P
open Go.RowKit Go.Proofs.YtmjenmhidnkbdaaW.PrintWords Go.Proofs.YtmjenmhidnkbdaaW.PrintLast Go.Proofs.YtmjenmhidnkbdaaW.PrintMore
set_option linter.unusedVariables false
set_option linter.unusedSimpArgs false

theorem hold_l0 (l c : List S36) (nx x : Int) (hl : l.length ≤ 100) (hc : c.length ≤ 100) (hno : ∀ z, hb c z x = false) (hnil : hearsL c x = []) (ho : Oth l c x x) : ∀ (K i : Nat), i ≤ c.length → 20001 + (c.length - i) < K →
    crossbarlaw18_BridgeHoldIsReversible.l0 K x 0 180 true (i : Int) l nx c nx = some true := by
  intro K
  induction K with
  | zero => intro i _ h; omega
  | succ K ih =>
    intro i hi hK
    simp only [crossbarlaw18_BridgeHoldIsReversible.l0]
    by_cases hlt : i < c.length
    · rw [if_pos (by omega), if_pos (by omega), hears_f c nx _ _ K (by omega) (by omega), w64 i (by omega)]
      simp only [Option.bind_some, hno, Bool.false_eq_true, if_false]
      exact ih (i + 1) (by omega) (by omega)
    · rw [if_neg (by omega)]
      simp only [if_true, bridge_Hears.f, hnil]
      rw [if_pos (by omega)]
      simp only [Option.bind_some, List.length_nil]
      rw [if_pos (by rfl), others_f l c nx nx x x hl (by omega) ho K (by omega)]
      rfl

theorem bridgeHoldIsReversible_pure (l : List S36) (nx x : Int) : ∃ k, crossbarlaw18_BridgeHoldIsReversible.f k l nx x = some true := by
  obtain ⟨K, hK⟩ : ∃ K, K = 30000 := ⟨_, rfl⟩
  refine ⟨K, ?_⟩
  unfold crossbarlaw18_BridgeHoldIsReversible.f crossbarlaw18_sane.f
  simp only [Option.bind_some, if_true]
  by_cases hlen : (l.length : Int) > 20
  · rw [if_pos hlen]
  · rw [if_neg hlen]
    have hl : l.length ≤ 2000 := by omega
    have hH : ∀ (m : List S36) (on : Bool), m.length ≤ 2000 → bridge_Hold.f m nx x on = some (editF (holdOp x on) m nx) := fun m on hm => by unfold bridge_Hold.f; rw [if_pos hm]
    rw [hH l true hl]
    simp only [Option.bind_some]
    by_cases hc : checkE l nx = 0
    · have hok := ok_of_check hc
      by_cases hi : fnd l x < 0 ∨ (at_ l (fnd l x)).f1 = 0 ∨ (at_ l (fnd l x)).f2 = true
      · have e : editF (holdOp x true) l nx = ([], 0, 180) := editF_err (m := l) (n := nx) hc (by simp [holdOp, hi]) (by decide)
        rw [e]
        rfl
      · obtain ⟨k, hk, hkl, hx⟩ := fnd_some (l := l) (x := x) (fun h => hi (.inl h))
        rw [hk] at hi
        have h1 : (rd_T36 l (k : Int)).f1 ≠ 0 := fun h => hi (.inr (.inl h))
        have h2 : (rd_T36 l (k : Int)).f2 = false := by
          cases h : (rd_T36 l (k : Int)).f2 with
          | false => rfl
          | true => exact absurd (.inr (.inr h)) hi
        obtain ⟨c, hcd⟩ : ∃ c, c = l.set k ⟨(rd_T36 l (k : Int)).f0, (rd_T36 l (k : Int)).f1, true⟩ := ⟨_, rfl⟩
        have e : editF (holdOp x true) l nx = (c, nx, 0) := editF_ok hc (by
          simp only [holdOp, hk, Int.toNat_natCast]
          rw [if_neg hi, hcd])
        rw [e]
        have hcl : c.length = l.length := by rw [hcd, List.length_set]
        have hckl : k < c.length := by omega
        have hokc : Ok c nx := by rw [hcd]; exact ok_hold hok hkl h1 true
        have hidc : ids c = ids l := by rw [hcd]; exact ids_set l k _ (fun y hy => by rw [rd_at l k hkl] at hy; injection hy with hy; rw [← hy])
        have hfc : fnd c x = k := by rw [idx_ids c l x hidc]; exact hk
        have hat : rd_T36 c (k : Int) = ⟨(rd_T36 l (k : Int)).f0, (rd_T36 l (k : Int)).f1, true⟩ := by
          have := rd_at c k hckl
          rw [hcd, List.getElem?_set_self hkl] at this
          injection this with this
          rw [hcd]; exact this.symm
        have hcc := check_of_ok hokc
        have hback : c.set k ⟨(rd_T36 l (k : Int)).f0, (rd_T36 l (k : Int)).f1, false⟩ = l := by
          rw [hcd, List.set_set]
          have : (⟨(rd_T36 l (k : Int)).f0, (rd_T36 l (k : Int)).f1, false⟩ : S36) = rd_T36 l (k : Int) := by
            rw [← h2]
          rw [this]
          refine List.ext_getElem? fun q => ?_
          by_cases e : k = q
          · subst e; rw [List.getElem?_set_self hkl, rd_at l k hkl]
          · rw [List.getElem?_set_ne e]
        have e2 : editF (holdOp x false) c nx = (l, nx, 0) := editF_ok hcc (by
          simp only [holdOp, hfc, Int.toNat_natCast, at_, hat]
          rw [if_neg (show ¬ ((k : Int) < 0 ∨ (rd_T36 l (k : Int)).f1 = 0 ∨ true = false) from by
            rintro (h | h | h)
            · omega
            · exact h1 h
            · cases h), hback])
        have e3 : editF (holdOp x true) c nx = ([], 0, 180) := editF_err (m := c) (n := nx) hcc (by
          simp only [holdOp, hfc, Int.toNat_natCast, at_, hat]
          rw [if_pos (.inr (.inr trivial))]) (by decide)
        simp only [if_true]
        rw [hH c false (by omega), hH c true (by omega), e2, e3]
        simp only [Option.bind_some]
        rw [same_f l nx hl _ (by omega)]
        simp only [Option.bind_some]
        refine hold_l0 l c nx x (by omega) (by omega) (fun z => ?_) ?_ ?_ K 0 (by omega) (by omega)
        · rw [← Bool.not_eq_true, hb_iff hokc.s]
          rintro ⟨u, hu, v, hv, _, hvx, _, _, _, hv2, _⟩
          obtain ⟨j, hj, rfl⟩ := mem_at hv
          have := sorted_inj hokc.s hj hckl (by rw [hvx, hat]; exact hx.symm)
          subst this
          rw [hat] at hv2
          cases hv2
        · unfold hearsL
          simp only [hfc, Int.toNat_natCast, at_, hat]
          rw [if_pos (.inr (.inr trivial))]
        · have hf := hold_frame' l k ⟨(rd_T36 l (k : Int)).f0, (rd_T36 l (k : Int)).f1, true⟩ hkl rfl
          simp only [hx] at hf
          rw [hcd] at hokc ⊢
          simp only [hx] at hokc ⊢
          exact hf.oth hok.s hokc.s
    · have e : editF (holdOp x true) l nx = ([], 0, checkE l nx) := editF_bad hc
      rw [e]
      simp only [hc, if_false, List.length_nil]
      rfl
end Go.Proofs.Ytmjenmhidnkbdaa.P
