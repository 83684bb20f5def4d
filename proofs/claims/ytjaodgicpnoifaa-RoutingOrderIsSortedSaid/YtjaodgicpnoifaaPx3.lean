/- Written by wip/tools/myprint.py (over the kit's print.py): Go functions of the law as plain Lean functions, each with the proof that the machine's call tells what it tells. -/
import Derived.Test.YtjaodgicpnoifaaPx0
import Derived.Test.YtjaodgicpnoifaaPx2
import Derived.Test.YtjaodgicpnoifaaHz
import Derived.Test.YtjaodgicpnoifaaSane
namespace Go.Proofs.Ytjaodgicpnoifaa.P
open Go.RowKit Go.Proofs.YtjaodgicpnoifaaW.PrintWords Go.Proofs.YtjaodgicpnoifaaW.PrintLast Go.Proofs.YtjaodgicpnoifaaW.PrintMore
attribute [local go_sem] max2_int min2_int max_two min_two max_three min_three max_four min_four   -- for this text's walks alone
set_option linter.unusedVariables false
set_option linter.unusedSimpArgs false

/-! ### crossbarlaw15_RoutingOrderIsSorted: function 8 -/
mutual
def crossbarlaw15_RoutingOrderIsSorted.j0 : Nat → List (S47) → Int → List Int → Bool → Option (Bool)
  | 0, _, _, _, _ => none
  | k + 1, x0, x1, x8, x10 => crossbarlaw15_RoutingOrderIsSorted.l0 k x0 x1 x8 x10 0
def crossbarlaw15_RoutingOrderIsSorted.l0 : Nat → List (S47) → Int → List Int → Bool → Int → Option (Bool)
  | 0, _, _, _, _, _ => none
  | k + 1, x0, x1, x8, x10, x11 => if x11 < (x0.length : Int) then (if 0 ≤ x11 then (if ((rd_T47 x0 x11).f0) = x1 then (if (x8.length : Int) = (((rd_T47 x0 x11).f1).length : Int) then (crossbarlaw15_RoutingOrderIsSorted.l1 k x0 x8 x10 x11 0 0) else (some false)) else (crossbarlaw15_RoutingOrderIsSorted.l0 k x0 x1 x8 x10 (wrap64 (x11 + 1)))) else (none)) else (some false)
def crossbarlaw15_RoutingOrderIsSorted.l1 : Nat → List (S47) → List Int → Bool → Int → Int → Int → Option (Bool)
  | 0, _, _, _, _, _, _ => none
  | k + 1, x0, x8, x10, x11, x12, x13 => if x13 < (x8.length : Int) then (crossbarlaw15_RoutingOrderIsSorted.l2 k x0 x8 x10 x11 x12 x13 (-1) 0) else (some true)
def crossbarlaw15_RoutingOrderIsSorted.l2 : Nat → List (S47) → List Int → Bool → Int → Int → Int → Int → Int → Option (Bool)
  | 0, _, _, _, _, _, _, _, _ => none
  | k + 1, x0, x8, x10, x11, x12, x13, x14, x15 => if 0 ≤ x11 then (if x11 < (x0.length : Int) then (if x15 < (((rd_T47 x0 x11).f1).length : Int) then (if 0 ≤ x15 then (if 0 ≤ x13 then (if x13 < (x8.length : Int) then (if ((rd_T49 ((rd_T47 x0 x11).f1) x15).f0) = (rd x8 x13) then (crossbarlaw15_RoutingOrderIsSorted.j4 k x0 x8 x10 x11 x12 x13 x14 x15 x10 ((rd_T49 ((rd_T47 x0 x11).f1) x15).f0) ((rd_T49 ((rd_T47 x0 x11).f1) x15).f1) ((rd_T49 ((rd_T47 x0 x11).f1) x15).f2)) else (crossbarlaw15_RoutingOrderIsSorted.j4 k x0 x8 x10 x11 x12 x13 x14 x15 false ((rd_T49 ((rd_T47 x0 x11).f1) x15).f0) ((rd_T49 ((rd_T47 x0 x11).f1) x15).f1) ((rd_T49 ((rd_T47 x0 x11).f1) x15).f2))) else (none)) else (none)) else (none)) else (if x14 < x12 then (some false) else (if 0 ≤ x13 then (if x13 ≤ (x8.length : Int) then (if x13 < (x8.length : Int) then ((crossbarlaw15_has.f k (x8.take (x13 : Int).toNat) (rd x8 x13)).bind fun t122 => (if t122 = true then (some false) else (crossbarlaw15_RoutingOrderIsSorted.l1 k x0 x8 x10 x11 x14 (wrap64 (x13 + 1))))) else (none)) else (none)) else (none)))) else (none)) else (none)
def crossbarlaw15_RoutingOrderIsSorted.j4 : Nat → List (S47) → List Int → Bool → Int → Int → Int → Int → Int → Bool → Int → Int → Int → Option (Bool)
  | 0, _, _, _, _, _, _, _, _, _, _, _, _ => none
  | k + 1, x0, x8, x10, x11, x12, x13, x14, x15, x96, x126000, x126001, x126002 => if x96 = true then (if 0 ≤ x13 then (if x13 < (x8.length : Int) then (if x126000 = (rd x8 x13) then (if x10 = true then (crossbarlaw15_RoutingOrderIsSorted.l2 k x0 x8 x10 x11 x12 x13 x126001 (wrap64 (x15 + 1))) else (crossbarlaw15_RoutingOrderIsSorted.l2 k x0 x8 x10 x11 x12 x13 x126002 (wrap64 (x15 + 1)))) else (crossbarlaw15_RoutingOrderIsSorted.l2 k x0 x8 x10 x11 x12 x13 x126001 (wrap64 (x15 + 1)))) else (none)) else (none)) else (if 0 ≤ x13 then (if x13 < (x8.length : Int) then (if x126000 = (rd x8 x13) then (if x10 = true then (crossbarlaw15_RoutingOrderIsSorted.l2 k x0 x8 x10 x11 x12 x13 x14 (wrap64 (x15 + 1))) else (crossbarlaw15_RoutingOrderIsSorted.l2 k x0 x8 x10 x11 x12 x13 x126002 (wrap64 (x15 + 1)))) else (crossbarlaw15_RoutingOrderIsSorted.l2 k x0 x8 x10 x11 x12 x13 x14 (wrap64 (x15 + 1)))) else (none)) else (none))
end
def crossbarlaw15_RoutingOrderIsSorted.f (k : Nat) (l0 : List (S47)) (a1 : Int) (a2 : Int) : Option (Bool) := (crossbarlaw15_sane.f).bind fun t108 => (if t108 = true then ((crossbarref15_Few.f k l0).bind fun t109 => (if t109 = true then ((routing_Order.f l0 a1 a2).bind fun bt110 => (if bt110.2 = 0 then (if a2 ≥ 28800 then (crossbarlaw15_RoutingOrderIsSorted.j0 k l0 a1 bt110.1 (decide (a2 < 72000))) else (crossbarlaw15_RoutingOrderIsSorted.j0 k l0 a1 bt110.1 false)) else (some ((bt110.1.length : Int) == 0)))) else (some true))) else (some false))
theorem crossbarlaw15_RoutingOrderIsSorted.mono_l : ∀ k, (∀ y0 y1 y2 y3, LeO (crossbarlaw15_RoutingOrderIsSorted.j0 k y0 y1 y2 y3) (crossbarlaw15_RoutingOrderIsSorted.j0 (k + 1) y0 y1 y2 y3)) ∧ (∀ y0 y1 y2 y3 y4, LeO (crossbarlaw15_RoutingOrderIsSorted.l0 k y0 y1 y2 y3 y4) (crossbarlaw15_RoutingOrderIsSorted.l0 (k + 1) y0 y1 y2 y3 y4)) ∧ (∀ y0 y1 y2 y3 y4 y5, LeO (crossbarlaw15_RoutingOrderIsSorted.l1 k y0 y1 y2 y3 y4 y5) (crossbarlaw15_RoutingOrderIsSorted.l1 (k + 1) y0 y1 y2 y3 y4 y5)) ∧ (∀ y0 y1 y2 y3 y4 y5 y6 y7, LeO (crossbarlaw15_RoutingOrderIsSorted.l2 k y0 y1 y2 y3 y4 y5 y6 y7) (crossbarlaw15_RoutingOrderIsSorted.l2 (k + 1) y0 y1 y2 y3 y4 y5 y6 y7)) ∧ (∀ y0 y1 y2 y3 y4 y5 y6 y7 y8 y9 y10 y11, LeO (crossbarlaw15_RoutingOrderIsSorted.j4 k y0 y1 y2 y3 y4 y5 y6 y7 y8 y9 y10 y11) (crossbarlaw15_RoutingOrderIsSorted.j4 (k + 1) y0 y1 y2 y3 y4 y5 y6 y7 y8 y9 y10 y11))
  | 0 => ⟨fun _ _ _ _ r h => by simp [crossbarlaw15_RoutingOrderIsSorted.j0] at h, fun _ _ _ _ _ r h => by simp [crossbarlaw15_RoutingOrderIsSorted.l0] at h, fun _ _ _ _ _ _ r h => by simp [crossbarlaw15_RoutingOrderIsSorted.l1] at h, fun _ _ _ _ _ _ _ _ r h => by simp [crossbarlaw15_RoutingOrderIsSorted.l2] at h, fun _ _ _ _ _ _ _ _ _ _ _ _ r h => by simp [crossbarlaw15_RoutingOrderIsSorted.j4] at h⟩
  | k + 1 => by
    obtain ⟨ih0, ih1, ih2, ih3, ih4⟩ := crossbarlaw15_RoutingOrderIsSorted.mono_l k
    refine ⟨?_, ?_, ?_, ?_, ?_⟩
    · intro y0 y1 y2 y3
      unfold crossbarlaw15_RoutingOrderIsSorted.j0
      repeat' first
      | (with_reducible exact ih0 _ _ _ _)
      | (with_reducible exact ih1 _ _ _ _ _)
      | (with_reducible exact ih2 _ _ _ _ _ _)
      | (with_reducible exact ih3 _ _ _ _ _ _ _ _)
      | (with_reducible exact ih4 _ _ _ _ _ _ _ _ _ _ _ _)
      | (with_reducible exact crossbarlaw15_has.mono _ _ _)
      | (with_reducible exact crossbarref15_Few.mono _ _)
      | (with_reducible exact LeO.refl _)
      | (with_reducible exact LeO.none _)
      | (with_reducible refine LeO.ite ?_ ?_)
      | (with_reducible refine LeO.bind ?_ (fun _ => ?_))
      | exact ih0 _ _ _ _
      | exact ih1 _ _ _ _ _
      | exact ih2 _ _ _ _ _ _
      | exact ih3 _ _ _ _ _ _ _ _
      | exact ih4 _ _ _ _ _ _ _ _ _ _ _ _
      | exact crossbarlaw15_has.mono _ _ _
      | exact crossbarref15_Few.mono _ _
      | exact LeO.none _
      | refine LeO.ite ?_ ?_
      | refine LeO.bind ?_ (fun _ => ?_)
    · intro y0 y1 y2 y3 y4
      unfold crossbarlaw15_RoutingOrderIsSorted.l0
      repeat' first
      | (with_reducible exact ih0 _ _ _ _)
      | (with_reducible exact ih1 _ _ _ _ _)
      | (with_reducible exact ih2 _ _ _ _ _ _)
      | (with_reducible exact ih3 _ _ _ _ _ _ _ _)
      | (with_reducible exact ih4 _ _ _ _ _ _ _ _ _ _ _ _)
      | (with_reducible exact crossbarlaw15_has.mono _ _ _)
      | (with_reducible exact crossbarref15_Few.mono _ _)
      | (with_reducible exact LeO.refl _)
      | (with_reducible exact LeO.none _)
      | (with_reducible refine LeO.ite ?_ ?_)
      | (with_reducible refine LeO.bind ?_ (fun _ => ?_))
      | exact ih0 _ _ _ _
      | exact ih1 _ _ _ _ _
      | exact ih2 _ _ _ _ _ _
      | exact ih3 _ _ _ _ _ _ _ _
      | exact ih4 _ _ _ _ _ _ _ _ _ _ _ _
      | exact crossbarlaw15_has.mono _ _ _
      | exact crossbarref15_Few.mono _ _
      | exact LeO.none _
      | refine LeO.ite ?_ ?_
      | refine LeO.bind ?_ (fun _ => ?_)
    · intro y0 y1 y2 y3 y4 y5
      unfold crossbarlaw15_RoutingOrderIsSorted.l1
      repeat' first
      | (with_reducible exact ih0 _ _ _ _)
      | (with_reducible exact ih1 _ _ _ _ _)
      | (with_reducible exact ih2 _ _ _ _ _ _)
      | (with_reducible exact ih3 _ _ _ _ _ _ _ _)
      | (with_reducible exact ih4 _ _ _ _ _ _ _ _ _ _ _ _)
      | (with_reducible exact crossbarlaw15_has.mono _ _ _)
      | (with_reducible exact crossbarref15_Few.mono _ _)
      | (with_reducible exact LeO.refl _)
      | (with_reducible exact LeO.none _)
      | (with_reducible refine LeO.ite ?_ ?_)
      | (with_reducible refine LeO.bind ?_ (fun _ => ?_))
      | exact ih0 _ _ _ _
      | exact ih1 _ _ _ _ _
      | exact ih2 _ _ _ _ _ _
      | exact ih3 _ _ _ _ _ _ _ _
      | exact ih4 _ _ _ _ _ _ _ _ _ _ _ _
      | exact crossbarlaw15_has.mono _ _ _
      | exact crossbarref15_Few.mono _ _
      | exact LeO.none _
      | refine LeO.ite ?_ ?_
      | refine LeO.bind ?_ (fun _ => ?_)
    · intro y0 y1 y2 y3 y4 y5 y6 y7
      unfold crossbarlaw15_RoutingOrderIsSorted.l2
      repeat' first
      | (with_reducible exact ih0 _ _ _ _)
      | (with_reducible exact ih1 _ _ _ _ _)
      | (with_reducible exact ih2 _ _ _ _ _ _)
      | (with_reducible exact ih3 _ _ _ _ _ _ _ _)
      | (with_reducible exact ih4 _ _ _ _ _ _ _ _ _ _ _ _)
      | (with_reducible exact crossbarlaw15_has.mono _ _ _)
      | (with_reducible exact crossbarref15_Few.mono _ _)
      | (with_reducible exact LeO.refl _)
      | (with_reducible exact LeO.none _)
      | (with_reducible refine LeO.ite ?_ ?_)
      | (with_reducible refine LeO.bind ?_ (fun _ => ?_))
      | exact ih0 _ _ _ _
      | exact ih1 _ _ _ _ _
      | exact ih2 _ _ _ _ _ _
      | exact ih3 _ _ _ _ _ _ _ _
      | exact ih4 _ _ _ _ _ _ _ _ _ _ _ _
      | exact crossbarlaw15_has.mono _ _ _
      | exact crossbarref15_Few.mono _ _
      | exact LeO.none _
      | refine LeO.ite ?_ ?_
      | refine LeO.bind ?_ (fun _ => ?_)
    · intro y0 y1 y2 y3 y4 y5 y6 y7 y8 y9 y10 y11
      unfold crossbarlaw15_RoutingOrderIsSorted.j4
      repeat' first
      | (with_reducible exact ih0 _ _ _ _)
      | (with_reducible exact ih1 _ _ _ _ _)
      | (with_reducible exact ih2 _ _ _ _ _ _)
      | (with_reducible exact ih3 _ _ _ _ _ _ _ _)
      | (with_reducible exact ih4 _ _ _ _ _ _ _ _ _ _ _ _)
      | (with_reducible exact crossbarlaw15_has.mono _ _ _)
      | (with_reducible exact crossbarref15_Few.mono _ _)
      | (with_reducible exact LeO.refl _)
      | (with_reducible exact LeO.none _)
      | (with_reducible refine LeO.ite ?_ ?_)
      | (with_reducible refine LeO.bind ?_ (fun _ => ?_))
      | exact ih0 _ _ _ _
      | exact ih1 _ _ _ _ _
      | exact ih2 _ _ _ _ _ _
      | exact ih3 _ _ _ _ _ _ _ _
      | exact ih4 _ _ _ _ _ _ _ _ _ _ _ _
      | exact crossbarlaw15_has.mono _ _ _
      | exact crossbarref15_Few.mono _ _
      | exact LeO.none _
      | refine LeO.ite ?_ ?_
      | refine LeO.bind ?_ (fun _ => ?_)
theorem crossbarlaw15_RoutingOrderIsSorted.mono : ∀ a0 a1 a2 k, LeO (crossbarlaw15_RoutingOrderIsSorted.f k a0 a1 a2) (crossbarlaw15_RoutingOrderIsSorted.f (k + 1) a0 a1 a2) := by
  intro a0 a1 a2 k
  obtain ⟨ih0, ih1, ih2, ih3, ih4⟩ := crossbarlaw15_RoutingOrderIsSorted.mono_l k
  unfold crossbarlaw15_RoutingOrderIsSorted.f
  repeat' first
      | (with_reducible exact ih0 _ _ _ _)
      | (with_reducible exact ih1 _ _ _ _ _)
      | (with_reducible exact ih2 _ _ _ _ _ _)
      | (with_reducible exact ih3 _ _ _ _ _ _ _ _)
      | (with_reducible exact ih4 _ _ _ _ _ _ _ _ _ _ _ _)
      | (with_reducible exact crossbarlaw15_has.mono _ _ _)
      | (with_reducible exact crossbarref15_Few.mono _ _)
      | (with_reducible exact LeO.refl _)
      | (with_reducible exact LeO.none _)
      | (with_reducible refine LeO.ite ?_ ?_)
      | (with_reducible refine LeO.bind ?_ (fun _ => ?_))
      | exact ih0 _ _ _ _
      | exact ih1 _ _ _ _ _
      | exact ih2 _ _ _ _ _ _
      | exact ih3 _ _ _ _ _ _ _ _
      | exact ih4 _ _ _ _ _ _ _ _ _ _ _ _
      | exact crossbarlaw15_has.mono _ _ _
      | exact crossbarref15_Few.mono _ _
      | exact LeO.none _
      | refine LeO.ite ?_ ?_
      | refine LeO.bind ?_ (fun _ => ?_)
set_option maxHeartbeats 8000000 in
set_option maxRecDepth 100000 in
theorem crossbarlaw15_RoutingOrderIsSorted.calls (k : Nat) (A0 : Option Addr) (c0 : Nat) (l0 : List (S47)) (a1 : Int) (a2 : Int) (r : Bool) (w : World) (hr0 : Kd.C k47 w A0 l0.length l0) (hc0 : l0.length ≤ c0) (h : crossbarlaw15_RoutingOrderIsSorted.f k l0 a1 a2 = some r) :
    Calls Try.prog 8 #[.slice A0 l0.length c0, .int .i64 a1, .int .i64 a2] w fun e w' => e = .returned (.bool r) ∧ Below w.heap.size w w' := by
  have hu49 := Try.underlying49
  have HR0 := Aside0.mk hr0
  have HC0 := Aside0.mk hc0
  clear hr0 hc0
  have HB := Aside0.mk (Below.refl w.heap.size w)
  have H : ((crossbarlaw15_sane.f).bind fun t108 => (if t108 = true then ((crossbarref15_Few.f k l0).bind fun t109 => (if t109 = true then ((routing_Order.f l0 a1 a2).bind fun bt110 => (if bt110.2 = 0 then (if a2 ≥ 28800 then (crossbarlaw15_RoutingOrderIsSorted.j0 k l0 a1 bt110.1 (decide (a2 < 72000))) else (crossbarlaw15_RoutingOrderIsSorted.j0 k l0 a1 bt110.1 false)) else (some ((bt110.1.length : Int) == 0)))) else (some true))) else (some false))) = some r := h
  clear h
  replace H := Option.bind_eq_some_iff.mp H
  obtain ⟨t108, A40, H⟩ := H
  replace H : (if t108 = true then ((crossbarref15_Few.f k l0).bind fun t109 => (if t109 = true then ((routing_Order.f l0 a1 a2).bind fun bt110 => (if bt110.2 = 0 then (if a2 ≥ 28800 then (crossbarlaw15_RoutingOrderIsSorted.j0 k l0 a1 bt110.1 (decide (a2 < 72000))) else (crossbarlaw15_RoutingOrderIsSorted.j0 k l0 a1 bt110.1 false)) else (some ((bt110.1.length : Int) == 0)))) else (some true))) else (some false)) = some r := H
  have A4 := Aside0.mk A40
  clear A40
  by_cases c5 : t108 = true
  · subst c5
    have H1 : ((crossbarref15_Few.f k l0).bind fun t109 => (if t109 = true then ((routing_Order.f l0 a1 a2).bind fun bt110 => (if bt110.2 = 0 then (if a2 ≥ 28800 then (crossbarlaw15_RoutingOrderIsSorted.j0 k l0 a1 bt110.1 (decide (a2 < 72000))) else (crossbarlaw15_RoutingOrderIsSorted.j0 k l0 a1 bt110.1 false)) else (some ((bt110.1.length : Int) == 0)))) else (some true))) = some r := by rw [if_pos rfl] at H; exact H
    clear H
    have H := H1
    clear H1
    replace H := Option.bind_eq_some_iff.mp H
    obtain ⟨t109, A60, H⟩ := H
    replace H : (if t109 = true then ((routing_Order.f l0 a1 a2).bind fun bt110 => (if bt110.2 = 0 then (if a2 ≥ 28800 then (crossbarlaw15_RoutingOrderIsSorted.j0 k l0 a1 bt110.1 (decide (a2 < 72000))) else (crossbarlaw15_RoutingOrderIsSorted.j0 k l0 a1 bt110.1 false)) else (some ((bt110.1.length : Int) == 0)))) else (some true)) = some r := H
    have A6 := Aside0.mk A60
    clear A60
    by_cases c7 : t109 = true
    · subst c7
      have H1 : ((routing_Order.f l0 a1 a2).bind fun bt110 => (if bt110.2 = 0 then (if a2 ≥ 28800 then (crossbarlaw15_RoutingOrderIsSorted.j0 k l0 a1 bt110.1 (decide (a2 < 72000))) else (crossbarlaw15_RoutingOrderIsSorted.j0 k l0 a1 bt110.1 false)) else (some ((bt110.1.length : Int) == 0)))) = some r := by rw [if_pos rfl] at H; exact H
      clear H
      have H := H1
      clear H1
      replace H := Option.bind_eq_some_iff.mp H
      obtain ⟨⟨t110, t111⟩, A80, H⟩ := H
      replace H : (if t111 = 0 then (if a2 ≥ 28800 then (crossbarlaw15_RoutingOrderIsSorted.j0 k l0 a1 t110 (decide (a2 < 72000))) else (crossbarlaw15_RoutingOrderIsSorted.j0 k l0 a1 t110 false)) else (some ((t110.length : Int) == 0))) = some r := H
      have A8 := Aside0.mk A80
      clear A80
      by_cases c9 : t111 = 0
      · rw [if_pos c9] at H
        have c9b0 : (t111 == 0) = true := beq_iff_eq.mpr c9
        have c9b1 : (t111 != 0) = false := bne_eq_false_iff_eq.mpr c9
        clear c9
        have HC10 := Aside0.mk H
        clear H
        go_enter Try.func8, Try.ntmps8
        go_upto_region 9 with (first | (go_at_call 10; (with_reducible refine (crossbarlaw15_sane.calls  true _ A4.out).mono ?_); rintro e w11 ⟨rfl, hb⟩; have n0_ := Aside0.mk (below_step (by repeat (first | (with_reducible first | exact HB.out | apply below_alloc | apply pw_below_drewN | apply below_drew1) | exact HB.out)) hb); clear HB; have HB := n0_; clear n0_; (try clear hb); (try clear hb2); (try clear hk); (try clear hi)) | (go_at_call 12; (with_reducible refine (crossbarref15_Few.calls k _ _ l0 true _ ?side1 ?side2 A6.out).mono ?_); (case side1 => repeat (first | exact (Kd.C_below HR0.out HB.out) | (with_reducible refine Kd.C_alloc ?_ _) | (with_reducible refine Kd.C_drewN ?_ _) | (with_reducible refine Kd.C_drew ?_))); (case side2 => exact HC0.out); rintro e w' ⟨rfl, ⟨nd, rfl⟩⟩; (try first | exact ⟨rfl, _, World.drewN_drewN _ _ _⟩ | exact ⟨rfl, _, Eq.trans (World.drewN_drewN _ _ _) (congrArg (World.drewN _) (Nat.add_assoc _ _ _))⟩)) | (go_at_call 21; (with_reducible refine (routing_Order.calls _ _ l0 a1 a2 t110 t111 _ ?side1 ?side2 A8.out).mono ?_); (case side1 => repeat (first | exact (Kd.C_below HR0.out (by repeat (first | (with_reducible first | exact HB.out | apply below_alloc | apply pw_below_drewN | apply below_drew1) | exact HB.out))) | (with_reducible refine Kd.C_alloc ?_ _) | (with_reducible refine Kd.C_drewN ?_ _) | (with_reducible refine Kd.C_drew ?_))); (case side2 => exact HC0.out); rintro e w12 ⟨v112, rfl, ho0, hb⟩; have n0_ := Aside0.mk (Kd.R_lower ho0 (below_size (by repeat (first | (with_reducible first | exact HB.out | apply below_alloc | apply pw_below_drewN | apply below_drew1) | exact HB.out)))); have n1_ := Aside0.mk (below_step (by repeat (first | (with_reducible first | exact HB.out | apply below_alloc | apply pw_below_drewN | apply below_drew1) | exact HB.out)) hb); clear HB; have HO113 := n0_; have HB := n1_; clear n0_ n1_; (try clear hb); (try clear hb2); (try clear hk); (try clear hi); (try clear ho0)))
        repeat (go_quiet (first | (go_at_call 10; (with_reducible refine (crossbarlaw15_sane.calls  true _ A4.out).mono ?_); rintro e w11 ⟨rfl, hb⟩; have n0_ := Aside0.mk (below_step (by repeat (first | (with_reducible first | exact HB.out | apply below_alloc | apply pw_below_drewN | apply below_drew1) | exact HB.out)) hb); clear HB; have HB := n0_; clear n0_; (try clear hb); (try clear hb2); (try clear hk); (try clear hi)) | (go_at_call 12; (with_reducible refine (crossbarref15_Few.calls k _ _ l0 true _ ?side1 ?side2 A6.out).mono ?_); (case side1 => repeat (first | exact (Kd.C_below HR0.out HB.out) | (with_reducible refine Kd.C_alloc ?_ _) | (with_reducible refine Kd.C_drewN ?_ _) | (with_reducible refine Kd.C_drew ?_))); (case side2 => exact HC0.out); rintro e w' ⟨rfl, ⟨nd, rfl⟩⟩; (try first | exact ⟨rfl, _, World.drewN_drewN _ _ _⟩ | exact ⟨rfl, _, Eq.trans (World.drewN_drewN _ _ _) (congrArg (World.drewN _) (Nat.add_assoc _ _ _))⟩)) | (go_at_call 21; (with_reducible refine (routing_Order.calls _ _ l0 a1 a2 t110 t111 _ ?side1 ?side2 A8.out).mono ?_); (case side1 => repeat (first | exact (Kd.C_below HR0.out (by repeat (first | (with_reducible first | exact HB.out | apply below_alloc | apply pw_below_drewN | apply below_drew1) | exact HB.out))) | (with_reducible refine Kd.C_alloc ?_ _) | (with_reducible refine Kd.C_drewN ?_ _) | (with_reducible refine Kd.C_drew ?_))); (case side2 => exact HC0.out); rintro e w12 ⟨v112, rfl, ho0, hb⟩; have n0_ := Aside0.mk (Kd.R_lower ho0 (below_size (by repeat (first | (with_reducible first | exact HB.out | apply below_alloc | apply pw_below_drewN | apply below_drew1) | exact HB.out)))); have n1_ := Aside0.mk (below_step (by repeat (first | (with_reducible first | exact HB.out | apply below_alloc | apply pw_below_drewN | apply below_drew1) | exact HB.out)) hb); clear HB; have HO113 := n0_; have HB := n1_; clear n0_ n1_; (try clear hb); (try clear hb2); (try clear hk); (try clear hi); (try clear ho0))); go_upto_region 9 with (first | (go_at_call 10; (with_reducible refine (crossbarlaw15_sane.calls  true _ A4.out).mono ?_); rintro e w11 ⟨rfl, hb⟩; have n0_ := Aside0.mk (below_step (by repeat (first | (with_reducible first | exact HB.out | apply below_alloc | apply pw_below_drewN | apply below_drew1) | exact HB.out)) hb); clear HB; have HB := n0_; clear n0_; (try clear hb); (try clear hb2); (try clear hk); (try clear hi)) | (go_at_call 12; (with_reducible refine (crossbarref15_Few.calls k _ _ l0 true _ ?side1 ?side2 A6.out).mono ?_); (case side1 => repeat (first | exact (Kd.C_below HR0.out HB.out) | (with_reducible refine Kd.C_alloc ?_ _) | (with_reducible refine Kd.C_drewN ?_ _) | (with_reducible refine Kd.C_drew ?_))); (case side2 => exact HC0.out); rintro e w' ⟨rfl, ⟨nd, rfl⟩⟩; (try first | exact ⟨rfl, _, World.drewN_drewN _ _ _⟩ | exact ⟨rfl, _, Eq.trans (World.drewN_drewN _ _ _) (congrArg (World.drewN _) (Nat.add_assoc _ _ _))⟩)) | (go_at_call 21; (with_reducible refine (routing_Order.calls _ _ l0 a1 a2 t110 t111 _ ?side1 ?side2 A8.out).mono ?_); (case side1 => repeat (first | exact (Kd.C_below HR0.out (by repeat (first | (with_reducible first | exact HB.out | apply below_alloc | apply pw_below_drewN | apply below_drew1) | exact HB.out))) | (with_reducible refine Kd.C_alloc ?_ _) | (with_reducible refine Kd.C_drewN ?_ _) | (with_reducible refine Kd.C_drew ?_))); (case side2 => exact HC0.out); rintro e w12 ⟨v112, rfl, ho0, hb⟩; have n0_ := Aside0.mk (Kd.R_lower ho0 (below_size (by repeat (first | (with_reducible first | exact HB.out | apply below_alloc | apply pw_below_drewN | apply below_drew1) | exact HB.out)))); have n1_ := Aside0.mk (below_step (by repeat (first | (with_reducible first | exact HB.out | apply below_alloc | apply pw_below_drewN | apply below_drew1) | exact HB.out)) hb); clear HB; have HO113 := n0_; have HB := n1_; clear n0_ n1_; (try clear hb); (try clear hb2); (try clear hk); (try clear hi); (try clear ho0))))
        (try simp only [Act.put, List.setIfInBounds_toArray, List.set_cons_zero, List.set_cons_succ])
        go_cut [10] (fun v10 wc => ∃ (kq : Nat) (x10_9 : Bool), v10 = .bool x10_9 ∧ Aside0 (crossbarlaw15_RoutingOrderIsSorted.j0 kq l0 a1 t110 x10_9 = some r) ∧ Aside0 (kq ≤ k) ∧ Aside0 (Kd.R (Kd.int .i64) 3 wc w.heap.size (fun _ => True) v112 t110) ∧ Aside0 (Below w.heap.size w wc))
        case first =>
          have H := HC10.out
          clear HC10
          by_cases c13 : a2 ≥ 28800
          · rw [if_pos c13] at H
            have c13b0 : decide (28800 ≤ a2) = true := decide_eq_true c13
            clear c13
            (first | rw [c13b0] | (simp only [i64_w, i32_w]; rw [c13b0]) | skip)
            have H' := Aside0.mk H
            clear H
            go_wp2
            repeat (go_quiet (fail); try go_wp2)
            go_meet
            case rel => exact ⟨_, (decide (a2 < 72000)), (by first | rfl | (simp; done) | (simp [*]; done)), H', ⟨by first | omega | exact Nat.le_refl _⟩, ⟨by (with_reducible repeat (first | apply Kd.R_alloc | apply Kd.R_drewN | apply Kd.R_drew)); exact HO113.out⟩, ⟨by repeat (first | (with_reducible first | exact HB.out | apply below_alloc | apply pw_below_drewN | apply below_drew1) | exact HB.out)⟩⟩
          · rw [if_neg c13] at H
            have c13b0 : decide (28800 ≤ a2) = false := decide_eq_false c13
            clear c13
            (first | rw [c13b0] | (simp only [i64_w, i32_w]; rw [c13b0]) | skip)
            have H' := Aside0.mk H
            clear H
            go_wp2
            repeat (go_quiet (fail); try go_wp2)
            go_meet
            case rel => exact ⟨_, (false), (by first | rfl | (simp; done) | (simp [*]; done)), H', ⟨by first | omega | exact Nat.le_refl _⟩, ⟨by (with_reducible repeat (first | apply Kd.R_alloc | apply Kd.R_drewN | apply Kd.R_drew)); exact HO113.out⟩, ⟨by repeat (first | (with_reducible first | exact HB.out | apply below_alloc | apply pw_below_drewN | apply below_drew1) | exact HB.out)⟩⟩
        case rest =>
          clear HC10
          try clear c1
          try clear p2
          try clear c5
          try clear c7
          try clear c8
          try clear c9
          try clear c9b0
          try clear c9b1
          try clear c13
          try clear c13b0
          obtain ⟨kq, x10_9, rfl, HA, HJ9, HO_8, HB⟩ := hcut
          cases kq with
          | zero => exact absurd HA.out (by simp [crossbarlaw15_RoutingOrderIsSorted.j0])
          | succ kj9 =>
            have H := HA.out
            clear HA
            simp only [crossbarlaw15_RoutingOrderIsSorted.j0] at H
            have H' := Aside0.mk H
            clear H
            go_wp2
            repeat (go_quiet (fail); try go_wp2)
            go_loopg [11] kj9 (fun kq v11 w' => ∃ (x11_2 : Int), v11 = .int .i64 x11_2 ∧ Aside0 (crossbarlaw15_RoutingOrderIsSorted.l0 kq l0 a1 t110 x10_9 x11_2 = some r) ∧ Aside0 (kq ≤ kj9) ∧ Aside0 (Kd.R (Kd.int .i64) 3 w' w.heap.size (fun _ => True) v112 t110) ∧ Aside0 (Below w.heap.size w w'))
            case atStart => exact ⟨(0), (by first | rfl | (simp; done) | (simp [*]; done)), H', ⟨Nat.le_refl _⟩, ⟨by (with_reducible repeat (first | apply Kd.R_alloc | apply Kd.R_drewN | apply Kd.R_drew)); exact HO_8.out⟩, ⟨by repeat (first | (with_reducible first | exact HB.out | apply below_alloc | apply pw_below_drewN | apply below_drew1) | exact HB.out)⟩⟩
            case round =>
              clear H'
              try clear c1
              try clear p2
              try clear c5
              try clear c7
              try clear c8
              try clear c9
              try clear c9b0
              try clear c9b1
              try clear c13
              try clear c13b0
              try clear p2
              obtain ⟨x11_2, rfl, HA, HK2, HO_8, HB⟩ := hrel
              cases gk with
              | zero => exact absurd HA.out (by simp [crossbarlaw15_RoutingOrderIsSorted.l0])
              | succ k2 =>
                have H := HA.out
                clear HA
                simp only [crossbarlaw15_RoutingOrderIsSorted.l0] at H
                by_cases c14 : x11_2 < (l0.length : Int)
                · rw [if_pos c14] at H
                  have c14b0 : decide (x11_2 < (l0.length : Int)) = true := decide_eq_true c14
                  clear c14
                  by_cases c15 : 0 ≤ x11_2
                  · rw [if_pos c15] at H
                    have c15b0 : decide (0 ≤ x11_2) = true := decide_eq_true c15
                    clear c15
                    by_cases c16 : ((rd_T47 l0 x11_2).f0) = a1
                    · rw [if_pos c16] at H
                      have c16b0 : (((rd_T47 l0 x11_2).f0) == a1) = true := beq_iff_eq.mpr c16
                      have c16b1 : (((rd_T47 l0 x11_2).f0) != a1) = false := bne_eq_false_iff_eq.mpr c16
                      clear c16
                      by_cases c17 : (t110.length : Int) = (((rd_T47 l0 x11_2).f1).length : Int)
                      · rw [if_pos c17] at H
                        have c17b0 : ((t110.length : Int) == (((rd_T47 l0 x11_2).f1).length : Int)) = true := beq_iff_eq.mpr c17
                        have c17b1 : ((t110.length : Int) != (((rd_T47 l0 x11_2).f1).length : Int)) = false := bne_eq_false_iff_eq.mpr c17
                        have c17b2 : (t110.length == ((rd_T47 l0 x11_2).f1).length) = true := by first | simpa using c17 | (simp at c17 ⊢; omega)
                        clear c17
                        have H' := Aside0.mk H
                        clear H
                        have p114 : 0 ≤ (x11_2 : Int) := of_decide_eq_true (by first | (with_reducible assumption) | assumption)
                        have q114 : x11_2 < (l0.length : Int) := of_decide_eq_true (by first | (with_reducible assumption) | assumption)
                        obtain ⟨ad114, A114_1, c114_1, e114, hx114_0, hx114_1, hl114_1, hi114_1⟩ := at_T47 HR0.out x11_2 p114 q114
                        cases e114
                        replace hx114_0 := (HB.out.cell (World.block_lt_of_cell? w _ hx114_0)).trans hx114_0
                        replace hx114_1 := (HB.out.cell (World.block_lt_of_cell? w _ hx114_1)).trans hx114_1
                        have HR114_1 := Aside0.mk hi114_1
                        have HC114_1 := Aside0.mk hl114_1
                        clear hi114_1 hl114_1
                        replace p114 := eq_true p114
                        replace q114 := eq_true q114
                        obtain ⟨Ao18, co18, eo18⟩ := Kd.R_slice HO_8.out
                        subst eo18
                        have p115 : 0 ≤ (x11_2 : Int) := of_decide_eq_true (by first | (with_reducible assumption) | assumption)
                        have q115 : x11_2 < (l0.length : Int) := of_decide_eq_true (by first | (with_reducible assumption) | assumption)
                        obtain ⟨ad115, A115_1, c115_1, e115, hx115_0, hx115_1, hl115_1, hi115_1⟩ := at_T47 HR0.out x11_2 p115 q115
                        obtain rfl : ad114 = ad115 := (by injection e115)
                        replace hx115_0 := (HB.out.cell (World.block_lt_of_cell? w _ hx115_0)).trans hx115_0
                        replace hx115_1 := (HB.out.cell (World.block_lt_of_cell? w _ hx115_1)).trans hx115_1
                        have HR115_1 := Aside0.mk hi115_1
                        have HC115_1 := Aside0.mk hl115_1
                        clear hi115_1 hl115_1
                        replace p115 := eq_true p115
                        replace q115 := eq_true q115
                        have ea_ := Option.some.inj (hx114_1.symm.trans hx115_1)
                        injection ea_ with ea_ en_ ec_
                        subst ea_
                        subst ec_
                        clear en_
                        go_wp2
                        repeat (go_quiet (fail); try go_wp2)
                        go_loopg [12, 13] k2 (fun kq v12 v13 w' => ∃ (x12_3 : Int) (x13_3 : Int), v12 = .int .i64 x12_3 ∧ v13 = .int .i64 x13_3 ∧ Aside0 (crossbarlaw15_RoutingOrderIsSorted.l1 kq l0 t110 x10_9 x11_2 x12_3 x13_3 = some r) ∧ Aside0 (kq ≤ k2) ∧ Aside0 (Kd.R (Kd.int .i64) 3 w' w.heap.size (fun _ => True) (.slice Ao18 t110.length co18) t110) ∧ Aside0 (Below w.heap.size w w'))
                        case atStart => exact ⟨(0), (0), (by first | rfl | (simp; done) | (simp [*]; done)), (by first | rfl | (simp; done) | (simp [*]; done)), H', ⟨Nat.le_refl _⟩, ⟨by (with_reducible repeat (first | apply Kd.R_alloc | apply Kd.R_drewN | apply Kd.R_drew)); exact HO_8.out⟩, ⟨by repeat (first | (with_reducible first | exact HB.out | apply below_alloc | apply pw_below_drewN | apply below_drew1) | exact HB.out)⟩⟩
                        case round =>
                          clear H'
                          try clear c1
                          try clear p1
                          try clear q1
                          try clear hx1
                          try clear p2
                          try clear c5
                          try clear c7
                          try clear c8
                          try clear c9
                          try clear c9b0
                          try clear c9b1
                          try clear c11
                          try clear p11
                          try clear q11
                          try clear hx11
                          try clear c13
                          try clear c13b0
                          try clear c14
                          try clear c14b0
                          try clear c15
                          try clear c15b0
                          try clear c16
                          try clear c16b0
                          try clear c16b1
                          try clear c17
                          try clear c17b0
                          try clear c17b1
                          try clear c17b2
                          try clear hx114_0
                          try clear hx114_1
                          try clear hx115_0
                          try clear hx115_1
                          try clear p114
                          try clear p115
                          try clear p2
                          try clear q114
                          try clear q115
                          obtain ⟨x12_3, x13_3, rfl, rfl, HA, HK3, HO_8, HB⟩ := hrel
                          cases gk with
                          | zero => exact absurd HA.out (by simp [crossbarlaw15_RoutingOrderIsSorted.l1])
                          | succ k3 =>
                            have H := HA.out
                            clear HA
                            simp only [crossbarlaw15_RoutingOrderIsSorted.l1] at H
                            by_cases c19 : x13_3 < (t110.length : Int)
                            · rw [if_pos c19] at H
                              have c19b0 : decide (x13_3 < (t110.length : Int)) = true := decide_eq_true c19
                              clear c19
                              have H' := Aside0.mk H
                              clear H
                              go_wp2
                              repeat (go_quiet (fail); try go_wp2)
                              go_loopg [14, 15] k3 (fun kq v14 v15 w' => ∃ (x14_4 : Int) (x15_4 : Int), v14 = .int .i64 x14_4 ∧ v15 = .int .i64 x15_4 ∧ Aside0 (crossbarlaw15_RoutingOrderIsSorted.l2 kq l0 t110 x10_9 x11_2 x12_3 x13_3 x14_4 x15_4 = some r) ∧ Aside0 (kq ≤ k3) ∧ Aside0 (Kd.R (Kd.int .i64) 3 w' w.heap.size (fun _ => True) (.slice Ao18 t110.length co18) t110) ∧ Aside0 (Below w.heap.size w w'))
                              case atStart => exact ⟨((-1)), (0), (by first | rfl | (simp; done) | (simp [*]; done)), (by first | rfl | (simp; done) | (simp [*]; done)), H', ⟨Nat.le_refl _⟩, ⟨by (with_reducible repeat (first | apply Kd.R_alloc | apply Kd.R_drewN | apply Kd.R_drew)); exact HO_8.out⟩, ⟨by repeat (first | (with_reducible first | exact HB.out | apply below_alloc | apply pw_below_drewN | apply below_drew1) | exact HB.out)⟩⟩
                              case round =>
                                clear H'
                                try clear c1
                                try clear p1
                                try clear q1
                                try clear hx1
                                try clear p2
                                try clear c5
                                try clear c7
                                try clear c8
                                try clear c9
                                try clear c9b0
                                try clear c9b1
                                try clear c11
                                try clear p11
                                try clear q11
                                try clear hx11
                                try clear c13
                                try clear c13b0
                                try clear c14
                                try clear c14b0
                                try clear c15
                                try clear c15b0
                                try clear c16
                                try clear c16b0
                                try clear c16b1
                                try clear c17
                                try clear c17b0
                                try clear c17b1
                                try clear c17b2
                                try clear c19
                                try clear c19b0
                                try clear hx114_0
                                try clear hx114_1
                                try clear hx115_0
                                try clear hx115_1
                                try clear p1
                                try clear p11
                                try clear p114
                                try clear p115
                                try clear p2
                                try clear q1
                                try clear q11
                                try clear q114
                                try clear q115
                                obtain ⟨x14_4, x15_4, rfl, rfl, HA, HK4, HO_8, HB⟩ := hrel
                                cases gk with
                                | zero => exact absurd HA.out (by simp [crossbarlaw15_RoutingOrderIsSorted.l2])
                                | succ k4 =>
                                  have H := HA.out
                                  clear HA
                                  simp only [crossbarlaw15_RoutingOrderIsSorted.l2] at H
                                  by_cases c20 : 0 ≤ x11_2
                                  · rw [if_pos c20] at H
                                    have c20b0 : decide (0 ≤ x11_2) = true := decide_eq_true c20
                                    clear c20
                                    by_cases c21 : x11_2 < (l0.length : Int)
                                    · rw [if_pos c21] at H
                                      have c21b0 : decide (x11_2 < (l0.length : Int)) = true := decide_eq_true c21
                                      clear c21
                                      by_cases c22 : x15_4 < (((rd_T47 l0 x11_2).f1).length : Int)
                                      · rw [if_pos c22] at H
                                        have c22b0 : decide (x15_4 < (((rd_T47 l0 x11_2).f1).length : Int)) = true := decide_eq_true c22
                                        clear c22
                                        by_cases c23 : 0 ≤ x15_4
                                        · rw [if_pos c23] at H
                                          have c23b0 : decide (0 ≤ x15_4) = true := decide_eq_true c23
                                          clear c23
                                          have HC24 := Aside0.mk H
                                          clear H
                                          have p116 : 0 ≤ (x11_2 : Int) := of_decide_eq_true (by first | (with_reducible assumption) | assumption)
                                          have q116 : x11_2 < (l0.length : Int) := of_decide_eq_true (by first | (with_reducible assumption) | assumption)
                                          obtain ⟨ad116, A116_1, c116_1, e116, hx116_0, hx116_1, hl116_1, hi116_1⟩ := at_T47 HR0.out x11_2 p116 q116
                                          obtain rfl : ad114 = ad116 := (by injection e116)
                                          replace hx116_0 := (HB.out.cell (World.block_lt_of_cell? w _ hx116_0)).trans hx116_0
                                          replace hx116_1 := (HB.out.cell (World.block_lt_of_cell? w _ hx116_1)).trans hx116_1
                                          have HR116_1 := Aside0.mk hi116_1
                                          have HC116_1 := Aside0.mk hl116_1
                                          clear hi116_1 hl116_1
                                          replace p116 := eq_true p116
                                          replace q116 := eq_true q116
                                          have p123 : 0 ≤ (x11_2 : Int) := of_decide_eq_true (by first | (with_reducible assumption) | assumption)
                                          have q123 : x11_2 < (l0.length : Int) := of_decide_eq_true (by first | (with_reducible assumption) | assumption)
                                          obtain ⟨ad123, A123_1, c123_1, e123, hx123_0, hx123_1, hl123_1, hi123_1⟩ := at_T47 HR0.out x11_2 p123 q123
                                          obtain rfl : ad114 = ad123 := (by injection e123)
                                          replace hx123_0 := (HB.out.cell (World.block_lt_of_cell? w _ hx123_0)).trans hx123_0
                                          replace hx123_1 := (HB.out.cell (World.block_lt_of_cell? w _ hx123_1)).trans hx123_1
                                          have HR123_1 := Aside0.mk hi123_1
                                          have HC123_1 := Aside0.mk hl123_1
                                          clear hi123_1 hl123_1
                                          replace p123 := eq_true p123
                                          replace q123 := eq_true q123
                                          have ea_ := Option.some.inj (hx116_1.symm.trans hx123_1)
                                          injection ea_ with ea_ en_ ec_
                                          subst ea_
                                          subst ec_
                                          clear en_
                                          have p124 : 0 ≤ (x15_4 : Int) := of_decide_eq_true (by first | (with_reducible assumption) | assumption)
                                          have q124 : x15_4 < (((rd_T47 l0 x11_2).f1).length : Int) := of_decide_eq_true (by first | (with_reducible assumption) | assumption)
                                          obtain ⟨ad124, e124, hx124_0, hx124_1, hx124_2⟩ := at_T49 HR123_1.out x15_4 p124 q124
                                          cases e124
                                          replace hx124_0 := (HB.out.cell (World.block_lt_of_cell? w _ hx124_0)).trans hx124_0
                                          replace hx124_1 := (HB.out.cell (World.block_lt_of_cell? w _ hx124_1)).trans hx124_1
                                          replace hx124_2 := (HB.out.cell (World.block_lt_of_cell? w _ hx124_2)).trans hx124_2
                                          replace p124 := eq_true p124
                                          replace q124 := eq_true q124
                                          go_upto_region 25 with (first | ((with_reducible refine gate_dst (N := 16) rfl ?_); refine box_event ?hg (N := 16) ?hd (cs := #[.int .i64 0, .int .i64 0, .int .i64 0]) (t := 49) ?hr ?_; (case hd => rfl); (case hg => rfl); (case hr => first | (go_simp; done) | (go_simp; rfl)); intro gb125 hg w25 hbox hb; have n0_ := Aside0.mk (Kd.R_below (by (with_reducible repeat (first | apply Kd.R_alloc | apply Kd.R_drewN | apply Kd.R_drew)); exact HO_8.out) hb); have n1_ := Aside0.mk (below_step (by repeat (first | (with_reducible first | exact HB.out | apply below_alloc | apply pw_below_drewN | apply below_drew1) | exact HB.out)) hb); have n2_ := Aside0.mk (hbox); have n3_ := Aside0.mk ((by rw [hg]; exact (below_size (by repeat (first | (with_reducible first | exact HB.out | apply below_alloc | apply pw_below_drewN | apply below_drew1) | exact HB.out))) : w.heap.size ≤ gb125)); have n4_ := Aside0.mk ((by rw [hg]; exact (below_size (by repeat (first | (with_reducible first | exact HB.out | apply below_alloc | apply pw_below_drewN | apply below_drew1) | exact HB.out))) : w.heap.size ≤ gb125)); clear HO_8; clear HB; have HO_8 := n0_; have HB := n1_; have BK125 := n2_; have GW125 := n3_; have GE125 := n4_; clear n0_ n1_ n2_ n3_ n4_; clear hb hbox hg; have hcz26_0 : w25.cell? ⟨gb125, 0, none⟩ = some (.int .i64 0) := (blk_cell BK125.out 0).trans rfl; have hcz26_1 : w25.cell? ⟨gb125, 1, none⟩ = some (.int .i64 0) := (blk_cell BK125.out 1).trans rfl; have hcz26_2 : w25.cell? ⟨gb125, 2, none⟩ = some (.int .i64 0) := (blk_cell BK125.out 2).trans rfl; have hfz26_0 := blk_frozen BK125.out 0; have hfz26_1 := blk_frozen BK125.out 1; have hfz26_2 := blk_frozen BK125.out 2))
                                          repeat (go_quiet (first | ((with_reducible refine gate_dst (N := 16) rfl ?_); refine box_event ?hg (N := 16) ?hd (cs := #[.int .i64 0, .int .i64 0, .int .i64 0]) (t := 49) ?hr ?_; (case hd => rfl); (case hg => rfl); (case hr => first | (go_simp; done) | (go_simp; rfl)); intro gb125 hg w25 hbox hb; have n0_ := Aside0.mk (Kd.R_below (by (with_reducible repeat (first | apply Kd.R_alloc | apply Kd.R_drewN | apply Kd.R_drew)); exact HO_8.out) hb); have n1_ := Aside0.mk (below_step (by repeat (first | (with_reducible first | exact HB.out | apply below_alloc | apply pw_below_drewN | apply below_drew1) | exact HB.out)) hb); have n2_ := Aside0.mk (hbox); have n3_ := Aside0.mk ((by rw [hg]; exact (below_size (by repeat (first | (with_reducible first | exact HB.out | apply below_alloc | apply pw_below_drewN | apply below_drew1) | exact HB.out))) : w.heap.size ≤ gb125)); have n4_ := Aside0.mk ((by rw [hg]; exact (below_size (by repeat (first | (with_reducible first | exact HB.out | apply below_alloc | apply pw_below_drewN | apply below_drew1) | exact HB.out))) : w.heap.size ≤ gb125)); clear HO_8; clear HB; have HO_8 := n0_; have HB := n1_; have BK125 := n2_; have GW125 := n3_; have GE125 := n4_; clear n0_ n1_ n2_ n3_ n4_; clear hb hbox hg; have hcz26_0 : w25.cell? ⟨gb125, 0, none⟩ = some (.int .i64 0) := (blk_cell BK125.out 0).trans rfl; have hcz26_1 : w25.cell? ⟨gb125, 1, none⟩ = some (.int .i64 0) := (blk_cell BK125.out 1).trans rfl; have hcz26_2 : w25.cell? ⟨gb125, 2, none⟩ = some (.int .i64 0) := (blk_cell BK125.out 2).trans rfl; have hfz26_0 := blk_frozen BK125.out 0; have hfz26_1 := blk_frozen BK125.out 1; have hfz26_2 := blk_frozen BK125.out 2)); go_upto_region 25 with (first | ((with_reducible refine gate_dst (N := 16) rfl ?_); refine box_event ?hg (N := 16) ?hd (cs := #[.int .i64 0, .int .i64 0, .int .i64 0]) (t := 49) ?hr ?_; (case hd => rfl); (case hg => rfl); (case hr => first | (go_simp; done) | (go_simp; rfl)); intro gb125 hg w25 hbox hb; have n0_ := Aside0.mk (Kd.R_below (by (with_reducible repeat (first | apply Kd.R_alloc | apply Kd.R_drewN | apply Kd.R_drew)); exact HO_8.out) hb); have n1_ := Aside0.mk (below_step (by repeat (first | (with_reducible first | exact HB.out | apply below_alloc | apply pw_below_drewN | apply below_drew1) | exact HB.out)) hb); have n2_ := Aside0.mk (hbox); have n3_ := Aside0.mk ((by rw [hg]; exact (below_size (by repeat (first | (with_reducible first | exact HB.out | apply below_alloc | apply pw_below_drewN | apply below_drew1) | exact HB.out))) : w.heap.size ≤ gb125)); have n4_ := Aside0.mk ((by rw [hg]; exact (below_size (by repeat (first | (with_reducible first | exact HB.out | apply below_alloc | apply pw_below_drewN | apply below_drew1) | exact HB.out))) : w.heap.size ≤ gb125)); clear HO_8; clear HB; have HO_8 := n0_; have HB := n1_; have BK125 := n2_; have GW125 := n3_; have GE125 := n4_; clear n0_ n1_ n2_ n3_ n4_; clear hb hbox hg; have hcz26_0 : w25.cell? ⟨gb125, 0, none⟩ = some (.int .i64 0) := (blk_cell BK125.out 0).trans rfl; have hcz26_1 : w25.cell? ⟨gb125, 1, none⟩ = some (.int .i64 0) := (blk_cell BK125.out 1).trans rfl; have hcz26_2 : w25.cell? ⟨gb125, 2, none⟩ = some (.int .i64 0) := (blk_cell BK125.out 2).trans rfl; have hfz26_0 := blk_frozen BK125.out 0; have hfz26_1 := blk_frozen BK125.out 1; have hfz26_2 := blk_frozen BK125.out 2)))
                                          (try simp only [Act.put, List.setIfInBounds_toArray, List.set_cons_zero, List.set_cons_succ])
                                          go_cut [96] (fun v96 wc => ∃ (kq : Nat) (x96_23 : Bool), v96 = .bool x96_23 ∧ Aside0 (crossbarlaw15_RoutingOrderIsSorted.j4 kq l0 t110 x10_9 x11_2 x12_3 x13_3 x14_4 x15_4 x96_23 ((rd_T49 ((rd_T47 l0 x11_2).f1) x15_4).f0) ((rd_T49 ((rd_T47 l0 x11_2).f1) x15_4).f1) ((rd_T49 ((rd_T47 l0 x11_2).f1) x15_4).f2) = some r) ∧ Aside0 (kq ≤ k4) ∧ Aside0 (Kd.R (Kd.int .i64) 3 wc w.heap.size (fun _ => True) (.slice Ao18 t110.length co18) t110) ∧ Aside0 (wc.heap[gb125]? = some (.cells #[.int .i64 ((rd_T49 ((rd_T47 l0 x11_2).f1) x15_4).f0), .int .i64 ((rd_T49 ((rd_T47 l0 x11_2).f1) x15_4).f1), .int .i64 ((rd_T49 ((rd_T47 l0 x11_2).f1) x15_4).f2)] 49 (0, 0))) ∧ Aside0 (Below w.heap.size w wc))
                                          case first =>
                                            have H := HC24.out
                                            clear HC24
                                            by_cases c27 : 0 ≤ x13_3
                                            · rw [if_pos c27] at H
                                              have c27b0 : decide (0 ≤ x13_3) = true := decide_eq_true c27
                                              clear c27
                                              (first | rw [c27b0] | (simp only [i64_w, i32_w]; rw [c27b0]) | skip)
                                              by_cases c28 : x13_3 < (t110.length : Int)
                                              · rw [if_pos c28] at H
                                                have c28b0 : decide (x13_3 < (t110.length : Int)) = true := decide_eq_true c28
                                                clear c28
                                                by_cases c29 : ((rd_T49 ((rd_T47 l0 x11_2).f1) x15_4).f0) = (rd t110 x13_3)
                                                · rw [if_pos c29] at H
                                                  have c29b0 : (((rd_T49 ((rd_T47 l0 x11_2).f1) x15_4).f0) == (rd t110 x13_3)) = true := beq_iff_eq.mpr c29
                                                  have c29b1 : (((rd_T49 ((rd_T47 l0 x11_2).f1) x15_4).f0) != (rd t110 x13_3)) = false := bne_eq_false_iff_eq.mpr c29
                                                  clear c29
                                                  have H' := Aside0.mk H
                                                  clear H
                                                  have hcz30_0 : w25.cell? ⟨gb125, 0, none⟩ = some (.int .i64 0) := (blk_cell BK125.out 0).trans rfl
                                                  have hcz30_1 : w25.cell? ⟨gb125, 1, none⟩ = some (.int .i64 0) := (blk_cell BK125.out 1).trans rfl
                                                  have hcz30_2 : w25.cell? ⟨gb125, 2, none⟩ = some (.int .i64 0) := (blk_cell BK125.out 2).trans rfl
                                                  have hfz30_0 := blk_frozen BK125.out 0
                                                  have hfz30_1 := blk_frozen BK125.out 1
                                                  have hfz30_2 := blk_frozen BK125.out 2
                                                  have p126 : 0 ≤ (x13_3 : Int) := of_decide_eq_true (by first | (with_reducible assumption) | assumption)
                                                  have q126 : x13_3 < (t110.length : Int) := of_decide_eq_true (by first | (with_reducible assumption) | assumption)
                                                  obtain ⟨ad126, e126, hx126_0⟩ := Kd.at_int (Kd.R_reads' HO_8.out).2.2 x13_3 p126 q126
                                                  cases e126
                                                  have hn126_0 : ad126.block ≠ gb125 := Kd.own_blk (Kd.R_ne HO_8.out BK125.out (by decide))
                                                  have hn126_1 : ad126.block ≠ gb125 := Kd.own_blk (Kd.R_ne HO_8.out BK125.out (by decide))
                                                  have hn126_2 : ad126.block ≠ gb125 := Kd.own_blk (Kd.R_ne HO_8.out BK125.out (by decide))
                                                  replace hx126_0 := (cell_far (p := ⟨gb125, 0, none⟩) (by first | (rw [add_block]; exact hn126_0) | (show (Addr.add _ _).block ≠ _; rw [add_block]; exact hn126_0) | exact hn126_0) (.int .i64 ((rd_T49 ((rd_T47 l0 x11_2).f1) x15_4).f0))).trans hx126_0
                                                  replace hx126_0 := (cell_far (p := ⟨gb125, 1, none⟩) (by first | (rw [add_block]; exact hn126_1) | (show (Addr.add _ _).block ≠ _; rw [add_block]; exact hn126_1) | exact hn126_1) (.int .i64 ((rd_T49 ((rd_T47 l0 x11_2).f1) x15_4).f1))).trans hx126_0
                                                  replace hx126_0 := (cell_far (p := ⟨gb125, 2, none⟩) (by first | (rw [add_block]; exact hn126_2) | (show (Addr.add _ _).block ≠ _; rw [add_block]; exact hn126_2) | exact hn126_2) (.int .i64 ((rd_T49 ((rd_T47 l0 x11_2).f1) x15_4).f2))).trans hx126_0
                                                  (try have hy126_0 := fun (n_ : Nat) => (show (((((w25.drewN n_).setCell ⟨gb125, 0, none⟩ (.int .i64 ((rd_T49 ((rd_T47 l0 x11_2).f1) x15_4).f0))).setCell ⟨gb125, 1, none⟩ (.int .i64 ((rd_T49 ((rd_T47 l0 x11_2).f1) x15_4).f1))).setCell ⟨gb125, 2, none⟩ (.int .i64 ((rd_T49 ((rd_T47 l0 x11_2).f1) x15_4).f2)))).cell? _ = some _ from hx126_0))
                                                  clear hn126_0
                                                  clear hn126_1
                                                  clear hn126_2
                                                  replace p126 := eq_true p126
                                                  replace q126 := eq_true q126
                                                  go_wp2
                                                  repeat (go_quiet (fail); try go_wp2)
                                                  go_meet
                                                  case rel => exact ⟨_, (x10_9), (by first | rfl | (simp; done) | (simp [*]; done)), H', ⟨by have := HJ9.out; have := HK2.out; have := HK3.out; have := HK4.out; first | omega | exact Nat.le_refl _⟩, ⟨by (with_reducible repeat (first | apply Kd.R_alloc | apply Kd.R_drewN | apply Kd.R_drew)); exact Kd.R_mono (Kd.R_far (p := ⟨gb125, 2, none⟩) (Kd.R_far (p := ⟨gb125, 1, none⟩) (Kd.R_far (p := ⟨gb125, 0, none⟩) (Kd.R_types HO_8.out BK125.out (by decide)) (fun _ hk => hk.2) (.int .i64 ((rd_T49 ((rd_T47 l0 x11_2).f1) x15_4).f0))) (fun _ hk => hk.2) (.int .i64 ((rd_T49 ((rd_T47 l0 x11_2).f1) x15_4).f1))) (fun _ hk => hk.2) (.int .i64 ((rd_T49 ((rd_T47 l0 x11_2).f1) x15_4).f2))) (fun _ hk => trivial)⟩, ⟨by (with_reducible repeat (first | refine blk_drewN ?_ _ | refine blk_drew ?_ | refine blk_alloc ?_ _)); refine blk_put (cs := #[.int .i64 ((rd_T49 ((rd_T47 l0 x11_2).f1) x15_4).f0), .int .i64 ((rd_T49 ((rd_T47 l0 x11_2).f1) x15_4).f1), .int .i64 0]) ?_ 2 _ rfl; (with_reducible repeat (first | refine blk_drewN ?_ _ | refine blk_drew ?_ | refine blk_alloc ?_ _)); refine blk_put (cs := #[.int .i64 ((rd_T49 ((rd_T47 l0 x11_2).f1) x15_4).f0), .int .i64 0, .int .i64 0]) ?_ 1 _ rfl; (with_reducible repeat (first | refine blk_drewN ?_ _ | refine blk_drew ?_ | refine blk_alloc ?_ _)); refine blk_put (cs := #[.int .i64 0, .int .i64 0, .int .i64 0]) ?_ 0 _ rfl; (with_reducible repeat (first | refine blk_drewN ?_ _ | refine blk_drew ?_ | refine blk_alloc ?_ _)); exact BK125.out⟩, ⟨by repeat (first | (with_reducible first | exact HB.out | apply below_alloc | apply pw_below_drewN | apply below_drew1 | refine below_set ?_ GE125.out) | exact HB.out)⟩⟩
                                                · rw [if_neg c29] at H
                                                  have c29b0 : (((rd_T49 ((rd_T47 l0 x11_2).f1) x15_4).f0) == (rd t110 x13_3)) = false := beq_eq_false_iff_ne.mpr c29
                                                  have c29b1 : (((rd_T49 ((rd_T47 l0 x11_2).f1) x15_4).f0) != (rd t110 x13_3)) = true := bne_iff_ne.mpr c29
                                                  have H' := Aside0.mk H
                                                  clear H
                                                  have hcz31_0 : w25.cell? ⟨gb125, 0, none⟩ = some (.int .i64 0) := (blk_cell BK125.out 0).trans rfl
                                                  have hcz31_1 : w25.cell? ⟨gb125, 1, none⟩ = some (.int .i64 0) := (blk_cell BK125.out 1).trans rfl
                                                  have hcz31_2 : w25.cell? ⟨gb125, 2, none⟩ = some (.int .i64 0) := (blk_cell BK125.out 2).trans rfl
                                                  have hfz31_0 := blk_frozen BK125.out 0
                                                  have hfz31_1 := blk_frozen BK125.out 1
                                                  have hfz31_2 := blk_frozen BK125.out 2
                                                  have p126 : 0 ≤ (x13_3 : Int) := of_decide_eq_true (by first | (with_reducible assumption) | assumption)
                                                  have q126 : x13_3 < (t110.length : Int) := of_decide_eq_true (by first | (with_reducible assumption) | assumption)
                                                  obtain ⟨ad126, e126, hx126_0⟩ := Kd.at_int (Kd.R_reads' HO_8.out).2.2 x13_3 p126 q126
                                                  cases e126
                                                  have hn126_0 : ad126.block ≠ gb125 := Kd.own_blk (Kd.R_ne HO_8.out BK125.out (by decide))
                                                  have hn126_1 : ad126.block ≠ gb125 := Kd.own_blk (Kd.R_ne HO_8.out BK125.out (by decide))
                                                  have hn126_2 : ad126.block ≠ gb125 := Kd.own_blk (Kd.R_ne HO_8.out BK125.out (by decide))
                                                  replace hx126_0 := (cell_far (p := ⟨gb125, 0, none⟩) (by first | (rw [add_block]; exact hn126_0) | (show (Addr.add _ _).block ≠ _; rw [add_block]; exact hn126_0) | exact hn126_0) (.int .i64 ((rd_T49 ((rd_T47 l0 x11_2).f1) x15_4).f0))).trans hx126_0
                                                  replace hx126_0 := (cell_far (p := ⟨gb125, 1, none⟩) (by first | (rw [add_block]; exact hn126_1) | (show (Addr.add _ _).block ≠ _; rw [add_block]; exact hn126_1) | exact hn126_1) (.int .i64 ((rd_T49 ((rd_T47 l0 x11_2).f1) x15_4).f1))).trans hx126_0
                                                  replace hx126_0 := (cell_far (p := ⟨gb125, 2, none⟩) (by first | (rw [add_block]; exact hn126_2) | (show (Addr.add _ _).block ≠ _; rw [add_block]; exact hn126_2) | exact hn126_2) (.int .i64 ((rd_T49 ((rd_T47 l0 x11_2).f1) x15_4).f2))).trans hx126_0
                                                  (try have hy126_0 := fun (n_ : Nat) => (show (((((w25.drewN n_).setCell ⟨gb125, 0, none⟩ (.int .i64 ((rd_T49 ((rd_T47 l0 x11_2).f1) x15_4).f0))).setCell ⟨gb125, 1, none⟩ (.int .i64 ((rd_T49 ((rd_T47 l0 x11_2).f1) x15_4).f1))).setCell ⟨gb125, 2, none⟩ (.int .i64 ((rd_T49 ((rd_T47 l0 x11_2).f1) x15_4).f2)))).cell? _ = some _ from hx126_0))
                                                  clear hn126_0
                                                  clear hn126_1
                                                  clear hn126_2
                                                  replace p126 := eq_true p126
                                                  replace q126 := eq_true q126
                                                  go_wp2
                                                  repeat (go_quiet (fail); try go_wp2)
                                                  go_meet
                                                  case rel => exact ⟨_, (false), (by first | rfl | (simp; done) | (simp [*]; done)), H', ⟨by have := HJ9.out; have := HK2.out; have := HK3.out; have := HK4.out; first | omega | exact Nat.le_refl _⟩, ⟨by (with_reducible repeat (first | apply Kd.R_alloc | apply Kd.R_drewN | apply Kd.R_drew)); exact Kd.R_mono (Kd.R_far (p := ⟨gb125, 2, none⟩) (Kd.R_far (p := ⟨gb125, 1, none⟩) (Kd.R_far (p := ⟨gb125, 0, none⟩) (Kd.R_types HO_8.out BK125.out (by decide)) (fun _ hk => hk.2) (.int .i64 ((rd_T49 ((rd_T47 l0 x11_2).f1) x15_4).f0))) (fun _ hk => hk.2) (.int .i64 ((rd_T49 ((rd_T47 l0 x11_2).f1) x15_4).f1))) (fun _ hk => hk.2) (.int .i64 ((rd_T49 ((rd_T47 l0 x11_2).f1) x15_4).f2))) (fun _ hk => trivial)⟩, ⟨by (with_reducible repeat (first | refine blk_drewN ?_ _ | refine blk_drew ?_ | refine blk_alloc ?_ _)); refine blk_put (cs := #[.int .i64 ((rd_T49 ((rd_T47 l0 x11_2).f1) x15_4).f0), .int .i64 ((rd_T49 ((rd_T47 l0 x11_2).f1) x15_4).f1), .int .i64 0]) ?_ 2 _ rfl; (with_reducible repeat (first | refine blk_drewN ?_ _ | refine blk_drew ?_ | refine blk_alloc ?_ _)); refine blk_put (cs := #[.int .i64 ((rd_T49 ((rd_T47 l0 x11_2).f1) x15_4).f0), .int .i64 0, .int .i64 0]) ?_ 1 _ rfl; (with_reducible repeat (first | refine blk_drewN ?_ _ | refine blk_drew ?_ | refine blk_alloc ?_ _)); refine blk_put (cs := #[.int .i64 0, .int .i64 0, .int .i64 0]) ?_ 0 _ rfl; (with_reducible repeat (first | refine blk_drewN ?_ _ | refine blk_drew ?_ | refine blk_alloc ?_ _)); exact BK125.out⟩, ⟨by repeat (first | (with_reducible first | exact HB.out | apply below_alloc | apply pw_below_drewN | apply below_drew1 | refine below_set ?_ GE125.out) | exact HB.out)⟩⟩
                                              · rw [if_neg c28] at H
                                                exact absurd H (by simp)
                                            · rw [if_neg c27] at H
                                              exact absurd H (by simp)
                                          case rest =>
                                            clear HC24
                                            try clear c1
                                            try clear p1
                                            try clear q1
                                            try clear hx1
                                            try clear c2
                                            try clear p2
                                            try clear c5
                                            try clear c7
                                            try clear c8
                                            try clear c9
                                            try clear c9b0
                                            try clear c9b1
                                            try clear c11
                                            try clear p11
                                            try clear q11
                                            try clear hx11
                                            try clear c12
                                            try clear p12
                                            try clear q12
                                            try clear hx12
                                            try clear c13
                                            try clear c13b0
                                            try clear c14
                                            try clear c14b0
                                            try clear c15
                                            try clear c15b0
                                            try clear c16
                                            try clear c16b0
                                            try clear c16b1
                                            try clear c17
                                            try clear c17b0
                                            try clear c17b1
                                            try clear c17b2
                                            try clear c19
                                            try clear c19b0
                                            try clear c20
                                            try clear c20b0
                                            try clear c21
                                            try clear c21b0
                                            try clear c22
                                            try clear c22b0
                                            try clear c23
                                            try clear c23b0
                                            try clear c27
                                            try clear c27b0
                                            try clear c28
                                            try clear c28b0
                                            try clear c29
                                            try clear c29b0
                                            try clear c29b1
                                            try clear hcz26_0
                                            try clear hcz26_1
                                            try clear hcz26_2
                                            try clear hcz30_0
                                            try clear hcz30_1
                                            try clear hcz30_2
                                            try clear hcz31_0
                                            try clear hcz31_1
                                            try clear hcz31_2
                                            try clear hfz26_0
                                            try clear hfz26_1
                                            try clear hfz26_2
                                            try clear hfz30_0
                                            try clear hfz30_1
                                            try clear hfz30_2
                                            try clear hfz31_0
                                            try clear hfz31_1
                                            try clear hfz31_2
                                            try clear hx114_0
                                            try clear hx114_1
                                            try clear hx115_0
                                            try clear hx115_1
                                            try clear hx116_0
                                            try clear hx116_1
                                            try clear hx123_0
                                            try clear hx123_1
                                            try clear hx124_0
                                            try clear hx124_1
                                            try clear hx124_2
                                            try clear hx126_0
                                            try clear p1
                                            try clear p11
                                            try clear p114
                                            try clear p115
                                            try clear p116
                                            try clear p123
                                            try clear p124
                                            try clear p126
                                            try clear p2
                                            try clear q1
                                            try clear q11
                                            try clear q114
                                            try clear q115
                                            try clear q116
                                            try clear q123
                                            try clear q124
                                            try clear q126
                                            obtain ⟨kq, x96_23, rfl, HA, HJ23, HO_8, BK125, HB⟩ := hcut
                                            cases kq with
                                            | zero => exact absurd HA.out (by simp [crossbarlaw15_RoutingOrderIsSorted.j4])
                                            | succ kj23 =>
                                              have H := HA.out
                                              clear HA
                                              simp only [crossbarlaw15_RoutingOrderIsSorted.j4] at H
                                              by_cases c32 : x96_23 = true
                                              · subst c32
                                                have H1 : (if 0 ≤ x13_3 then (if x13_3 < (t110.length : Int) then (if ((rd_T49 ((rd_T47 l0 x11_2).f1) x15_4).f0) = (rd t110 x13_3) then (if x10_9 = true then (crossbarlaw15_RoutingOrderIsSorted.l2 kj23 l0 t110 x10_9 x11_2 x12_3 x13_3 ((rd_T49 ((rd_T47 l0 x11_2).f1) x15_4).f1) (wrap64 (x15_4 + 1))) else (crossbarlaw15_RoutingOrderIsSorted.l2 kj23 l0 t110 x10_9 x11_2 x12_3 x13_3 ((rd_T49 ((rd_T47 l0 x11_2).f1) x15_4).f2) (wrap64 (x15_4 + 1)))) else (crossbarlaw15_RoutingOrderIsSorted.l2 kj23 l0 t110 x10_9 x11_2 x12_3 x13_3 ((rd_T49 ((rd_T47 l0 x11_2).f1) x15_4).f1) (wrap64 (x15_4 + 1)))) else (none)) else (none)) = some r := by rw [if_pos rfl] at H; exact H
                                                clear H
                                                have H := H1
                                                clear H1
                                                by_cases c33 : 0 ≤ x13_3
                                                · rw [if_pos c33] at H
                                                  have c33b0 : decide (0 ≤ x13_3) = true := decide_eq_true c33
                                                  clear c33
                                                  by_cases c34 : x13_3 < (t110.length : Int)
                                                  · rw [if_pos c34] at H
                                                    have c34b0 : decide (x13_3 < (t110.length : Int)) = true := decide_eq_true c34
                                                    clear c34
                                                    by_cases c35 : ((rd_T49 ((rd_T47 l0 x11_2).f1) x15_4).f0) = (rd t110 x13_3)
                                                    · rw [if_pos c35] at H
                                                      have c35b0 : (((rd_T49 ((rd_T47 l0 x11_2).f1) x15_4).f0) == (rd t110 x13_3)) = true := beq_iff_eq.mpr c35
                                                      have c35b1 : (((rd_T49 ((rd_T47 l0 x11_2).f1) x15_4).f0) != (rd t110 x13_3)) = false := bne_eq_false_iff_eq.mpr c35
                                                      clear c35
                                                      by_cases c36 : x10_9 = true
                                                      · subst c36
                                                        have H1 : (crossbarlaw15_RoutingOrderIsSorted.l2 kj23 l0 t110 true x11_2 x12_3 x13_3 ((rd_T49 ((rd_T47 l0 x11_2).f1) x15_4).f1) (wrap64 (x15_4 + 1))) = some r := by rw [if_pos rfl] at H; exact H
                                                        clear H
                                                        have H := H1
                                                        clear H1
                                                        have H' := Aside0.mk H
                                                        clear H
                                                        have hcz37_0 : wc.cell? ⟨gb125, 0, none⟩ = some (.int .i64 ((rd_T49 ((rd_T47 l0 x11_2).f1) x15_4).f0)) := (blk_cell BK125.out 0).trans rfl
                                                        have hcz37_1 : wc.cell? ⟨gb125, 1, none⟩ = some (.int .i64 ((rd_T49 ((rd_T47 l0 x11_2).f1) x15_4).f1)) := (blk_cell BK125.out 1).trans rfl
                                                        have hcz37_2 : wc.cell? ⟨gb125, 2, none⟩ = some (.int .i64 ((rd_T49 ((rd_T47 l0 x11_2).f1) x15_4).f2)) := (blk_cell BK125.out 2).trans rfl
                                                        have hfz37_0 := blk_frozen BK125.out 0
                                                        have hfz37_1 := blk_frozen BK125.out 1
                                                        have hfz37_2 := blk_frozen BK125.out 2
                                                        have p127 : 0 ≤ (x13_3 : Int) := of_decide_eq_true (by first | (with_reducible assumption) | assumption)
                                                        have q127 : x13_3 < (t110.length : Int) := of_decide_eq_true (by first | (with_reducible assumption) | assumption)
                                                        obtain ⟨ad127, e127, hx127_0⟩ := Kd.at_int (Kd.R_reads' HO_8.out).2.2 x13_3 p127 q127
                                                        cases e127
                                                        replace p127 := eq_true p127
                                                        replace q127 := eq_true q127
                                                        go_wp2
                                                        repeat (go_quiet (fail); try go_wp2)
                                                        go_roundg kj23
                                                        case measure => have := HJ9.out; have := HK2.out; have := HK3.out; have := HK4.out; have := HJ23.out; omega
                                                        case rel => exact ⟨(((rd_T49 ((rd_T47 l0 x11_2).f1) x15_4).f1)), (wrap64 (x15_4 + 1)), (by first | rfl | (simp; done) | (simp [*]; done)), (by first | rfl | (simp; done) | (simp [*]; done)), H', ⟨by have := HJ9.out; have := HK2.out; have := HK3.out; have := HK4.out; have := HJ23.out; omega⟩, ⟨by (with_reducible repeat (first | apply Kd.R_alloc | apply Kd.R_drewN | apply Kd.R_drew)); exact HO_8.out⟩, ⟨by repeat (first | (with_reducible first | exact HB.out | apply below_alloc | apply pw_below_drewN | apply below_drew1 | refine below_set ?_ GE125.out) | exact HB.out)⟩⟩
                                                      · replace c36 := Bool.eq_false_iff.mpr c36
                                                        subst c36
                                                        have H1 : (crossbarlaw15_RoutingOrderIsSorted.l2 kj23 l0 t110 false x11_2 x12_3 x13_3 ((rd_T49 ((rd_T47 l0 x11_2).f1) x15_4).f2) (wrap64 (x15_4 + 1))) = some r := by rw [if_neg (show ¬ (false = true) by decide)] at H; exact H
                                                        clear H
                                                        have H := H1
                                                        clear H1
                                                        have H' := Aside0.mk H
                                                        clear H
                                                        have hcz38_0 : wc.cell? ⟨gb125, 0, none⟩ = some (.int .i64 ((rd_T49 ((rd_T47 l0 x11_2).f1) x15_4).f0)) := (blk_cell BK125.out 0).trans rfl
                                                        have hcz38_1 : wc.cell? ⟨gb125, 1, none⟩ = some (.int .i64 ((rd_T49 ((rd_T47 l0 x11_2).f1) x15_4).f1)) := (blk_cell BK125.out 1).trans rfl
                                                        have hcz38_2 : wc.cell? ⟨gb125, 2, none⟩ = some (.int .i64 ((rd_T49 ((rd_T47 l0 x11_2).f1) x15_4).f2)) := (blk_cell BK125.out 2).trans rfl
                                                        have hfz38_0 := blk_frozen BK125.out 0
                                                        have hfz38_1 := blk_frozen BK125.out 1
                                                        have hfz38_2 := blk_frozen BK125.out 2
                                                        have p127 : 0 ≤ (x13_3 : Int) := of_decide_eq_true (by first | (with_reducible assumption) | assumption)
                                                        have q127 : x13_3 < (t110.length : Int) := of_decide_eq_true (by first | (with_reducible assumption) | assumption)
                                                        obtain ⟨ad127, e127, hx127_0⟩ := Kd.at_int (Kd.R_reads' HO_8.out).2.2 x13_3 p127 q127
                                                        cases e127
                                                        replace p127 := eq_true p127
                                                        replace q127 := eq_true q127
                                                        go_wp2
                                                        repeat (go_quiet (fail); try go_wp2)
                                                        go_roundg kj23
                                                        case measure => have := HJ9.out; have := HK2.out; have := HK3.out; have := HK4.out; have := HJ23.out; omega
                                                        case rel => exact ⟨(((rd_T49 ((rd_T47 l0 x11_2).f1) x15_4).f2)), (wrap64 (x15_4 + 1)), (by first | rfl | (simp; done) | (simp [*]; done)), (by first | rfl | (simp; done) | (simp [*]; done)), H', ⟨by have := HJ9.out; have := HK2.out; have := HK3.out; have := HK4.out; have := HJ23.out; omega⟩, ⟨by (with_reducible repeat (first | apply Kd.R_alloc | apply Kd.R_drewN | apply Kd.R_drew)); exact HO_8.out⟩, ⟨by repeat (first | (with_reducible first | exact HB.out | apply below_alloc | apply pw_below_drewN | apply below_drew1 | refine below_set ?_ GE125.out) | exact HB.out)⟩⟩
                                                    · rw [if_neg c35] at H
                                                      have c35b0 : (((rd_T49 ((rd_T47 l0 x11_2).f1) x15_4).f0) == (rd t110 x13_3)) = false := beq_eq_false_iff_ne.mpr c35
                                                      have c35b1 : (((rd_T49 ((rd_T47 l0 x11_2).f1) x15_4).f0) != (rd t110 x13_3)) = true := bne_iff_ne.mpr c35
                                                      have H' := Aside0.mk H
                                                      clear H
                                                      have hcz39_0 : wc.cell? ⟨gb125, 0, none⟩ = some (.int .i64 ((rd_T49 ((rd_T47 l0 x11_2).f1) x15_4).f0)) := (blk_cell BK125.out 0).trans rfl
                                                      have hcz39_1 : wc.cell? ⟨gb125, 1, none⟩ = some (.int .i64 ((rd_T49 ((rd_T47 l0 x11_2).f1) x15_4).f1)) := (blk_cell BK125.out 1).trans rfl
                                                      have hcz39_2 : wc.cell? ⟨gb125, 2, none⟩ = some (.int .i64 ((rd_T49 ((rd_T47 l0 x11_2).f1) x15_4).f2)) := (blk_cell BK125.out 2).trans rfl
                                                      have hfz39_0 := blk_frozen BK125.out 0
                                                      have hfz39_1 := blk_frozen BK125.out 1
                                                      have hfz39_2 := blk_frozen BK125.out 2
                                                      have p127 : 0 ≤ (x13_3 : Int) := of_decide_eq_true (by first | (with_reducible assumption) | assumption)
                                                      have q127 : x13_3 < (t110.length : Int) := of_decide_eq_true (by first | (with_reducible assumption) | assumption)
                                                      obtain ⟨ad127, e127, hx127_0⟩ := Kd.at_int (Kd.R_reads' HO_8.out).2.2 x13_3 p127 q127
                                                      cases e127
                                                      replace p127 := eq_true p127
                                                      replace q127 := eq_true q127
                                                      go_wp2
                                                      repeat (go_quiet (fail); try go_wp2)
                                                      go_roundg kj23
                                                      case measure => have := HJ9.out; have := HK2.out; have := HK3.out; have := HK4.out; have := HJ23.out; omega
                                                      case rel => exact ⟨(((rd_T49 ((rd_T47 l0 x11_2).f1) x15_4).f1)), (wrap64 (x15_4 + 1)), (by first | rfl | (simp; done) | (simp [*]; done)), (by first | rfl | (simp; done) | (simp [*]; done)), H', ⟨by have := HJ9.out; have := HK2.out; have := HK3.out; have := HK4.out; have := HJ23.out; omega⟩, ⟨by (with_reducible repeat (first | apply Kd.R_alloc | apply Kd.R_drewN | apply Kd.R_drew)); exact HO_8.out⟩, ⟨by repeat (first | (with_reducible first | exact HB.out | apply below_alloc | apply pw_below_drewN | apply below_drew1 | refine below_set ?_ GE125.out) | exact HB.out)⟩⟩
                                                  · rw [if_neg c34] at H
                                                    exact absurd H (by simp)
                                                · rw [if_neg c33] at H
                                                  exact absurd H (by simp)
                                              · replace c32 := Bool.eq_false_iff.mpr c32
                                                subst c32
                                                have H1 : (if 0 ≤ x13_3 then (if x13_3 < (t110.length : Int) then (if ((rd_T49 ((rd_T47 l0 x11_2).f1) x15_4).f0) = (rd t110 x13_3) then (if x10_9 = true then (crossbarlaw15_RoutingOrderIsSorted.l2 kj23 l0 t110 x10_9 x11_2 x12_3 x13_3 x14_4 (wrap64 (x15_4 + 1))) else (crossbarlaw15_RoutingOrderIsSorted.l2 kj23 l0 t110 x10_9 x11_2 x12_3 x13_3 ((rd_T49 ((rd_T47 l0 x11_2).f1) x15_4).f2) (wrap64 (x15_4 + 1)))) else (crossbarlaw15_RoutingOrderIsSorted.l2 kj23 l0 t110 x10_9 x11_2 x12_3 x13_3 x14_4 (wrap64 (x15_4 + 1)))) else (none)) else (none)) = some r := by rw [if_neg (show ¬ (false = true) by decide)] at H; exact H
                                                clear H
                                                have H := H1
                                                clear H1
                                                by_cases c40 : 0 ≤ x13_3
                                                · rw [if_pos c40] at H
                                                  have c40b0 : decide (0 ≤ x13_3) = true := decide_eq_true c40
                                                  clear c40
                                                  by_cases c41 : x13_3 < (t110.length : Int)
                                                  · rw [if_pos c41] at H
                                                    have c41b0 : decide (x13_3 < (t110.length : Int)) = true := decide_eq_true c41
                                                    clear c41
                                                    by_cases c42 : ((rd_T49 ((rd_T47 l0 x11_2).f1) x15_4).f0) = (rd t110 x13_3)
                                                    · rw [if_pos c42] at H
                                                      have c42b0 : (((rd_T49 ((rd_T47 l0 x11_2).f1) x15_4).f0) == (rd t110 x13_3)) = true := beq_iff_eq.mpr c42
                                                      have c42b1 : (((rd_T49 ((rd_T47 l0 x11_2).f1) x15_4).f0) != (rd t110 x13_3)) = false := bne_eq_false_iff_eq.mpr c42
                                                      clear c42
                                                      by_cases c43 : x10_9 = true
                                                      · subst c43
                                                        have H1 : (crossbarlaw15_RoutingOrderIsSorted.l2 kj23 l0 t110 true x11_2 x12_3 x13_3 x14_4 (wrap64 (x15_4 + 1))) = some r := by rw [if_pos rfl] at H; exact H
                                                        clear H
                                                        have H := H1
                                                        clear H1
                                                        have H' := Aside0.mk H
                                                        clear H
                                                        have hcz44_0 : wc.cell? ⟨gb125, 0, none⟩ = some (.int .i64 ((rd_T49 ((rd_T47 l0 x11_2).f1) x15_4).f0)) := (blk_cell BK125.out 0).trans rfl
                                                        have hcz44_1 : wc.cell? ⟨gb125, 1, none⟩ = some (.int .i64 ((rd_T49 ((rd_T47 l0 x11_2).f1) x15_4).f1)) := (blk_cell BK125.out 1).trans rfl
                                                        have hcz44_2 : wc.cell? ⟨gb125, 2, none⟩ = some (.int .i64 ((rd_T49 ((rd_T47 l0 x11_2).f1) x15_4).f2)) := (blk_cell BK125.out 2).trans rfl
                                                        have hfz44_0 := blk_frozen BK125.out 0
                                                        have hfz44_1 := blk_frozen BK125.out 1
                                                        have hfz44_2 := blk_frozen BK125.out 2
                                                        have p128 : 0 ≤ (x13_3 : Int) := of_decide_eq_true (by first | (with_reducible assumption) | assumption)
                                                        have q128 : x13_3 < (t110.length : Int) := of_decide_eq_true (by first | (with_reducible assumption) | assumption)
                                                        obtain ⟨ad128, e128, hx128_0⟩ := Kd.at_int (Kd.R_reads' HO_8.out).2.2 x13_3 p128 q128
                                                        cases e128
                                                        replace p128 := eq_true p128
                                                        replace q128 := eq_true q128
                                                        go_wp2
                                                        repeat (go_quiet (fail); try go_wp2)
                                                        go_roundg kj23
                                                        case measure => have := HJ9.out; have := HK2.out; have := HK3.out; have := HK4.out; have := HJ23.out; omega
                                                        case rel => exact ⟨(x14_4), (wrap64 (x15_4 + 1)), (by first | rfl | (simp; done) | (simp [*]; done)), (by first | rfl | (simp; done) | (simp [*]; done)), H', ⟨by have := HJ9.out; have := HK2.out; have := HK3.out; have := HK4.out; have := HJ23.out; omega⟩, ⟨by (with_reducible repeat (first | apply Kd.R_alloc | apply Kd.R_drewN | apply Kd.R_drew)); exact HO_8.out⟩, ⟨by repeat (first | (with_reducible first | exact HB.out | apply below_alloc | apply pw_below_drewN | apply below_drew1 | refine below_set ?_ GE125.out) | exact HB.out)⟩⟩
                                                      · replace c43 := Bool.eq_false_iff.mpr c43
                                                        subst c43
                                                        have H1 : (crossbarlaw15_RoutingOrderIsSorted.l2 kj23 l0 t110 false x11_2 x12_3 x13_3 ((rd_T49 ((rd_T47 l0 x11_2).f1) x15_4).f2) (wrap64 (x15_4 + 1))) = some r := by rw [if_neg (show ¬ (false = true) by decide)] at H; exact H
                                                        clear H
                                                        have H := H1
                                                        clear H1
                                                        have H' := Aside0.mk H
                                                        clear H
                                                        have hcz45_0 : wc.cell? ⟨gb125, 0, none⟩ = some (.int .i64 ((rd_T49 ((rd_T47 l0 x11_2).f1) x15_4).f0)) := (blk_cell BK125.out 0).trans rfl
                                                        have hcz45_1 : wc.cell? ⟨gb125, 1, none⟩ = some (.int .i64 ((rd_T49 ((rd_T47 l0 x11_2).f1) x15_4).f1)) := (blk_cell BK125.out 1).trans rfl
                                                        have hcz45_2 : wc.cell? ⟨gb125, 2, none⟩ = some (.int .i64 ((rd_T49 ((rd_T47 l0 x11_2).f1) x15_4).f2)) := (blk_cell BK125.out 2).trans rfl
                                                        have hfz45_0 := blk_frozen BK125.out 0
                                                        have hfz45_1 := blk_frozen BK125.out 1
                                                        have hfz45_2 := blk_frozen BK125.out 2
                                                        have p128 : 0 ≤ (x13_3 : Int) := of_decide_eq_true (by first | (with_reducible assumption) | assumption)
                                                        have q128 : x13_3 < (t110.length : Int) := of_decide_eq_true (by first | (with_reducible assumption) | assumption)
                                                        obtain ⟨ad128, e128, hx128_0⟩ := Kd.at_int (Kd.R_reads' HO_8.out).2.2 x13_3 p128 q128
                                                        cases e128
                                                        replace p128 := eq_true p128
                                                        replace q128 := eq_true q128
                                                        go_wp2
                                                        repeat (go_quiet (fail); try go_wp2)
                                                        go_roundg kj23
                                                        case measure => have := HJ9.out; have := HK2.out; have := HK3.out; have := HK4.out; have := HJ23.out; omega
                                                        case rel => exact ⟨(((rd_T49 ((rd_T47 l0 x11_2).f1) x15_4).f2)), (wrap64 (x15_4 + 1)), (by first | rfl | (simp; done) | (simp [*]; done)), (by first | rfl | (simp; done) | (simp [*]; done)), H', ⟨by have := HJ9.out; have := HK2.out; have := HK3.out; have := HK4.out; have := HJ23.out; omega⟩, ⟨by (with_reducible repeat (first | apply Kd.R_alloc | apply Kd.R_drewN | apply Kd.R_drew)); exact HO_8.out⟩, ⟨by repeat (first | (with_reducible first | exact HB.out | apply below_alloc | apply pw_below_drewN | apply below_drew1 | refine below_set ?_ GE125.out) | exact HB.out)⟩⟩
                                                    · rw [if_neg c42] at H
                                                      have c42b0 : (((rd_T49 ((rd_T47 l0 x11_2).f1) x15_4).f0) == (rd t110 x13_3)) = false := beq_eq_false_iff_ne.mpr c42
                                                      have c42b1 : (((rd_T49 ((rd_T47 l0 x11_2).f1) x15_4).f0) != (rd t110 x13_3)) = true := bne_iff_ne.mpr c42
                                                      have H' := Aside0.mk H
                                                      clear H
                                                      have hcz46_0 : wc.cell? ⟨gb125, 0, none⟩ = some (.int .i64 ((rd_T49 ((rd_T47 l0 x11_2).f1) x15_4).f0)) := (blk_cell BK125.out 0).trans rfl
                                                      have hcz46_1 : wc.cell? ⟨gb125, 1, none⟩ = some (.int .i64 ((rd_T49 ((rd_T47 l0 x11_2).f1) x15_4).f1)) := (blk_cell BK125.out 1).trans rfl
                                                      have hcz46_2 : wc.cell? ⟨gb125, 2, none⟩ = some (.int .i64 ((rd_T49 ((rd_T47 l0 x11_2).f1) x15_4).f2)) := (blk_cell BK125.out 2).trans rfl
                                                      have hfz46_0 := blk_frozen BK125.out 0
                                                      have hfz46_1 := blk_frozen BK125.out 1
                                                      have hfz46_2 := blk_frozen BK125.out 2
                                                      have p128 : 0 ≤ (x13_3 : Int) := of_decide_eq_true (by first | (with_reducible assumption) | assumption)
                                                      have q128 : x13_3 < (t110.length : Int) := of_decide_eq_true (by first | (with_reducible assumption) | assumption)
                                                      obtain ⟨ad128, e128, hx128_0⟩ := Kd.at_int (Kd.R_reads' HO_8.out).2.2 x13_3 p128 q128
                                                      cases e128
                                                      replace p128 := eq_true p128
                                                      replace q128 := eq_true q128
                                                      go_wp2
                                                      repeat (go_quiet (fail); try go_wp2)
                                                      go_roundg kj23
                                                      case measure => have := HJ9.out; have := HK2.out; have := HK3.out; have := HK4.out; have := HJ23.out; omega
                                                      case rel => exact ⟨(x14_4), (wrap64 (x15_4 + 1)), (by first | rfl | (simp; done) | (simp [*]; done)), (by first | rfl | (simp; done) | (simp [*]; done)), H', ⟨by have := HJ9.out; have := HK2.out; have := HK3.out; have := HK4.out; have := HJ23.out; omega⟩, ⟨by (with_reducible repeat (first | apply Kd.R_alloc | apply Kd.R_drewN | apply Kd.R_drew)); exact HO_8.out⟩, ⟨by repeat (first | (with_reducible first | exact HB.out | apply below_alloc | apply pw_below_drewN | apply below_drew1 | refine below_set ?_ GE125.out) | exact HB.out)⟩⟩
                                                  · rw [if_neg c41] at H
                                                    exact absurd H (by simp)
                                                · rw [if_neg c40] at H
                                                  exact absurd H (by simp)
                                        · rw [if_neg c23] at H
                                          exact absurd H (by simp)
                                      · rw [if_neg c22] at H
                                        have c22b0 : decide (x15_4 < (((rd_T47 l0 x11_2).f1).length : Int)) = false := decide_eq_false c22
                                        clear c22
                                        by_cases c47 : x14_4 < x12_3
                                        · rw [if_pos c47] at H
                                          have c47b0 : decide (x14_4 < x12_3) = true := decide_eq_true c47
                                          clear c47
                                          obtain rfl := Option.some.inj H
                                          have p116 : 0 ≤ (x11_2 : Int) := of_decide_eq_true (by first | (with_reducible assumption) | assumption)
                                          have q116 : x11_2 < (l0.length : Int) := of_decide_eq_true (by first | (with_reducible assumption) | assumption)
                                          obtain ⟨ad116, A116_1, c116_1, e116, hx116_0, hx116_1, hl116_1, hi116_1⟩ := at_T47 HR0.out x11_2 p116 q116
                                          obtain rfl : ad114 = ad116 := (by injection e116)
                                          replace hx116_0 := (HB.out.cell (World.block_lt_of_cell? w _ hx116_0)).trans hx116_0
                                          replace hx116_1 := (HB.out.cell (World.block_lt_of_cell? w _ hx116_1)).trans hx116_1
                                          have HR116_1 := Aside0.mk hi116_1
                                          have HC116_1 := Aside0.mk hl116_1
                                          clear hi116_1 hl116_1
                                          replace p116 := eq_true p116
                                          replace q116 := eq_true q116
                                          go_wp2
                                          repeat (go_quiet (fail); try go_wp2)
                                          go_ret
                                          exact ⟨by first | rfl | (simp [errW_none, errW_some] <;> rfl) | (simp [*, errW_none, errW_some] <;> rfl), by repeat (first | (with_reducible first | exact HB.out | apply below_alloc | apply pw_below_drewN | apply below_drew1) | exact HB.out)⟩
                                        · rw [if_neg c47] at H
                                          have c47b0 : decide (x14_4 < x12_3) = false := decide_eq_false c47
                                          clear c47
                                          by_cases c48 : 0 ≤ x13_3
                                          · rw [if_pos c48] at H
                                            have c48b0 := eq_true c48
                                            have c48b1 : decide (0 ≤ x13_3) = true := decide_eq_true c48
                                            clear c48
                                            by_cases c49 : x13_3 ≤ (t110.length : Int)
                                            · rw [if_pos c49] at H
                                              have c49b0 := eq_true c49
                                              have c49b1 : decide (x13_3 ≤ (t110.length : Int)) = true := decide_eq_true c49
                                              clear c49
                                              obtain ⟨y117, hy117⟩ : ∃ y_ : List Int, y_ = (t110.take (x13_3 : Int).toNat) := ⟨_, rfl⟩
                                              replace H : (if x13_3 < (t110.length : Int) then ((crossbarlaw15_has.f k4 y117 (rd t110 x13_3)).bind fun t122 => (if t122 = true then (some false) else (crossbarlaw15_RoutingOrderIsSorted.l1 k4 l0 t110 x10_9 x11_2 x14_4 (wrap64 (x13_3 + 1))))) else (none)) = some r := by first | (rw [hy117]; with_reducible exact H) | (have H2_ := (Option.bind_some _ _).symm.trans H; rw [hy117]; with_reducible exact H2_) | (have H2_ := (Option.bind_some _ _).symm.trans H; with_reducible exact H2_) | with_reducible exact H | (rw [hy117]; exact H) | exact H
                                              have Ny117 := Aside0.mk hy117
                                              clear hy117
                                              by_cases c50 : x13_3 < (t110.length : Int)
                                              · rw [if_pos c50] at H
                                                have c50b0 : decide (x13_3 < (t110.length : Int)) = true := decide_eq_true c50
                                                clear c50
                                                replace H := Option.bind_eq_some_iff.mp H
                                                obtain ⟨t122, A510, H⟩ := H
                                                replace H : (if t122 = true then (some false) else (crossbarlaw15_RoutingOrderIsSorted.l1 k4 l0 t110 x10_9 x11_2 x14_4 (wrap64 (x13_3 + 1)))) = some r := H
                                                have A51 := Aside0.mk A510
                                                clear A510
                                                by_cases c52 : t122 = true
                                                · subst c52
                                                  have H1 : (some false) = some r := by rw [if_pos rfl] at H; exact H
                                                  clear H
                                                  have H := H1
                                                  clear H1
                                                  obtain rfl := Option.some.inj H
                                                  have p116 : 0 ≤ (x11_2 : Int) := of_decide_eq_true (by first | (with_reducible assumption) | assumption)
                                                  have q116 : x11_2 < (l0.length : Int) := of_decide_eq_true (by first | (with_reducible assumption) | assumption)
                                                  obtain ⟨ad116, A116_1, c116_1, e116, hx116_0, hx116_1, hl116_1, hi116_1⟩ := at_T47 HR0.out x11_2 p116 q116
                                                  obtain rfl : ad114 = ad116 := (by injection e116)
                                                  replace hx116_0 := (HB.out.cell (World.block_lt_of_cell? w _ hx116_0)).trans hx116_0
                                                  replace hx116_1 := (HB.out.cell (World.block_lt_of_cell? w _ hx116_1)).trans hx116_1
                                                  have HR116_1 := Aside0.mk hi116_1
                                                  have HC116_1 := Aside0.mk hl116_1
                                                  clear hi116_1 hl116_1
                                                  replace p116 := eq_true p116
                                                  replace q116 := eq_true q116
                                                  have q53 : (x13_3 : Int) ≤ ((t110.length : Int) : Int) := of_decide_eq_true (by first | (with_reducible assumption) | assumption)
                                                  obtain ⟨i053, hi053, _, hsz53, _⟩ := info_parts info3
                                                  have hroom53 : t110.length ≤ co18 := (Kd.R_reads' HO_8.out).2.1
                                                  have hC53 : Kd.C (Kd.int .i64) _ Ao18 t110.length t110 := (Kd.R_reads' HO_8.out).2.2
                                                  have hcut53 := cut_to (P := Try.prog) 23 3 .i64 Try.underlying23 hi053 Ao18 t110.length co18 x13_3 (of_decide_eq_true (by first | (with_reducible assumption) | assumption)) q53 hroom53
                                                  have hr53 := Kd.C_take (m := (x13_3 : Int).toNat) hC53 (by omega)
                                                  have hy53 : y117.length = (x13_3 : Int).toNat := (by rw [Ny117.out, List.length_take]; omega)
                                                  rw [← Ny117.out] at hr53
                                                  rw [← hy53] at hcut53
                                                  have HR120 := Aside0.mk hr53
                                                  have HC120 := Aside0.mk (show y117.length ≤ co18 from by omega)
                                                  clear hr53 hC53 hroom53 hi053 hsz53
                                                  have KY53 := Aside0.mk hy53
                                                  clear hy53
                                                  have KL53 := Aside0.mk (show (x13_3 : Int).toNat ≤ t110.length from by omega)
                                                  replace q53 := eq_true q53
                                                  have p121 : 0 ≤ (x13_3 : Int) := of_decide_eq_true (by first | (with_reducible assumption) | assumption)
                                                  have q121 : x13_3 < (t110.length : Int) := of_decide_eq_true (by first | (with_reducible assumption) | assumption)
                                                  obtain ⟨ad121, e121, hx121_0⟩ := Kd.at_int (Kd.R_reads' HO_8.out).2.2 x13_3 p121 q121
                                                  cases e121
                                                  replace p121 := eq_true p121
                                                  replace q121 := eq_true q121
                                                  go_wp2_with (first | (go_at_call 27; (with_reducible refine (crossbarlaw15_has.calls k4 _ _ y117 (rd t110 x13_3) true _ ?side1 ?side2 A51.out).mono ?_); (case side1 => repeat (first | exact (by repeat (first | (with_reducible exact HR120.out) | (with_reducible refine Kd.C_alloc ?_ _) | (with_reducible refine Kd.C_drewN ?_ _) | (with_reducible refine Kd.C_drew ?_) | exact HR120.out)) | (with_reducible refine Kd.C_alloc ?_ _) | (with_reducible refine Kd.C_drewN ?_ _) | (with_reducible refine Kd.C_drew ?_))); (case side2 => exact HC120.out); rintro e w' ⟨rfl, ⟨nd, rfl⟩⟩; (try first | exact ⟨rfl, _, World.drewN_drewN _ _ _⟩ | exact ⟨rfl, _, Eq.trans (World.drewN_drewN _ _ _) (congrArg (World.drewN _) (Nat.add_assoc _ _ _))⟩)))
                                                  repeat (go_quiet (first | (go_at_call 27; (with_reducible refine (crossbarlaw15_has.calls k4 _ _ y117 (rd t110 x13_3) true _ ?side1 ?side2 A51.out).mono ?_); (case side1 => repeat (first | exact (by repeat (first | (with_reducible exact HR120.out) | (with_reducible refine Kd.C_alloc ?_ _) | (with_reducible refine Kd.C_drewN ?_ _) | (with_reducible refine Kd.C_drew ?_) | exact HR120.out)) | (with_reducible refine Kd.C_alloc ?_ _) | (with_reducible refine Kd.C_drewN ?_ _) | (with_reducible refine Kd.C_drew ?_))); (case side2 => exact HC120.out); rintro e w' ⟨rfl, ⟨nd, rfl⟩⟩; (try first | exact ⟨rfl, _, World.drewN_drewN _ _ _⟩ | exact ⟨rfl, _, Eq.trans (World.drewN_drewN _ _ _) (congrArg (World.drewN _) (Nat.add_assoc _ _ _))⟩))); try go_wp2_with (first | (go_at_call 27; (with_reducible refine (crossbarlaw15_has.calls k4 _ _ y117 (rd t110 x13_3) true _ ?side1 ?side2 A51.out).mono ?_); (case side1 => repeat (first | exact (by repeat (first | (with_reducible exact HR120.out) | (with_reducible refine Kd.C_alloc ?_ _) | (with_reducible refine Kd.C_drewN ?_ _) | (with_reducible refine Kd.C_drew ?_) | exact HR120.out)) | (with_reducible refine Kd.C_alloc ?_ _) | (with_reducible refine Kd.C_drewN ?_ _) | (with_reducible refine Kd.C_drew ?_))); (case side2 => exact HC120.out); rintro e w' ⟨rfl, ⟨nd, rfl⟩⟩; (try first | exact ⟨rfl, _, World.drewN_drewN _ _ _⟩ | exact ⟨rfl, _, Eq.trans (World.drewN_drewN _ _ _) (congrArg (World.drewN _) (Nat.add_assoc _ _ _))⟩))))
                                                  go_ret
                                                  exact ⟨by first | rfl | (simp [errW_none, errW_some] <;> rfl) | (simp [*, errW_none, errW_some] <;> rfl), by repeat (first | (with_reducible first | exact HB.out | apply below_alloc | apply pw_below_drewN | apply below_drew1) | exact HB.out)⟩
                                                · replace c52 := Bool.eq_false_iff.mpr c52
                                                  subst c52
                                                  have H1 : (crossbarlaw15_RoutingOrderIsSorted.l1 k4 l0 t110 x10_9 x11_2 x14_4 (wrap64 (x13_3 + 1))) = some r := by rw [if_neg (show ¬ (false = true) by decide)] at H; exact H
                                                  clear H
                                                  have H := H1
                                                  clear H1
                                                  have H' := Aside0.mk H
                                                  clear H
                                                  have p116 : 0 ≤ (x11_2 : Int) := of_decide_eq_true (by first | (with_reducible assumption) | assumption)
                                                  have q116 : x11_2 < (l0.length : Int) := of_decide_eq_true (by first | (with_reducible assumption) | assumption)
                                                  obtain ⟨ad116, A116_1, c116_1, e116, hx116_0, hx116_1, hl116_1, hi116_1⟩ := at_T47 HR0.out x11_2 p116 q116
                                                  obtain rfl : ad114 = ad116 := (by injection e116)
                                                  replace hx116_0 := (HB.out.cell (World.block_lt_of_cell? w _ hx116_0)).trans hx116_0
                                                  replace hx116_1 := (HB.out.cell (World.block_lt_of_cell? w _ hx116_1)).trans hx116_1
                                                  have HR116_1 := Aside0.mk hi116_1
                                                  have HC116_1 := Aside0.mk hl116_1
                                                  clear hi116_1 hl116_1
                                                  replace p116 := eq_true p116
                                                  replace q116 := eq_true q116
                                                  have q54 : (x13_3 : Int) ≤ ((t110.length : Int) : Int) := of_decide_eq_true (by first | (with_reducible assumption) | assumption)
                                                  obtain ⟨i054, hi054, _, hsz54, _⟩ := info_parts info3
                                                  have hroom54 : t110.length ≤ co18 := (Kd.R_reads' HO_8.out).2.1
                                                  have hC54 : Kd.C (Kd.int .i64) _ Ao18 t110.length t110 := (Kd.R_reads' HO_8.out).2.2
                                                  have hcut54 := cut_to (P := Try.prog) 23 3 .i64 Try.underlying23 hi054 Ao18 t110.length co18 x13_3 (of_decide_eq_true (by first | (with_reducible assumption) | assumption)) q54 hroom54
                                                  have hr54 := Kd.C_take (m := (x13_3 : Int).toNat) hC54 (by omega)
                                                  have hy54 : y117.length = (x13_3 : Int).toNat := (by rw [Ny117.out, List.length_take]; omega)
                                                  rw [← Ny117.out] at hr54
                                                  rw [← hy54] at hcut54
                                                  have HR120 := Aside0.mk hr54
                                                  have HC120 := Aside0.mk (show y117.length ≤ co18 from by omega)
                                                  clear hr54 hC54 hroom54 hi054 hsz54
                                                  have KY54 := Aside0.mk hy54
                                                  clear hy54
                                                  have KL54 := Aside0.mk (show (x13_3 : Int).toNat ≤ t110.length from by omega)
                                                  replace q54 := eq_true q54
                                                  have p121 : 0 ≤ (x13_3 : Int) := of_decide_eq_true (by first | (with_reducible assumption) | assumption)
                                                  have q121 : x13_3 < (t110.length : Int) := of_decide_eq_true (by first | (with_reducible assumption) | assumption)
                                                  obtain ⟨ad121, e121, hx121_0⟩ := Kd.at_int (Kd.R_reads' HO_8.out).2.2 x13_3 p121 q121
                                                  cases e121
                                                  replace p121 := eq_true p121
                                                  replace q121 := eq_true q121
                                                  go_wp2_with (first | (go_at_call 27; (with_reducible refine (crossbarlaw15_has.calls k4 _ _ y117 (rd t110 x13_3) false _ ?side1 ?side2 A51.out).mono ?_); (case side1 => repeat (first | exact (by repeat (first | (with_reducible exact HR120.out) | (with_reducible refine Kd.C_alloc ?_ _) | (with_reducible refine Kd.C_drewN ?_ _) | (with_reducible refine Kd.C_drew ?_) | exact HR120.out)) | (with_reducible refine Kd.C_alloc ?_ _) | (with_reducible refine Kd.C_drewN ?_ _) | (with_reducible refine Kd.C_drew ?_))); (case side2 => exact HC120.out); rintro e w' ⟨rfl, ⟨nd, rfl⟩⟩; (try first | exact ⟨rfl, _, World.drewN_drewN _ _ _⟩ | exact ⟨rfl, _, Eq.trans (World.drewN_drewN _ _ _) (congrArg (World.drewN _) (Nat.add_assoc _ _ _))⟩)))
                                                  repeat (go_quiet (first | (go_at_call 27; (with_reducible refine (crossbarlaw15_has.calls k4 _ _ y117 (rd t110 x13_3) false _ ?side1 ?side2 A51.out).mono ?_); (case side1 => repeat (first | exact (by repeat (first | (with_reducible exact HR120.out) | (with_reducible refine Kd.C_alloc ?_ _) | (with_reducible refine Kd.C_drewN ?_ _) | (with_reducible refine Kd.C_drew ?_) | exact HR120.out)) | (with_reducible refine Kd.C_alloc ?_ _) | (with_reducible refine Kd.C_drewN ?_ _) | (with_reducible refine Kd.C_drew ?_))); (case side2 => exact HC120.out); rintro e w' ⟨rfl, ⟨nd, rfl⟩⟩; (try first | exact ⟨rfl, _, World.drewN_drewN _ _ _⟩ | exact ⟨rfl, _, Eq.trans (World.drewN_drewN _ _ _) (congrArg (World.drewN _) (Nat.add_assoc _ _ _))⟩))); try go_wp2_with (first | (go_at_call 27; (with_reducible refine (crossbarlaw15_has.calls k4 _ _ y117 (rd t110 x13_3) false _ ?side1 ?side2 A51.out).mono ?_); (case side1 => repeat (first | exact (by repeat (first | (with_reducible exact HR120.out) | (with_reducible refine Kd.C_alloc ?_ _) | (with_reducible refine Kd.C_drewN ?_ _) | (with_reducible refine Kd.C_drew ?_) | exact HR120.out)) | (with_reducible refine Kd.C_alloc ?_ _) | (with_reducible refine Kd.C_drewN ?_ _) | (with_reducible refine Kd.C_drew ?_))); (case side2 => exact HC120.out); rintro e w' ⟨rfl, ⟨nd, rfl⟩⟩; (try first | exact ⟨rfl, _, World.drewN_drewN _ _ _⟩ | exact ⟨rfl, _, Eq.trans (World.drewN_drewN _ _ _) (congrArg (World.drewN _) (Nat.add_assoc _ _ _))⟩))))
                                                  go_roundg k4
                                                  case measure => have := HJ9.out; have := HK2.out; have := HK3.out; have := HK4.out; omega
                                                  case rel => exact ⟨(x14_4), (wrap64 (x13_3 + 1)), (by first | rfl | (simp; done) | (simp [*]; done)), (by first | rfl | (simp; done) | (simp [*]; done)), H', ⟨by have := HJ9.out; have := HK2.out; have := HK3.out; have := HK4.out; omega⟩, ⟨by (with_reducible repeat (first | apply Kd.R_alloc | apply Kd.R_drewN | apply Kd.R_drew)); exact HO_8.out⟩, ⟨by repeat (first | (with_reducible first | exact HB.out | apply below_alloc | apply pw_below_drewN | apply below_drew1) | exact HB.out)⟩⟩
                                              · rw [if_neg c50] at H
                                                exact absurd H (by simp)
                                            · rw [if_neg c49] at H
                                              exact absurd H (by simp)
                                          · rw [if_neg c48] at H
                                            exact absurd H (by simp)
                                    · rw [if_neg c21] at H
                                      exact absurd H (by simp)
                                  · rw [if_neg c20] at H
                                    exact absurd H (by simp)
                            · rw [if_neg c19] at H
                              have c19b0 : decide (x13_3 < (t110.length : Int)) = false := decide_eq_false c19
                              clear c19
                              obtain rfl := Option.some.inj H
                              go_wp2
                              repeat (go_quiet (fail); try go_wp2)
                              go_ret
                              exact ⟨by first | rfl | (simp [errW_none, errW_some] <;> rfl) | (simp [*, errW_none, errW_some] <;> rfl), by repeat (first | (with_reducible first | exact HB.out | apply below_alloc | apply pw_below_drewN | apply below_drew1) | exact HB.out)⟩
                      · rw [if_neg c17] at H
                        have c17b0 : ((t110.length : Int) == (((rd_T47 l0 x11_2).f1).length : Int)) = false := beq_eq_false_iff_ne.mpr c17
                        have c17b1 : ((t110.length : Int) != (((rd_T47 l0 x11_2).f1).length : Int)) = true := bne_iff_ne.mpr c17
                        have c17b2 : (t110.length == ((rd_T47 l0 x11_2).f1).length) = false := by first | simpa using c17 | (simp at c17 ⊢; omega)
                        obtain rfl := Option.some.inj H
                        have p114 : 0 ≤ (x11_2 : Int) := of_decide_eq_true (by first | (with_reducible assumption) | assumption)
                        have q114 : x11_2 < (l0.length : Int) := of_decide_eq_true (by first | (with_reducible assumption) | assumption)
                        obtain ⟨ad114, A114_1, c114_1, e114, hx114_0, hx114_1, hl114_1, hi114_1⟩ := at_T47 HR0.out x11_2 p114 q114
                        cases e114
                        replace hx114_0 := (HB.out.cell (World.block_lt_of_cell? w _ hx114_0)).trans hx114_0
                        replace hx114_1 := (HB.out.cell (World.block_lt_of_cell? w _ hx114_1)).trans hx114_1
                        have HR114_1 := Aside0.mk hi114_1
                        have HC114_1 := Aside0.mk hl114_1
                        clear hi114_1 hl114_1
                        replace p114 := eq_true p114
                        replace q114 := eq_true q114
                        obtain ⟨Ao55, co55, eo55⟩ := Kd.R_slice HO_8.out
                        subst eo55
                        have p115 : 0 ≤ (x11_2 : Int) := of_decide_eq_true (by first | (with_reducible assumption) | assumption)
                        have q115 : x11_2 < (l0.length : Int) := of_decide_eq_true (by first | (with_reducible assumption) | assumption)
                        obtain ⟨ad115, A115_1, c115_1, e115, hx115_0, hx115_1, hl115_1, hi115_1⟩ := at_T47 HR0.out x11_2 p115 q115
                        obtain rfl : ad114 = ad115 := (by injection e115)
                        replace hx115_0 := (HB.out.cell (World.block_lt_of_cell? w _ hx115_0)).trans hx115_0
                        replace hx115_1 := (HB.out.cell (World.block_lt_of_cell? w _ hx115_1)).trans hx115_1
                        have HR115_1 := Aside0.mk hi115_1
                        have HC115_1 := Aside0.mk hl115_1
                        clear hi115_1 hl115_1
                        replace p115 := eq_true p115
                        replace q115 := eq_true q115
                        have ea_ := Option.some.inj (hx114_1.symm.trans hx115_1)
                        injection ea_ with ea_ en_ ec_
                        subst ea_
                        subst ec_
                        clear en_
                        go_wp2
                        repeat (go_quiet (fail); try go_wp2)
                        go_ret
                        exact ⟨by first | rfl | (simp [errW_none, errW_some] <;> rfl) | (simp [*, errW_none, errW_some] <;> rfl), by repeat (first | (with_reducible first | exact HB.out | apply below_alloc | apply pw_below_drewN | apply below_drew1) | exact HB.out)⟩
                    · rw [if_neg c16] at H
                      have c16b0 : (((rd_T47 l0 x11_2).f0) == a1) = false := beq_eq_false_iff_ne.mpr c16
                      have c16b1 : (((rd_T47 l0 x11_2).f0) != a1) = true := bne_iff_ne.mpr c16
                      have H' := Aside0.mk H
                      clear H
                      have p114 : 0 ≤ (x11_2 : Int) := of_decide_eq_true (by first | (with_reducible assumption) | assumption)
                      have q114 : x11_2 < (l0.length : Int) := of_decide_eq_true (by first | (with_reducible assumption) | assumption)
                      obtain ⟨ad114, A114_1, c114_1, e114, hx114_0, hx114_1, hl114_1, hi114_1⟩ := at_T47 HR0.out x11_2 p114 q114
                      cases e114
                      replace hx114_0 := (HB.out.cell (World.block_lt_of_cell? w _ hx114_0)).trans hx114_0
                      replace hx114_1 := (HB.out.cell (World.block_lt_of_cell? w _ hx114_1)).trans hx114_1
                      have HR114_1 := Aside0.mk hi114_1
                      have HC114_1 := Aside0.mk hl114_1
                      clear hi114_1 hl114_1
                      replace p114 := eq_true p114
                      replace q114 := eq_true q114
                      go_wp2
                      repeat (go_quiet (fail); try go_wp2)
                      go_roundg k2
                      case measure => have := HJ9.out; have := HK2.out; omega
                      case rel => exact ⟨(wrap64 (x11_2 + 1)), (by first | rfl | (simp; done) | (simp [*]; done)), H', ⟨by have := HJ9.out; have := HK2.out; omega⟩, ⟨by (with_reducible repeat (first | apply Kd.R_alloc | apply Kd.R_drewN | apply Kd.R_drew)); exact HO_8.out⟩, ⟨by repeat (first | (with_reducible first | exact HB.out | apply below_alloc | apply pw_below_drewN | apply below_drew1) | exact HB.out)⟩⟩
                  · rw [if_neg c15] at H
                    exact absurd H (by simp)
                · rw [if_neg c14] at H
                  have c14b0 : decide (x11_2 < (l0.length : Int)) = false := decide_eq_false c14
                  clear c14
                  obtain rfl := Option.some.inj H
                  go_wp2
                  repeat (go_quiet (fail); try go_wp2)
                  go_ret
                  exact ⟨by first | rfl | (simp [errW_none, errW_some] <;> rfl) | (simp [*, errW_none, errW_some] <;> rfl), by repeat (first | (with_reducible first | exact HB.out | apply below_alloc | apply pw_below_drewN | apply below_drew1) | exact HB.out)⟩
      · rw [if_neg c9] at H
        have c9b0 : (t111 == 0) = false := beq_eq_false_iff_ne.mpr c9
        have c9b1 : (t111 != 0) = true := bne_iff_ne.mpr c9
        obtain rfl := Option.some.inj H
        go_enter Try.func8, Try.ntmps8
        go_wp2_with (first | (go_at_call 10; (with_reducible refine (crossbarlaw15_sane.calls  true _ A4.out).mono ?_); rintro e w56 ⟨rfl, hb⟩; have n0_ := Aside0.mk (below_step (by repeat (first | (with_reducible first | exact HB.out | apply below_alloc | apply pw_below_drewN | apply below_drew1) | exact HB.out)) hb); clear HB; have HB := n0_; clear n0_; (try clear hb); (try clear hb2); (try clear hk); (try clear hi)) | (go_at_call 12; (with_reducible refine (crossbarref15_Few.calls k _ _ l0 true _ ?side1 ?side2 A6.out).mono ?_); (case side1 => repeat (first | exact (Kd.C_below HR0.out HB.out) | (with_reducible refine Kd.C_alloc ?_ _) | (with_reducible refine Kd.C_drewN ?_ _) | (with_reducible refine Kd.C_drew ?_))); (case side2 => exact HC0.out); rintro e w' ⟨rfl, ⟨nd, rfl⟩⟩; (try first | exact ⟨rfl, _, World.drewN_drewN _ _ _⟩ | exact ⟨rfl, _, Eq.trans (World.drewN_drewN _ _ _) (congrArg (World.drewN _) (Nat.add_assoc _ _ _))⟩)) | (go_at_call 21; (with_reducible refine (routing_Order.calls _ _ l0 a1 a2 t110 t111 _ ?side1 ?side2 A8.out).mono ?_); (case side1 => repeat (first | exact (Kd.C_below HR0.out (by repeat (first | (with_reducible first | exact HB.out | apply below_alloc | apply pw_below_drewN | apply below_drew1) | exact HB.out))) | (with_reducible refine Kd.C_alloc ?_ _) | (with_reducible refine Kd.C_drewN ?_ _) | (with_reducible refine Kd.C_drew ?_))); (case side2 => exact HC0.out); rintro e w57 ⟨v112, rfl, ho0, hb⟩; have n0_ := Aside0.mk (Kd.R_lower ho0 (below_size (by repeat (first | (with_reducible first | exact HB.out | apply below_alloc | apply pw_below_drewN | apply below_drew1) | exact HB.out)))); have n1_ := Aside0.mk (below_step (by repeat (first | (with_reducible first | exact HB.out | apply below_alloc | apply pw_below_drewN | apply below_drew1) | exact HB.out)) hb); clear HB; have HO113 := n0_; have HB := n1_; clear n0_ n1_; (try clear hb); (try clear hb2); (try clear hk); (try clear hi); (try clear ho0); obtain ⟨Ao58, co58, eo58⟩ := Kd.R_slice HO113.out; subst eo58))
        repeat (go_quiet (first | (go_at_call 10; (with_reducible refine (crossbarlaw15_sane.calls  true _ A4.out).mono ?_); rintro e w56 ⟨rfl, hb⟩; have n0_ := Aside0.mk (below_step (by repeat (first | (with_reducible first | exact HB.out | apply below_alloc | apply pw_below_drewN | apply below_drew1) | exact HB.out)) hb); clear HB; have HB := n0_; clear n0_; (try clear hb); (try clear hb2); (try clear hk); (try clear hi)) | (go_at_call 12; (with_reducible refine (crossbarref15_Few.calls k _ _ l0 true _ ?side1 ?side2 A6.out).mono ?_); (case side1 => repeat (first | exact (Kd.C_below HR0.out HB.out) | (with_reducible refine Kd.C_alloc ?_ _) | (with_reducible refine Kd.C_drewN ?_ _) | (with_reducible refine Kd.C_drew ?_))); (case side2 => exact HC0.out); rintro e w' ⟨rfl, ⟨nd, rfl⟩⟩; (try first | exact ⟨rfl, _, World.drewN_drewN _ _ _⟩ | exact ⟨rfl, _, Eq.trans (World.drewN_drewN _ _ _) (congrArg (World.drewN _) (Nat.add_assoc _ _ _))⟩)) | (go_at_call 21; (with_reducible refine (routing_Order.calls _ _ l0 a1 a2 t110 t111 _ ?side1 ?side2 A8.out).mono ?_); (case side1 => repeat (first | exact (Kd.C_below HR0.out (by repeat (first | (with_reducible first | exact HB.out | apply below_alloc | apply pw_below_drewN | apply below_drew1) | exact HB.out))) | (with_reducible refine Kd.C_alloc ?_ _) | (with_reducible refine Kd.C_drewN ?_ _) | (with_reducible refine Kd.C_drew ?_))); (case side2 => exact HC0.out); rintro e w57 ⟨v112, rfl, ho0, hb⟩; have n0_ := Aside0.mk (Kd.R_lower ho0 (below_size (by repeat (first | (with_reducible first | exact HB.out | apply below_alloc | apply pw_below_drewN | apply below_drew1) | exact HB.out)))); have n1_ := Aside0.mk (below_step (by repeat (first | (with_reducible first | exact HB.out | apply below_alloc | apply pw_below_drewN | apply below_drew1) | exact HB.out)) hb); clear HB; have HO113 := n0_; have HB := n1_; clear n0_ n1_; (try clear hb); (try clear hb2); (try clear hk); (try clear hi); (try clear ho0); obtain ⟨Ao58, co58, eo58⟩ := Kd.R_slice HO113.out; subst eo58)); try go_wp2_with (first | (go_at_call 10; (with_reducible refine (crossbarlaw15_sane.calls  true _ A4.out).mono ?_); rintro e w56 ⟨rfl, hb⟩; have n0_ := Aside0.mk (below_step (by repeat (first | (with_reducible first | exact HB.out | apply below_alloc | apply pw_below_drewN | apply below_drew1) | exact HB.out)) hb); clear HB; have HB := n0_; clear n0_; (try clear hb); (try clear hb2); (try clear hk); (try clear hi)) | (go_at_call 12; (with_reducible refine (crossbarref15_Few.calls k _ _ l0 true _ ?side1 ?side2 A6.out).mono ?_); (case side1 => repeat (first | exact (Kd.C_below HR0.out HB.out) | (with_reducible refine Kd.C_alloc ?_ _) | (with_reducible refine Kd.C_drewN ?_ _) | (with_reducible refine Kd.C_drew ?_))); (case side2 => exact HC0.out); rintro e w' ⟨rfl, ⟨nd, rfl⟩⟩; (try first | exact ⟨rfl, _, World.drewN_drewN _ _ _⟩ | exact ⟨rfl, _, Eq.trans (World.drewN_drewN _ _ _) (congrArg (World.drewN _) (Nat.add_assoc _ _ _))⟩)) | (go_at_call 21; (with_reducible refine (routing_Order.calls _ _ l0 a1 a2 t110 t111 _ ?side1 ?side2 A8.out).mono ?_); (case side1 => repeat (first | exact (Kd.C_below HR0.out (by repeat (first | (with_reducible first | exact HB.out | apply below_alloc | apply pw_below_drewN | apply below_drew1) | exact HB.out))) | (with_reducible refine Kd.C_alloc ?_ _) | (with_reducible refine Kd.C_drewN ?_ _) | (with_reducible refine Kd.C_drew ?_))); (case side2 => exact HC0.out); rintro e w57 ⟨v112, rfl, ho0, hb⟩; have n0_ := Aside0.mk (Kd.R_lower ho0 (below_size (by repeat (first | (with_reducible first | exact HB.out | apply below_alloc | apply pw_below_drewN | apply below_drew1) | exact HB.out)))); have n1_ := Aside0.mk (below_step (by repeat (first | (with_reducible first | exact HB.out | apply below_alloc | apply pw_below_drewN | apply below_drew1) | exact HB.out)) hb); clear HB; have HO113 := n0_; have HB := n1_; clear n0_ n1_; (try clear hb); (try clear hb2); (try clear hk); (try clear hi); (try clear ho0); obtain ⟨Ao58, co58, eo58⟩ := Kd.R_slice HO113.out; subst eo58)))
        go_ret
        exact ⟨by first | rfl | (simp [errW_none, errW_some] <;> rfl) | (simp [*, errW_none, errW_some] <;> rfl), by repeat (first | (with_reducible first | exact HB.out | apply below_alloc | apply pw_below_drewN | apply below_drew1) | exact HB.out)⟩
    · replace c7 := Bool.eq_false_iff.mpr c7
      subst c7
      have H1 : (some true) = some r := by rw [if_neg (show ¬ (false = true) by decide)] at H; exact H
      clear H
      have H := H1
      clear H1
      obtain rfl := Option.some.inj H
      go_enter Try.func8, Try.ntmps8
      go_wp2_with (first | (go_at_call 10; (with_reducible refine (crossbarlaw15_sane.calls  true _ A4.out).mono ?_); rintro e w59 ⟨rfl, hb⟩; have n0_ := Aside0.mk (below_step (by repeat (first | (with_reducible first | exact HB.out | apply below_alloc | apply pw_below_drewN | apply below_drew1) | exact HB.out)) hb); clear HB; have HB := n0_; clear n0_; (try clear hb); (try clear hb2); (try clear hk); (try clear hi)) | (go_at_call 12; (with_reducible refine (crossbarref15_Few.calls k _ _ l0 false _ ?side1 ?side2 A6.out).mono ?_); (case side1 => repeat (first | exact (Kd.C_below HR0.out HB.out) | (with_reducible refine Kd.C_alloc ?_ _) | (with_reducible refine Kd.C_drewN ?_ _) | (with_reducible refine Kd.C_drew ?_))); (case side2 => exact HC0.out); rintro e w' ⟨rfl, ⟨nd, rfl⟩⟩; (try first | exact ⟨rfl, _, World.drewN_drewN _ _ _⟩ | exact ⟨rfl, _, Eq.trans (World.drewN_drewN _ _ _) (congrArg (World.drewN _) (Nat.add_assoc _ _ _))⟩)))
      repeat (go_quiet (first | (go_at_call 10; (with_reducible refine (crossbarlaw15_sane.calls  true _ A4.out).mono ?_); rintro e w59 ⟨rfl, hb⟩; have n0_ := Aside0.mk (below_step (by repeat (first | (with_reducible first | exact HB.out | apply below_alloc | apply pw_below_drewN | apply below_drew1) | exact HB.out)) hb); clear HB; have HB := n0_; clear n0_; (try clear hb); (try clear hb2); (try clear hk); (try clear hi)) | (go_at_call 12; (with_reducible refine (crossbarref15_Few.calls k _ _ l0 false _ ?side1 ?side2 A6.out).mono ?_); (case side1 => repeat (first | exact (Kd.C_below HR0.out HB.out) | (with_reducible refine Kd.C_alloc ?_ _) | (with_reducible refine Kd.C_drewN ?_ _) | (with_reducible refine Kd.C_drew ?_))); (case side2 => exact HC0.out); rintro e w' ⟨rfl, ⟨nd, rfl⟩⟩; (try first | exact ⟨rfl, _, World.drewN_drewN _ _ _⟩ | exact ⟨rfl, _, Eq.trans (World.drewN_drewN _ _ _) (congrArg (World.drewN _) (Nat.add_assoc _ _ _))⟩))); try go_wp2_with (first | (go_at_call 10; (with_reducible refine (crossbarlaw15_sane.calls  true _ A4.out).mono ?_); rintro e w59 ⟨rfl, hb⟩; have n0_ := Aside0.mk (below_step (by repeat (first | (with_reducible first | exact HB.out | apply below_alloc | apply pw_below_drewN | apply below_drew1) | exact HB.out)) hb); clear HB; have HB := n0_; clear n0_; (try clear hb); (try clear hb2); (try clear hk); (try clear hi)) | (go_at_call 12; (with_reducible refine (crossbarref15_Few.calls k _ _ l0 false _ ?side1 ?side2 A6.out).mono ?_); (case side1 => repeat (first | exact (Kd.C_below HR0.out HB.out) | (with_reducible refine Kd.C_alloc ?_ _) | (with_reducible refine Kd.C_drewN ?_ _) | (with_reducible refine Kd.C_drew ?_))); (case side2 => exact HC0.out); rintro e w' ⟨rfl, ⟨nd, rfl⟩⟩; (try first | exact ⟨rfl, _, World.drewN_drewN _ _ _⟩ | exact ⟨rfl, _, Eq.trans (World.drewN_drewN _ _ _) (congrArg (World.drewN _) (Nat.add_assoc _ _ _))⟩))))
      go_ret
      exact ⟨by first | rfl | (simp [errW_none, errW_some] <;> rfl) | (simp [*, errW_none, errW_some] <;> rfl), by repeat (first | (with_reducible first | exact HB.out | apply below_alloc | apply pw_below_drewN | apply below_drew1) | exact HB.out)⟩
  · replace c5 := Bool.eq_false_iff.mpr c5
    subst c5
    have H1 : (some false) = some r := by rw [if_neg (show ¬ (false = true) by decide)] at H; exact H
    clear H
    have H := H1
    clear H1
    obtain rfl := Option.some.inj H
    go_enter Try.func8, Try.ntmps8
    go_wp2_with (first | (go_at_call 10; (with_reducible refine (crossbarlaw15_sane.calls  false _ A4.out).mono ?_); rintro e w60 ⟨rfl, hb⟩; have n0_ := Aside0.mk (below_step (by repeat (first | (with_reducible first | exact HB.out | apply below_alloc | apply pw_below_drewN | apply below_drew1) | exact HB.out)) hb); clear HB; have HB := n0_; clear n0_; (try clear hb); (try clear hb2); (try clear hk); (try clear hi)))
    repeat (go_quiet (first | (go_at_call 10; (with_reducible refine (crossbarlaw15_sane.calls  false _ A4.out).mono ?_); rintro e w60 ⟨rfl, hb⟩; have n0_ := Aside0.mk (below_step (by repeat (first | (with_reducible first | exact HB.out | apply below_alloc | apply pw_below_drewN | apply below_drew1) | exact HB.out)) hb); clear HB; have HB := n0_; clear n0_; (try clear hb); (try clear hb2); (try clear hk); (try clear hi))); try go_wp2_with (first | (go_at_call 10; (with_reducible refine (crossbarlaw15_sane.calls  false _ A4.out).mono ?_); rintro e w60 ⟨rfl, hb⟩; have n0_ := Aside0.mk (below_step (by repeat (first | (with_reducible first | exact HB.out | apply below_alloc | apply pw_below_drewN | apply below_drew1) | exact HB.out)) hb); clear HB; have HB := n0_; clear n0_; (try clear hb); (try clear hb2); (try clear hk); (try clear hi))))
    go_ret
    exact ⟨by first | rfl | (simp [errW_none, errW_some] <;> rfl) | (simp [*, errW_none, errW_some] <;> rfl), by repeat (first | (with_reducible first | exact HB.out | apply below_alloc | apply pw_below_drewN | apply below_drew1) | exact HB.out)⟩

end Go.Proofs.Ytjaodgicpnoifaa.P
