/- Written by wip/tools/myprint.py (over the kit's print.py): Go functions of the law as plain Lean functions, each with the proof that the machine's call tells what it tells. -/
import Derived.Test.YtjaodgicpnoifaaPx0
import Derived.Test.YtjaodgicpnoifaaPx4
namespace Go.Proofs.Ytjaodgicpnoifaa.P
open Go.RowKit Go.Proofs.YtjaodgicpnoifaaW.PrintWords Go.Proofs.YtjaodgicpnoifaaW.PrintLast Go.Proofs.YtjaodgicpnoifaaW.PrintMore
attribute [local go_sem] max2_int min2_int max_two min_two max_three min_three max_four min_four   -- for this text's walks alone
set_option linter.unusedVariables false
set_option linter.unusedSimpArgs false

/-! ### crossbarref15_Check: function 20 -/
mutual
def crossbarref15_Check.j0 : Nat → List (S47) → Int → Bool → Option (Int)
  | 0, _, _, _ => none
  | k + 1, x0, x1, x15 => if x15 = true then (some 1) else (crossbarref15_Check.l0 k x0 x1 0)
def crossbarref15_Check.l0 : Nat → List (S47) → Int → Int → Option (Int)
  | 0, _, _, _ => none
  | k + 1, x0, x1, x5 => if x5 < (x0.length : Int) then (if 0 ≤ x5 then (if ((rd_T47 x0 x5).f0) < (-1) then (crossbarref15_Check.j2 k x0 x1 x5 true) else (if ((rd_T47 x0 x5).f0) ≥ 6 then (crossbarref15_Check.j2 k x0 x1 x5 true) else (if x5 > 0 then (if 0 ≤ (wrap64 (x5 - 1)) then (if (wrap64 (x5 - 1)) < (x0.length : Int) then (crossbarref15_Check.j2 k x0 x1 x5 (decide (((rd_T47 x0 (wrap64 (x5 - 1))).f0) ≥ ((rd_T47 x0 x5).f0)))) else (none)) else (none)) else (crossbarref15_Check.j2 k x0 x1 x5 false)))) else (none)) else (some 0)
def crossbarref15_Check.j2 : Nat → List (S47) → Int → Int → Bool → Option (Int)
  | 0, _, _, _, _ => none
  | k + 1, x0, x1, x5, x46 => if x46 = true then (some 1) else (if 0 ≤ x5 then (if x5 < (x0.length : Int) then (crossbarref15_Check.l1 k x0 x1 x5 ((rd_T47 x0 x5).f1) 0) else (none)) else (none))
def crossbarref15_Check.l1 : Nat → List (S47) → Int → Int → List (S49) → Int → Option (Int)
  | 0, _, _, _, _, _ => none
  | k + 1, x0, x1, x5, x7, x8 => if x8 < (x7.length : Int) then (if 0 ≤ x8 then (if ((rd_T49 x7 x8).f0) < 0 then (crossbarref15_Check.j4 k x0 x1 x5 x7 x8 true) else (if ((rd_T49 x7 x8).f0) ≥ x1 then (crossbarref15_Check.j4 k x0 x1 x5 x7 x8 true) else ((crossbarref15_cost.f ((rd_T49 x7 x8).f1)).bind fun t190 => (if t190 = true then ((crossbarref15_cost.f ((rd_T49 x7 x8).f2)).bind fun t192 => (crossbarref15_Check.j4 k x0 x1 x5 x7 x8 (!t192))) else (crossbarref15_Check.j4 k x0 x1 x5 x7 x8 true))))) else (none)) else (crossbarref15_Check.l0 k x0 x1 (wrap64 (x5 + 1)))
def crossbarref15_Check.j4 : Nat → List (S47) → Int → Int → List (S49) → Int → Bool → Option (Int)
  | 0, _, _, _, _, _, _ => none
  | k + 1, x0, x1, x5, x7, x8, x90 => if x90 = true then (some 1) else (crossbarref15_Check.l2 k x0 x1 x5 x7 x8 0)
def crossbarref15_Check.l2 : Nat → List (S47) → Int → Int → List (S49) → Int → Int → Option (Int)
  | 0, _, _, _, _, _, _ => none
  | k + 1, x0, x1, x5, x7, x8, x9 => if x9 < x8 then (if 0 ≤ x9 then (if x9 < (x7.length : Int) then (if 0 ≤ x8 then (if x8 < (x7.length : Int) then (if ((rd_T49 x7 x9).f0) = ((rd_T49 x7 x8).f0) then (some 1) else (crossbarref15_Check.l2 k x0 x1 x5 x7 x8 (wrap64 (x9 + 1)))) else (none)) else (none)) else (none)) else (none)) else (crossbarref15_Check.l1 k x0 x1 x5 x7 (wrap64 (x8 + 1)))
end
def crossbarref15_Check.f (k : Nat) (l0 : List (S47)) (a1 : Int) : Option (Int) := if a1 < 0 then (crossbarref15_Check.j0 k l0 a1 true) else (crossbarref15_Check.j0 k l0 a1 (decide (a1 > 6)))
theorem crossbarref15_Check.mono_l : ∀ k, (∀ y0 y1 y2, LeO (crossbarref15_Check.j0 k y0 y1 y2) (crossbarref15_Check.j0 (k + 1) y0 y1 y2)) ∧ (∀ y0 y1 y2, LeO (crossbarref15_Check.l0 k y0 y1 y2) (crossbarref15_Check.l0 (k + 1) y0 y1 y2)) ∧ (∀ y0 y1 y2 y3, LeO (crossbarref15_Check.j2 k y0 y1 y2 y3) (crossbarref15_Check.j2 (k + 1) y0 y1 y2 y3)) ∧ (∀ y0 y1 y2 y3 y4, LeO (crossbarref15_Check.l1 k y0 y1 y2 y3 y4) (crossbarref15_Check.l1 (k + 1) y0 y1 y2 y3 y4)) ∧ (∀ y0 y1 y2 y3 y4 y5, LeO (crossbarref15_Check.j4 k y0 y1 y2 y3 y4 y5) (crossbarref15_Check.j4 (k + 1) y0 y1 y2 y3 y4 y5)) ∧ (∀ y0 y1 y2 y3 y4 y5, LeO (crossbarref15_Check.l2 k y0 y1 y2 y3 y4 y5) (crossbarref15_Check.l2 (k + 1) y0 y1 y2 y3 y4 y5))
  | 0 => ⟨fun _ _ _ r h => by simp [crossbarref15_Check.j0] at h, fun _ _ _ r h => by simp [crossbarref15_Check.l0] at h, fun _ _ _ _ r h => by simp [crossbarref15_Check.j2] at h, fun _ _ _ _ _ r h => by simp [crossbarref15_Check.l1] at h, fun _ _ _ _ _ _ r h => by simp [crossbarref15_Check.j4] at h, fun _ _ _ _ _ _ r h => by simp [crossbarref15_Check.l2] at h⟩
  | k + 1 => by
    obtain ⟨ih0, ih1, ih2, ih3, ih4, ih5⟩ := crossbarref15_Check.mono_l k
    refine ⟨?_, ?_, ?_, ?_, ?_, ?_⟩
    · intro y0 y1 y2
      unfold crossbarref15_Check.j0
      repeat' first
      | (with_reducible exact ih0 _ _ _)
      | (with_reducible exact ih1 _ _ _)
      | (with_reducible exact ih2 _ _ _ _)
      | (with_reducible exact ih3 _ _ _ _ _)
      | (with_reducible exact ih4 _ _ _ _ _ _)
      | (with_reducible exact ih5 _ _ _ _ _ _)
      | (with_reducible exact LeO.refl _)
      | (with_reducible exact LeO.none _)
      | (with_reducible refine LeO.ite ?_ ?_)
      | (with_reducible refine LeO.bind ?_ (fun _ => ?_))
      | exact ih0 _ _ _
      | exact ih1 _ _ _
      | exact ih2 _ _ _ _
      | exact ih3 _ _ _ _ _
      | exact ih4 _ _ _ _ _ _
      | exact ih5 _ _ _ _ _ _
      | exact LeO.none _
      | refine LeO.ite ?_ ?_
      | refine LeO.bind ?_ (fun _ => ?_)
    · intro y0 y1 y2
      unfold crossbarref15_Check.l0
      repeat' first
      | (with_reducible exact ih0 _ _ _)
      | (with_reducible exact ih1 _ _ _)
      | (with_reducible exact ih2 _ _ _ _)
      | (with_reducible exact ih3 _ _ _ _ _)
      | (with_reducible exact ih4 _ _ _ _ _ _)
      | (with_reducible exact ih5 _ _ _ _ _ _)
      | (with_reducible exact LeO.refl _)
      | (with_reducible exact LeO.none _)
      | (with_reducible refine LeO.ite ?_ ?_)
      | (with_reducible refine LeO.bind ?_ (fun _ => ?_))
      | exact ih0 _ _ _
      | exact ih1 _ _ _
      | exact ih2 _ _ _ _
      | exact ih3 _ _ _ _ _
      | exact ih4 _ _ _ _ _ _
      | exact ih5 _ _ _ _ _ _
      | exact LeO.none _
      | refine LeO.ite ?_ ?_
      | refine LeO.bind ?_ (fun _ => ?_)
    · intro y0 y1 y2 y3
      unfold crossbarref15_Check.j2
      repeat' first
      | (with_reducible exact ih0 _ _ _)
      | (with_reducible exact ih1 _ _ _)
      | (with_reducible exact ih2 _ _ _ _)
      | (with_reducible exact ih3 _ _ _ _ _)
      | (with_reducible exact ih4 _ _ _ _ _ _)
      | (with_reducible exact ih5 _ _ _ _ _ _)
      | (with_reducible exact LeO.refl _)
      | (with_reducible exact LeO.none _)
      | (with_reducible refine LeO.ite ?_ ?_)
      | (with_reducible refine LeO.bind ?_ (fun _ => ?_))
      | exact ih0 _ _ _
      | exact ih1 _ _ _
      | exact ih2 _ _ _ _
      | exact ih3 _ _ _ _ _
      | exact ih4 _ _ _ _ _ _
      | exact ih5 _ _ _ _ _ _
      | exact LeO.none _
      | refine LeO.ite ?_ ?_
      | refine LeO.bind ?_ (fun _ => ?_)
    · intro y0 y1 y2 y3 y4
      unfold crossbarref15_Check.l1
      repeat' first
      | (with_reducible exact ih0 _ _ _)
      | (with_reducible exact ih1 _ _ _)
      | (with_reducible exact ih2 _ _ _ _)
      | (with_reducible exact ih3 _ _ _ _ _)
      | (with_reducible exact ih4 _ _ _ _ _ _)
      | (with_reducible exact ih5 _ _ _ _ _ _)
      | (with_reducible exact LeO.refl _)
      | (with_reducible exact LeO.none _)
      | (with_reducible refine LeO.ite ?_ ?_)
      | (with_reducible refine LeO.bind ?_ (fun _ => ?_))
      | exact ih0 _ _ _
      | exact ih1 _ _ _
      | exact ih2 _ _ _ _
      | exact ih3 _ _ _ _ _
      | exact ih4 _ _ _ _ _ _
      | exact ih5 _ _ _ _ _ _
      | exact LeO.none _
      | refine LeO.ite ?_ ?_
      | refine LeO.bind ?_ (fun _ => ?_)
    · intro y0 y1 y2 y3 y4 y5
      unfold crossbarref15_Check.j4
      repeat' first
      | (with_reducible exact ih0 _ _ _)
      | (with_reducible exact ih1 _ _ _)
      | (with_reducible exact ih2 _ _ _ _)
      | (with_reducible exact ih3 _ _ _ _ _)
      | (with_reducible exact ih4 _ _ _ _ _ _)
      | (with_reducible exact ih5 _ _ _ _ _ _)
      | (with_reducible exact LeO.refl _)
      | (with_reducible exact LeO.none _)
      | (with_reducible refine LeO.ite ?_ ?_)
      | (with_reducible refine LeO.bind ?_ (fun _ => ?_))
      | exact ih0 _ _ _
      | exact ih1 _ _ _
      | exact ih2 _ _ _ _
      | exact ih3 _ _ _ _ _
      | exact ih4 _ _ _ _ _ _
      | exact ih5 _ _ _ _ _ _
      | exact LeO.none _
      | refine LeO.ite ?_ ?_
      | refine LeO.bind ?_ (fun _ => ?_)
    · intro y0 y1 y2 y3 y4 y5
      unfold crossbarref15_Check.l2
      repeat' first
      | (with_reducible exact ih0 _ _ _)
      | (with_reducible exact ih1 _ _ _)
      | (with_reducible exact ih2 _ _ _ _)
      | (with_reducible exact ih3 _ _ _ _ _)
      | (with_reducible exact ih4 _ _ _ _ _ _)
      | (with_reducible exact ih5 _ _ _ _ _ _)
      | (with_reducible exact LeO.refl _)
      | (with_reducible exact LeO.none _)
      | (with_reducible refine LeO.ite ?_ ?_)
      | (with_reducible refine LeO.bind ?_ (fun _ => ?_))
      | exact ih0 _ _ _
      | exact ih1 _ _ _
      | exact ih2 _ _ _ _
      | exact ih3 _ _ _ _ _
      | exact ih4 _ _ _ _ _ _
      | exact ih5 _ _ _ _ _ _
      | exact LeO.none _
      | refine LeO.ite ?_ ?_
      | refine LeO.bind ?_ (fun _ => ?_)
theorem crossbarref15_Check.mono : ∀ a0 a1 k, LeO (crossbarref15_Check.f k a0 a1) (crossbarref15_Check.f (k + 1) a0 a1) := by
  intro a0 a1 k
  obtain ⟨ih0, ih1, ih2, ih3, ih4, ih5⟩ := crossbarref15_Check.mono_l k
  unfold crossbarref15_Check.f
  repeat' first
      | (with_reducible exact ih0 _ _ _)
      | (with_reducible exact ih1 _ _ _)
      | (with_reducible exact ih2 _ _ _ _)
      | (with_reducible exact ih3 _ _ _ _ _)
      | (with_reducible exact ih4 _ _ _ _ _ _)
      | (with_reducible exact ih5 _ _ _ _ _ _)
      | (with_reducible exact LeO.refl _)
      | (with_reducible exact LeO.none _)
      | (with_reducible refine LeO.ite ?_ ?_)
      | (with_reducible refine LeO.bind ?_ (fun _ => ?_))
      | exact ih0 _ _ _
      | exact ih1 _ _ _
      | exact ih2 _ _ _ _
      | exact ih3 _ _ _ _ _
      | exact ih4 _ _ _ _ _ _
      | exact ih5 _ _ _ _ _ _
      | exact LeO.none _
      | refine LeO.ite ?_ ?_
      | refine LeO.bind ?_ (fun _ => ?_)
set_option maxHeartbeats 8000000 in
set_option maxRecDepth 100000 in
theorem crossbarref15_Check.calls (k : Nat) (A0 : Option Addr) (c0 : Nat) (l0 : List (S47)) (a1 : Int) (r : Int) (w : World) (hr0 : Kd.C k47 w A0 l0.length l0) (hc0 : l0.length ≤ c0) (h : crossbarref15_Check.f k l0 a1 = some r) :
    Calls Try.prog 20 #[.slice A0 l0.length c0, .int .i64 a1] w fun e w' => e = .returned (.int .i64 r) ∧ Drawn0 w w' := by
  have HR0 := Aside0.mk hr0
  have HC0 := Aside0.mk hc0
  clear hr0 hc0
  have H : (if a1 < 0 then (crossbarref15_Check.j0 k l0 a1 true) else (crossbarref15_Check.j0 k l0 a1 (decide (a1 > 6)))) = some r := h
  clear h
  have HC3 := Aside0.mk H
  clear H
  go_enter Try.func20, Try.ntmps20
  go_upto_region 1 with (fail)
  repeat (go_quiet (fail); go_upto_region 1 with (fail))
  go_cut [15] (fun v15 wc => ∃ (kq : Nat) (x15_2 : Bool), v15 = .bool x15_2 ∧ Aside0 (crossbarref15_Check.j0 kq l0 a1 x15_2 = some r) ∧ Aside0 (kq ≤ k) ∧ Drawn0 w wc)
  case first =>
    have H := HC3.out
    clear HC3
    by_cases c4 : a1 < 0
    · rw [if_pos c4] at H
      have c4b0 : decide (a1 < 0) = true := decide_eq_true c4
      clear c4
      (first | rw [c4b0] | (simp only [i64_w, i32_w]; rw [c4b0]) | skip)
      have H' := Aside0.mk H
      clear H
      go_wp2
      repeat (go_quiet (fail); try go_wp2)
      go_meet
      case rel => exact ⟨_, (true), (by first | rfl | (simp; done) | (simp [*]; done)), H', ⟨by first | omega | exact Nat.le_refl _⟩, by repeat (first | exact Drawn0.refl _ | apply Drawn0.step)⟩
    · rw [if_neg c4] at H
      have c4b0 : decide (a1 < 0) = false := decide_eq_false c4
      clear c4
      (first | rw [c4b0] | (simp only [i64_w, i32_w]; rw [c4b0]) | skip)
      have H' := Aside0.mk H
      clear H
      go_wp2
      repeat (go_quiet (fail); try go_wp2)
      go_meet
      case rel => exact ⟨_, (decide (a1 > 6)), (by first | rfl | (simp; done) | (simp [*]; done)), H', ⟨by first | omega | exact Nat.le_refl _⟩, by repeat (first | exact Drawn0.refl _ | apply Drawn0.step)⟩
  case rest =>
    clear HC3
    try clear c2
    try clear p2
    try clear c4
    try clear c4b0
    obtain ⟨kq, x15_2, rfl, HA, HJ2, ⟨mc2, rfl⟩⟩ := hcut
    cases kq with
    | zero => exact absurd HA.out (by simp [crossbarref15_Check.j0])
    | succ kj2 =>
      have H := HA.out
      clear HA
      simp only [crossbarref15_Check.j0] at H
      by_cases c5 : x15_2 = true
      · subst c5
        have H1 : (some 1) = some r := by rw [if_pos rfl] at H; exact H
        clear H
        have H := H1
        clear H1
        obtain rfl := Option.some.inj H
        go_wp2
        repeat (go_quiet (fail); try go_wp2)
        go_ret
        exact ⟨by first | rfl | (simp; done) | (simp [*]; done), by repeat (first | exact Drawn0.refl _ | apply Drawn0.step)⟩
      · replace c5 := Bool.eq_false_iff.mpr c5
        subst c5
        have H1 : (crossbarref15_Check.l0 kj2 l0 a1 0) = some r := by rw [if_neg (show ¬ (false = true) by decide)] at H; exact H
        clear H
        have H := H1
        clear H1
        have H' := Aside0.mk H
        clear H
        go_wp2
        repeat (go_quiet (fail); try go_wp2)
        go_loopg [5] kj2 (fun kq v5 w' => ∃ (x5_2 : Int), v5 = .int .i64 x5_2 ∧ Aside0 (crossbarref15_Check.l0 kq l0 a1 x5_2 = some r) ∧ Aside0 (kq ≤ kj2) ∧ Drawn0 w w')
        case atStart => exact ⟨(0), (by first | rfl | (simp; done) | (simp [*]; done)), H', ⟨Nat.le_refl _⟩, by repeat (first | exact Drawn0.refl _ | apply Drawn0.step)⟩
        case round =>
          clear H'
          try clear c2
          try clear p2
          try clear c4
          try clear c4b0
          try clear c5
          try clear p2
          obtain ⟨x5_2, rfl, HA, HK2, ⟨m2, rfl⟩⟩ := hrel
          cases gk with
          | zero => exact absurd HA.out (by simp [crossbarref15_Check.l0])
          | succ k2 =>
            have H := HA.out
            clear HA
            simp only [crossbarref15_Check.l0] at H
            by_cases c6 : x5_2 < (l0.length : Int)
            · rw [if_pos c6] at H
              have c6b0 : decide (x5_2 < (l0.length : Int)) = true := decide_eq_true c6
              clear c6
              by_cases c7 : 0 ≤ x5_2
              · rw [if_pos c7] at H
                have c7b0 : decide (0 ≤ x5_2) = true := decide_eq_true c7
                clear c7
                have HC8 := Aside0.mk H
                clear H
                have p184 : 0 ≤ (x5_2 : Int) := of_decide_eq_true (by first | (with_reducible assumption) | assumption)
                have q184 : x5_2 < (l0.length : Int) := of_decide_eq_true (by first | (with_reducible assumption) | assumption)
                obtain ⟨ad184, A184_1, c184_1, e184, hx184_0, hx184_1, hl184_1, hi184_1⟩ := at_T47 HR0.out x5_2 p184 q184
                cases e184
                have HR184_1 := Aside0.mk hi184_1
                have HC184_1 := Aside0.mk hl184_1
                clear hi184_1 hl184_1
                replace p184 := eq_true p184
                replace q184 := eq_true q184
                go_upto_region 7 with (fail)
                repeat (go_quiet (fail); go_upto_region 7 with (fail))
                go_cut [46] (fun v46 wc => ∃ (kq : Nat) (x46_7 : Bool), v46 = .bool x46_7 ∧ Aside0 (crossbarref15_Check.j2 kq l0 a1 x5_2 x46_7 = some r) ∧ Aside0 (kq ≤ k2) ∧ Drawn0 w wc)
                case first =>
                  have H := HC8.out
                  clear HC8
                  by_cases c9 : ((rd_T47 l0 x5_2).f0) < (-1)
                  · rw [if_pos c9] at H
                    have c9b0 : decide (((rd_T47 l0 x5_2).f0) < (-1)) = true := decide_eq_true c9
                    clear c9
                    (first | rw [c9b0] | (simp only [i64_w, i32_w]; rw [c9b0]) | skip)
                    have H' := Aside0.mk H
                    clear H
                    go_wp2
                    repeat (go_quiet (fail); try go_wp2)
                    go_meet
                    case rel => exact ⟨_, (true), (by first | rfl | (simp; done) | (simp [*]; done)), H', ⟨by have := HJ2.out; have := HK2.out; first | omega | exact Nat.le_refl _⟩, by repeat (first | exact Drawn0.refl _ | apply Drawn0.step)⟩
                  · rw [if_neg c9] at H
                    have c9b0 : decide (((rd_T47 l0 x5_2).f0) < (-1)) = false := decide_eq_false c9
                    clear c9
                    (first | rw [c9b0] | (simp only [i64_w, i32_w]; rw [c9b0]) | skip)
                    by_cases c10 : ((rd_T47 l0 x5_2).f0) ≥ 6
                    · rw [if_pos c10] at H
                      have c10b0 : decide (6 ≤ ((rd_T47 l0 x5_2).f0)) = true := decide_eq_true c10
                      clear c10
                      have H' := Aside0.mk H
                      clear H
                      go_wp2
                      repeat (go_quiet (fail); try go_wp2)
                      go_meet
                      case rel => exact ⟨_, (true), (by first | rfl | (simp; done) | (simp [*]; done)), H', ⟨by have := HJ2.out; have := HK2.out; first | omega | exact Nat.le_refl _⟩, by repeat (first | exact Drawn0.refl _ | apply Drawn0.step)⟩
                    · rw [if_neg c10] at H
                      have c10b0 : decide (6 ≤ ((rd_T47 l0 x5_2).f0)) = false := decide_eq_false c10
                      clear c10
                      by_cases c11 : x5_2 > 0
                      · rw [if_pos c11] at H
                        have c11b0 : decide (0 < x5_2) = true := decide_eq_true c11
                        clear c11
                        obtain ⟨ji12, hji12⟩ : ∃ j_ : Int, (wrap64 (x5_2 - 1)) = j_ := ⟨_, rfl⟩
                        replace H : (if 0 ≤ (ji12) then (if (ji12) < (l0.length : Int) then (crossbarref15_Check.j2 k2 l0 a1 x5_2 (decide (((rd_T47 l0 (ji12)).f0) ≥ ((rd_T47 l0 x5_2).f0)))) else (none)) else (none)) = some r := by first | (rw [hji12] at H; exact H) | (simp only [hji12] at H ⊢; exact H)
                        have hji12w : (IntKind.i64.wrap (x5_2 - 1)) = ji12 := (i64_w _).trans hji12
                        by_cases c13 : 0 ≤ (ji12)
                        · rw [if_pos c13] at H
                          have c13b0 : decide (0 ≤ (ji12)) = true := decide_eq_true c13
                          clear c13
                          by_cases c14 : (ji12) < (l0.length : Int)
                          · rw [if_pos c14] at H
                            have c14b0 : decide ((ji12) < (l0.length : Int)) = true := decide_eq_true c14
                            clear c14
                            have H' := Aside0.mk H
                            clear H
                            have p185 : 0 ≤ ((ji12) : Int) := of_decide_eq_true (by first | (with_reducible assumption) | assumption)
                            have q185 : (ji12) < (l0.length : Int) := of_decide_eq_true (by first | (with_reducible assumption) | assumption)
                            obtain ⟨ad185, A185_1, c185_1, e185, hx185_0, hx185_1, hl185_1, hi185_1⟩ := at_T47 HR0.out (ji12) p185 q185
                            obtain rfl : ad184 = ad185 := (by injection e185)
                            have HR185_1 := Aside0.mk hi185_1
                            have HC185_1 := Aside0.mk hl185_1
                            clear hi185_1 hl185_1
                            replace p185 := eq_true p185
                            replace q185 := eq_true q185
                            go_wp2
                            repeat (go_quiet (fail); try go_wp2)
                            go_meet
                            case rel => exact ⟨_, (decide (((rd_T47 l0 (ji12)).f0) ≥ ((rd_T47 l0 x5_2).f0))), (by first | rfl | (simp; done) | (simp only [← hji12] <;> (first | rfl | simp)) | (simp [*]; done)), H', ⟨by have := HJ2.out; have := HK2.out; first | omega | exact Nat.le_refl _⟩, by repeat (first | exact Drawn0.refl _ | apply Drawn0.step)⟩
                          · rw [if_neg c14] at H
                            exact absurd H (by simp)
                        · rw [if_neg c13] at H
                          exact absurd H (by simp)
                      · rw [if_neg c11] at H
                        have c11b0 : decide (0 < x5_2) = false := decide_eq_false c11
                        clear c11
                        have H' := Aside0.mk H
                        clear H
                        go_wp2
                        repeat (go_quiet (fail); try go_wp2)
                        go_meet
                        case rel => exact ⟨_, (false), (by first | rfl | (simp; done) | (simp [*]; done)), H', ⟨by have := HJ2.out; have := HK2.out; first | omega | exact Nat.le_refl _⟩, by repeat (first | exact Drawn0.refl _ | apply Drawn0.step)⟩
                case rest =>
                  clear HC8
                  try clear c1
                  try clear p1
                  try clear q1
                  try clear hx1
                  try clear c2
                  try clear p2
                  try clear c4
                  try clear c4b0
                  try clear c5
                  try clear c6
                  try clear c6b0
                  try clear p6
                  try clear c7
                  try clear c7b0
                  try clear c9
                  try clear c9b0
                  try clear c10
                  try clear c10b0
                  try clear c11
                  try clear c11b0
                  try clear c13
                  try clear c13b0
                  try clear c14
                  try clear c14b0
                  try clear hx184_0
                  try clear hx184_1
                  try clear hx185_0
                  try clear hx185_1
                  try clear p184
                  try clear p185
                  try clear p2
                  try clear q184
                  try clear q185
                  obtain ⟨kq, x46_7, rfl, HA, HJ7, ⟨mc7, rfl⟩⟩ := hcut
                  cases kq with
                  | zero => exact absurd HA.out (by simp [crossbarref15_Check.j2])
                  | succ kj7 =>
                    have H := HA.out
                    clear HA
                    simp only [crossbarref15_Check.j2] at H
                    by_cases c15 : x46_7 = true
                    · subst c15
                      have H1 : (some 1) = some r := by rw [if_pos rfl] at H; exact H
                      clear H
                      have H := H1
                      clear H1
                      obtain rfl := Option.some.inj H
                      go_wp2
                      repeat (go_quiet (fail); try go_wp2)
                      go_ret
                      exact ⟨by first | rfl | (simp; done) | (simp [*]; done), by repeat (first | exact Drawn0.refl _ | apply Drawn0.step)⟩
                    · replace c15 := Bool.eq_false_iff.mpr c15
                      subst c15
                      have H1 : (if 0 ≤ x5_2 then (if x5_2 < (l0.length : Int) then (crossbarref15_Check.l1 kj7 l0 a1 x5_2 ((rd_T47 l0 x5_2).f1) 0) else (none)) else (none)) = some r := by rw [if_neg (show ¬ (false = true) by decide)] at H; exact H
                      clear H
                      have H := H1
                      clear H1
                      by_cases c16 : 0 ≤ x5_2
                      · rw [if_pos c16] at H
                        have c16b0 : decide (0 ≤ x5_2) = true := decide_eq_true c16
                        clear c16
                        by_cases c17 : x5_2 < (l0.length : Int)
                        · rw [if_pos c17] at H
                          have c17b0 : decide (x5_2 < (l0.length : Int)) = true := decide_eq_true c17
                          clear c17
                          have H' := Aside0.mk H
                          clear H
                          have p186 : 0 ≤ (x5_2 : Int) := of_decide_eq_true (by first | (with_reducible assumption) | assumption)
                          have q186 : x5_2 < (l0.length : Int) := of_decide_eq_true (by first | (with_reducible assumption) | assumption)
                          obtain ⟨ad186, A186_1, c186_1, e186, hx186_0, hx186_1, hl186_1, hi186_1⟩ := at_T47 HR0.out x5_2 p186 q186
                          obtain rfl : ad184 = ad186 := (by injection e186)
                          have HR186_1 := Aside0.mk hi186_1
                          have HC186_1 := Aside0.mk hl186_1
                          clear hi186_1 hl186_1
                          replace p186 := eq_true p186
                          replace q186 := eq_true q186
                          go_wp2
                          repeat (go_quiet (fail); try go_wp2)
                          go_loopg [8] kj7 (fun kq v8 w' => ∃ (x8_4 : Int), v8 = .int .i64 x8_4 ∧ Aside0 (crossbarref15_Check.l1 kq l0 a1 x5_2 ((rd_T47 l0 x5_2).f1) x8_4 = some r) ∧ Aside0 (kq ≤ kj7) ∧ Drawn0 w w')
                          case atStart => exact ⟨(0), (by first | rfl | (simp; done) | (simp [*]; done)), H', ⟨Nat.le_refl _⟩, by repeat (first | exact Drawn0.refl _ | apply Drawn0.step)⟩
                          case round =>
                            clear H'
                            try clear c1
                            try clear p1
                            try clear q1
                            try clear hx1
                            try clear c2
                            try clear p2
                            try clear c4
                            try clear c4b0
                            try clear c5
                            try clear c6
                            try clear c6b0
                            try clear p6
                            try clear c7
                            try clear c7b0
                            try clear c9
                            try clear c9b0
                            try clear c10
                            try clear c10b0
                            try clear c11
                            try clear c11b0
                            try clear c13
                            try clear c13b0
                            try clear c14
                            try clear c14b0
                            try clear c15
                            try clear c16
                            try clear c16b0
                            try clear c17
                            try clear c17b0
                            try clear hx184_0
                            try clear hx184_1
                            try clear hx185_0
                            try clear hx185_1
                            try clear hx186_0
                            try clear hx186_1
                            try clear p1
                            try clear p184
                            try clear p185
                            try clear p186
                            try clear p2
                            try clear p6
                            try clear q1
                            try clear q184
                            try clear q185
                            try clear q186
                            obtain ⟨x8_4, rfl, HA, HK4, ⟨m4, rfl⟩⟩ := hrel
                            cases gk with
                            | zero => exact absurd HA.out (by simp [crossbarref15_Check.l1])
                            | succ k4 =>
                              have H := HA.out
                              clear HA
                              simp only [crossbarref15_Check.l1] at H
                              by_cases c18 : x8_4 < (((rd_T47 l0 x5_2).f1).length : Int)
                              · rw [if_pos c18] at H
                                have c18b0 : decide (x8_4 < (((rd_T47 l0 x5_2).f1).length : Int)) = true := decide_eq_true c18
                                clear c18
                                have HC19 := Aside0.mk H
                                clear H
                                go_upto_region 13 with (fail)
                                repeat (go_quiet (fail); go_upto_region 13 with (fail))
                                go_cut [90] (fun v90 wc => ∃ (kq : Nat) (x90_18 : Bool), v90 = .bool x90_18 ∧ Aside0 (crossbarref15_Check.j4 kq l0 a1 x5_2 ((rd_T47 l0 x5_2).f1) x8_4 x90_18 = some r) ∧ Aside0 (kq ≤ k4) ∧ Drawn0 w wc)
                                case first =>
                                  have H := HC19.out
                                  clear HC19
                                  by_cases c20 : 0 ≤ x8_4
                                  · rw [if_pos c20] at H
                                    have c20b0 : decide (0 ≤ x8_4) = true := decide_eq_true c20
                                    clear c20
                                    (first | rw [c20b0] | (simp only [i64_w, i32_w]; rw [c20b0]) | skip)
                                    by_cases c21 : ((rd_T49 ((rd_T47 l0 x5_2).f1) x8_4).f0) < 0
                                    · rw [if_pos c21] at H
                                      have c21b0 : decide (((rd_T49 ((rd_T47 l0 x5_2).f1) x8_4).f0) < 0) = true := decide_eq_true c21
                                      clear c21
                                      have H' := Aside0.mk H
                                      clear H
                                      have p187 : 0 ≤ (x8_4 : Int) := of_decide_eq_true (by first | (with_reducible assumption) | assumption)
                                      have q187 : x8_4 < (((rd_T47 l0 x5_2).f1).length : Int) := of_decide_eq_true (by first | (with_reducible assumption) | assumption)
                                      obtain ⟨ad187, e187, hx187_0, hx187_1, hx187_2⟩ := at_T49 HR186_1.out x8_4 p187 q187
                                      cases e187
                                      replace p187 := eq_true p187
                                      replace q187 := eq_true q187
                                      go_wp2
                                      repeat (go_quiet (fail); try go_wp2)
                                      go_meet
                                      case rel => exact ⟨_, (true), (by first | rfl | (simp; done) | (simp [*]; done)), H', ⟨by have := HJ2.out; have := HK2.out; have := HJ7.out; have := HK4.out; first | omega | exact Nat.le_refl _⟩, by repeat (first | exact Drawn0.refl _ | apply Drawn0.step)⟩
                                    · rw [if_neg c21] at H
                                      have c21b0 : decide (((rd_T49 ((rd_T47 l0 x5_2).f1) x8_4).f0) < 0) = false := decide_eq_false c21
                                      clear c21
                                      by_cases c22 : ((rd_T49 ((rd_T47 l0 x5_2).f1) x8_4).f0) ≥ a1
                                      · rw [if_pos c22] at H
                                        have c22b0 : decide (a1 ≤ ((rd_T49 ((rd_T47 l0 x5_2).f1) x8_4).f0)) = true := decide_eq_true c22
                                        clear c22
                                        have H' := Aside0.mk H
                                        clear H
                                        have p187 : 0 ≤ (x8_4 : Int) := of_decide_eq_true (by first | (with_reducible assumption) | assumption)
                                        have q187 : x8_4 < (((rd_T47 l0 x5_2).f1).length : Int) := of_decide_eq_true (by first | (with_reducible assumption) | assumption)
                                        obtain ⟨ad187, e187, hx187_0, hx187_1, hx187_2⟩ := at_T49 HR186_1.out x8_4 p187 q187
                                        cases e187
                                        replace p187 := eq_true p187
                                        replace q187 := eq_true q187
                                        have p188 : 0 ≤ (x8_4 : Int) := of_decide_eq_true (by first | (with_reducible assumption) | assumption)
                                        have q188 : x8_4 < (((rd_T47 l0 x5_2).f1).length : Int) := of_decide_eq_true (by first | (with_reducible assumption) | assumption)
                                        obtain ⟨ad188, e188, hx188_0, hx188_1, hx188_2⟩ := at_T49 HR186_1.out x8_4 p188 q188
                                        obtain rfl : ad187 = ad188 := (by injection e188)
                                        replace p188 := eq_true p188
                                        replace q188 := eq_true q188
                                        go_wp2
                                        repeat (go_quiet (fail); try go_wp2)
                                        go_meet
                                        case rel => exact ⟨_, (true), (by first | rfl | (simp; done) | (simp [*]; done)), H', ⟨by have := HJ2.out; have := HK2.out; have := HJ7.out; have := HK4.out; first | omega | exact Nat.le_refl _⟩, by repeat (first | exact Drawn0.refl _ | apply Drawn0.step)⟩
                                      · rw [if_neg c22] at H
                                        have c22b0 : decide (a1 ≤ ((rd_T49 ((rd_T47 l0 x5_2).f1) x8_4).f0)) = false := decide_eq_false c22
                                        clear c22
                                        replace H := Option.bind_eq_some_iff.mp H
                                        obtain ⟨t190, A230, H⟩ := H
                                        replace H : (if t190 = true then ((crossbarref15_cost.f ((rd_T49 ((rd_T47 l0 x5_2).f1) x8_4).f2)).bind fun t192 => (crossbarref15_Check.j4 k4 l0 a1 x5_2 ((rd_T47 l0 x5_2).f1) x8_4 (!t192))) else (crossbarref15_Check.j4 k4 l0 a1 x5_2 ((rd_T47 l0 x5_2).f1) x8_4 true)) = some r := H
                                        have A23 := Aside0.mk A230
                                        clear A230
                                        by_cases c24 : t190 = true
                                        · subst c24
                                          have H1 : ((crossbarref15_cost.f ((rd_T49 ((rd_T47 l0 x5_2).f1) x8_4).f2)).bind fun t192 => (crossbarref15_Check.j4 k4 l0 a1 x5_2 ((rd_T47 l0 x5_2).f1) x8_4 (!t192))) = some r := by rw [if_pos rfl] at H; exact H
                                          clear H
                                          have H := H1
                                          clear H1
                                          replace H := Option.bind_eq_some_iff.mp H
                                          obtain ⟨t192, A250, H⟩ := H
                                          replace H : (crossbarref15_Check.j4 k4 l0 a1 x5_2 ((rd_T47 l0 x5_2).f1) x8_4 (!t192)) = some r := H
                                          have A25 := Aside0.mk A250
                                          clear A250
                                          have H' := Aside0.mk H
                                          clear H
                                          have p187 : 0 ≤ (x8_4 : Int) := of_decide_eq_true (by first | (with_reducible assumption) | assumption)
                                          have q187 : x8_4 < (((rd_T47 l0 x5_2).f1).length : Int) := of_decide_eq_true (by first | (with_reducible assumption) | assumption)
                                          obtain ⟨ad187, e187, hx187_0, hx187_1, hx187_2⟩ := at_T49 HR186_1.out x8_4 p187 q187
                                          cases e187
                                          replace p187 := eq_true p187
                                          replace q187 := eq_true q187
                                          have p188 : 0 ≤ (x8_4 : Int) := of_decide_eq_true (by first | (with_reducible assumption) | assumption)
                                          have q188 : x8_4 < (((rd_T47 l0 x5_2).f1).length : Int) := of_decide_eq_true (by first | (with_reducible assumption) | assumption)
                                          obtain ⟨ad188, e188, hx188_0, hx188_1, hx188_2⟩ := at_T49 HR186_1.out x8_4 p188 q188
                                          obtain rfl : ad187 = ad188 := (by injection e188)
                                          replace p188 := eq_true p188
                                          replace q188 := eq_true q188
                                          have p189 : 0 ≤ (x8_4 : Int) := of_decide_eq_true (by first | (with_reducible assumption) | assumption)
                                          have q189 : x8_4 < (((rd_T47 l0 x5_2).f1).length : Int) := of_decide_eq_true (by first | (with_reducible assumption) | assumption)
                                          obtain ⟨ad189, e189, hx189_0, hx189_1, hx189_2⟩ := at_T49 HR186_1.out x8_4 p189 q189
                                          obtain rfl : ad187 = ad189 := (by injection e189)
                                          replace p189 := eq_true p189
                                          replace q189 := eq_true q189
                                          go_wp2_with (first | (go_at_call 40; (with_reducible refine (crossbarref15_cost.calls ((rd_T49 ((rd_T47 l0 x5_2).f1) x8_4).f1) true _ A23.out).mono ?_); rintro e w' ⟨rfl, ⟨nd, rfl⟩⟩; (try first | exact ⟨rfl, _, World.drewN_drewN _ _ _⟩ | exact ⟨rfl, _, Eq.trans (World.drewN_drewN _ _ _) (congrArg (World.drewN _) (Nat.add_assoc _ _ _))⟩); have p191 : 0 ≤ (x8_4 : Int) := of_decide_eq_true (by first | (with_reducible assumption) | assumption); have q191 : x8_4 < (((rd_T47 l0 x5_2).f1).length : Int) := of_decide_eq_true (by first | (with_reducible assumption) | assumption); obtain ⟨ad191, e191, hx191_0, hx191_1, hx191_2⟩ := at_T49 HR186_1.out x8_4 p191 q191; obtain rfl : ad187 = ad191 := (by injection e191); replace p191 := eq_true p191; replace q191 := eq_true q191) | (go_at_call 40; (with_reducible refine (crossbarref15_cost.calls ((rd_T49 ((rd_T47 l0 x5_2).f1) x8_4).f2) t192 _ A25.out).mono ?_); rintro e w' ⟨rfl, ⟨nd, rfl⟩⟩; (try first | exact ⟨rfl, _, World.drewN_drewN _ _ _⟩ | exact ⟨rfl, _, Eq.trans (World.drewN_drewN _ _ _) (congrArg (World.drewN _) (Nat.add_assoc _ _ _))⟩)))
                                          repeat (go_quiet (first | (go_at_call 40; (with_reducible refine (crossbarref15_cost.calls ((rd_T49 ((rd_T47 l0 x5_2).f1) x8_4).f1) true _ A23.out).mono ?_); rintro e w' ⟨rfl, ⟨nd, rfl⟩⟩; (try first | exact ⟨rfl, _, World.drewN_drewN _ _ _⟩ | exact ⟨rfl, _, Eq.trans (World.drewN_drewN _ _ _) (congrArg (World.drewN _) (Nat.add_assoc _ _ _))⟩); have p191 : 0 ≤ (x8_4 : Int) := of_decide_eq_true (by first | (with_reducible assumption) | assumption); have q191 : x8_4 < (((rd_T47 l0 x5_2).f1).length : Int) := of_decide_eq_true (by first | (with_reducible assumption) | assumption); obtain ⟨ad191, e191, hx191_0, hx191_1, hx191_2⟩ := at_T49 HR186_1.out x8_4 p191 q191; obtain rfl : ad187 = ad191 := (by injection e191); replace p191 := eq_true p191; replace q191 := eq_true q191) | (go_at_call 40; (with_reducible refine (crossbarref15_cost.calls ((rd_T49 ((rd_T47 l0 x5_2).f1) x8_4).f2) t192 _ A25.out).mono ?_); rintro e w' ⟨rfl, ⟨nd, rfl⟩⟩; (try first | exact ⟨rfl, _, World.drewN_drewN _ _ _⟩ | exact ⟨rfl, _, Eq.trans (World.drewN_drewN _ _ _) (congrArg (World.drewN _) (Nat.add_assoc _ _ _))⟩))); try go_wp2_with (first | (go_at_call 40; (with_reducible refine (crossbarref15_cost.calls ((rd_T49 ((rd_T47 l0 x5_2).f1) x8_4).f1) true _ A23.out).mono ?_); rintro e w' ⟨rfl, ⟨nd, rfl⟩⟩; (try first | exact ⟨rfl, _, World.drewN_drewN _ _ _⟩ | exact ⟨rfl, _, Eq.trans (World.drewN_drewN _ _ _) (congrArg (World.drewN _) (Nat.add_assoc _ _ _))⟩); have p191 : 0 ≤ (x8_4 : Int) := of_decide_eq_true (by first | (with_reducible assumption) | assumption); have q191 : x8_4 < (((rd_T47 l0 x5_2).f1).length : Int) := of_decide_eq_true (by first | (with_reducible assumption) | assumption); obtain ⟨ad191, e191, hx191_0, hx191_1, hx191_2⟩ := at_T49 HR186_1.out x8_4 p191 q191; obtain rfl : ad187 = ad191 := (by injection e191); replace p191 := eq_true p191; replace q191 := eq_true q191) | (go_at_call 40; (with_reducible refine (crossbarref15_cost.calls ((rd_T49 ((rd_T47 l0 x5_2).f1) x8_4).f2) t192 _ A25.out).mono ?_); rintro e w' ⟨rfl, ⟨nd, rfl⟩⟩; (try first | exact ⟨rfl, _, World.drewN_drewN _ _ _⟩ | exact ⟨rfl, _, Eq.trans (World.drewN_drewN _ _ _) (congrArg (World.drewN _) (Nat.add_assoc _ _ _))⟩))))
                                          go_meet
                                          case rel => exact ⟨_, (!t192), (by first | rfl | (simp; done) | (simp [*]; done)), H', ⟨by have := HJ2.out; have := HK2.out; have := HJ7.out; have := HK4.out; first | omega | exact Nat.le_refl _⟩, by repeat (first | exact Drawn0.refl _ | apply Drawn0.step)⟩
                                        · replace c24 := Bool.eq_false_iff.mpr c24
                                          subst c24
                                          have H1 : (crossbarref15_Check.j4 k4 l0 a1 x5_2 ((rd_T47 l0 x5_2).f1) x8_4 true) = some r := by rw [if_neg (show ¬ (false = true) by decide)] at H; exact H
                                          clear H
                                          have H := H1
                                          clear H1
                                          have H' := Aside0.mk H
                                          clear H
                                          have p187 : 0 ≤ (x8_4 : Int) := of_decide_eq_true (by first | (with_reducible assumption) | assumption)
                                          have q187 : x8_4 < (((rd_T47 l0 x5_2).f1).length : Int) := of_decide_eq_true (by first | (with_reducible assumption) | assumption)
                                          obtain ⟨ad187, e187, hx187_0, hx187_1, hx187_2⟩ := at_T49 HR186_1.out x8_4 p187 q187
                                          cases e187
                                          replace p187 := eq_true p187
                                          replace q187 := eq_true q187
                                          have p188 : 0 ≤ (x8_4 : Int) := of_decide_eq_true (by first | (with_reducible assumption) | assumption)
                                          have q188 : x8_4 < (((rd_T47 l0 x5_2).f1).length : Int) := of_decide_eq_true (by first | (with_reducible assumption) | assumption)
                                          obtain ⟨ad188, e188, hx188_0, hx188_1, hx188_2⟩ := at_T49 HR186_1.out x8_4 p188 q188
                                          obtain rfl : ad187 = ad188 := (by injection e188)
                                          replace p188 := eq_true p188
                                          replace q188 := eq_true q188
                                          have p189 : 0 ≤ (x8_4 : Int) := of_decide_eq_true (by first | (with_reducible assumption) | assumption)
                                          have q189 : x8_4 < (((rd_T47 l0 x5_2).f1).length : Int) := of_decide_eq_true (by first | (with_reducible assumption) | assumption)
                                          obtain ⟨ad189, e189, hx189_0, hx189_1, hx189_2⟩ := at_T49 HR186_1.out x8_4 p189 q189
                                          obtain rfl : ad187 = ad189 := (by injection e189)
                                          replace p189 := eq_true p189
                                          replace q189 := eq_true q189
                                          go_wp2_with (first | (go_at_call 40; (with_reducible refine (crossbarref15_cost.calls ((rd_T49 ((rd_T47 l0 x5_2).f1) x8_4).f1) false _ A23.out).mono ?_); rintro e w' ⟨rfl, ⟨nd, rfl⟩⟩; (try first | exact ⟨rfl, _, World.drewN_drewN _ _ _⟩ | exact ⟨rfl, _, Eq.trans (World.drewN_drewN _ _ _) (congrArg (World.drewN _) (Nat.add_assoc _ _ _))⟩)))
                                          repeat (go_quiet (first | (go_at_call 40; (with_reducible refine (crossbarref15_cost.calls ((rd_T49 ((rd_T47 l0 x5_2).f1) x8_4).f1) false _ A23.out).mono ?_); rintro e w' ⟨rfl, ⟨nd, rfl⟩⟩; (try first | exact ⟨rfl, _, World.drewN_drewN _ _ _⟩ | exact ⟨rfl, _, Eq.trans (World.drewN_drewN _ _ _) (congrArg (World.drewN _) (Nat.add_assoc _ _ _))⟩))); try go_wp2_with (first | (go_at_call 40; (with_reducible refine (crossbarref15_cost.calls ((rd_T49 ((rd_T47 l0 x5_2).f1) x8_4).f1) false _ A23.out).mono ?_); rintro e w' ⟨rfl, ⟨nd, rfl⟩⟩; (try first | exact ⟨rfl, _, World.drewN_drewN _ _ _⟩ | exact ⟨rfl, _, Eq.trans (World.drewN_drewN _ _ _) (congrArg (World.drewN _) (Nat.add_assoc _ _ _))⟩))))
                                          go_meet
                                          case rel => exact ⟨_, (true), (by first | rfl | (simp; done) | (simp [*]; done)), H', ⟨by have := HJ2.out; have := HK2.out; have := HJ7.out; have := HK4.out; first | omega | exact Nat.le_refl _⟩, by repeat (first | exact Drawn0.refl _ | apply Drawn0.step)⟩
                                  · rw [if_neg c20] at H
                                    exact absurd H (by simp)
                                case rest =>
                                  clear HC19
                                  try clear c1
                                  try clear p1
                                  try clear q1
                                  try clear hx1
                                  try clear c2
                                  try clear p2
                                  try clear c4
                                  try clear c4b0
                                  try clear c5
                                  try clear c6
                                  try clear c6b0
                                  try clear p6
                                  try clear c7
                                  try clear c7b0
                                  try clear c9
                                  try clear c9b0
                                  try clear c10
                                  try clear c10b0
                                  try clear c11
                                  try clear c11b0
                                  try clear c13
                                  try clear c13b0
                                  try clear c14
                                  try clear c14b0
                                  try clear c15
                                  try clear c16
                                  try clear c16b0
                                  try clear c17
                                  try clear c17b0
                                  try clear c18
                                  try clear c18b0
                                  try clear p18
                                  try clear q18
                                  try clear hx18
                                  try clear p19
                                  try clear q19
                                  try clear hx19
                                  try clear c20
                                  try clear c20b0
                                  try clear c21
                                  try clear c21b0
                                  try clear c22
                                  try clear c22b0
                                  try clear c24
                                  try clear hx184_0
                                  try clear hx184_1
                                  try clear hx185_0
                                  try clear hx185_1
                                  try clear hx186_0
                                  try clear hx186_1
                                  try clear hx187_0
                                  try clear hx187_1
                                  try clear hx187_2
                                  try clear hx188_0
                                  try clear hx188_1
                                  try clear hx188_2
                                  try clear hx189_0
                                  try clear hx189_1
                                  try clear hx189_2
                                  try clear hx191_0
                                  try clear hx191_1
                                  try clear hx191_2
                                  try clear p1
                                  try clear p184
                                  try clear p185
                                  try clear p186
                                  try clear p187
                                  try clear p188
                                  try clear p189
                                  try clear p191
                                  try clear p2
                                  try clear p6
                                  try clear q1
                                  try clear q184
                                  try clear q185
                                  try clear q186
                                  try clear q187
                                  try clear q188
                                  try clear q189
                                  try clear q191
                                  obtain ⟨kq, x90_18, rfl, HA, HJ18, ⟨mc18, rfl⟩⟩ := hcut
                                  cases kq with
                                  | zero => exact absurd HA.out (by simp [crossbarref15_Check.j4])
                                  | succ kj18 =>
                                    have H := HA.out
                                    clear HA
                                    simp only [crossbarref15_Check.j4] at H
                                    by_cases c26 : x90_18 = true
                                    · subst c26
                                      have H1 : (some 1) = some r := by rw [if_pos rfl] at H; exact H
                                      clear H
                                      have H := H1
                                      clear H1
                                      obtain rfl := Option.some.inj H
                                      go_wp2
                                      repeat (go_quiet (fail); try go_wp2)
                                      go_ret
                                      exact ⟨by first | rfl | (simp; done) | (simp [*]; done), by repeat (first | exact Drawn0.refl _ | apply Drawn0.step)⟩
                                    · replace c26 := Bool.eq_false_iff.mpr c26
                                      subst c26
                                      have H1 : (crossbarref15_Check.l2 kj18 l0 a1 x5_2 ((rd_T47 l0 x5_2).f1) x8_4 0) = some r := by rw [if_neg (show ¬ (false = true) by decide)] at H; exact H
                                      clear H
                                      have H := H1
                                      clear H1
                                      have H' := Aside0.mk H
                                      clear H
                                      go_wp2
                                      repeat (go_quiet (fail); try go_wp2)
                                      go_loopg [9] kj18 (fun kq v9 w' => ∃ (x9_6 : Int), v9 = .int .i64 x9_6 ∧ Aside0 (crossbarref15_Check.l2 kq l0 a1 x5_2 ((rd_T47 l0 x5_2).f1) x8_4 x9_6 = some r) ∧ Aside0 (kq ≤ kj18) ∧ Drawn0 w w')
                                      case atStart => exact ⟨(0), (by first | rfl | (simp; done) | (simp [*]; done)), H', ⟨Nat.le_refl _⟩, by repeat (first | exact Drawn0.refl _ | apply Drawn0.step)⟩
                                      case round =>
                                        clear H'
                                        try clear c1
                                        try clear p1
                                        try clear q1
                                        try clear hx1
                                        try clear c2
                                        try clear p2
                                        try clear c4
                                        try clear c4b0
                                        try clear c5
                                        try clear c6
                                        try clear c6b0
                                        try clear p6
                                        try clear c7
                                        try clear c7b0
                                        try clear c9
                                        try clear c9b0
                                        try clear c10
                                        try clear c10b0
                                        try clear c11
                                        try clear c11b0
                                        try clear c13
                                        try clear c13b0
                                        try clear c14
                                        try clear c14b0
                                        try clear c15
                                        try clear c16
                                        try clear c16b0
                                        try clear c17
                                        try clear c17b0
                                        try clear c18
                                        try clear c18b0
                                        try clear p18
                                        try clear q18
                                        try clear hx18
                                        try clear p19
                                        try clear q19
                                        try clear hx19
                                        try clear c20
                                        try clear c20b0
                                        try clear c21
                                        try clear c21b0
                                        try clear c22
                                        try clear c22b0
                                        try clear c24
                                        try clear c26
                                        try clear hx184_0
                                        try clear hx184_1
                                        try clear hx185_0
                                        try clear hx185_1
                                        try clear hx186_0
                                        try clear hx186_1
                                        try clear hx187_0
                                        try clear hx187_1
                                        try clear hx187_2
                                        try clear hx188_0
                                        try clear hx188_1
                                        try clear hx188_2
                                        try clear hx189_0
                                        try clear hx189_1
                                        try clear hx189_2
                                        try clear hx191_0
                                        try clear hx191_1
                                        try clear hx191_2
                                        try clear p1
                                        try clear p18
                                        try clear p184
                                        try clear p185
                                        try clear p186
                                        try clear p187
                                        try clear p188
                                        try clear p189
                                        try clear p19
                                        try clear p191
                                        try clear p2
                                        try clear p6
                                        try clear q1
                                        try clear q18
                                        try clear q184
                                        try clear q185
                                        try clear q186
                                        try clear q187
                                        try clear q188
                                        try clear q189
                                        try clear q19
                                        try clear q191
                                        obtain ⟨x9_6, rfl, HA, HK6, ⟨m6, rfl⟩⟩ := hrel
                                        cases gk with
                                        | zero => exact absurd HA.out (by simp [crossbarref15_Check.l2])
                                        | succ k6 =>
                                          have H := HA.out
                                          clear HA
                                          simp only [crossbarref15_Check.l2] at H
                                          by_cases c27 : x9_6 < x8_4
                                          · rw [if_pos c27] at H
                                            have c27b0 : decide (x9_6 < x8_4) = true := decide_eq_true c27
                                            clear c27
                                            by_cases c28 : 0 ≤ x9_6
                                            · rw [if_pos c28] at H
                                              have c28b0 : decide (0 ≤ x9_6) = true := decide_eq_true c28
                                              clear c28
                                              by_cases c29 : x9_6 < (((rd_T47 l0 x5_2).f1).length : Int)
                                              · rw [if_pos c29] at H
                                                have c29b0 : decide (x9_6 < (((rd_T47 l0 x5_2).f1).length : Int)) = true := decide_eq_true c29
                                                clear c29
                                                by_cases c30 : 0 ≤ x8_4
                                                · rw [if_pos c30] at H
                                                  have c30b0 : decide (0 ≤ x8_4) = true := decide_eq_true c30
                                                  clear c30
                                                  by_cases c31 : x8_4 < (((rd_T47 l0 x5_2).f1).length : Int)
                                                  · rw [if_pos c31] at H
                                                    have c31b0 : decide (x8_4 < (((rd_T47 l0 x5_2).f1).length : Int)) = true := decide_eq_true c31
                                                    clear c31
                                                    by_cases c32 : ((rd_T49 ((rd_T47 l0 x5_2).f1) x9_6).f0) = ((rd_T49 ((rd_T47 l0 x5_2).f1) x8_4).f0)
                                                    · rw [if_pos c32] at H
                                                      have c32b0 : (((rd_T49 ((rd_T47 l0 x5_2).f1) x9_6).f0) == ((rd_T49 ((rd_T47 l0 x5_2).f1) x8_4).f0)) = true := beq_iff_eq.mpr c32
                                                      have c32b1 : (((rd_T49 ((rd_T47 l0 x5_2).f1) x9_6).f0) != ((rd_T49 ((rd_T47 l0 x5_2).f1) x8_4).f0)) = false := bne_eq_false_iff_eq.mpr c32
                                                      clear c32
                                                      obtain rfl := Option.some.inj H
                                                      have p193 : 0 ≤ (x9_6 : Int) := of_decide_eq_true (by first | (with_reducible assumption) | assumption)
                                                      have q193 : x9_6 < (((rd_T47 l0 x5_2).f1).length : Int) := of_decide_eq_true (by first | (with_reducible assumption) | assumption)
                                                      obtain ⟨ad193, e193, hx193_0, hx193_1, hx193_2⟩ := at_T49 HR186_1.out x9_6 p193 q193
                                                      cases e193
                                                      replace p193 := eq_true p193
                                                      replace q193 := eq_true q193
                                                      have p194 : 0 ≤ (x8_4 : Int) := of_decide_eq_true (by first | (with_reducible assumption) | assumption)
                                                      have q194 : x8_4 < (((rd_T47 l0 x5_2).f1).length : Int) := of_decide_eq_true (by first | (with_reducible assumption) | assumption)
                                                      obtain ⟨ad194, e194, hx194_0, hx194_1, hx194_2⟩ := at_T49 HR186_1.out x8_4 p194 q194
                                                      obtain rfl : ad193 = ad194 := (by injection e194)
                                                      replace p194 := eq_true p194
                                                      replace q194 := eq_true q194
                                                      go_wp2
                                                      repeat (go_quiet (fail); try go_wp2)
                                                      go_ret
                                                      exact ⟨by first | rfl | (simp; done) | (simp [*]; done), by repeat (first | exact Drawn0.refl _ | apply Drawn0.step)⟩
                                                    · rw [if_neg c32] at H
                                                      have c32b0 : (((rd_T49 ((rd_T47 l0 x5_2).f1) x9_6).f0) == ((rd_T49 ((rd_T47 l0 x5_2).f1) x8_4).f0)) = false := beq_eq_false_iff_ne.mpr c32
                                                      have c32b1 : (((rd_T49 ((rd_T47 l0 x5_2).f1) x9_6).f0) != ((rd_T49 ((rd_T47 l0 x5_2).f1) x8_4).f0)) = true := bne_iff_ne.mpr c32
                                                      have H' := Aside0.mk H
                                                      clear H
                                                      have p193 : 0 ≤ (x9_6 : Int) := of_decide_eq_true (by first | (with_reducible assumption) | assumption)
                                                      have q193 : x9_6 < (((rd_T47 l0 x5_2).f1).length : Int) := of_decide_eq_true (by first | (with_reducible assumption) | assumption)
                                                      obtain ⟨ad193, e193, hx193_0, hx193_1, hx193_2⟩ := at_T49 HR186_1.out x9_6 p193 q193
                                                      cases e193
                                                      replace p193 := eq_true p193
                                                      replace q193 := eq_true q193
                                                      have p194 : 0 ≤ (x8_4 : Int) := of_decide_eq_true (by first | (with_reducible assumption) | assumption)
                                                      have q194 : x8_4 < (((rd_T47 l0 x5_2).f1).length : Int) := of_decide_eq_true (by first | (with_reducible assumption) | assumption)
                                                      obtain ⟨ad194, e194, hx194_0, hx194_1, hx194_2⟩ := at_T49 HR186_1.out x8_4 p194 q194
                                                      obtain rfl : ad193 = ad194 := (by injection e194)
                                                      replace p194 := eq_true p194
                                                      replace q194 := eq_true q194
                                                      go_wp2
                                                      repeat (go_quiet (fail); try go_wp2)
                                                      go_roundg k6
                                                      case measure => have := HJ2.out; have := HK2.out; have := HJ7.out; have := HK4.out; have := HJ18.out; have := HK6.out; omega
                                                      case rel => exact ⟨(wrap64 (x9_6 + 1)), (by first | rfl | (simp; done) | (simp [*]; done)), H', ⟨by have := HJ2.out; have := HK2.out; have := HJ7.out; have := HK4.out; have := HJ18.out; have := HK6.out; omega⟩, by repeat (first | exact Drawn0.refl _ | apply Drawn0.step)⟩
                                                  · rw [if_neg c31] at H
                                                    exact absurd H (by simp)
                                                · rw [if_neg c30] at H
                                                  exact absurd H (by simp)
                                              · rw [if_neg c29] at H
                                                exact absurd H (by simp)
                                            · rw [if_neg c28] at H
                                              exact absurd H (by simp)
                                          · rw [if_neg c27] at H
                                            have c27b0 : decide (x9_6 < x8_4) = false := decide_eq_false c27
                                            clear c27
                                            have H' := Aside0.mk H
                                            clear H
                                            go_wp2
                                            repeat (go_quiet (fail); try go_wp2)
                                            go_roundg k6
                                            case measure => have := HJ2.out; have := HK2.out; have := HJ7.out; have := HK4.out; have := HJ18.out; have := HK6.out; omega
                                            case rel => exact ⟨(wrap64 (x8_4 + 1)), (by first | rfl | (simp; done) | (simp [*]; done)), H', ⟨by have := HJ2.out; have := HK2.out; have := HJ7.out; have := HK4.out; have := HJ18.out; have := HK6.out; omega⟩, by repeat (first | exact Drawn0.refl _ | apply Drawn0.step)⟩
                              · rw [if_neg c18] at H
                                have c18b0 : decide (x8_4 < (((rd_T47 l0 x5_2).f1).length : Int)) = false := decide_eq_false c18
                                clear c18
                                have H' := Aside0.mk H
                                clear H
                                go_wp2
                                repeat (go_quiet (fail); try go_wp2)
                                go_roundg k4
                                case measure => have := HJ2.out; have := HK2.out; have := HJ7.out; have := HK4.out; omega
                                case rel => exact ⟨(wrap64 (x5_2 + 1)), (by first | rfl | (simp; done) | (simp [*]; done)), H', ⟨by have := HJ2.out; have := HK2.out; have := HJ7.out; have := HK4.out; omega⟩, by repeat (first | exact Drawn0.refl _ | apply Drawn0.step)⟩
                        · rw [if_neg c17] at H
                          exact absurd H (by simp)
                      · rw [if_neg c16] at H
                        exact absurd H (by simp)
              · rw [if_neg c7] at H
                exact absurd H (by simp)
            · rw [if_neg c6] at H
              have c6b0 : decide (x5_2 < (l0.length : Int)) = false := decide_eq_false c6
              clear c6
              obtain rfl := Option.some.inj H
              go_wp2
              repeat (go_quiet (fail); try go_wp2)
              go_ret
              exact ⟨by first | rfl | (simp; done) | (simp [*]; done), by repeat (first | exact Drawn0.refl _ | apply Drawn0.step)⟩

end Go.Proofs.Ytjaodgicpnoifaa.P
