/- Written by wip/tools/myprint.py (over the kit's print.py): Go functions of the law as plain Lean functions, each with the proof that the machine's call tells what it tells. -/
import Derived.Test.YtmjenmhidnkbdaaPx0
import Derived.Test.YtmjenmhidnkbdaaPx7b
namespace Go.Proofs.Ytmjenmhidnkbdaa.P
open Go.RowKit Go.Proofs.YtmjenmhidnkbdaaW.PrintWords Go.Proofs.YtmjenmhidnkbdaaW.PrintLast Go.Proofs.YtmjenmhidnkbdaaW.PrintMore
attribute [local go_sem] max2_int min2_int max_two min_two max_three min_three max_four min_four   -- for this text's walks alone
set_option linter.unusedVariables false
set_option linter.unusedSimpArgs false

/-! ### crossbarref18_Check: function 31 -/
mutual
def crossbarref18_Check.j0 : Nat → Bool → List (S36) → Int → Option (Int)
  | 0, _, _, _ => none
  | k + 1, x12, x240000, x240001 => if x12 = true then (some 1) else (crossbarref18_Check.l0 k 0 x240000 x240001)
def crossbarref18_Check.l0 : Nat → Int → List (S36) → Int → Option (Int)
  | 0, _, _, _ => none
  | k + 1, x3, x240000, x240001 => if x3 < (x240000.length : Int) then (if 0 ≤ x3 then (if ((rd_T36 x240000 x3).f0) < 0 then (crossbarref18_Check.j2 k x3 true x240000 x240001 ((rd_T36 x240000 x3).f0) ((rd_T36 x240000 x3).f1) ((rd_T36 x240000 x3).f2)) else (if ((rd_T36 x240000 x3).f0) > 1099511627776 then (crossbarref18_Check.j2 k x3 true x240000 x240001 ((rd_T36 x240000 x3).f0) ((rd_T36 x240000 x3).f1) ((rd_T36 x240000 x3).f2)) else (if x3 > 0 then (if 0 ≤ (wrap64 (x3 - 1)) then (if (wrap64 (x3 - 1)) < (x240000.length : Int) then (if ((rd_T36 x240000 (wrap64 (x3 - 1))).f0) ≥ ((rd_T36 x240000 x3).f0) then (crossbarref18_Check.j2 k x3 true x240000 x240001 ((rd_T36 x240000 x3).f0) ((rd_T36 x240000 x3).f1) ((rd_T36 x240000 x3).f2)) else (if ((rd_T36 x240000 x3).f1) < 0 then (crossbarref18_Check.j2 k x3 true x240000 x240001 ((rd_T36 x240000 x3).f0) ((rd_T36 x240000 x3).f1) ((rd_T36 x240000 x3).f2)) else (crossbarref18_Check.j2 k x3 (decide (((rd_T36 x240000 x3).f1) ≥ x240001)) x240000 x240001 ((rd_T36 x240000 x3).f0) ((rd_T36 x240000 x3).f1) ((rd_T36 x240000 x3).f2)))) else (none)) else (none)) else (if ((rd_T36 x240000 x3).f1) < 0 then (crossbarref18_Check.j2 k x3 true x240000 x240001 ((rd_T36 x240000 x3).f0) ((rd_T36 x240000 x3).f1) ((rd_T36 x240000 x3).f2)) else (crossbarref18_Check.j2 k x3 (decide (((rd_T36 x240000 x3).f1) ≥ x240001)) x240000 x240001 ((rd_T36 x240000 x3).f0) ((rd_T36 x240000 x3).f1) ((rd_T36 x240000 x3).f2)))))) else (none)) else (if (x240000.length : Int) > 1024 then (some 2) else (some 0))
def crossbarref18_Check.j2 : Nat → Int → Bool → List (S36) → Int → Int → Int → Bool → Option (Int)
  | 0, _, _, _, _, _, _, _ => none
  | k + 1, x3, x60, x240000, x240001, x242000, x242001, x242002 => if x60 = true then (some 1) else (if x242001 = 0 then (if x242002 = true then (some 1) else (if x242001 > 0 then ((crossbarref18_size.f k x240000 x242001).bind fun t243 => (if t243 < 2 then (some 1) else (crossbarref18_Check.l0 k (wrap64 (x3 + 1)) x240000 x240001))) else (crossbarref18_Check.l0 k (wrap64 (x3 + 1)) x240000 x240001))) else (if x242001 > 0 then ((crossbarref18_size.f k x240000 x242001).bind fun t244 => (if t244 < 2 then (some 1) else (crossbarref18_Check.l0 k (wrap64 (x3 + 1)) x240000 x240001))) else (crossbarref18_Check.l0 k (wrap64 (x3 + 1)) x240000 x240001)))
end
def crossbarref18_Check.f (k : Nat) (l0_0 : List (S36)) (a0_1 : Int) : Option (Int) := if a0_1 < 1 then (crossbarref18_Check.j0 k true l0_0 a0_1) else (crossbarref18_Check.j0 k (decide (a0_1 > 1099511627776)) l0_0 a0_1)
set_option maxHeartbeats 8000000 in
set_option maxRecDepth 100000 in
theorem crossbarref18_Check.calls (k : Nat) (A0_0 : Option Addr) (c0_0 : Nat) (l0_0 : List (S36)) (a0_1 : Int) (r : Int) (w : World) (hr0_0 : Kd.C k36 w A0_0 l0_0.length l0_0) (hc0_0 : l0_0.length ≤ c0_0) (h : crossbarref18_Check.f k l0_0 a0_1 = some r) :
    Calls Try.prog 31 #[.agg #[.slice A0_0 l0_0.length c0_0, .int .i64 a0_1]] w fun e w' => e = .returned (.int .i64 r) ∧ Below w.heap.size w w' := by
  have hu24 := Try.underlying24
  have hu36 := Try.underlying36
  have HR0_0 := Aside0.mk hr0_0
  have HC0_0 := Aside0.mk hc0_0
  clear hr0_0 hc0_0
  have HB := Aside0.mk (Below.refl w.heap.size w)
  have H : (if a0_1 < 1 then (crossbarref18_Check.j0 k true l0_0 a0_1) else (crossbarref18_Check.j0 k (decide (a0_1 > 1099511627776)) l0_0 a0_1)) = some r := h
  clear h
  have HC2 := Aside0.mk H
  clear H
  go_enter Try.func31, Try.ntmps31
  go_upto_region 1 with (first | ((with_reducible refine gate_dst (N := 1) rfl ?_); refine box_event ?hg (N := 1) ?hd (cs := #[.slice A0_0 l0_0.length c0_0, .int .i64 a0_1]) (t := 24) ?hr ?_; (case hd => rfl); (case hg => rfl); (case hr => first | (go_simp; done) | (go_simp; rfl)); intro gb239 hg w3 hbox hb; have n0_ := Aside0.mk (below_step (by repeat (first | (with_reducible first | exact HB.out | apply below_alloc | apply pw_below_drewN | apply below_drew1) | exact HB.out)) hb); have n1_ := Aside0.mk (hbox); have n2_ := Aside0.mk ((by rw [hg]; exact (below_size (by repeat (first | (with_reducible first | exact HB.out | apply below_alloc | apply pw_below_drewN | apply below_drew1) | exact HB.out))) : w.heap.size ≤ gb239)); have n3_ := Aside0.mk ((by rw [hg]; exact (below_size (by repeat (first | (with_reducible first | exact HB.out | apply below_alloc | apply pw_below_drewN | apply below_drew1) | exact HB.out))) : w.heap.size ≤ gb239)); clear HB; have HB := n0_; have BK239 := n1_; have GW239 := n2_; have GE239 := n3_; clear n0_ n1_ n2_ n3_; clear hb hbox hg))
  repeat (go_quiet (first | ((with_reducible refine gate_dst (N := 1) rfl ?_); refine box_event ?hg (N := 1) ?hd (cs := #[.slice A0_0 l0_0.length c0_0, .int .i64 a0_1]) (t := 24) ?hr ?_; (case hd => rfl); (case hg => rfl); (case hr => first | (go_simp; done) | (go_simp; rfl)); intro gb239 hg w3 hbox hb; have n0_ := Aside0.mk (below_step (by repeat (first | (with_reducible first | exact HB.out | apply below_alloc | apply pw_below_drewN | apply below_drew1) | exact HB.out)) hb); have n1_ := Aside0.mk (hbox); have n2_ := Aside0.mk ((by rw [hg]; exact (below_size (by repeat (first | (with_reducible first | exact HB.out | apply below_alloc | apply pw_below_drewN | apply below_drew1) | exact HB.out))) : w.heap.size ≤ gb239)); have n3_ := Aside0.mk ((by rw [hg]; exact (below_size (by repeat (first | (with_reducible first | exact HB.out | apply below_alloc | apply pw_below_drewN | apply below_drew1) | exact HB.out))) : w.heap.size ≤ gb239)); clear HB; have HB := n0_; have BK239 := n1_; have GW239 := n2_; have GE239 := n3_; clear n0_ n1_ n2_ n3_; clear hb hbox hg)); go_upto_region 1 with (first | ((with_reducible refine gate_dst (N := 1) rfl ?_); refine box_event ?hg (N := 1) ?hd (cs := #[.slice A0_0 l0_0.length c0_0, .int .i64 a0_1]) (t := 24) ?hr ?_; (case hd => rfl); (case hg => rfl); (case hr => first | (go_simp; done) | (go_simp; rfl)); intro gb239 hg w3 hbox hb; have n0_ := Aside0.mk (below_step (by repeat (first | (with_reducible first | exact HB.out | apply below_alloc | apply pw_below_drewN | apply below_drew1) | exact HB.out)) hb); have n1_ := Aside0.mk (hbox); have n2_ := Aside0.mk ((by rw [hg]; exact (below_size (by repeat (first | (with_reducible first | exact HB.out | apply below_alloc | apply pw_below_drewN | apply below_drew1) | exact HB.out))) : w.heap.size ≤ gb239)); have n3_ := Aside0.mk ((by rw [hg]; exact (below_size (by repeat (first | (with_reducible first | exact HB.out | apply below_alloc | apply pw_below_drewN | apply below_drew1) | exact HB.out))) : w.heap.size ≤ gb239)); clear HB; have HB := n0_; have BK239 := n1_; have GW239 := n2_; have GE239 := n3_; clear n0_ n1_ n2_ n3_; clear hb hbox hg)))
  (try simp only [Act.put, List.setIfInBounds_toArray, List.set_cons_zero, List.set_cons_succ])
  go_cut [12] (fun v12 wc => ∃ (kq : Nat) (x12_1 : Bool), v12 = .bool x12_1 ∧ Aside0 (crossbarref18_Check.j0 kq x12_1 l0_0 a0_1 = some r) ∧ Aside0 (kq ≤ k) ∧ Aside0 (wc.heap[gb239]? = some (.cells #[(.slice A0_0 l0_0.length c0_0), .int .i64 a0_1] 24 (0, 0))) ∧ Aside0 (Below w.heap.size w wc))
  case first =>
    have H := HC2.out
    clear HC2
    by_cases c4 : a0_1 < 1
    · rw [if_pos c4] at H
      have c4b0 : decide (a0_1 < 1) = true := decide_eq_true c4
      clear c4
      (first | rw [c4b0] | (simp only [i64_w, i32_w]; rw [c4b0]) | skip)
      have H' := Aside0.mk H
      clear H
      have hcz5_0 : w3.cell? ⟨gb239, 0, none⟩ = some (.slice A0_0 l0_0.length c0_0) := (blk_cell BK239.out 0).trans rfl
      have hcz5_1 : w3.cell? ⟨gb239, 1, none⟩ = some (.int .i64 a0_1) := (blk_cell BK239.out 1).trans rfl
      have hfz5_0 := blk_frozen BK239.out 0
      have hfz5_1 := blk_frozen BK239.out 1
      go_wp2
      repeat (go_quiet (fail); try go_wp2)
      go_meet
      case rel => exact ⟨_, (true), (by first | rfl | (simp; done) | (simp [*]; done)), H', ⟨by first | omega | exact Nat.le_refl _⟩, ⟨by (with_reducible repeat (first | refine blk_drewN ?_ _ | refine blk_drew ?_ | refine blk_alloc ?_ _)); exact BK239.out⟩, ⟨by repeat (first | (with_reducible first | exact HB.out | apply below_alloc | apply pw_below_drewN | apply below_drew1 | refine below_set ?_ GE239.out) | exact HB.out)⟩⟩
    · rw [if_neg c4] at H
      have c4b0 : decide (a0_1 < 1) = false := decide_eq_false c4
      clear c4
      (first | rw [c4b0] | (simp only [i64_w, i32_w]; rw [c4b0]) | skip)
      have H' := Aside0.mk H
      clear H
      have hcz6_0 : w3.cell? ⟨gb239, 0, none⟩ = some (.slice A0_0 l0_0.length c0_0) := (blk_cell BK239.out 0).trans rfl
      have hcz6_1 : w3.cell? ⟨gb239, 1, none⟩ = some (.int .i64 a0_1) := (blk_cell BK239.out 1).trans rfl
      have hfz6_0 := blk_frozen BK239.out 0
      have hfz6_1 := blk_frozen BK239.out 1
      go_wp2
      repeat (go_quiet (fail); try go_wp2)
      go_meet
      case rel => exact ⟨_, (decide (a0_1 > 1099511627776)), (by first | rfl | (simp; done) | (simp [*]; done)), H', ⟨by first | omega | exact Nat.le_refl _⟩, ⟨by (with_reducible repeat (first | refine blk_drewN ?_ _ | refine blk_drew ?_ | refine blk_alloc ?_ _)); exact BK239.out⟩, ⟨by repeat (first | (with_reducible first | exact HB.out | apply below_alloc | apply pw_below_drewN | apply below_drew1 | refine below_set ?_ GE239.out) | exact HB.out)⟩⟩
  case rest =>
    clear HC2
    try clear p2
    try clear c3
    try clear c4
    try clear c4b0
    try clear hcz5_0
    try clear hcz5_1
    try clear hcz6_0
    try clear hcz6_1
    try clear hfz5_0
    try clear hfz5_1
    try clear hfz6_0
    try clear hfz6_1
    obtain ⟨kq, x12_1, rfl, HA, HJ1, BK239, HB⟩ := hcut
    cases kq with
    | zero => exact absurd HA.out (by simp [crossbarref18_Check.j0])
    | succ kj1 =>
      have H := HA.out
      clear HA
      simp only [crossbarref18_Check.j0] at H
      by_cases c7 : x12_1 = true
      · subst c7
        have H1 : (some 1) = some r := by rw [if_pos rfl] at H; exact H
        clear H
        have H := H1
        clear H1
        obtain rfl := Option.some.inj H
        go_wp2
        repeat (go_quiet (fail); try go_wp2)
        go_ret
        exact ⟨by first | rfl | (simp [errW_none, errW_some] <;> rfl) | (simp [*, errW_none, errW_some] <;> rfl), by repeat (first | (with_reducible first | exact HB.out | apply below_alloc | apply pw_below_drewN | apply below_drew1 | refine below_set ?_ GE239.out) | exact HB.out)⟩
      · replace c7 := Bool.eq_false_iff.mpr c7
        subst c7
        have H1 : (crossbarref18_Check.l0 kj1 0 l0_0 a0_1) = some r := by rw [if_neg (show ¬ (false = true) by decide)] at H; exact H
        clear H
        have H := H1
        clear H1
        have H' := Aside0.mk H
        clear H
        go_wp2
        repeat (go_quiet (fail); try go_wp2)
        go_loopg [3] kj1 (fun kq v3 w' => ∃ (x3_2 : Int), v3 = .int .i64 x3_2 ∧ Aside0 (crossbarref18_Check.l0 kq x3_2 l0_0 a0_1 = some r) ∧ Aside0 (kq ≤ kj1) ∧ Aside0 (w'.heap[gb239]? = some (.cells #[(.slice A0_0 l0_0.length c0_0), .int .i64 a0_1] 24 (0, 0))) ∧ Aside0 (Below w.heap.size w w'))
        case atStart => exact ⟨(0), (by first | rfl | (simp; done) | (simp [*]; done)), H', ⟨Nat.le_refl _⟩, ⟨by (with_reducible repeat (first | refine blk_drewN ?_ _ | refine blk_drew ?_ | refine blk_alloc ?_ _)); exact BK239.out⟩, ⟨by repeat (first | (with_reducible first | exact HB.out | apply below_alloc | apply pw_below_drewN | apply below_drew1 | refine below_set ?_ GE239.out) | exact HB.out)⟩⟩
        case round =>
          clear H'
          try clear p2
          try clear c3
          try clear c4
          try clear c4b0
          try clear c7
          try clear hcz5_0
          try clear hcz5_1
          try clear hcz6_0
          try clear hcz6_1
          try clear hfz5_0
          try clear hfz5_1
          try clear hfz6_0
          try clear hfz6_1
          try clear p2
          obtain ⟨x3_2, rfl, HA, HK2, BK239, HB⟩ := hrel
          cases gk with
          | zero => exact absurd HA.out (by simp [crossbarref18_Check.l0])
          | succ k2 =>
            have H := HA.out
            clear HA
            simp only [crossbarref18_Check.l0] at H
            by_cases c8 : x3_2 < (l0_0.length : Int)
            · rw [if_pos c8] at H
              have c8b0 : decide (x3_2 < (l0_0.length : Int)) = true := decide_eq_true c8
              clear c8
              by_cases c9 : 0 ≤ x3_2
              · rw [if_pos c9] at H
                have c9b0 : decide (0 ≤ x3_2) = true := decide_eq_true c9
                clear c9
                have HC10 := Aside0.mk H
                clear H
                have hcz11_0 : wr.cell? ⟨gb239, 0, none⟩ = some (.slice A0_0 l0_0.length c0_0) := (blk_cell BK239.out 0).trans rfl
                have hcz11_1 : wr.cell? ⟨gb239, 1, none⟩ = some (.int .i64 a0_1) := (blk_cell BK239.out 1).trans rfl
                have hfz11_0 := blk_frozen BK239.out 0
                have hfz11_1 := blk_frozen BK239.out 1
                have p240 : 0 ≤ (x3_2 : Int) := of_decide_eq_true (by first | (with_reducible assumption) | assumption)
                have q240 : x3_2 < (l0_0.length : Int) := of_decide_eq_true (by first | (with_reducible assumption) | assumption)
                obtain ⟨ad240, e240, hx240_0, hx240_1, hx240_2⟩ := at_T36 HR0_0.out x3_2 p240 q240
                cases e240
                replace hx240_0 := (HB.out.cell (World.block_lt_of_cell? w _ hx240_0)).trans hx240_0
                replace hx240_1 := (HB.out.cell (World.block_lt_of_cell? w _ hx240_1)).trans hx240_1
                replace hx240_2 := (HB.out.cell (World.block_lt_of_cell? w _ hx240_2)).trans hx240_2
                replace p240 := eq_true p240
                replace q240 := eq_true q240
                go_upto_region 7 with (first | ((with_reducible refine gate_dst (N := 4) rfl ?_); refine box_event ?hg (N := 4) ?hd (cs := #[.int .i64 0, .int .i64 0, .bool false]) (t := 36) ?hr ?_; (case hd => rfl); (case hg => rfl); (case hr => first | (go_simp; done) | (go_simp; rfl)); intro gb241 hg w12 hbox hb; have n0_ := Aside0.mk (blk_below (g := gb239) (o := .cells #[.slice (some ad240) l0_0.length c0_0, .int .i64 a0_1] 24 (0, 0)) (by (with_reducible repeat (first | refine blk_drewN ?_ _ | refine blk_drew ?_ | refine blk_alloc ?_ _)); exact BK239.out) hb); have n1_ := Aside0.mk (below_step (by repeat (first | (with_reducible first | exact HB.out | apply below_alloc | apply pw_below_drewN | apply below_drew1 | refine below_set ?_ GE239.out) | exact HB.out)) hb); have n2_ := Aside0.mk (hbox); have n3_ := Aside0.mk ((by rw [hg]; exact (below_size (by repeat (first | (with_reducible first | exact HB.out | apply below_alloc | apply pw_below_drewN | apply below_drew1 | refine below_set ?_ GE239.out) | exact HB.out))) : w.heap.size ≤ gb241)); have n4_ := Aside0.mk ((by rw [hg]; exact (below_size (by repeat (first | (with_reducible first | exact HB.out | apply below_alloc | apply pw_below_drewN | apply below_drew1 | refine below_set ?_ GE239.out) | exact HB.out))) : w.heap.size ≤ gb241)); have n5_ := Aside0.mk ((by rw [hg]; exact Nat.ne_of_lt (blk_lt (g := gb239) (o := .cells #[.slice (some ad240) l0_0.length c0_0, .int .i64 a0_1] 24 (0, 0)) (by (with_reducible repeat (first | refine blk_drewN ?_ _ | refine blk_drew ?_ | refine blk_alloc ?_ _)); exact BK239.out)) : gb239 ≠ gb241)); have n6_ := Aside0.mk ((by rw [hg]; exact Nat.ne_of_gt (blk_lt (g := gb239) (o := .cells #[.slice (some ad240) l0_0.length c0_0, .int .i64 a0_1] 24 (0, 0)) (by (with_reducible repeat (first | refine blk_drewN ?_ _ | refine blk_drew ?_ | refine blk_alloc ?_ _)); exact BK239.out)) : gb241 ≠ gb239)); clear BK239; clear HB; have BK239 := n0_; have HB := n1_; have BK241 := n2_; have GW241 := n3_; have GE241 := n4_; have NB239_241 := n5_; have NB241_239 := n6_; clear n0_ n1_ n2_ n3_ n4_ n5_ n6_; clear hb hbox hg; have hnb13 := NB241_239.out; have hnc13 := NB239_241.out; have hcz14_0 : w12.cell? ⟨gb241, 0, none⟩ = some (.int .i64 0) := (blk_cell BK241.out 0).trans rfl; have hcz14_1 : w12.cell? ⟨gb241, 1, none⟩ = some (.int .i64 0) := (blk_cell BK241.out 1).trans rfl; have hcz14_2 : w12.cell? ⟨gb241, 2, none⟩ = some (.bool false) := (blk_cell BK241.out 2).trans rfl; have hfz14_0 := blk_frozen BK241.out 0; have hfz14_1 := blk_frozen BK241.out 1; have hfz14_2 := blk_frozen BK241.out 2))
                repeat (go_quiet (first | ((with_reducible refine gate_dst (N := 4) rfl ?_); refine box_event ?hg (N := 4) ?hd (cs := #[.int .i64 0, .int .i64 0, .bool false]) (t := 36) ?hr ?_; (case hd => rfl); (case hg => rfl); (case hr => first | (go_simp; done) | (go_simp; rfl)); intro gb241 hg w12 hbox hb; have n0_ := Aside0.mk (blk_below (g := gb239) (o := .cells #[.slice (some ad240) l0_0.length c0_0, .int .i64 a0_1] 24 (0, 0)) (by (with_reducible repeat (first | refine blk_drewN ?_ _ | refine blk_drew ?_ | refine blk_alloc ?_ _)); exact BK239.out) hb); have n1_ := Aside0.mk (below_step (by repeat (first | (with_reducible first | exact HB.out | apply below_alloc | apply pw_below_drewN | apply below_drew1 | refine below_set ?_ GE239.out) | exact HB.out)) hb); have n2_ := Aside0.mk (hbox); have n3_ := Aside0.mk ((by rw [hg]; exact (below_size (by repeat (first | (with_reducible first | exact HB.out | apply below_alloc | apply pw_below_drewN | apply below_drew1 | refine below_set ?_ GE239.out) | exact HB.out))) : w.heap.size ≤ gb241)); have n4_ := Aside0.mk ((by rw [hg]; exact (below_size (by repeat (first | (with_reducible first | exact HB.out | apply below_alloc | apply pw_below_drewN | apply below_drew1 | refine below_set ?_ GE239.out) | exact HB.out))) : w.heap.size ≤ gb241)); have n5_ := Aside0.mk ((by rw [hg]; exact Nat.ne_of_lt (blk_lt (g := gb239) (o := .cells #[.slice (some ad240) l0_0.length c0_0, .int .i64 a0_1] 24 (0, 0)) (by (with_reducible repeat (first | refine blk_drewN ?_ _ | refine blk_drew ?_ | refine blk_alloc ?_ _)); exact BK239.out)) : gb239 ≠ gb241)); have n6_ := Aside0.mk ((by rw [hg]; exact Nat.ne_of_gt (blk_lt (g := gb239) (o := .cells #[.slice (some ad240) l0_0.length c0_0, .int .i64 a0_1] 24 (0, 0)) (by (with_reducible repeat (first | refine blk_drewN ?_ _ | refine blk_drew ?_ | refine blk_alloc ?_ _)); exact BK239.out)) : gb241 ≠ gb239)); clear BK239; clear HB; have BK239 := n0_; have HB := n1_; have BK241 := n2_; have GW241 := n3_; have GE241 := n4_; have NB239_241 := n5_; have NB241_239 := n6_; clear n0_ n1_ n2_ n3_ n4_ n5_ n6_; clear hb hbox hg; have hnb13 := NB241_239.out; have hnc13 := NB239_241.out; have hcz14_0 : w12.cell? ⟨gb241, 0, none⟩ = some (.int .i64 0) := (blk_cell BK241.out 0).trans rfl; have hcz14_1 : w12.cell? ⟨gb241, 1, none⟩ = some (.int .i64 0) := (blk_cell BK241.out 1).trans rfl; have hcz14_2 : w12.cell? ⟨gb241, 2, none⟩ = some (.bool false) := (blk_cell BK241.out 2).trans rfl; have hfz14_0 := blk_frozen BK241.out 0; have hfz14_1 := blk_frozen BK241.out 1; have hfz14_2 := blk_frozen BK241.out 2)); go_upto_region 7 with (first | ((with_reducible refine gate_dst (N := 4) rfl ?_); refine box_event ?hg (N := 4) ?hd (cs := #[.int .i64 0, .int .i64 0, .bool false]) (t := 36) ?hr ?_; (case hd => rfl); (case hg => rfl); (case hr => first | (go_simp; done) | (go_simp; rfl)); intro gb241 hg w12 hbox hb; have n0_ := Aside0.mk (blk_below (g := gb239) (o := .cells #[.slice (some ad240) l0_0.length c0_0, .int .i64 a0_1] 24 (0, 0)) (by (with_reducible repeat (first | refine blk_drewN ?_ _ | refine blk_drew ?_ | refine blk_alloc ?_ _)); exact BK239.out) hb); have n1_ := Aside0.mk (below_step (by repeat (first | (with_reducible first | exact HB.out | apply below_alloc | apply pw_below_drewN | apply below_drew1 | refine below_set ?_ GE239.out) | exact HB.out)) hb); have n2_ := Aside0.mk (hbox); have n3_ := Aside0.mk ((by rw [hg]; exact (below_size (by repeat (first | (with_reducible first | exact HB.out | apply below_alloc | apply pw_below_drewN | apply below_drew1 | refine below_set ?_ GE239.out) | exact HB.out))) : w.heap.size ≤ gb241)); have n4_ := Aside0.mk ((by rw [hg]; exact (below_size (by repeat (first | (with_reducible first | exact HB.out | apply below_alloc | apply pw_below_drewN | apply below_drew1 | refine below_set ?_ GE239.out) | exact HB.out))) : w.heap.size ≤ gb241)); have n5_ := Aside0.mk ((by rw [hg]; exact Nat.ne_of_lt (blk_lt (g := gb239) (o := .cells #[.slice (some ad240) l0_0.length c0_0, .int .i64 a0_1] 24 (0, 0)) (by (with_reducible repeat (first | refine blk_drewN ?_ _ | refine blk_drew ?_ | refine blk_alloc ?_ _)); exact BK239.out)) : gb239 ≠ gb241)); have n6_ := Aside0.mk ((by rw [hg]; exact Nat.ne_of_gt (blk_lt (g := gb239) (o := .cells #[.slice (some ad240) l0_0.length c0_0, .int .i64 a0_1] 24 (0, 0)) (by (with_reducible repeat (first | refine blk_drewN ?_ _ | refine blk_drew ?_ | refine blk_alloc ?_ _)); exact BK239.out)) : gb241 ≠ gb239)); clear BK239; clear HB; have BK239 := n0_; have HB := n1_; have BK241 := n2_; have GW241 := n3_; have GE241 := n4_; have NB239_241 := n5_; have NB241_239 := n6_; clear n0_ n1_ n2_ n3_ n4_ n5_ n6_; clear hb hbox hg; have hnb13 := NB241_239.out; have hnc13 := NB239_241.out; have hcz14_0 : w12.cell? ⟨gb241, 0, none⟩ = some (.int .i64 0) := (blk_cell BK241.out 0).trans rfl; have hcz14_1 : w12.cell? ⟨gb241, 1, none⟩ = some (.int .i64 0) := (blk_cell BK241.out 1).trans rfl; have hcz14_2 : w12.cell? ⟨gb241, 2, none⟩ = some (.bool false) := (blk_cell BK241.out 2).trans rfl; have hfz14_0 := blk_frozen BK241.out 0; have hfz14_1 := blk_frozen BK241.out 1; have hfz14_2 := blk_frozen BK241.out 2)))
                (try simp only [Act.put, List.setIfInBounds_toArray, List.set_cons_zero, List.set_cons_succ])
                go_cut [60] (fun v60 wc => ∃ (kq : Nat) (x60_9 : Bool), v60 = .bool x60_9 ∧ Aside0 (crossbarref18_Check.j2 kq x3_2 x60_9 l0_0 a0_1 ((rd_T36 l0_0 x3_2).f0) ((rd_T36 l0_0 x3_2).f1) ((rd_T36 l0_0 x3_2).f2) = some r) ∧ Aside0 (kq ≤ k2) ∧ Aside0 (wc.heap[gb239]? = some (.cells #[(.slice (some ad240) l0_0.length c0_0), .int .i64 a0_1] 24 (0, 0))) ∧ Aside0 (wc.heap[gb241]? = some (.cells #[.int .i64 ((rd_T36 l0_0 x3_2).f0), .int .i64 ((rd_T36 l0_0 x3_2).f1), .bool ((rd_T36 l0_0 x3_2).f2)] 36 (0, 0))) ∧ Aside0 (Below w.heap.size w wc))
                case first =>
                  have H := HC10.out
                  clear HC10
                  by_cases c15 : ((rd_T36 l0_0 x3_2).f0) < 0
                  · rw [if_pos c15] at H
                    have c15b0 : decide (((rd_T36 l0_0 x3_2).f0) < 0) = true := decide_eq_true c15
                    clear c15
                    (first | rw [c15b0] | (simp only [i64_w, i32_w]; rw [c15b0]) | skip)
                    have H' := Aside0.mk H
                    clear H
                    have hnb16 := NB241_239.out
                    have hnc16 := NB239_241.out
                    have hcz17_0 : w12.cell? ⟨gb241, 0, none⟩ = some (.int .i64 0) := (blk_cell BK241.out 0).trans rfl
                    have hcz17_1 : w12.cell? ⟨gb241, 1, none⟩ = some (.int .i64 0) := (blk_cell BK241.out 1).trans rfl
                    have hcz17_2 : w12.cell? ⟨gb241, 2, none⟩ = some (.bool false) := (blk_cell BK241.out 2).trans rfl
                    have hfz17_0 := blk_frozen BK241.out 0
                    have hfz17_1 := blk_frozen BK241.out 1
                    have hfz17_2 := blk_frozen BK241.out 2
                    go_wp2
                    repeat (go_quiet (fail); try go_wp2)
                    go_meet
                    case rel => exact ⟨_, (true), (by first | rfl | (simp; done) | (simp [*]; done)), H', ⟨by have := HJ1.out; have := HK2.out; first | omega | exact Nat.le_refl _⟩, ⟨by (with_reducible repeat (first | refine blk_drewN ?_ _ | refine blk_drew ?_ | refine blk_alloc ?_ _)); refine blk_far ?_ NB239_241.out _; (with_reducible repeat (first | refine blk_drewN ?_ _ | refine blk_drew ?_ | refine blk_alloc ?_ _)); refine blk_far ?_ NB239_241.out _; (with_reducible repeat (first | refine blk_drewN ?_ _ | refine blk_drew ?_ | refine blk_alloc ?_ _)); refine blk_far ?_ NB239_241.out _; (with_reducible repeat (first | refine blk_drewN ?_ _ | refine blk_drew ?_ | refine blk_alloc ?_ _)); exact BK239.out⟩, ⟨by (with_reducible repeat (first | refine blk_drewN ?_ _ | refine blk_drew ?_ | refine blk_alloc ?_ _)); refine blk_put (cs := #[.int .i64 ((rd_T36 l0_0 x3_2).f0), .int .i64 ((rd_T36 l0_0 x3_2).f1), .bool false]) ?_ 2 _ rfl; (with_reducible repeat (first | refine blk_drewN ?_ _ | refine blk_drew ?_ | refine blk_alloc ?_ _)); refine blk_put (cs := #[.int .i64 ((rd_T36 l0_0 x3_2).f0), .int .i64 0, .bool false]) ?_ 1 _ rfl; (with_reducible repeat (first | refine blk_drewN ?_ _ | refine blk_drew ?_ | refine blk_alloc ?_ _)); refine blk_put (cs := #[.int .i64 0, .int .i64 0, .bool false]) ?_ 0 _ rfl; (with_reducible repeat (first | refine blk_drewN ?_ _ | refine blk_drew ?_ | refine blk_alloc ?_ _)); exact BK241.out⟩, ⟨by repeat (first | (with_reducible first | exact HB.out | apply below_alloc | apply pw_below_drewN | apply below_drew1 | refine below_set ?_ GE239.out | refine below_set ?_ GE241.out) | exact HB.out)⟩⟩
                  · rw [if_neg c15] at H
                    have c15b0 : decide (((rd_T36 l0_0 x3_2).f0) < 0) = false := decide_eq_false c15
                    clear c15
                    (first | rw [c15b0] | (simp only [i64_w, i32_w]; rw [c15b0]) | skip)
                    by_cases c18 : ((rd_T36 l0_0 x3_2).f0) > 1099511627776
                    · rw [if_pos c18] at H
                      have c18b0 : decide (1099511627776 < ((rd_T36 l0_0 x3_2).f0)) = true := decide_eq_true c18
                      clear c18
                      have H' := Aside0.mk H
                      clear H
                      have hnb19 := NB241_239.out
                      have hnc19 := NB239_241.out
                      have hcz20_0 : w12.cell? ⟨gb241, 0, none⟩ = some (.int .i64 0) := (blk_cell BK241.out 0).trans rfl
                      have hcz20_1 : w12.cell? ⟨gb241, 1, none⟩ = some (.int .i64 0) := (blk_cell BK241.out 1).trans rfl
                      have hcz20_2 : w12.cell? ⟨gb241, 2, none⟩ = some (.bool false) := (blk_cell BK241.out 2).trans rfl
                      have hfz20_0 := blk_frozen BK241.out 0
                      have hfz20_1 := blk_frozen BK241.out 1
                      have hfz20_2 := blk_frozen BK241.out 2
                      go_wp2
                      repeat (go_quiet (fail); try go_wp2)
                      go_meet
                      case rel => exact ⟨_, (true), (by first | rfl | (simp; done) | (simp [*]; done)), H', ⟨by have := HJ1.out; have := HK2.out; first | omega | exact Nat.le_refl _⟩, ⟨by (with_reducible repeat (first | refine blk_drewN ?_ _ | refine blk_drew ?_ | refine blk_alloc ?_ _)); refine blk_far ?_ NB239_241.out _; (with_reducible repeat (first | refine blk_drewN ?_ _ | refine blk_drew ?_ | refine blk_alloc ?_ _)); refine blk_far ?_ NB239_241.out _; (with_reducible repeat (first | refine blk_drewN ?_ _ | refine blk_drew ?_ | refine blk_alloc ?_ _)); refine blk_far ?_ NB239_241.out _; (with_reducible repeat (first | refine blk_drewN ?_ _ | refine blk_drew ?_ | refine blk_alloc ?_ _)); exact BK239.out⟩, ⟨by (with_reducible repeat (first | refine blk_drewN ?_ _ | refine blk_drew ?_ | refine blk_alloc ?_ _)); refine blk_put (cs := #[.int .i64 ((rd_T36 l0_0 x3_2).f0), .int .i64 ((rd_T36 l0_0 x3_2).f1), .bool false]) ?_ 2 _ rfl; (with_reducible repeat (first | refine blk_drewN ?_ _ | refine blk_drew ?_ | refine blk_alloc ?_ _)); refine blk_put (cs := #[.int .i64 ((rd_T36 l0_0 x3_2).f0), .int .i64 0, .bool false]) ?_ 1 _ rfl; (with_reducible repeat (first | refine blk_drewN ?_ _ | refine blk_drew ?_ | refine blk_alloc ?_ _)); refine blk_put (cs := #[.int .i64 0, .int .i64 0, .bool false]) ?_ 0 _ rfl; (with_reducible repeat (first | refine blk_drewN ?_ _ | refine blk_drew ?_ | refine blk_alloc ?_ _)); exact BK241.out⟩, ⟨by repeat (first | (with_reducible first | exact HB.out | apply below_alloc | apply pw_below_drewN | apply below_drew1 | refine below_set ?_ GE239.out | refine below_set ?_ GE241.out) | exact HB.out)⟩⟩
                    · rw [if_neg c18] at H
                      have c18b0 : decide (1099511627776 < ((rd_T36 l0_0 x3_2).f0)) = false := decide_eq_false c18
                      clear c18
                      by_cases c21 : x3_2 > 0
                      · rw [if_pos c21] at H
                        have c21b0 : decide (0 < x3_2) = true := decide_eq_true c21
                        clear c21
                        obtain ⟨ji22, hji22⟩ : ∃ j_ : Int, (wrap64 (x3_2 - 1)) = j_ := ⟨_, rfl⟩
                        replace H : (if 0 ≤ (ji22) then (if (ji22) < (l0_0.length : Int) then (if ((rd_T36 l0_0 (ji22)).f0) ≥ ((rd_T36 l0_0 x3_2).f0) then (crossbarref18_Check.j2 k2 x3_2 true l0_0 a0_1 ((rd_T36 l0_0 x3_2).f0) ((rd_T36 l0_0 x3_2).f1) ((rd_T36 l0_0 x3_2).f2)) else (if ((rd_T36 l0_0 x3_2).f1) < 0 then (crossbarref18_Check.j2 k2 x3_2 true l0_0 a0_1 ((rd_T36 l0_0 x3_2).f0) ((rd_T36 l0_0 x3_2).f1) ((rd_T36 l0_0 x3_2).f2)) else (crossbarref18_Check.j2 k2 x3_2 (decide (((rd_T36 l0_0 x3_2).f1) ≥ a0_1)) l0_0 a0_1 ((rd_T36 l0_0 x3_2).f0) ((rd_T36 l0_0 x3_2).f1) ((rd_T36 l0_0 x3_2).f2)))) else (none)) else (none)) = some r := by first | (rw [hji22] at H; exact H) | (simp only [hji22] at H ⊢; exact H)
                        have hji22w : (IntKind.i64.wrap (x3_2 - 1)) = ji22 := (i64_w _).trans hji22
                        by_cases c23 : 0 ≤ (ji22)
                        · rw [if_pos c23] at H
                          have c23b0 : decide (0 ≤ (ji22)) = true := decide_eq_true c23
                          clear c23
                          by_cases c24 : (ji22) < (l0_0.length : Int)
                          · rw [if_pos c24] at H
                            have c24b0 : decide ((ji22) < (l0_0.length : Int)) = true := decide_eq_true c24
                            clear c24
                            by_cases c25 : ((rd_T36 l0_0 (ji22)).f0) ≥ ((rd_T36 l0_0 x3_2).f0)
                            · rw [if_pos c25] at H
                              have c25b0 : decide (((rd_T36 l0_0 x3_2).f0) ≤ ((rd_T36 l0_0 (ji22)).f0)) = true := decide_eq_true c25
                              clear c25
                              have H' := Aside0.mk H
                              clear H
                              have hnb26 := NB241_239.out
                              have hnc26 := NB239_241.out
                              have hcz27_0 : w12.cell? ⟨gb241, 0, none⟩ = some (.int .i64 0) := (blk_cell BK241.out 0).trans rfl
                              have hcz27_1 : w12.cell? ⟨gb241, 1, none⟩ = some (.int .i64 0) := (blk_cell BK241.out 1).trans rfl
                              have hcz27_2 : w12.cell? ⟨gb241, 2, none⟩ = some (.bool false) := (blk_cell BK241.out 2).trans rfl
                              have hfz27_0 := blk_frozen BK241.out 0
                              have hfz27_1 := blk_frozen BK241.out 1
                              have hfz27_2 := blk_frozen BK241.out 2
                              have hcz28_0 : w12.cell? ⟨gb239, 0, none⟩ = some (.slice (some ad240) l0_0.length c0_0) := (blk_cell BK239.out 0).trans rfl
                              have hcz28_1 : w12.cell? ⟨gb239, 1, none⟩ = some (.int .i64 a0_1) := (blk_cell BK239.out 1).trans rfl
                              have hfz28_0 := blk_frozen BK239.out 0
                              have hfz28_1 := blk_frozen BK239.out 1
                              have p242 : 0 ≤ ((ji22) : Int) := of_decide_eq_true (by first | (with_reducible assumption) | assumption)
                              have q242 : (ji22) < (l0_0.length : Int) := of_decide_eq_true (by first | (with_reducible assumption) | assumption)
                              obtain ⟨ad242, e242, hx242_0, hx242_1, hx242_2⟩ := at_T36 HR0_0.out (ji22) p242 q242
                              obtain rfl : ad240 = ad242 := (by injection e242)
                              have hn242_0 : ad240.block ≠ gb241 := Nat.ne_of_lt (Nat.lt_of_lt_of_le (by have := World.block_lt_of_cell? _ _ hx242_0; first | rwa [add_block] at this | exact this) GW241.out)
                              have hn242_1 : ad240.block ≠ gb241 := Nat.ne_of_lt (Nat.lt_of_lt_of_le (by have := World.block_lt_of_cell? _ _ hx242_0; first | rwa [add_block] at this | exact this) GW241.out)
                              have hn242_2 : ad240.block ≠ gb241 := Nat.ne_of_lt (Nat.lt_of_lt_of_le (by have := World.block_lt_of_cell? _ _ hx242_0; first | rwa [add_block] at this | exact this) GW241.out)
                              replace hx242_0 := (HB.out.cell (World.block_lt_of_cell? w _ hx242_0)).trans hx242_0
                              replace hx242_1 := (HB.out.cell (World.block_lt_of_cell? w _ hx242_1)).trans hx242_1
                              replace hx242_2 := (HB.out.cell (World.block_lt_of_cell? w _ hx242_2)).trans hx242_2
                              replace hx242_0 := (cell_far (p := ⟨gb241, 0, none⟩) (by first | (rw [add_block]; exact hn242_0) | (show (Addr.add _ _).block ≠ _; rw [add_block]; exact hn242_0) | exact hn242_0) (.int .i64 ((rd_T36 l0_0 x3_2).f0))).trans hx242_0
                              replace hx242_1 := (cell_far (p := ⟨gb241, 0, none⟩) (by first | (rw [add_block]; exact hn242_0) | (show (Addr.add _ _).block ≠ _; rw [add_block]; exact hn242_0) | exact hn242_0) (.int .i64 ((rd_T36 l0_0 x3_2).f0))).trans hx242_1
                              replace hx242_2 := (cell_far (p := ⟨gb241, 0, none⟩) (by first | (rw [add_block]; exact hn242_0) | (show (Addr.add _ _).block ≠ _; rw [add_block]; exact hn242_0) | exact hn242_0) (.int .i64 ((rd_T36 l0_0 x3_2).f0))).trans hx242_2
                              replace hx242_0 := (cell_far (p := ⟨gb241, 1, none⟩) (by first | (rw [add_block]; exact hn242_1) | (show (Addr.add _ _).block ≠ _; rw [add_block]; exact hn242_1) | exact hn242_1) (.int .i64 ((rd_T36 l0_0 x3_2).f1))).trans hx242_0
                              replace hx242_1 := (cell_far (p := ⟨gb241, 1, none⟩) (by first | (rw [add_block]; exact hn242_1) | (show (Addr.add _ _).block ≠ _; rw [add_block]; exact hn242_1) | exact hn242_1) (.int .i64 ((rd_T36 l0_0 x3_2).f1))).trans hx242_1
                              replace hx242_2 := (cell_far (p := ⟨gb241, 1, none⟩) (by first | (rw [add_block]; exact hn242_1) | (show (Addr.add _ _).block ≠ _; rw [add_block]; exact hn242_1) | exact hn242_1) (.int .i64 ((rd_T36 l0_0 x3_2).f1))).trans hx242_2
                              replace hx242_0 := (cell_far (p := ⟨gb241, 2, none⟩) (by first | (rw [add_block]; exact hn242_2) | (show (Addr.add _ _).block ≠ _; rw [add_block]; exact hn242_2) | exact hn242_2) (.bool ((rd_T36 l0_0 x3_2).f2))).trans hx242_0
                              replace hx242_1 := (cell_far (p := ⟨gb241, 2, none⟩) (by first | (rw [add_block]; exact hn242_2) | (show (Addr.add _ _).block ≠ _; rw [add_block]; exact hn242_2) | exact hn242_2) (.bool ((rd_T36 l0_0 x3_2).f2))).trans hx242_1
                              replace hx242_2 := (cell_far (p := ⟨gb241, 2, none⟩) (by first | (rw [add_block]; exact hn242_2) | (show (Addr.add _ _).block ≠ _; rw [add_block]; exact hn242_2) | exact hn242_2) (.bool ((rd_T36 l0_0 x3_2).f2))).trans hx242_2
                              (try have hy242_0 := fun (n_ : Nat) => (show (((((w12.drewN n_).setCell ⟨gb241, 0, none⟩ (.int .i64 ((rd_T36 l0_0 x3_2).f0))).setCell ⟨gb241, 1, none⟩ (.int .i64 ((rd_T36 l0_0 x3_2).f1))).setCell ⟨gb241, 2, none⟩ (.bool ((rd_T36 l0_0 x3_2).f2)))).cell? _ = some _ from hx242_0))
                              (try have hy242_1 := fun (n_ : Nat) => (show (((((w12.drewN n_).setCell ⟨gb241, 0, none⟩ (.int .i64 ((rd_T36 l0_0 x3_2).f0))).setCell ⟨gb241, 1, none⟩ (.int .i64 ((rd_T36 l0_0 x3_2).f1))).setCell ⟨gb241, 2, none⟩ (.bool ((rd_T36 l0_0 x3_2).f2)))).cell? _ = some _ from hx242_1))
                              (try have hy242_2 := fun (n_ : Nat) => (show (((((w12.drewN n_).setCell ⟨gb241, 0, none⟩ (.int .i64 ((rd_T36 l0_0 x3_2).f0))).setCell ⟨gb241, 1, none⟩ (.int .i64 ((rd_T36 l0_0 x3_2).f1))).setCell ⟨gb241, 2, none⟩ (.bool ((rd_T36 l0_0 x3_2).f2)))).cell? _ = some _ from hx242_2))
                              clear hn242_0
                              clear hn242_1
                              clear hn242_2
                              replace p242 := eq_true p242
                              replace q242 := eq_true q242
                              go_wp2
                              repeat (go_quiet (fail); try go_wp2)
                              go_meet
                              case rel => exact ⟨_, (true), (by first | rfl | (simp; done) | (simp [*]; done)), H', ⟨by have := HJ1.out; have := HK2.out; first | omega | exact Nat.le_refl _⟩, ⟨by (with_reducible repeat (first | refine blk_drewN ?_ _ | refine blk_drew ?_ | refine blk_alloc ?_ _)); refine blk_far ?_ NB239_241.out _; (with_reducible repeat (first | refine blk_drewN ?_ _ | refine blk_drew ?_ | refine blk_alloc ?_ _)); refine blk_far ?_ NB239_241.out _; (with_reducible repeat (first | refine blk_drewN ?_ _ | refine blk_drew ?_ | refine blk_alloc ?_ _)); refine blk_far ?_ NB239_241.out _; (with_reducible repeat (first | refine blk_drewN ?_ _ | refine blk_drew ?_ | refine blk_alloc ?_ _)); exact BK239.out⟩, ⟨by (with_reducible repeat (first | refine blk_drewN ?_ _ | refine blk_drew ?_ | refine blk_alloc ?_ _)); refine blk_put (cs := #[.int .i64 ((rd_T36 l0_0 x3_2).f0), .int .i64 ((rd_T36 l0_0 x3_2).f1), .bool false]) ?_ 2 _ rfl; (with_reducible repeat (first | refine blk_drewN ?_ _ | refine blk_drew ?_ | refine blk_alloc ?_ _)); refine blk_put (cs := #[.int .i64 ((rd_T36 l0_0 x3_2).f0), .int .i64 0, .bool false]) ?_ 1 _ rfl; (with_reducible repeat (first | refine blk_drewN ?_ _ | refine blk_drew ?_ | refine blk_alloc ?_ _)); refine blk_put (cs := #[.int .i64 0, .int .i64 0, .bool false]) ?_ 0 _ rfl; (with_reducible repeat (first | refine blk_drewN ?_ _ | refine blk_drew ?_ | refine blk_alloc ?_ _)); exact BK241.out⟩, ⟨by repeat (first | (with_reducible first | exact HB.out | apply below_alloc | apply pw_below_drewN | apply below_drew1 | refine below_set ?_ GE239.out | refine below_set ?_ GE241.out) | exact HB.out)⟩⟩
                            · rw [if_neg c25] at H
                              have c25b0 : decide (((rd_T36 l0_0 x3_2).f0) ≤ ((rd_T36 l0_0 (ji22)).f0)) = false := decide_eq_false c25
                              clear c25
                              by_cases c29 : ((rd_T36 l0_0 x3_2).f1) < 0
                              · rw [if_pos c29] at H
                                have c29b0 : decide (((rd_T36 l0_0 x3_2).f1) < 0) = true := decide_eq_true c29
                                clear c29
                                have H' := Aside0.mk H
                                clear H
                                have hnb30 := NB241_239.out
                                have hnc30 := NB239_241.out
                                have hcz31_0 : w12.cell? ⟨gb241, 0, none⟩ = some (.int .i64 0) := (blk_cell BK241.out 0).trans rfl
                                have hcz31_1 : w12.cell? ⟨gb241, 1, none⟩ = some (.int .i64 0) := (blk_cell BK241.out 1).trans rfl
                                have hcz31_2 : w12.cell? ⟨gb241, 2, none⟩ = some (.bool false) := (blk_cell BK241.out 2).trans rfl
                                have hfz31_0 := blk_frozen BK241.out 0
                                have hfz31_1 := blk_frozen BK241.out 1
                                have hfz31_2 := blk_frozen BK241.out 2
                                have hcz32_0 : w12.cell? ⟨gb239, 0, none⟩ = some (.slice (some ad240) l0_0.length c0_0) := (blk_cell BK239.out 0).trans rfl
                                have hcz32_1 : w12.cell? ⟨gb239, 1, none⟩ = some (.int .i64 a0_1) := (blk_cell BK239.out 1).trans rfl
                                have hfz32_0 := blk_frozen BK239.out 0
                                have hfz32_1 := blk_frozen BK239.out 1
                                have p242 : 0 ≤ ((ji22) : Int) := of_decide_eq_true (by first | (with_reducible assumption) | assumption)
                                have q242 : (ji22) < (l0_0.length : Int) := of_decide_eq_true (by first | (with_reducible assumption) | assumption)
                                obtain ⟨ad242, e242, hx242_0, hx242_1, hx242_2⟩ := at_T36 HR0_0.out (ji22) p242 q242
                                obtain rfl : ad240 = ad242 := (by injection e242)
                                have hn242_0 : ad240.block ≠ gb241 := Nat.ne_of_lt (Nat.lt_of_lt_of_le (by have := World.block_lt_of_cell? _ _ hx242_0; first | rwa [add_block] at this | exact this) GW241.out)
                                have hn242_1 : ad240.block ≠ gb241 := Nat.ne_of_lt (Nat.lt_of_lt_of_le (by have := World.block_lt_of_cell? _ _ hx242_0; first | rwa [add_block] at this | exact this) GW241.out)
                                have hn242_2 : ad240.block ≠ gb241 := Nat.ne_of_lt (Nat.lt_of_lt_of_le (by have := World.block_lt_of_cell? _ _ hx242_0; first | rwa [add_block] at this | exact this) GW241.out)
                                replace hx242_0 := (HB.out.cell (World.block_lt_of_cell? w _ hx242_0)).trans hx242_0
                                replace hx242_1 := (HB.out.cell (World.block_lt_of_cell? w _ hx242_1)).trans hx242_1
                                replace hx242_2 := (HB.out.cell (World.block_lt_of_cell? w _ hx242_2)).trans hx242_2
                                replace hx242_0 := (cell_far (p := ⟨gb241, 0, none⟩) (by first | (rw [add_block]; exact hn242_0) | (show (Addr.add _ _).block ≠ _; rw [add_block]; exact hn242_0) | exact hn242_0) (.int .i64 ((rd_T36 l0_0 x3_2).f0))).trans hx242_0
                                replace hx242_1 := (cell_far (p := ⟨gb241, 0, none⟩) (by first | (rw [add_block]; exact hn242_0) | (show (Addr.add _ _).block ≠ _; rw [add_block]; exact hn242_0) | exact hn242_0) (.int .i64 ((rd_T36 l0_0 x3_2).f0))).trans hx242_1
                                replace hx242_2 := (cell_far (p := ⟨gb241, 0, none⟩) (by first | (rw [add_block]; exact hn242_0) | (show (Addr.add _ _).block ≠ _; rw [add_block]; exact hn242_0) | exact hn242_0) (.int .i64 ((rd_T36 l0_0 x3_2).f0))).trans hx242_2
                                replace hx242_0 := (cell_far (p := ⟨gb241, 1, none⟩) (by first | (rw [add_block]; exact hn242_1) | (show (Addr.add _ _).block ≠ _; rw [add_block]; exact hn242_1) | exact hn242_1) (.int .i64 ((rd_T36 l0_0 x3_2).f1))).trans hx242_0
                                replace hx242_1 := (cell_far (p := ⟨gb241, 1, none⟩) (by first | (rw [add_block]; exact hn242_1) | (show (Addr.add _ _).block ≠ _; rw [add_block]; exact hn242_1) | exact hn242_1) (.int .i64 ((rd_T36 l0_0 x3_2).f1))).trans hx242_1
                                replace hx242_2 := (cell_far (p := ⟨gb241, 1, none⟩) (by first | (rw [add_block]; exact hn242_1) | (show (Addr.add _ _).block ≠ _; rw [add_block]; exact hn242_1) | exact hn242_1) (.int .i64 ((rd_T36 l0_0 x3_2).f1))).trans hx242_2
                                replace hx242_0 := (cell_far (p := ⟨gb241, 2, none⟩) (by first | (rw [add_block]; exact hn242_2) | (show (Addr.add _ _).block ≠ _; rw [add_block]; exact hn242_2) | exact hn242_2) (.bool ((rd_T36 l0_0 x3_2).f2))).trans hx242_0
                                replace hx242_1 := (cell_far (p := ⟨gb241, 2, none⟩) (by first | (rw [add_block]; exact hn242_2) | (show (Addr.add _ _).block ≠ _; rw [add_block]; exact hn242_2) | exact hn242_2) (.bool ((rd_T36 l0_0 x3_2).f2))).trans hx242_1
                                replace hx242_2 := (cell_far (p := ⟨gb241, 2, none⟩) (by first | (rw [add_block]; exact hn242_2) | (show (Addr.add _ _).block ≠ _; rw [add_block]; exact hn242_2) | exact hn242_2) (.bool ((rd_T36 l0_0 x3_2).f2))).trans hx242_2
                                (try have hy242_0 := fun (n_ : Nat) => (show (((((w12.drewN n_).setCell ⟨gb241, 0, none⟩ (.int .i64 ((rd_T36 l0_0 x3_2).f0))).setCell ⟨gb241, 1, none⟩ (.int .i64 ((rd_T36 l0_0 x3_2).f1))).setCell ⟨gb241, 2, none⟩ (.bool ((rd_T36 l0_0 x3_2).f2)))).cell? _ = some _ from hx242_0))
                                (try have hy242_1 := fun (n_ : Nat) => (show (((((w12.drewN n_).setCell ⟨gb241, 0, none⟩ (.int .i64 ((rd_T36 l0_0 x3_2).f0))).setCell ⟨gb241, 1, none⟩ (.int .i64 ((rd_T36 l0_0 x3_2).f1))).setCell ⟨gb241, 2, none⟩ (.bool ((rd_T36 l0_0 x3_2).f2)))).cell? _ = some _ from hx242_1))
                                (try have hy242_2 := fun (n_ : Nat) => (show (((((w12.drewN n_).setCell ⟨gb241, 0, none⟩ (.int .i64 ((rd_T36 l0_0 x3_2).f0))).setCell ⟨gb241, 1, none⟩ (.int .i64 ((rd_T36 l0_0 x3_2).f1))).setCell ⟨gb241, 2, none⟩ (.bool ((rd_T36 l0_0 x3_2).f2)))).cell? _ = some _ from hx242_2))
                                clear hn242_0
                                clear hn242_1
                                clear hn242_2
                                replace p242 := eq_true p242
                                replace q242 := eq_true q242
                                go_wp2
                                repeat (go_quiet (fail); try go_wp2)
                                go_meet
                                case rel => exact ⟨_, (true), (by first | rfl | (simp; done) | (simp [*]; done)), H', ⟨by have := HJ1.out; have := HK2.out; first | omega | exact Nat.le_refl _⟩, ⟨by (with_reducible repeat (first | refine blk_drewN ?_ _ | refine blk_drew ?_ | refine blk_alloc ?_ _)); refine blk_far ?_ NB239_241.out _; (with_reducible repeat (first | refine blk_drewN ?_ _ | refine blk_drew ?_ | refine blk_alloc ?_ _)); refine blk_far ?_ NB239_241.out _; (with_reducible repeat (first | refine blk_drewN ?_ _ | refine blk_drew ?_ | refine blk_alloc ?_ _)); refine blk_far ?_ NB239_241.out _; (with_reducible repeat (first | refine blk_drewN ?_ _ | refine blk_drew ?_ | refine blk_alloc ?_ _)); exact BK239.out⟩, ⟨by (with_reducible repeat (first | refine blk_drewN ?_ _ | refine blk_drew ?_ | refine blk_alloc ?_ _)); refine blk_put (cs := #[.int .i64 ((rd_T36 l0_0 x3_2).f0), .int .i64 ((rd_T36 l0_0 x3_2).f1), .bool false]) ?_ 2 _ rfl; (with_reducible repeat (first | refine blk_drewN ?_ _ | refine blk_drew ?_ | refine blk_alloc ?_ _)); refine blk_put (cs := #[.int .i64 ((rd_T36 l0_0 x3_2).f0), .int .i64 0, .bool false]) ?_ 1 _ rfl; (with_reducible repeat (first | refine blk_drewN ?_ _ | refine blk_drew ?_ | refine blk_alloc ?_ _)); refine blk_put (cs := #[.int .i64 0, .int .i64 0, .bool false]) ?_ 0 _ rfl; (with_reducible repeat (first | refine blk_drewN ?_ _ | refine blk_drew ?_ | refine blk_alloc ?_ _)); exact BK241.out⟩, ⟨by repeat (first | (with_reducible first | exact HB.out | apply below_alloc | apply pw_below_drewN | apply below_drew1 | refine below_set ?_ GE239.out | refine below_set ?_ GE241.out) | exact HB.out)⟩⟩
                              · rw [if_neg c29] at H
                                have c29b0 : decide (((rd_T36 l0_0 x3_2).f1) < 0) = false := decide_eq_false c29
                                clear c29
                                have H' := Aside0.mk H
                                clear H
                                have hnb33 := NB241_239.out
                                have hnc33 := NB239_241.out
                                have hcz34_0 : w12.cell? ⟨gb241, 0, none⟩ = some (.int .i64 0) := (blk_cell BK241.out 0).trans rfl
                                have hcz34_1 : w12.cell? ⟨gb241, 1, none⟩ = some (.int .i64 0) := (blk_cell BK241.out 1).trans rfl
                                have hcz34_2 : w12.cell? ⟨gb241, 2, none⟩ = some (.bool false) := (blk_cell BK241.out 2).trans rfl
                                have hfz34_0 := blk_frozen BK241.out 0
                                have hfz34_1 := blk_frozen BK241.out 1
                                have hfz34_2 := blk_frozen BK241.out 2
                                have hcz35_0 : w12.cell? ⟨gb239, 0, none⟩ = some (.slice (some ad240) l0_0.length c0_0) := (blk_cell BK239.out 0).trans rfl
                                have hcz35_1 : w12.cell? ⟨gb239, 1, none⟩ = some (.int .i64 a0_1) := (blk_cell BK239.out 1).trans rfl
                                have hfz35_0 := blk_frozen BK239.out 0
                                have hfz35_1 := blk_frozen BK239.out 1
                                have p242 : 0 ≤ ((ji22) : Int) := of_decide_eq_true (by first | (with_reducible assumption) | assumption)
                                have q242 : (ji22) < (l0_0.length : Int) := of_decide_eq_true (by first | (with_reducible assumption) | assumption)
                                obtain ⟨ad242, e242, hx242_0, hx242_1, hx242_2⟩ := at_T36 HR0_0.out (ji22) p242 q242
                                obtain rfl : ad240 = ad242 := (by injection e242)
                                have hn242_0 : ad240.block ≠ gb241 := Nat.ne_of_lt (Nat.lt_of_lt_of_le (by have := World.block_lt_of_cell? _ _ hx242_0; first | rwa [add_block] at this | exact this) GW241.out)
                                have hn242_1 : ad240.block ≠ gb241 := Nat.ne_of_lt (Nat.lt_of_lt_of_le (by have := World.block_lt_of_cell? _ _ hx242_0; first | rwa [add_block] at this | exact this) GW241.out)
                                have hn242_2 : ad240.block ≠ gb241 := Nat.ne_of_lt (Nat.lt_of_lt_of_le (by have := World.block_lt_of_cell? _ _ hx242_0; first | rwa [add_block] at this | exact this) GW241.out)
                                replace hx242_0 := (HB.out.cell (World.block_lt_of_cell? w _ hx242_0)).trans hx242_0
                                replace hx242_1 := (HB.out.cell (World.block_lt_of_cell? w _ hx242_1)).trans hx242_1
                                replace hx242_2 := (HB.out.cell (World.block_lt_of_cell? w _ hx242_2)).trans hx242_2
                                replace hx242_0 := (cell_far (p := ⟨gb241, 0, none⟩) (by first | (rw [add_block]; exact hn242_0) | (show (Addr.add _ _).block ≠ _; rw [add_block]; exact hn242_0) | exact hn242_0) (.int .i64 ((rd_T36 l0_0 x3_2).f0))).trans hx242_0
                                replace hx242_1 := (cell_far (p := ⟨gb241, 0, none⟩) (by first | (rw [add_block]; exact hn242_0) | (show (Addr.add _ _).block ≠ _; rw [add_block]; exact hn242_0) | exact hn242_0) (.int .i64 ((rd_T36 l0_0 x3_2).f0))).trans hx242_1
                                replace hx242_2 := (cell_far (p := ⟨gb241, 0, none⟩) (by first | (rw [add_block]; exact hn242_0) | (show (Addr.add _ _).block ≠ _; rw [add_block]; exact hn242_0) | exact hn242_0) (.int .i64 ((rd_T36 l0_0 x3_2).f0))).trans hx242_2
                                replace hx242_0 := (cell_far (p := ⟨gb241, 1, none⟩) (by first | (rw [add_block]; exact hn242_1) | (show (Addr.add _ _).block ≠ _; rw [add_block]; exact hn242_1) | exact hn242_1) (.int .i64 ((rd_T36 l0_0 x3_2).f1))).trans hx242_0
                                replace hx242_1 := (cell_far (p := ⟨gb241, 1, none⟩) (by first | (rw [add_block]; exact hn242_1) | (show (Addr.add _ _).block ≠ _; rw [add_block]; exact hn242_1) | exact hn242_1) (.int .i64 ((rd_T36 l0_0 x3_2).f1))).trans hx242_1
                                replace hx242_2 := (cell_far (p := ⟨gb241, 1, none⟩) (by first | (rw [add_block]; exact hn242_1) | (show (Addr.add _ _).block ≠ _; rw [add_block]; exact hn242_1) | exact hn242_1) (.int .i64 ((rd_T36 l0_0 x3_2).f1))).trans hx242_2
                                replace hx242_0 := (cell_far (p := ⟨gb241, 2, none⟩) (by first | (rw [add_block]; exact hn242_2) | (show (Addr.add _ _).block ≠ _; rw [add_block]; exact hn242_2) | exact hn242_2) (.bool ((rd_T36 l0_0 x3_2).f2))).trans hx242_0
                                replace hx242_1 := (cell_far (p := ⟨gb241, 2, none⟩) (by first | (rw [add_block]; exact hn242_2) | (show (Addr.add _ _).block ≠ _; rw [add_block]; exact hn242_2) | exact hn242_2) (.bool ((rd_T36 l0_0 x3_2).f2))).trans hx242_1
                                replace hx242_2 := (cell_far (p := ⟨gb241, 2, none⟩) (by first | (rw [add_block]; exact hn242_2) | (show (Addr.add _ _).block ≠ _; rw [add_block]; exact hn242_2) | exact hn242_2) (.bool ((rd_T36 l0_0 x3_2).f2))).trans hx242_2
                                (try have hy242_0 := fun (n_ : Nat) => (show (((((w12.drewN n_).setCell ⟨gb241, 0, none⟩ (.int .i64 ((rd_T36 l0_0 x3_2).f0))).setCell ⟨gb241, 1, none⟩ (.int .i64 ((rd_T36 l0_0 x3_2).f1))).setCell ⟨gb241, 2, none⟩ (.bool ((rd_T36 l0_0 x3_2).f2)))).cell? _ = some _ from hx242_0))
                                (try have hy242_1 := fun (n_ : Nat) => (show (((((w12.drewN n_).setCell ⟨gb241, 0, none⟩ (.int .i64 ((rd_T36 l0_0 x3_2).f0))).setCell ⟨gb241, 1, none⟩ (.int .i64 ((rd_T36 l0_0 x3_2).f1))).setCell ⟨gb241, 2, none⟩ (.bool ((rd_T36 l0_0 x3_2).f2)))).cell? _ = some _ from hx242_1))
                                (try have hy242_2 := fun (n_ : Nat) => (show (((((w12.drewN n_).setCell ⟨gb241, 0, none⟩ (.int .i64 ((rd_T36 l0_0 x3_2).f0))).setCell ⟨gb241, 1, none⟩ (.int .i64 ((rd_T36 l0_0 x3_2).f1))).setCell ⟨gb241, 2, none⟩ (.bool ((rd_T36 l0_0 x3_2).f2)))).cell? _ = some _ from hx242_2))
                                clear hn242_0
                                clear hn242_1
                                clear hn242_2
                                replace p242 := eq_true p242
                                replace q242 := eq_true q242
                                go_wp2
                                repeat (go_quiet (fail); try go_wp2)
                                go_meet
                                case rel => exact ⟨_, (decide (((rd_T36 l0_0 x3_2).f1) ≥ a0_1)), (by first | rfl | (simp; done) | (simp [*]; done)), H', ⟨by have := HJ1.out; have := HK2.out; first | omega | exact Nat.le_refl _⟩, ⟨by (with_reducible repeat (first | refine blk_drewN ?_ _ | refine blk_drew ?_ | refine blk_alloc ?_ _)); refine blk_far ?_ NB239_241.out _; (with_reducible repeat (first | refine blk_drewN ?_ _ | refine blk_drew ?_ | refine blk_alloc ?_ _)); refine blk_far ?_ NB239_241.out _; (with_reducible repeat (first | refine blk_drewN ?_ _ | refine blk_drew ?_ | refine blk_alloc ?_ _)); refine blk_far ?_ NB239_241.out _; (with_reducible repeat (first | refine blk_drewN ?_ _ | refine blk_drew ?_ | refine blk_alloc ?_ _)); exact BK239.out⟩, ⟨by (with_reducible repeat (first | refine blk_drewN ?_ _ | refine blk_drew ?_ | refine blk_alloc ?_ _)); refine blk_put (cs := #[.int .i64 ((rd_T36 l0_0 x3_2).f0), .int .i64 ((rd_T36 l0_0 x3_2).f1), .bool false]) ?_ 2 _ rfl; (with_reducible repeat (first | refine blk_drewN ?_ _ | refine blk_drew ?_ | refine blk_alloc ?_ _)); refine blk_put (cs := #[.int .i64 ((rd_T36 l0_0 x3_2).f0), .int .i64 0, .bool false]) ?_ 1 _ rfl; (with_reducible repeat (first | refine blk_drewN ?_ _ | refine blk_drew ?_ | refine blk_alloc ?_ _)); refine blk_put (cs := #[.int .i64 0, .int .i64 0, .bool false]) ?_ 0 _ rfl; (with_reducible repeat (first | refine blk_drewN ?_ _ | refine blk_drew ?_ | refine blk_alloc ?_ _)); exact BK241.out⟩, ⟨by repeat (first | (with_reducible first | exact HB.out | apply below_alloc | apply pw_below_drewN | apply below_drew1 | refine below_set ?_ GE239.out | refine below_set ?_ GE241.out) | exact HB.out)⟩⟩
                          · rw [if_neg c24] at H
                            exact absurd H (by simp)
                        · rw [if_neg c23] at H
                          exact absurd H (by simp)
                      · rw [if_neg c21] at H
                        have c21b0 : decide (0 < x3_2) = false := decide_eq_false c21
                        clear c21
                        by_cases c36 : ((rd_T36 l0_0 x3_2).f1) < 0
                        · rw [if_pos c36] at H
                          have c36b0 : decide (((rd_T36 l0_0 x3_2).f1) < 0) = true := decide_eq_true c36
                          clear c36
                          have H' := Aside0.mk H
                          clear H
                          have hnb37 := NB241_239.out
                          have hnc37 := NB239_241.out
                          have hcz38_0 : w12.cell? ⟨gb241, 0, none⟩ = some (.int .i64 0) := (blk_cell BK241.out 0).trans rfl
                          have hcz38_1 : w12.cell? ⟨gb241, 1, none⟩ = some (.int .i64 0) := (blk_cell BK241.out 1).trans rfl
                          have hcz38_2 : w12.cell? ⟨gb241, 2, none⟩ = some (.bool false) := (blk_cell BK241.out 2).trans rfl
                          have hfz38_0 := blk_frozen BK241.out 0
                          have hfz38_1 := blk_frozen BK241.out 1
                          have hfz38_2 := blk_frozen BK241.out 2
                          go_wp2
                          repeat (go_quiet (fail); try go_wp2)
                          go_meet
                          case rel => exact ⟨_, (true), (by first | rfl | (simp; done) | (simp [*]; done)), H', ⟨by have := HJ1.out; have := HK2.out; first | omega | exact Nat.le_refl _⟩, ⟨by (with_reducible repeat (first | refine blk_drewN ?_ _ | refine blk_drew ?_ | refine blk_alloc ?_ _)); refine blk_far ?_ NB239_241.out _; (with_reducible repeat (first | refine blk_drewN ?_ _ | refine blk_drew ?_ | refine blk_alloc ?_ _)); refine blk_far ?_ NB239_241.out _; (with_reducible repeat (first | refine blk_drewN ?_ _ | refine blk_drew ?_ | refine blk_alloc ?_ _)); refine blk_far ?_ NB239_241.out _; (with_reducible repeat (first | refine blk_drewN ?_ _ | refine blk_drew ?_ | refine blk_alloc ?_ _)); exact BK239.out⟩, ⟨by (with_reducible repeat (first | refine blk_drewN ?_ _ | refine blk_drew ?_ | refine blk_alloc ?_ _)); refine blk_put (cs := #[.int .i64 ((rd_T36 l0_0 x3_2).f0), .int .i64 ((rd_T36 l0_0 x3_2).f1), .bool false]) ?_ 2 _ rfl; (with_reducible repeat (first | refine blk_drewN ?_ _ | refine blk_drew ?_ | refine blk_alloc ?_ _)); refine blk_put (cs := #[.int .i64 ((rd_T36 l0_0 x3_2).f0), .int .i64 0, .bool false]) ?_ 1 _ rfl; (with_reducible repeat (first | refine blk_drewN ?_ _ | refine blk_drew ?_ | refine blk_alloc ?_ _)); refine blk_put (cs := #[.int .i64 0, .int .i64 0, .bool false]) ?_ 0 _ rfl; (with_reducible repeat (first | refine blk_drewN ?_ _ | refine blk_drew ?_ | refine blk_alloc ?_ _)); exact BK241.out⟩, ⟨by repeat (first | (with_reducible first | exact HB.out | apply below_alloc | apply pw_below_drewN | apply below_drew1 | refine below_set ?_ GE239.out | refine below_set ?_ GE241.out) | exact HB.out)⟩⟩
                        · rw [if_neg c36] at H
                          have c36b0 : decide (((rd_T36 l0_0 x3_2).f1) < 0) = false := decide_eq_false c36
                          clear c36
                          have H' := Aside0.mk H
                          clear H
                          have hnb39 := NB241_239.out
                          have hnc39 := NB239_241.out
                          have hcz40_0 : w12.cell? ⟨gb241, 0, none⟩ = some (.int .i64 0) := (blk_cell BK241.out 0).trans rfl
                          have hcz40_1 : w12.cell? ⟨gb241, 1, none⟩ = some (.int .i64 0) := (blk_cell BK241.out 1).trans rfl
                          have hcz40_2 : w12.cell? ⟨gb241, 2, none⟩ = some (.bool false) := (blk_cell BK241.out 2).trans rfl
                          have hfz40_0 := blk_frozen BK241.out 0
                          have hfz40_1 := blk_frozen BK241.out 1
                          have hfz40_2 := blk_frozen BK241.out 2
                          have hcz41_0 : w12.cell? ⟨gb239, 0, none⟩ = some (.slice (some ad240) l0_0.length c0_0) := (blk_cell BK239.out 0).trans rfl
                          have hcz41_1 : w12.cell? ⟨gb239, 1, none⟩ = some (.int .i64 a0_1) := (blk_cell BK239.out 1).trans rfl
                          have hfz41_0 := blk_frozen BK239.out 0
                          have hfz41_1 := blk_frozen BK239.out 1
                          go_wp2
                          repeat (go_quiet (fail); try go_wp2)
                          go_meet
                          case rel => exact ⟨_, (decide (((rd_T36 l0_0 x3_2).f1) ≥ a0_1)), (by first | rfl | (simp; done) | (simp [*]; done)), H', ⟨by have := HJ1.out; have := HK2.out; first | omega | exact Nat.le_refl _⟩, ⟨by (with_reducible repeat (first | refine blk_drewN ?_ _ | refine blk_drew ?_ | refine blk_alloc ?_ _)); refine blk_far ?_ NB239_241.out _; (with_reducible repeat (first | refine blk_drewN ?_ _ | refine blk_drew ?_ | refine blk_alloc ?_ _)); refine blk_far ?_ NB239_241.out _; (with_reducible repeat (first | refine blk_drewN ?_ _ | refine blk_drew ?_ | refine blk_alloc ?_ _)); refine blk_far ?_ NB239_241.out _; (with_reducible repeat (first | refine blk_drewN ?_ _ | refine blk_drew ?_ | refine blk_alloc ?_ _)); exact BK239.out⟩, ⟨by (with_reducible repeat (first | refine blk_drewN ?_ _ | refine blk_drew ?_ | refine blk_alloc ?_ _)); refine blk_put (cs := #[.int .i64 ((rd_T36 l0_0 x3_2).f0), .int .i64 ((rd_T36 l0_0 x3_2).f1), .bool false]) ?_ 2 _ rfl; (with_reducible repeat (first | refine blk_drewN ?_ _ | refine blk_drew ?_ | refine blk_alloc ?_ _)); refine blk_put (cs := #[.int .i64 ((rd_T36 l0_0 x3_2).f0), .int .i64 0, .bool false]) ?_ 1 _ rfl; (with_reducible repeat (first | refine blk_drewN ?_ _ | refine blk_drew ?_ | refine blk_alloc ?_ _)); refine blk_put (cs := #[.int .i64 0, .int .i64 0, .bool false]) ?_ 0 _ rfl; (with_reducible repeat (first | refine blk_drewN ?_ _ | refine blk_drew ?_ | refine blk_alloc ?_ _)); exact BK241.out⟩, ⟨by repeat (first | (with_reducible first | exact HB.out | apply below_alloc | apply pw_below_drewN | apply below_drew1 | refine below_set ?_ GE239.out | refine below_set ?_ GE241.out) | exact HB.out)⟩⟩
                case rest =>
                  clear HC10
                  try clear c1
                  try clear c2
                  try clear p2
                  try clear q2
                  try clear hx2
                  try clear c3
                  try clear c4
                  try clear c4b0
                  try clear p6
                  try clear c7
                  try clear c8
                  try clear c8b0
                  try clear c9
                  try clear c9b0
                  try clear c13
                  try clear c15
                  try clear c15b0
                  try clear c16
                  try clear c18
                  try clear c18b0
                  try clear c19
                  try clear c21
                  try clear c21b0
                  try clear c23
                  try clear c23b0
                  try clear c24
                  try clear c24b0
                  try clear p24
                  try clear q24
                  try clear hx24
                  try clear c25
                  try clear c25b0
                  try clear c26
                  try clear c29
                  try clear c29b0
                  try clear c30
                  try clear c31
                  try clear c33
                  try clear c36
                  try clear c36b0
                  try clear c37
                  try clear c39
                  try clear hcz11_0
                  try clear hcz11_1
                  try clear hcz14_0
                  try clear hcz14_1
                  try clear hcz14_2
                  try clear hcz17_0
                  try clear hcz17_1
                  try clear hcz17_2
                  try clear hcz20_0
                  try clear hcz20_1
                  try clear hcz20_2
                  try clear hcz27_0
                  try clear hcz27_1
                  try clear hcz27_2
                  try clear hcz28_0
                  try clear hcz28_1
                  try clear hcz31_0
                  try clear hcz31_1
                  try clear hcz31_2
                  try clear hcz32_0
                  try clear hcz32_1
                  try clear hcz34_0
                  try clear hcz34_1
                  try clear hcz34_2
                  try clear hcz35_0
                  try clear hcz35_1
                  try clear hcz38_0
                  try clear hcz38_1
                  try clear hcz38_2
                  try clear hcz40_0
                  try clear hcz40_1
                  try clear hcz40_2
                  try clear hcz41_0
                  try clear hcz41_1
                  try clear hcz5_0
                  try clear hcz5_1
                  try clear hcz6_0
                  try clear hcz6_1
                  try clear hfz11_0
                  try clear hfz11_1
                  try clear hfz14_0
                  try clear hfz14_1
                  try clear hfz14_2
                  try clear hfz17_0
                  try clear hfz17_1
                  try clear hfz17_2
                  try clear hfz20_0
                  try clear hfz20_1
                  try clear hfz20_2
                  try clear hfz27_0
                  try clear hfz27_1
                  try clear hfz27_2
                  try clear hfz28_0
                  try clear hfz28_1
                  try clear hfz31_0
                  try clear hfz31_1
                  try clear hfz31_2
                  try clear hfz32_0
                  try clear hfz32_1
                  try clear hfz34_0
                  try clear hfz34_1
                  try clear hfz34_2
                  try clear hfz35_0
                  try clear hfz35_1
                  try clear hfz38_0
                  try clear hfz38_1
                  try clear hfz38_2
                  try clear hfz40_0
                  try clear hfz40_1
                  try clear hfz40_2
                  try clear hfz41_0
                  try clear hfz41_1
                  try clear hfz5_0
                  try clear hfz5_1
                  try clear hfz6_0
                  try clear hfz6_1
                  try clear hx240_0
                  try clear hx240_1
                  try clear hx240_2
                  try clear hx242_0
                  try clear hx242_1
                  try clear hx242_2
                  try clear p2
                  try clear p240
                  try clear p242
                  try clear q240
                  try clear q242
                  obtain ⟨kq, x60_9, rfl, HA, HJ9, BK239, BK241, HB⟩ := hcut
                  cases kq with
                  | zero => exact absurd HA.out (by simp [crossbarref18_Check.j2])
                  | succ kj9 =>
                    have H := HA.out
                    clear HA
                    simp only [crossbarref18_Check.j2] at H
                    by_cases c42 : x60_9 = true
                    · subst c42
                      have H1 : (some 1) = some r := by rw [if_pos rfl] at H; exact H
                      clear H
                      have H := H1
                      clear H1
                      obtain rfl := Option.some.inj H
                      go_wp2
                      repeat (go_quiet (fail); try go_wp2)
                      go_ret
                      exact ⟨by first | rfl | (simp [errW_none, errW_some] <;> rfl) | (simp [*, errW_none, errW_some] <;> rfl), by repeat (first | (with_reducible first | exact HB.out | apply below_alloc | apply pw_below_drewN | apply below_drew1 | refine below_set ?_ GE239.out | refine below_set ?_ GE241.out) | exact HB.out)⟩
                    · replace c42 := Bool.eq_false_iff.mpr c42
                      subst c42
                      have H1 : (if ((rd_T36 l0_0 x3_2).f1) = 0 then (if ((rd_T36 l0_0 x3_2).f2) = true then (some 1) else (if ((rd_T36 l0_0 x3_2).f1) > 0 then ((crossbarref18_size.f kj9 l0_0 ((rd_T36 l0_0 x3_2).f1)).bind fun t243 => (if t243 < 2 then (some 1) else (crossbarref18_Check.l0 kj9 (wrap64 (x3_2 + 1)) l0_0 a0_1))) else (crossbarref18_Check.l0 kj9 (wrap64 (x3_2 + 1)) l0_0 a0_1))) else (if ((rd_T36 l0_0 x3_2).f1) > 0 then ((crossbarref18_size.f kj9 l0_0 ((rd_T36 l0_0 x3_2).f1)).bind fun t244 => (if t244 < 2 then (some 1) else (crossbarref18_Check.l0 kj9 (wrap64 (x3_2 + 1)) l0_0 a0_1))) else (crossbarref18_Check.l0 kj9 (wrap64 (x3_2 + 1)) l0_0 a0_1))) = some r := by rw [if_neg (show ¬ (false = true) by decide)] at H; exact H
                      clear H
                      have H := H1
                      clear H1
                      by_cases c43 : ((rd_T36 l0_0 x3_2).f1) = 0
                      · rw [if_pos c43] at H
                        have c43b0 : (((rd_T36 l0_0 x3_2).f1) == 0) = true := beq_iff_eq.mpr c43
                        have c43b1 : (((rd_T36 l0_0 x3_2).f1) != 0) = false := bne_eq_false_iff_eq.mpr c43
                        clear c43
                        by_cases c44 : ((rd_T36 l0_0 x3_2).f2) = true
                        · rw [if_pos c44] at H
                          have c44b0 : ((rd_T36 l0_0 x3_2).f2) = true := c44
                          clear c44
                          obtain rfl := Option.some.inj H
                          have hnb45 := NB241_239.out
                          have hnc45 := NB239_241.out
                          have hcz46_0 : wc.cell? ⟨gb241, 0, none⟩ = some (.int .i64 ((rd_T36 l0_0 x3_2).f0)) := (blk_cell BK241.out 0).trans rfl
                          have hcz46_1 : wc.cell? ⟨gb241, 1, none⟩ = some (.int .i64 ((rd_T36 l0_0 x3_2).f1)) := (blk_cell BK241.out 1).trans rfl
                          have hcz46_2 : wc.cell? ⟨gb241, 2, none⟩ = some (.bool ((rd_T36 l0_0 x3_2).f2)) := (blk_cell BK241.out 2).trans rfl
                          have hfz46_0 := blk_frozen BK241.out 0
                          have hfz46_1 := blk_frozen BK241.out 1
                          have hfz46_2 := blk_frozen BK241.out 2
                          go_wp2
                          repeat (go_quiet (fail); try go_wp2)
                          go_ret
                          exact ⟨by first | rfl | (simp [errW_none, errW_some] <;> rfl) | (simp [*, errW_none, errW_some] <;> rfl), by repeat (first | (with_reducible first | exact HB.out | apply below_alloc | apply pw_below_drewN | apply below_drew1 | refine below_set ?_ GE239.out | refine below_set ?_ GE241.out) | exact HB.out)⟩
                        · rw [if_neg c44] at H
                          have c44b0 : ((rd_T36 l0_0 x3_2).f2) = false := by simpa using c44
                          clear c44
                          by_cases c47 : ((rd_T36 l0_0 x3_2).f1) > 0
                          · rw [if_pos c47] at H
                            have c47b0 : decide (0 < ((rd_T36 l0_0 x3_2).f1)) = true := decide_eq_true c47
                            clear c47
                            replace H := Option.bind_eq_some_iff.mp H
                            obtain ⟨t243, A480, H⟩ := H
                            replace H : (if t243 < 2 then (some 1) else (crossbarref18_Check.l0 kj9 (wrap64 (x3_2 + 1)) l0_0 a0_1)) = some r := H
                            have A48 := Aside0.mk A480
                            clear A480
                            by_cases c49 : t243 < 2
                            · rw [if_pos c49] at H
                              have c49b0 : decide (t243 < 2) = true := decide_eq_true c49
                              clear c49
                              obtain rfl := Option.some.inj H
                              have hnb50 := NB241_239.out
                              have hnc50 := NB239_241.out
                              have hcz51_0 : wc.cell? ⟨gb241, 0, none⟩ = some (.int .i64 ((rd_T36 l0_0 x3_2).f0)) := (blk_cell BK241.out 0).trans rfl
                              have hcz51_1 : wc.cell? ⟨gb241, 1, none⟩ = some (.int .i64 ((rd_T36 l0_0 x3_2).f1)) := (blk_cell BK241.out 1).trans rfl
                              have hcz51_2 : wc.cell? ⟨gb241, 2, none⟩ = some (.bool ((rd_T36 l0_0 x3_2).f2)) := (blk_cell BK241.out 2).trans rfl
                              have hfz51_0 := blk_frozen BK241.out 0
                              have hfz51_1 := blk_frozen BK241.out 1
                              have hfz51_2 := blk_frozen BK241.out 2
                              have hcz52_0 : wc.cell? ⟨gb239, 0, none⟩ = some (.slice (some ad240) l0_0.length c0_0) := (blk_cell BK239.out 0).trans rfl
                              have hcz52_1 : wc.cell? ⟨gb239, 1, none⟩ = some (.int .i64 a0_1) := (blk_cell BK239.out 1).trans rfl
                              have hfz52_0 := blk_frozen BK239.out 0
                              have hfz52_1 := blk_frozen BK239.out 1
                              go_wp2_with (first | (go_at_call 45; (with_reducible refine (crossbarref18_size.calls kj9 _ _ l0_0 ((rd_T36 l0_0 x3_2).f1) t243 _ ?side1 ?side2 A48.out).mono ?_); (case side1 => repeat (first | exact (Kd.C_below HR0_0.out HB.out) | (with_reducible refine Kd.C_alloc ?_ _) | (with_reducible refine Kd.C_drewN ?_ _) | (with_reducible refine Kd.C_drew ?_))); (case side2 => exact HC0_0.out); rintro e w' ⟨rfl, ⟨nd, rfl⟩⟩; (try first | exact ⟨rfl, _, World.drewN_drewN _ _ _⟩ | exact ⟨rfl, _, Eq.trans (World.drewN_drewN _ _ _) (congrArg (World.drewN _) (Nat.add_assoc _ _ _))⟩)))
                              repeat (go_quiet (first | (go_at_call 45; (with_reducible refine (crossbarref18_size.calls kj9 _ _ l0_0 ((rd_T36 l0_0 x3_2).f1) t243 _ ?side1 ?side2 A48.out).mono ?_); (case side1 => repeat (first | exact (Kd.C_below HR0_0.out HB.out) | (with_reducible refine Kd.C_alloc ?_ _) | (with_reducible refine Kd.C_drewN ?_ _) | (with_reducible refine Kd.C_drew ?_))); (case side2 => exact HC0_0.out); rintro e w' ⟨rfl, ⟨nd, rfl⟩⟩; (try first | exact ⟨rfl, _, World.drewN_drewN _ _ _⟩ | exact ⟨rfl, _, Eq.trans (World.drewN_drewN _ _ _) (congrArg (World.drewN _) (Nat.add_assoc _ _ _))⟩))); try go_wp2_with (first | (go_at_call 45; (with_reducible refine (crossbarref18_size.calls kj9 _ _ l0_0 ((rd_T36 l0_0 x3_2).f1) t243 _ ?side1 ?side2 A48.out).mono ?_); (case side1 => repeat (first | exact (Kd.C_below HR0_0.out HB.out) | (with_reducible refine Kd.C_alloc ?_ _) | (with_reducible refine Kd.C_drewN ?_ _) | (with_reducible refine Kd.C_drew ?_))); (case side2 => exact HC0_0.out); rintro e w' ⟨rfl, ⟨nd, rfl⟩⟩; (try first | exact ⟨rfl, _, World.drewN_drewN _ _ _⟩ | exact ⟨rfl, _, Eq.trans (World.drewN_drewN _ _ _) (congrArg (World.drewN _) (Nat.add_assoc _ _ _))⟩))))
                              go_ret
                              exact ⟨by first | rfl | (simp [errW_none, errW_some] <;> rfl) | (simp [*, errW_none, errW_some] <;> rfl), by repeat (first | (with_reducible first | exact HB.out | apply below_alloc | apply pw_below_drewN | apply below_drew1 | refine below_set ?_ GE239.out | refine below_set ?_ GE241.out) | exact HB.out)⟩
                            · rw [if_neg c49] at H
                              have c49b0 : decide (t243 < 2) = false := decide_eq_false c49
                              clear c49
                              have H' := Aside0.mk H
                              clear H
                              have hnb53 := NB241_239.out
                              have hnc53 := NB239_241.out
                              have hcz54_0 : wc.cell? ⟨gb241, 0, none⟩ = some (.int .i64 ((rd_T36 l0_0 x3_2).f0)) := (blk_cell BK241.out 0).trans rfl
                              have hcz54_1 : wc.cell? ⟨gb241, 1, none⟩ = some (.int .i64 ((rd_T36 l0_0 x3_2).f1)) := (blk_cell BK241.out 1).trans rfl
                              have hcz54_2 : wc.cell? ⟨gb241, 2, none⟩ = some (.bool ((rd_T36 l0_0 x3_2).f2)) := (blk_cell BK241.out 2).trans rfl
                              have hfz54_0 := blk_frozen BK241.out 0
                              have hfz54_1 := blk_frozen BK241.out 1
                              have hfz54_2 := blk_frozen BK241.out 2
                              have hcz55_0 : wc.cell? ⟨gb239, 0, none⟩ = some (.slice (some ad240) l0_0.length c0_0) := (blk_cell BK239.out 0).trans rfl
                              have hcz55_1 : wc.cell? ⟨gb239, 1, none⟩ = some (.int .i64 a0_1) := (blk_cell BK239.out 1).trans rfl
                              have hfz55_0 := blk_frozen BK239.out 0
                              have hfz55_1 := blk_frozen BK239.out 1
                              go_wp2_with (first | (go_at_call 45; (with_reducible refine (crossbarref18_size.calls kj9 _ _ l0_0 ((rd_T36 l0_0 x3_2).f1) t243 _ ?side1 ?side2 A48.out).mono ?_); (case side1 => repeat (first | exact (Kd.C_below HR0_0.out HB.out) | (with_reducible refine Kd.C_alloc ?_ _) | (with_reducible refine Kd.C_drewN ?_ _) | (with_reducible refine Kd.C_drew ?_))); (case side2 => exact HC0_0.out); rintro e w' ⟨rfl, ⟨nd, rfl⟩⟩; (try first | exact ⟨rfl, _, World.drewN_drewN _ _ _⟩ | exact ⟨rfl, _, Eq.trans (World.drewN_drewN _ _ _) (congrArg (World.drewN _) (Nat.add_assoc _ _ _))⟩)))
                              repeat (go_quiet (first | (go_at_call 45; (with_reducible refine (crossbarref18_size.calls kj9 _ _ l0_0 ((rd_T36 l0_0 x3_2).f1) t243 _ ?side1 ?side2 A48.out).mono ?_); (case side1 => repeat (first | exact (Kd.C_below HR0_0.out HB.out) | (with_reducible refine Kd.C_alloc ?_ _) | (with_reducible refine Kd.C_drewN ?_ _) | (with_reducible refine Kd.C_drew ?_))); (case side2 => exact HC0_0.out); rintro e w' ⟨rfl, ⟨nd, rfl⟩⟩; (try first | exact ⟨rfl, _, World.drewN_drewN _ _ _⟩ | exact ⟨rfl, _, Eq.trans (World.drewN_drewN _ _ _) (congrArg (World.drewN _) (Nat.add_assoc _ _ _))⟩))); try go_wp2_with (first | (go_at_call 45; (with_reducible refine (crossbarref18_size.calls kj9 _ _ l0_0 ((rd_T36 l0_0 x3_2).f1) t243 _ ?side1 ?side2 A48.out).mono ?_); (case side1 => repeat (first | exact (Kd.C_below HR0_0.out HB.out) | (with_reducible refine Kd.C_alloc ?_ _) | (with_reducible refine Kd.C_drewN ?_ _) | (with_reducible refine Kd.C_drew ?_))); (case side2 => exact HC0_0.out); rintro e w' ⟨rfl, ⟨nd, rfl⟩⟩; (try first | exact ⟨rfl, _, World.drewN_drewN _ _ _⟩ | exact ⟨rfl, _, Eq.trans (World.drewN_drewN _ _ _) (congrArg (World.drewN _) (Nat.add_assoc _ _ _))⟩))))
                              go_roundg kj9
                              case measure => have := HJ1.out; have := HK2.out; have := HJ9.out; omega
                              case rel => exact ⟨(wrap64 (x3_2 + 1)), (by first | rfl | (simp; done) | (simp [*]; done)), H', ⟨by have := HJ1.out; have := HK2.out; have := HJ9.out; omega⟩, ⟨by (with_reducible repeat (first | refine blk_drewN ?_ _ | refine blk_drew ?_ | refine blk_alloc ?_ _)); exact BK239.out⟩, ⟨by repeat (first | (with_reducible first | exact HB.out | apply below_alloc | apply pw_below_drewN | apply below_drew1 | refine below_set ?_ GE239.out | refine below_set ?_ GE241.out) | exact HB.out)⟩⟩
                          · rw [if_neg c47] at H
                            have c47b0 : decide (0 < ((rd_T36 l0_0 x3_2).f1)) = false := decide_eq_false c47
                            clear c47
                            have H' := Aside0.mk H
                            clear H
                            have hnb56 := NB241_239.out
                            have hnc56 := NB239_241.out
                            have hcz57_0 : wc.cell? ⟨gb241, 0, none⟩ = some (.int .i64 ((rd_T36 l0_0 x3_2).f0)) := (blk_cell BK241.out 0).trans rfl
                            have hcz57_1 : wc.cell? ⟨gb241, 1, none⟩ = some (.int .i64 ((rd_T36 l0_0 x3_2).f1)) := (blk_cell BK241.out 1).trans rfl
                            have hcz57_2 : wc.cell? ⟨gb241, 2, none⟩ = some (.bool ((rd_T36 l0_0 x3_2).f2)) := (blk_cell BK241.out 2).trans rfl
                            have hfz57_0 := blk_frozen BK241.out 0
                            have hfz57_1 := blk_frozen BK241.out 1
                            have hfz57_2 := blk_frozen BK241.out 2
                            go_wp2
                            repeat (go_quiet (fail); try go_wp2)
                            go_roundg kj9
                            case measure => have := HJ1.out; have := HK2.out; have := HJ9.out; omega
                            case rel => exact ⟨(wrap64 (x3_2 + 1)), (by first | rfl | (simp; done) | (simp [*]; done)), H', ⟨by have := HJ1.out; have := HK2.out; have := HJ9.out; omega⟩, ⟨by (with_reducible repeat (first | refine blk_drewN ?_ _ | refine blk_drew ?_ | refine blk_alloc ?_ _)); exact BK239.out⟩, ⟨by repeat (first | (with_reducible first | exact HB.out | apply below_alloc | apply pw_below_drewN | apply below_drew1 | refine below_set ?_ GE239.out | refine below_set ?_ GE241.out) | exact HB.out)⟩⟩
                      · rw [if_neg c43] at H
                        have c43b0 : (((rd_T36 l0_0 x3_2).f1) == 0) = false := beq_eq_false_iff_ne.mpr c43
                        have c43b1 : (((rd_T36 l0_0 x3_2).f1) != 0) = true := bne_iff_ne.mpr c43
                        by_cases c58 : ((rd_T36 l0_0 x3_2).f1) > 0
                        · rw [if_pos c58] at H
                          have c58b0 : decide (0 < ((rd_T36 l0_0 x3_2).f1)) = true := decide_eq_true c58
                          clear c58
                          replace H := Option.bind_eq_some_iff.mp H
                          obtain ⟨t244, A590, H⟩ := H
                          replace H : (if t244 < 2 then (some 1) else (crossbarref18_Check.l0 kj9 (wrap64 (x3_2 + 1)) l0_0 a0_1)) = some r := H
                          have A59 := Aside0.mk A590
                          clear A590
                          by_cases c60 : t244 < 2
                          · rw [if_pos c60] at H
                            have c60b0 : decide (t244 < 2) = true := decide_eq_true c60
                            clear c60
                            obtain rfl := Option.some.inj H
                            have hnb61 := NB241_239.out
                            have hnc61 := NB239_241.out
                            have hcz62_0 : wc.cell? ⟨gb241, 0, none⟩ = some (.int .i64 ((rd_T36 l0_0 x3_2).f0)) := (blk_cell BK241.out 0).trans rfl
                            have hcz62_1 : wc.cell? ⟨gb241, 1, none⟩ = some (.int .i64 ((rd_T36 l0_0 x3_2).f1)) := (blk_cell BK241.out 1).trans rfl
                            have hcz62_2 : wc.cell? ⟨gb241, 2, none⟩ = some (.bool ((rd_T36 l0_0 x3_2).f2)) := (blk_cell BK241.out 2).trans rfl
                            have hfz62_0 := blk_frozen BK241.out 0
                            have hfz62_1 := blk_frozen BK241.out 1
                            have hfz62_2 := blk_frozen BK241.out 2
                            have hcz63_0 : wc.cell? ⟨gb239, 0, none⟩ = some (.slice (some ad240) l0_0.length c0_0) := (blk_cell BK239.out 0).trans rfl
                            have hcz63_1 : wc.cell? ⟨gb239, 1, none⟩ = some (.int .i64 a0_1) := (blk_cell BK239.out 1).trans rfl
                            have hfz63_0 := blk_frozen BK239.out 0
                            have hfz63_1 := blk_frozen BK239.out 1
                            go_wp2_with (first | (go_at_call 45; (with_reducible refine (crossbarref18_size.calls kj9 _ _ l0_0 ((rd_T36 l0_0 x3_2).f1) t244 _ ?side1 ?side2 A59.out).mono ?_); (case side1 => repeat (first | exact (Kd.C_below HR0_0.out HB.out) | (with_reducible refine Kd.C_alloc ?_ _) | (with_reducible refine Kd.C_drewN ?_ _) | (with_reducible refine Kd.C_drew ?_))); (case side2 => exact HC0_0.out); rintro e w' ⟨rfl, ⟨nd, rfl⟩⟩; (try first | exact ⟨rfl, _, World.drewN_drewN _ _ _⟩ | exact ⟨rfl, _, Eq.trans (World.drewN_drewN _ _ _) (congrArg (World.drewN _) (Nat.add_assoc _ _ _))⟩)))
                            repeat (go_quiet (first | (go_at_call 45; (with_reducible refine (crossbarref18_size.calls kj9 _ _ l0_0 ((rd_T36 l0_0 x3_2).f1) t244 _ ?side1 ?side2 A59.out).mono ?_); (case side1 => repeat (first | exact (Kd.C_below HR0_0.out HB.out) | (with_reducible refine Kd.C_alloc ?_ _) | (with_reducible refine Kd.C_drewN ?_ _) | (with_reducible refine Kd.C_drew ?_))); (case side2 => exact HC0_0.out); rintro e w' ⟨rfl, ⟨nd, rfl⟩⟩; (try first | exact ⟨rfl, _, World.drewN_drewN _ _ _⟩ | exact ⟨rfl, _, Eq.trans (World.drewN_drewN _ _ _) (congrArg (World.drewN _) (Nat.add_assoc _ _ _))⟩))); try go_wp2_with (first | (go_at_call 45; (with_reducible refine (crossbarref18_size.calls kj9 _ _ l0_0 ((rd_T36 l0_0 x3_2).f1) t244 _ ?side1 ?side2 A59.out).mono ?_); (case side1 => repeat (first | exact (Kd.C_below HR0_0.out HB.out) | (with_reducible refine Kd.C_alloc ?_ _) | (with_reducible refine Kd.C_drewN ?_ _) | (with_reducible refine Kd.C_drew ?_))); (case side2 => exact HC0_0.out); rintro e w' ⟨rfl, ⟨nd, rfl⟩⟩; (try first | exact ⟨rfl, _, World.drewN_drewN _ _ _⟩ | exact ⟨rfl, _, Eq.trans (World.drewN_drewN _ _ _) (congrArg (World.drewN _) (Nat.add_assoc _ _ _))⟩))))
                            go_ret
                            exact ⟨by first | rfl | (simp [errW_none, errW_some] <;> rfl) | (simp [*, errW_none, errW_some] <;> rfl), by repeat (first | (with_reducible first | exact HB.out | apply below_alloc | apply pw_below_drewN | apply below_drew1 | refine below_set ?_ GE239.out | refine below_set ?_ GE241.out) | exact HB.out)⟩
                          · rw [if_neg c60] at H
                            have c60b0 : decide (t244 < 2) = false := decide_eq_false c60
                            clear c60
                            have H' := Aside0.mk H
                            clear H
                            have hnb64 := NB241_239.out
                            have hnc64 := NB239_241.out
                            have hcz65_0 : wc.cell? ⟨gb241, 0, none⟩ = some (.int .i64 ((rd_T36 l0_0 x3_2).f0)) := (blk_cell BK241.out 0).trans rfl
                            have hcz65_1 : wc.cell? ⟨gb241, 1, none⟩ = some (.int .i64 ((rd_T36 l0_0 x3_2).f1)) := (blk_cell BK241.out 1).trans rfl
                            have hcz65_2 : wc.cell? ⟨gb241, 2, none⟩ = some (.bool ((rd_T36 l0_0 x3_2).f2)) := (blk_cell BK241.out 2).trans rfl
                            have hfz65_0 := blk_frozen BK241.out 0
                            have hfz65_1 := blk_frozen BK241.out 1
                            have hfz65_2 := blk_frozen BK241.out 2
                            have hcz66_0 : wc.cell? ⟨gb239, 0, none⟩ = some (.slice (some ad240) l0_0.length c0_0) := (blk_cell BK239.out 0).trans rfl
                            have hcz66_1 : wc.cell? ⟨gb239, 1, none⟩ = some (.int .i64 a0_1) := (blk_cell BK239.out 1).trans rfl
                            have hfz66_0 := blk_frozen BK239.out 0
                            have hfz66_1 := blk_frozen BK239.out 1
                            go_wp2_with (first | (go_at_call 45; (with_reducible refine (crossbarref18_size.calls kj9 _ _ l0_0 ((rd_T36 l0_0 x3_2).f1) t244 _ ?side1 ?side2 A59.out).mono ?_); (case side1 => repeat (first | exact (Kd.C_below HR0_0.out HB.out) | (with_reducible refine Kd.C_alloc ?_ _) | (with_reducible refine Kd.C_drewN ?_ _) | (with_reducible refine Kd.C_drew ?_))); (case side2 => exact HC0_0.out); rintro e w' ⟨rfl, ⟨nd, rfl⟩⟩; (try first | exact ⟨rfl, _, World.drewN_drewN _ _ _⟩ | exact ⟨rfl, _, Eq.trans (World.drewN_drewN _ _ _) (congrArg (World.drewN _) (Nat.add_assoc _ _ _))⟩)))
                            repeat (go_quiet (first | (go_at_call 45; (with_reducible refine (crossbarref18_size.calls kj9 _ _ l0_0 ((rd_T36 l0_0 x3_2).f1) t244 _ ?side1 ?side2 A59.out).mono ?_); (case side1 => repeat (first | exact (Kd.C_below HR0_0.out HB.out) | (with_reducible refine Kd.C_alloc ?_ _) | (with_reducible refine Kd.C_drewN ?_ _) | (with_reducible refine Kd.C_drew ?_))); (case side2 => exact HC0_0.out); rintro e w' ⟨rfl, ⟨nd, rfl⟩⟩; (try first | exact ⟨rfl, _, World.drewN_drewN _ _ _⟩ | exact ⟨rfl, _, Eq.trans (World.drewN_drewN _ _ _) (congrArg (World.drewN _) (Nat.add_assoc _ _ _))⟩))); try go_wp2_with (first | (go_at_call 45; (with_reducible refine (crossbarref18_size.calls kj9 _ _ l0_0 ((rd_T36 l0_0 x3_2).f1) t244 _ ?side1 ?side2 A59.out).mono ?_); (case side1 => repeat (first | exact (Kd.C_below HR0_0.out HB.out) | (with_reducible refine Kd.C_alloc ?_ _) | (with_reducible refine Kd.C_drewN ?_ _) | (with_reducible refine Kd.C_drew ?_))); (case side2 => exact HC0_0.out); rintro e w' ⟨rfl, ⟨nd, rfl⟩⟩; (try first | exact ⟨rfl, _, World.drewN_drewN _ _ _⟩ | exact ⟨rfl, _, Eq.trans (World.drewN_drewN _ _ _) (congrArg (World.drewN _) (Nat.add_assoc _ _ _))⟩))))
                            go_roundg kj9
                            case measure => have := HJ1.out; have := HK2.out; have := HJ9.out; omega
                            case rel => exact ⟨(wrap64 (x3_2 + 1)), (by first | rfl | (simp; done) | (simp [*]; done)), H', ⟨by have := HJ1.out; have := HK2.out; have := HJ9.out; omega⟩, ⟨by (with_reducible repeat (first | refine blk_drewN ?_ _ | refine blk_drew ?_ | refine blk_alloc ?_ _)); exact BK239.out⟩, ⟨by repeat (first | (with_reducible first | exact HB.out | apply below_alloc | apply pw_below_drewN | apply below_drew1 | refine below_set ?_ GE239.out | refine below_set ?_ GE241.out) | exact HB.out)⟩⟩
                        · rw [if_neg c58] at H
                          have c58b0 : decide (0 < ((rd_T36 l0_0 x3_2).f1)) = false := decide_eq_false c58
                          clear c58
                          have H' := Aside0.mk H
                          clear H
                          have hnb67 := NB241_239.out
                          have hnc67 := NB239_241.out
                          have hcz68_0 : wc.cell? ⟨gb241, 0, none⟩ = some (.int .i64 ((rd_T36 l0_0 x3_2).f0)) := (blk_cell BK241.out 0).trans rfl
                          have hcz68_1 : wc.cell? ⟨gb241, 1, none⟩ = some (.int .i64 ((rd_T36 l0_0 x3_2).f1)) := (blk_cell BK241.out 1).trans rfl
                          have hcz68_2 : wc.cell? ⟨gb241, 2, none⟩ = some (.bool ((rd_T36 l0_0 x3_2).f2)) := (blk_cell BK241.out 2).trans rfl
                          have hfz68_0 := blk_frozen BK241.out 0
                          have hfz68_1 := blk_frozen BK241.out 1
                          have hfz68_2 := blk_frozen BK241.out 2
                          go_wp2
                          repeat (go_quiet (fail); try go_wp2)
                          go_roundg kj9
                          case measure => have := HJ1.out; have := HK2.out; have := HJ9.out; omega
                          case rel => exact ⟨(wrap64 (x3_2 + 1)), (by first | rfl | (simp; done) | (simp [*]; done)), H', ⟨by have := HJ1.out; have := HK2.out; have := HJ9.out; omega⟩, ⟨by (with_reducible repeat (first | refine blk_drewN ?_ _ | refine blk_drew ?_ | refine blk_alloc ?_ _)); exact BK239.out⟩, ⟨by repeat (first | (with_reducible first | exact HB.out | apply below_alloc | apply pw_below_drewN | apply below_drew1 | refine below_set ?_ GE239.out | refine below_set ?_ GE241.out) | exact HB.out)⟩⟩
              · rw [if_neg c9] at H
                exact absurd H (by simp)
            · rw [if_neg c8] at H
              have c8b0 : decide (x3_2 < (l0_0.length : Int)) = false := decide_eq_false c8
              clear c8
              by_cases c69 : (l0_0.length : Int) > 1024
              · rw [if_pos c69] at H
                have c69b0 : decide (1024 < (l0_0.length : Int)) = true := decide_eq_true c69
                have c69b1 : decide (1024 < l0_0.length) = true := decide_eq_true (by omega)
                clear c69
                obtain rfl := Option.some.inj H
                have hcz70_0 : wr.cell? ⟨gb239, 0, none⟩ = some (.slice A0_0 l0_0.length c0_0) := (blk_cell BK239.out 0).trans rfl
                have hcz70_1 : wr.cell? ⟨gb239, 1, none⟩ = some (.int .i64 a0_1) := (blk_cell BK239.out 1).trans rfl
                have hfz70_0 := blk_frozen BK239.out 0
                have hfz70_1 := blk_frozen BK239.out 1
                go_wp2
                repeat (go_quiet (fail); try go_wp2)
                go_ret
                exact ⟨by first | rfl | (simp [errW_none, errW_some] <;> rfl) | (simp [*, errW_none, errW_some] <;> rfl), by repeat (first | (with_reducible first | exact HB.out | apply below_alloc | apply pw_below_drewN | apply below_drew1 | refine below_set ?_ GE239.out) | exact HB.out)⟩
              · rw [if_neg c69] at H
                have c69b0 : decide (1024 < (l0_0.length : Int)) = false := decide_eq_false c69
                have c69b1 : decide (1024 < l0_0.length) = false := decide_eq_false (by omega)
                clear c69
                obtain rfl := Option.some.inj H
                have hcz71_0 : wr.cell? ⟨gb239, 0, none⟩ = some (.slice A0_0 l0_0.length c0_0) := (blk_cell BK239.out 0).trans rfl
                have hcz71_1 : wr.cell? ⟨gb239, 1, none⟩ = some (.int .i64 a0_1) := (blk_cell BK239.out 1).trans rfl
                have hfz71_0 := blk_frozen BK239.out 0
                have hfz71_1 := blk_frozen BK239.out 1
                go_wp2
                repeat (go_quiet (fail); try go_wp2)
                go_ret
                exact ⟨by first | rfl | (simp [errW_none, errW_some] <;> rfl) | (simp [*, errW_none, errW_some] <;> rfl), by repeat (first | (with_reducible first | exact HB.out | apply below_alloc | apply pw_below_drewN | apply below_drew1 | refine below_set ?_ GE239.out) | exact HB.out)⟩

end Go.Proofs.Ytmjenmhidnkbdaa.P
