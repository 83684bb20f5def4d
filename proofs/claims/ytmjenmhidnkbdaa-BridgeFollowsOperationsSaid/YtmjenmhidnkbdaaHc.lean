/- (*editor).members as an iterator: its closure's contract, and the law of a range over it: whatever invariant the loop's body keeps from index to index. -/
import Derived.Test.YtmjenmhidnkbdaaHb
import Derived.RangeFuncNested
import Derived.RangeFuncBound
import Derived.RangeFuncCalls
import Derived.RangeFuncLeaves
import Derived.RangeFuncBox
import Derived.Shelf.Abstract
import Derived.Shelf.RegionOpen
import Derived.WalkKit
import Derived.OwnWalkIn
import Derived.TacticsInMore
import Derived.LoopNIn
import Derived.LoopIn
import Derived.Stop.RegionWithIn
import Derived.Sort.QuietIn
import Derived.BigRegionIn
namespace Go.Proofs.Ytmjenmhidnkbdaa.P
open Go.RowKit Go.Shelf Go.Proofs.YtmjenmhidnkbdaaW.PrintWords Go.Proofs.YtmjenmhidnkbdaaW.PrintLast Go.Proofs.YtmjenmhidnkbdaaW.PrintMore
set_option linter.unusedVariables false
set_option linter.unusedSimpArgs false

attribute [local go_sem] Oper.semAt_some

/-- What the iterator reads in a world: its captured variables b1 (the editor's pointer), b2 (the conference), the editor's list, and at index i the element's conference. -/
structure MemRead (b1 b2 B : Nat) (A : Option Addr) (n c : Nat) (conf : Int) (cf : Nat → Int) (i : Nat) (W : World) : Prop where
  c1 : W.cell? ⟨b1, 0, none⟩ = some (.pointer (some ⟨B, 0, none⟩))
  c2 : W.cell? ⟨b2, 0, none⟩ = some (.int .i64 conf)
  cB : W.cell? ⟨B, 0, none⟩ = some (.slice A n c)
  ci : i < n → ∃ ad, A = some ad ∧ W.cell? ⟨(ad.add (i * 3)).block, (ad.add (i * 3)).off + 1, none⟩ = some (.int .i64 (cf i))

theorem J_drewN {J : Nat → World → Prop} (hdraw : ∀ i W, J i W → J i W.drew) (i : Nat) (W : World) (h : J i W) (n : Nat) : J i (W.drewN n) := by
  induction n with
  | zero => exact h
  | succ n ih => rw [← World.drew_drewN]; exact hdraw i _ ih

set_option maxRecDepth 100000 in
set_option maxHeartbeats 4000000 in
theorem members1_any (m : Nat) (l b1 b2 B : Nat) (A : Option Addr) (n c : Nat) (conf : Int) (cf : Nat → Int) (hn : n ≤ 9223372036854775807) (J : Nat → World → Prop)
    (hread : ∀ i W, J i W → MemRead b1 b2 B A n c conf cf i W) (hdraw : ∀ i W, J i W → J i W.drew)
    (hskip : ∀ i W, J i W → i < n → cf i ≠ conf → J (i + 1) W)
    (hround : ∀ i W ad, J i W → i < n → cf i = conf → A = some ad → YieldAt Fence.wide (m - 1) Try.prog l #[.pointer (some (ad.add (i * 3)))] W fun e W' => e = .returned (.bool true) ∧ J (i + 1) W')
    (W : World) (h0 : J 0 W) :
    CallsIn Fence.wide m Try.prog 52 #[.func (.yield l) #[] #[], .pointer (some ⟨b1, 0, none⟩), .pointer (some ⟨b2, 0, none⟩)] W fun e W' => (∃ v, e = .returned v) ∧ J n W' := by
  have hF : Fence.wide.fn 52 := trivial
  have HJ := Aside0.mk hread
  have HD := Aside0.mk hdraw
  have HS := Aside0.mk hskip
  have HR := Aside0.mk hround
  have H0 := Aside0.mk h0
  have r0 := hread 0 W h0
  have k1 := r0.c1
  have k2 := r0.c2
  have k3 := r0.cB
  clear hread hdraw hskip hround h0 r0
  refine callsIn_of_wp Try.func52 rfl hF ?_ rfl
  simp only [Try.ntmps52, List.size_toArray, List.length_cons, List.length_nil, Nat.reduceAdd, Nat.reduceSub, Array.replicate_succ, Array.replicate_zero, List.push_toArray, List.append_toArray, List.nil_append, List.cons_append]
  gi_wp2
  gi_loopw [4, 11] (fun _ s wr => ∃ i : Nat, i ≤ n ∧ s = .int .i64 i ∧ Aside0 (J i wr)) (fun _ s _ => n - (intOf s).toNat)
  case atStart => exact ⟨0, by omega, rfl, H0⟩
  case round =>
    obtain ⟨i, hi, rfl, hj⟩ := hrel
    clear k1 k2 k3 H0
    have r := HJ.out i wr hj.out
    have k1 := r.c1
    have k2 := r.c2
    have k3 := r.cB
    by_cases hlt : i < n
    · obtain ⟨ad, rfl, k4⟩ := r.ci hlt
      clear r
      have hltz : (i : Int) < (n : Int) := by omega
      by_cases hc : cf i = conf
      · have hy := HR.out i wr.drew ad (HD.out i wr hj.out) hlt hc rfl
        obtain ⟨fn, tmps, assign, body, hy, hRd⟩ := hy
        rw [hc] at k4
        gi_wp2
        gi_region_with (first | (refine ⟨fun h => absurd h (by simp [Fence.wide]), ?_⟩; refine hRd.mono ?_; rintro e w' ⟨rfl, hj2⟩))
        all_goals gi_wp2
        all_goals
          go_roundw
          case rel => exact ⟨i + 1, by omega, by go_num, ⟨hj2⟩⟩
          case measure => simp [intOf]; omega
      · have hne : (cf i == conf) = false := by simpa using hc
        have HD2 := Aside0.mk (fun nq => J_drewN HD.out i wr hj.out nq)
        gi_wp2
        refine wpIn_region_quiet_lit rfl (by kernel_rfl) (by kernel_rfl) ?_
        repeat (gi_big_quiet_step (fail))
        refine BigFrame.wpQuietIn_skip (fun _ _ _ _ => trivial) rfl ?_
        simp only [Act.put, List.setIfInBounds_toArray, List.set_cons_zero, List.set_cons_succ]
        repeat (gi_big_quiet_step (fail))
        refine wpQuietIn_nil ?_
        intro _ hw'
        obtain ⟨nq, hw''⟩ := hw'
        subst hw''
        gi_wp2
        go_roundw
        case rel => exact ⟨i + 1, by omega, by go_num, ⟨HS.out i _ (HD2.out nq) hlt hc⟩⟩
        case measure => simp [intOf]; omega
    · have hltz : ¬ (i : Int) < (n : Int) := by omega
      obtain rfl : i = n := by omega
      gi_wp2
      go_end0
      exact ⟨⟨_, rfl⟩, hj.out⟩
end Go.Proofs.Ytmjenmhidnkbdaa.P
