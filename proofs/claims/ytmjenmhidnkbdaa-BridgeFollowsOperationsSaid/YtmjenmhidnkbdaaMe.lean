/- Several texts in one. -/
import Derived.Test.YtmjenmhidnkbdaaHd
import Derived.Test.YtmjenmhidnkbdaaSane
import Derived.Test.YtmjenmhidnkbdaaPv2
import Derived.Deep.WholeRow
/- The law's own model of a bridge: a block of eighty bools. -/
namespace Go.Proofs.Ytmjenmhidnkbdaa.P
open Go.RowKit Go.Shelf Go.Proofs.YtmjenmhidnkbdaaW.PrintWords Go.Proofs.YtmjenmhidnkbdaaW.PrintLast Go.Proofs.YtmjenmhidnkbdaaW.PrintMore
set_option linter.unusedVariables false
set_option linter.unusedSimpArgs false

/-- The model's block: eighty bools. -/
structure MB (gm : Nat) (F : Nat → Bool) (W : World) : Prop where
  ex : ∃ cs : Array Value, W.heap[gm]? = some (.cells cs 49 (0, 0)) ∧ cs.size = 80 ∧ ∀ i, i < 80 → cs[i]? = some (.bool (F i))
section
variable {gm : Nat} {F : Nat → Bool} {W W' : World}
theorem MB.lt (h : MB gm F W) : gm < W.heap.size := by obtain ⟨cs, h, _⟩ := h.ex; exact blk_lt h
theorem MB.cell (h : MB gm F W) {i : Nat} (hi : i < 80) : W.cell? ⟨gm, i, none⟩ = some (.bool (F i)) := by
  obtain ⟨cs, h, _, hc⟩ := h.ex
  exact (blk_cell h i).trans (hc i hi)
theorem MB.frozen (h : MB gm F W) (i : Nat) : W.frozen? ⟨gm, i, none⟩ = false := by
  obtain ⟨cs, h, _⟩ := h.ex
  exact blk_frozen h i

theorem MB.set (h : MB gm F W) {i : Nat} (hi : i < 80) (b : Bool) : MB gm (upd F i b) (W.setCell ⟨gm, i, none⟩ (.bool b)) := by
  obtain ⟨cs, h, hs, hc⟩ := h.ex
  refine ⟨⟨cs.setIfInBounds i (.bool b), blk_put h i _ rfl, by simp [hs], fun j hj => ?_⟩⟩
  unfold upd
  by_cases e : j = i
  · subst e
    rw [if_pos rfl, Array.getElem?_setIfInBounds_self_of_lt (by omega)]
  · rw [if_neg e, Array.getElem?_setIfInBounds_ne (fun h => e h.symm)]
    exact hc j hj
theorem MB.below {B : Nat} (h : MB gm F W) (hB : gm < B) (hb : Below B W W') : MB gm F W' := by
  obtain ⟨cs, h, hs⟩ := h.ex
  exact ⟨⟨cs, (hb.block _ hB).trans h, hs⟩⟩
theorem MB.drew (h : MB gm F W) : MB gm F W.drew := ⟨h.ex⟩
end


set_option maxRecDepth 100000 in
set_option maxHeartbeats 2000000 in
theorem alone_any (gm : Nat) (F : Nat → Bool) (x : Nat) (hx : x < 8) (w : World) (h : MB gm F w) :
    Calls Try.prog 47 #[.pointer (some ⟨gm, 0, none⟩), .int .i64 (x : Int)] w fun e w' => e = .returned (.bool (aloneF F x)) ∧ w = w' := by
  have hx1 : (0 : Int) ≤ (x : Int) := by omega
  have hx2 : (x : Int) < 8 := by omega
  go_enter Try.func47, Try.ntmps47
  go_wp2_with fail
  go_loopw [5] (fun s5 wr => ∃ (j : Nat), j ≤ 8 ∧ s5 = .int .i64 (j : Int) ∧ wr = w ∧ ∀ y, y < j → F (16 + x * 8 + y) = false) (fun s5 _ => (8 - intOf s5).toNat)
  case atStart => exact ⟨0, by omega, rfl, rfl, fun y hy => by omega⟩
  case round =>
    obtain ⟨j, hj, rfl, rfl, hall⟩ := hrel
    by_cases hj8 : j < 8
    · have hj1 : (j : Int) < 8 := by omega
      have hj0 : (0 : Int) ≤ (j : Int) := by omega
      have hc : wr.cell? ⟨gm, 16 + x * 8 + j, none⟩ = some (.bool (F (16 + x * 8 + j))) := h.cell (by omega)
      cases hF : F (16 + x * 8 + j) with
      | true =>
        rw [hF] at hc
        have hal : aloneF F x = false := by
          cases e : aloneF F x with
          | false => rfl
          | true => rw [(aloneF_iff F x).1 e j hj8] at hF; cases hF
        go_wp2_with fail
        go_ret
        exact ⟨by first | rfl | (rw [hal]; rfl), rfl⟩
      | false =>
        rw [hF] at hc
        go_wp2_with fail
        go_roundw
        case rel => exact ⟨j + 1, by omega, by go_num, (by first | rfl | trivial), fun y hy => by
          by_cases e : y = j
          · rw [e]; exact hF
          · exact hall y (by omega)⟩
        case measure => simp [intOf]; omega
    · have hj1 : ¬ (j : Int) < 8 := by omega
      have hal : aloneF F x = true := (aloneF_iff F x).2 fun y hy => hall y (by omega)
      go_wp2_with fail
      go_ret
      exact ⟨by first | rfl | (rw [hal]; rfl), rfl⟩

/-- What a call leaves that writes the model alone. -/
structure MW (gm : Nat) (w : World) (F : Nat → Bool) (W : World) : Prop where
  m : MB gm F W
  g : w.grownBy W (some gm)
section
variable {gm : Nat} {w : World} {F : Nat → Bool} {W W' : World}
theorem MW.start (h : MB gm F w) : MW gm w F w := ⟨h, World.grownBy.refl w _⟩
theorem MW.set (h : MW gm w F W) {i : Nat} (hi : i < 80) (b : Bool) : MW gm w (upd F i b) (W.setCell ⟨gm, i, none⟩ (.bool b)) := ⟨h.m.set hi b, h.g.trans (grownBy_setCell'' W gm i _)⟩
theorem MW.trans {F' : Nat → Bool} (h : MW gm w F W) (k : MW gm W F' W') : MW gm w F' W' := ⟨k.m, h.g.trans k.g⟩
end

set_option maxRecDepth 100000 in
set_option maxHeartbeats 4000000 in
theorem leave_m (gm : Nat) (F : Nat → Bool) (x : Nat) (hx : x < 8) (w : World) (h : MB gm F w) :
    Calls Try.prog 46 #[.pointer (some ⟨gm, 0, none⟩), .int .i64 (x : Int)] w fun e w' => e = .returned (.tuple #[]) ∧ MW gm w (leaveF F x) w' := by
  have hx1 : (0 : Int) ≤ (x : Int) := by omega
  have hx2 : (x : Int) < 8 := by omega
  go_enter Try.func46, Try.ntmps46
  go_wp2_with fail
  go_loopw [4] (fun s4 wr => ∃ (j : Nat), j ≤ 8 ∧ s4 = .int .i64 (j : Int) ∧ Aside0 (MW gm w (clF F x j) wr)) (fun s4 _ => (8 - intOf s4).toNat)
  case atStart => exact ⟨0, by omega, rfl, ⟨MW.start h⟩⟩
  case round =>
    obtain ⟨j, hj, rfl, hI⟩ := hrel
    by_cases hj8 : j < 8
    · have hj1 : (j : Int) < 8 := by omega
      have hj0 : (0 : Int) ≤ (j : Int) := by omega
      have hc1 := hI.out.m.cell (i := 16 + x * 8 + j) (by omega)
      have hf1 := hI.out.m.frozen (16 + x * 8 + j)
      have hI2 := Aside0.mk (hI.out.set (i := 16 + x * 8 + j) (by omega) false)
      have hc2 := hI2.out.m.cell (i := 16 + j * 8 + x) (by omega)
      have hf2 := hI2.out.m.frozen (16 + j * 8 + x)
      have hI3 := Aside0.mk (hI2.out.set (i := 16 + j * 8 + x) (by omega) false)
      go_wp2_with fail
      go_roundw
      case rel => exact ⟨j + 1, by omega, by go_num, hI3⟩
      case measure => simp [intOf]; omega
    · obtain rfl : j = 8 := by omega
      have hj1 : ¬ ((8 : Nat) : Int) < 8 := by omega
      go_wp2_with fail
      go_loopw [5] (fun s5 wr => ∃ (j : Nat), j ≤ 8 ∧ s5 = .int .i64 (j : Int) ∧ Aside0 (MW gm w (hlF (clF F x 8) j) wr)) (fun s5 _ => (8 - intOf s5).toNat)
      case atStart => exact ⟨0, by omega, rfl, hI⟩
      case round =>
        clear hI
        obtain ⟨j, hj, rfl, hI⟩ := hrel
        by_cases hj8 : j < 8
        · have hj1 : (j : Int) < 8 := by omega
          have hj0 : (0 : Int) ≤ (j : Int) := by omega
          have hal := alone_any gm _ j hj8 wr hI.out.m
          have hc1 := hI.out.m.cell (i := 8 + j) (by omega)
          have hf1 := hI.out.m.frozen (8 + j)
          have hI2 := Aside0.mk (hI.out.set (i := 8 + j) (by omega) false)
          cases hA : aloneF (hlF (clF F x 8) j) j with
          | true =>
            rw [hA] at hal
            have hI3 : Aside0 (MW gm w (hlF (clF F x 8) (j + 1)) (wr.setCell ⟨gm, 8 + j, none⟩ (.bool false))) := by
              have e : hlF (clF F x 8) (j + 1) = upd (hlF (clF F x 8) j) (8 + j) false := by simp only [hlF, hA, if_true]
              rw [e]; exact hI2
            go_wp2_with (go_at_call 47; refine hal.mono ?_; rintro e w2 ⟨rfl, rfl⟩)
            go_roundw
            case rel => exact ⟨j + 1, by omega, by go_num, hI3⟩
            case measure => simp [intOf]; omega
          | false =>
            rw [hA] at hal
            have hI3 : Aside0 (MW gm w (hlF (clF F x 8) (j + 1)) wr) := by
              have e : hlF (clF F x 8) (j + 1) = hlF (clF F x 8) j := by simp only [hlF, hA]; rfl
              rw [e]; exact hI
            go_wp2_with (go_at_call 47; refine hal.mono ?_; rintro e w2 ⟨rfl, rfl⟩)
            go_roundw
            case rel => exact ⟨j + 1, by omega, by go_num, hI3⟩
            case measure => simp [intOf]; omega
        · obtain rfl : j = 8 := by omega
          have hj1 : ¬ ((8 : Nat) : Int) < 8 := by omega
          go_wp2_with fail
          exact ⟨rfl, _, by simp [results, Try.results46, go_sem], rfl, hI.out⟩
end Go.Proofs.Ytmjenmhidnkbdaa.P

/- The law's own model: its operations 0, 1, 2, 4, 5. -/
namespace Go.Proofs.Ytmjenmhidnkbdaa.P
open Go.RowKit Go.Shelf Go.Proofs.YtmjenmhidnkbdaaW.PrintWords Go.Proofs.YtmjenmhidnkbdaaW.PrintLast Go.Proofs.YtmjenmhidnkbdaaW.PrintMore
set_option linter.unusedVariables false
set_option linter.unusedSimpArgs false
def DoPost (gm : Nat) (w : World) (r : Bool × (Nat → Bool)) : Ending → World → Prop := fun e w' => e = .returned (.bool r.1) ∧ MW gm w r.2 w'

set_option maxRecDepth 100000 in
set_option maxHeartbeats 4000000 in
theorem do_0 (gm : Nat) (F : Nat → Bool) (x y : Nat) (hx : x < 8) (hy : y < 8) (w : World) (h : MB gm F w) :
    Calls Try.prog 33 #[.pointer (some ⟨gm, 0, none⟩), .int .i64 0, .int .i64 (x : Int), .int .i64 (y : Int)] w (DoPost gm w (!F x, upd F x true)) := by
  have hx1 : (0 : Int) ≤ (x : Int) := by omega
  have hx2 : (x : Int) < 8 := by omega
  have hc1 := h.cell (i := x) (by omega)
  have hf1 := h.frozen x
  have hI := Aside0.mk ((MW.start h).set (i := x) (by omega) true)
  go_enter Try.func33, Try.ntmps33
  go_wp2_with fail
  go_ret
  exact ⟨rfl, hI.out⟩

set_option maxRecDepth 100000 in
set_option maxHeartbeats 4000000 in
theorem do_no (k : Int) (hk : k = 1 ∨ k = 2 ∨ k = 3 ∨ k = 4 ∨ k = 5) (gm : Nat) (F : Nat → Bool) (x y : Nat) (hx : x < 8) (hy : y < 8) (w : World) (h : MB gm F w) (hF : F x = false) :
    Calls Try.prog 33 #[.pointer (some ⟨gm, 0, none⟩), .int .i64 k, .int .i64 (x : Int), .int .i64 (y : Int)] w (DoPost gm w (false, F)) := by
  have hx1 : (0 : Int) ≤ (x : Int) := by omega
  have hx2 : (x : Int) < 8 := by omega
  have hk0 : ¬ k = 0 := by omega
  have hc1 := h.cell (i := x) (by omega)
  rw [hF] at hc1
  have hI := Aside0.mk (MW.start h)
  go_enter Try.func33, Try.ntmps33
  go_wp2_with fail
  go_ret
  exact ⟨rfl, hI.out⟩

set_option maxRecDepth 100000 in
set_option maxHeartbeats 4000000 in
theorem do_noy (k : Int) (hk : k = 2 ∨ k = 3) (gm : Nat) (F : Nat → Bool) (x y : Nat) (hx : x < 8) (hy : y < 8) (w : World) (h : MB gm F w) (hF : F x = true) (hFy : F y = false) :
    Calls Try.prog 33 #[.pointer (some ⟨gm, 0, none⟩), .int .i64 k, .int .i64 (x : Int), .int .i64 (y : Int)] w (DoPost gm w (false, F)) := by
  have hx1 : (0 : Int) ≤ (x : Int) := by omega
  have hx2 : (x : Int) < 8 := by omega
  have hy1 : (0 : Int) ≤ (y : Int) := by omega
  have hy2 : (y : Int) < 8 := by omega
  have hc1 := h.cell (i := x) (by omega)
  rw [hF] at hc1
  have hc2 := h.cell (i := y) (by omega)
  rw [hFy] at hc2
  have hI := Aside0.mk (MW.start h)
  rcases hk with rfl | rfl
  · go_enter Try.func33, Try.ntmps33
    go_wp2_with fail
    go_ret
    exact ⟨rfl, hI.out⟩
  · go_enter Try.func33, Try.ntmps33
    go_wp2_with fail
    go_ret
    exact ⟨rfl, hI.out⟩

set_option maxRecDepth 100000 in
set_option maxHeartbeats 4000000 in
theorem do_self (k : Int) (hk : k = 2 ∨ k = 3) (gm : Nat) (F : Nat → Bool) (x : Nat) (hx : x < 8) (w : World) (h : MB gm F w) (hF : F x = true) :
    Calls Try.prog 33 #[.pointer (some ⟨gm, 0, none⟩), .int .i64 k, .int .i64 (x : Int), .int .i64 (x : Int)] w (DoPost gm w (false, F)) := by
  have hx1 : (0 : Int) ≤ (x : Int) := by omega
  have hx2 : (x : Int) < 8 := by omega
  have hc1 := h.cell (i := x) (by omega)
  rw [hF] at hc1
  have hI := Aside0.mk (MW.start h)
  rcases hk with rfl | rfl
  · go_enter Try.func33, Try.ntmps33
    go_wp2_with fail
    go_ret
    exact ⟨rfl, hI.out⟩
  · go_enter Try.func33, Try.ntmps33
    go_wp2_with fail
    go_ret
    exact ⟨rfl, hI.out⟩

set_option maxRecDepth 100000 in
set_option maxHeartbeats 4000000 in
theorem do_1 (gm : Nat) (F : Nat → Bool) (x y : Nat) (hx : x < 8) (hy : y < 8) (w : World) (h : MB gm F w) (hF : F x = true) :
    Calls Try.prog 33 #[.pointer (some ⟨gm, 0, none⟩), .int .i64 1, .int .i64 (x : Int), .int .i64 (y : Int)] w (DoPost gm w (true, upd (leaveF F x) x false)) := by
  have hx1 : (0 : Int) ≤ (x : Int) := by omega
  have hx2 : (x : Int) < 8 := by omega
  have hc1 := h.cell (i := x) (by omega)
  rw [hF] at hc1
  have hlv := leave_m gm F x hx w h
  go_enter Try.func33, Try.ntmps33
  go_wp2_with (go_at_call 46; refine hlv.mono ?_; rintro e w1 ⟨rfl, hM⟩; have hc2 := hM.m.cell (i := x) (by omega); have hf2 := hM.m.frozen x; have hI := Aside0.mk (hM.set (i := x) (by omega) false); clear hM)
  go_ret
  exact ⟨rfl, hI.out⟩

set_option maxRecDepth 100000 in
set_option maxHeartbeats 4000000 in
theorem do_2 (gm : Nat) (F : Nat → Bool) (x y : Nat) (hx : x < 8) (hy : y < 8) (w : World) (h : MB gm F w) (hF : F x = true) (hFy : F y = true) (hxy : x ≠ y) :
    Calls Try.prog 33 #[.pointer (some ⟨gm, 0, none⟩), .int .i64 2, .int .i64 (x : Int), .int .i64 (y : Int)] w (DoPost gm w (true, upd (upd (leaveF (leaveF F x) y) (16 + x * 8 + y) true) (16 + y * 8 + x) true)) := by
  have hx1 : (0 : Int) ≤ (x : Int) := by omega
  have hx2 : (x : Int) < 8 := by omega
  have hy1 : (0 : Int) ≤ (y : Int) := by omega
  have hy2 : (y : Int) < 8 := by omega
  have hne : ¬ (x : Int) = (y : Int) := by omega
  have hc1 := h.cell (i := x) (by omega)
  rw [hF] at hc1
  have hc2 := h.cell (i := y) (by omega)
  rw [hFy] at hc2
  have hlv := leave_m gm F x hx w h
  go_enter Try.func33, Try.ntmps33
  go_wp2_with fail
  refine hlv.mono ?_
  rintro e w1 ⟨rfl, hM⟩
  have hlv2 := leave_m gm _ y hy w1 hM.m
  have HM := Aside0.mk hM
  clear hM hc1 hc2 hlv
  go_wp2_with fail
  refine hlv2.mono ?_
  rintro e w2 ⟨rfl, hM⟩
  have HM2 := Aside0.mk (HM.out.trans hM)
  clear hM hlv2
  have hc1 := HM2.out.m.cell (i := 16 + x * 8 + y) (by omega)
  have hf1 := HM2.out.m.frozen (16 + x * 8 + y)
  have HM3 := Aside0.mk (HM2.out.set (i := 16 + x * 8 + y) (by omega) true)
  have hc2 := HM3.out.m.cell (i := 16 + y * 8 + x) (by omega)
  have hf2 := HM3.out.m.frozen (16 + y * 8 + x)
  have HM4 := Aside0.mk (HM3.out.set (i := 16 + y * 8 + x) (by omega) true)
  go_wp2_with fail
  go_ret
  exact ⟨rfl, HM4.out⟩

set_option maxRecDepth 100000 in
set_option maxHeartbeats 4000000 in
theorem do_4 (k : Int) (b : Bool) (hk : (k = 4 ∧ b = true) ∨ (k = 5 ∧ b = false)) (gm : Nat) (F : Nat → Bool) (x y : Nat) (hx : x < 8) (hy : y < 8) (w : World) (h : MB gm F w) (hF : F x = true) :
    Calls Try.prog 33 #[.pointer (some ⟨gm, 0, none⟩), .int .i64 k, .int .i64 (x : Int), .int .i64 (y : Int)] w (DoPost gm w (if (aloneF F x || (F (8 + x) == b)) = true then (false, F) else (true, upd F (8 + x) b))) := by
  have hx1 : (0 : Int) ≤ (x : Int) := by omega
  have hx2 : (x : Int) < 8 := by omega
  have hc1 := h.cell (i := x) (by omega)
  rw [hF] at hc1
  have hc2 := h.cell (i := 8 + x) (by omega)
  have hf2 := h.frozen (8 + x)
  have hal := alone_any gm F x hx w h
  have hI := Aside0.mk (MW.start h)
  have hI2 := Aside0.mk ((MW.start h).set (i := 8 + x) (by omega) b)
  cases hA : aloneF F x with
  | true =>
    rw [hA] at hal
    rcases hk with ⟨rfl, rfl⟩ | ⟨rfl, rfl⟩
    · go_enter Try.func33, Try.ntmps33
      go_wp2_with (go_at_call 47; refine hal.mono ?_; rintro e w2 ⟨rfl, rfl⟩)
      go_ret
      exact ⟨rfl, hI.out⟩
    · go_enter Try.func33, Try.ntmps33
      go_wp2_with (go_at_call 47; refine hal.mono ?_; rintro e w2 ⟨rfl, rfl⟩)
      go_ret
      exact ⟨rfl, hI.out⟩
  | false =>
    rw [hA] at hal
    cases hH : F (8 + x) with
    | true =>
      rw [hH] at hc2
      rcases hk with ⟨rfl, rfl⟩ | ⟨rfl, rfl⟩
      · go_enter Try.func33, Try.ntmps33
        go_wp2_with (go_at_call 47; refine hal.mono ?_; rintro e w2 ⟨rfl, rfl⟩)
        go_ret
        exact ⟨rfl, hI.out⟩
      · go_enter Try.func33, Try.ntmps33
        go_wp2_with (go_at_call 47; refine hal.mono ?_; rintro e w2 ⟨rfl, rfl⟩)
        go_ret
        exact ⟨rfl, hI2.out⟩
    | false =>
      rw [hH] at hc2
      rcases hk with ⟨rfl, rfl⟩ | ⟨rfl, rfl⟩
      · go_enter Try.func33, Try.ntmps33
        go_wp2_with (go_at_call 47; refine hal.mono ?_; rintro e w2 ⟨rfl, rfl⟩)
        go_ret
        exact ⟨rfl, hI2.out⟩
      · go_enter Try.func33, Try.ntmps33
        go_wp2_with (go_at_call 47; refine hal.mono ?_; rintro e w2 ⟨rfl, rfl⟩)
        go_ret
        exact ⟨rfl, hI.out⟩
end Go.Proofs.Ytmjenmhidnkbdaa.P

/- A whole array by value, out of the model's block. -/
namespace Go.Proofs.Ytmjenmhidnkbdaa.P
open Go.RowKit Go.Shelf Go.Proofs.YtmjenmhidnkbdaaW.PrintWords Go.Proofs.YtmjenmhidnkbdaaW.PrintLast Go.Proofs.YtmjenmhidnkbdaaW.PrintMore
set_option linter.unusedVariables false
set_option linter.unusedSimpArgs false

/-- Who is joined with whom, as the cells of an array. -/
def jl (F : Nat → Bool) : List Value := (List.range 64).map fun i => .bool (F (16 + i))
theorem jl_len (F : Nat → Bool) : (jl F).length = 64 := by simp [jl]
theorem jl_at (F : Nat → Bool) {i : Nat} (hi : i < 64) : (jl F)[i]? = some (.bool (F (16 + i))) := by simp [jl, hi]
theorem jl_one (F : Nat → Bool) : (jl F).toArray.all (·.oneCell') = true := by simp [jl, Value.oneCell']
theorem info47 : (Try.prog.info? 47).map (·.size) = some 64 := by kernel_rfl
theorem run_jl {gm : Nat} {F : Nat → Bool} {W : World} (h : MB gm F W) : (loadVar 47 ⟨gm, 16, none⟩).run Try.prog W = .ok (.agg (jl F).toArray) W := by
  have hl : (loadCells ⟨gm, 16, none⟩ (jl F).length).run Try.prog W = .ok (jl F).toArray W :=
    run_loadCells_list (P := Try.prog) W ⟨gm, 16, none⟩ (jl F) (fun j v hv => by
      have hj : j < 64 := by have := (List.getElem?_eq_some_iff.1 hv).1; rwa [jl_len] at this
      rw [jl_at F hj] at hv
      injection hv with hv
      have hadd : (⟨gm, 16, none⟩ : Addr).add j = ⟨gm, 16 + j, none⟩ := by unfold Addr.add; split <;> simp_all
      rw [hadd, ← hv]
      exact h.cell (by omega))
  have hi := info47
  cases hq : Try.prog.info? 47 with
  | none => simp [hq] at hi
  | some i =>
    have hs : i.size = 64 := by simpa [hq] using hi
    have hagg : (isAgg 47).run Try.prog W = .ok true W := by
      simp [isAgg, run_underlying Try.underlying47, Result.andThen]
    have hsz : (sizeOf 47).run Try.prog W = .ok 64 W := by simp [sizeOf, typeInfo, hq, hs]
    rw [jl_len] at hl
    simp [loadVar, hagg, hsz, hl, Result.andThen]
/-- The load, the new variable, the store: three operations at the end of a region. -/
theorem copy47 {gm p d e : Nat} {F : Nat → Bool} {ops : Array Oper} {Q : Exit → Act → World → Prop} {o1 o2 o3 : Oper} {a : Act} {W : World} (g1 : o1.guard = none) (g2 : o2.guard = none) (g3 : o3.guard = none)
    (h1 : o1.op = .load 47 (.tmp p)) (h2 : o2.op = .alloc 47) (h3 : o3.op = .store 47 (.tmp e) (.tmp d)) (d1 : o1.dst = some d) (d2 : o2.dst = some e) (d3 : o3.dst = none)
    (ha : a.eval (.tmp p) = .pointer (some ⟨gm, 16, none⟩)) (hde : ((a.put (some d) (.agg (jl F).toArray)).put (some e) (.pointer (some ⟨W.heap.size, 0, none⟩))).eval (.tmp d) = .agg (jl F).toArray)
    (hee : ((a.put (some d) (.agg (jl F).toArray)).put (some e) (.pointer (some ⟨W.heap.size, 0, none⟩))).eval (.tmp e) = .pointer (some ⟨W.heap.size, 0, none⟩)) (h : MB gm F W)
    (hk : wpList Try.prog ops Q [] ((a.put (some d) (.agg (jl F).toArray)).put (some e) (.pointer (some ⟨W.heap.size, 0, none⟩))) (W.alloc (.cells (jl F).toArray 47))) : wpList Try.prog ops Q [o1, o2, o3] a W := by
  refine wpList_plain g1 fun K hK => ?_
  have r1 : (execOp a.eval o1).run Try.prog W = .ok (.value (.agg (jl F).toArray)) W := by
    unfold execOp
    simp [h1, ha, Instr.loadAt, Instr.sureAddr, run_jl h, Result.andThen]
  unfold Oper.wp
  rw [r1, Oper.upon_value, d1]
  refine hK _ _ (wpList_plain g2 fun K2 hK2 => ?_)
  obtain ⟨hz, hzs⟩ := zero_of_info (P := Try.prog) (t := 47) (v := .agg (Array.replicate 64 (.bool false))) (n := 64) (by kernel_rfl)
  have r2 : (execOp (a.put (some d) (.agg (jl F).toArray)).eval o2).run Try.prog W = .ok (.value (.pointer (some ⟨W.heap.size, 0, none⟩))) (W.alloc (.cells (Array.replicate 64 (.bool false)) 47)) := by
    unfold execOp
    simp [h2, Instr.alloc, hz, newVar, newRow, Value.cells, Result.andThen]
  unfold Oper.wp
  rw [r2, Oper.upon_value, d2]
  refine hK2 _ _ (wpList_plain g3 fun K3 hK3 => ?_)
  have r3 : (execOp ((a.put (some d) (.agg (jl F).toArray)).put (some e) (.pointer (some ⟨W.heap.size, 0, none⟩))).eval o3).run Try.prog (W.alloc (.cells (Array.replicate 64 (.bool false)) 47)) = .ok .skip (W.alloc (.cells (jl F).toArray 47)) := by
    have := run_storeVar_new (P := Try.prog) W 47 (Array.replicate 64 (.bool false)) (jl F).toArray (by rw [info47]; simp [jl_len]) (by simp [jl_len]) (jl_one F)
    unfold execOp
    simp [h3, hde, hee, Instr.storeAt, Instr.sureAddr, this, Result.andThen]
  unfold Oper.wp
  rw [r3, Oper.upon_skip, d3]
  exact hK3 _ _ hk
end Go.Proofs.Ytmjenmhidnkbdaa.P

/- The law's own model: its operation 3, which joins two conferences. -/
namespace Go.Proofs.Ytmjenmhidnkbdaa.P
open Go.RowKit Go.Shelf Go.Proofs.YtmjenmhidnkbdaaW.PrintWords Go.Proofs.YtmjenmhidnkbdaaW.PrintLast Go.Proofs.YtmjenmhidnkbdaaW.PrintMore
set_option linter.unusedVariables false
set_option linter.unusedSimpArgs false

/-- A copy of who is joined with whom, in a block of its own. -/
structure OB (go : Nat) (F : Nat → Bool) (W : World) : Prop where
  ex : ∃ cs : Array Value, W.heap[go]? = some (.cells cs 47 (0, 0)) ∧ ∀ i, i < 64 → cs[i]? = some (.bool (F (16 + i)))
theorem OB.new (F : Nat → Bool) (W : World) : OB W.heap.size F (W.alloc (.cells (jl F).toArray 47)) := ⟨⟨_, blk_new W _, fun i hi => by rw [List.getElem?_toArray]; exact jl_at F hi⟩⟩
theorem MW.alloc {gm : Nat} {w : World} {F : Nat → Bool} {W : World} (h : MW gm w F W) (o : Obj) : MW gm w F (W.alloc o) := by
  obtain ⟨cs, h1, h2⟩ := h.m.ex
  have hlt := blk_lt h1
  refine ⟨⟨cs, (heap_alloc_old W o hlt).trans h1, h2⟩, h.g.trans ⟨rfl, rfl, rfl, by simp, fun i hi _ => heap_alloc_old W o hi⟩⟩
section
variable {go : Nat} {F : Nat → Bool} {W W' : World}
theorem OB.lt (h : OB go F W) : go < W.heap.size := by obtain ⟨cs, h, _⟩ := h.ex; exact blk_lt h
theorem OB.cell (h : OB go F W) {i : Nat} (hi : i < 64) : W.cell? ⟨go, i, none⟩ = some (.bool (F (16 + i))) := by
  obtain ⟨cs, h, hc⟩ := h.ex
  exact (blk_cell h i).trans (hc i hi)
theorem OB.grown (h : OB go F W) {g : Nat} (hg : W.grownBy W' (some g)) (hne : go ≠ g) : OB go F W' := by
  obtain ⟨cs, h1, hc⟩ := h.ex
  exact ⟨⟨cs, (hg.block go (blk_lt h1) (by simpa using hne)).trans h1, hc⟩⟩
end

set_option maxRecDepth 100000 in
set_option maxHeartbeats 4000000 in
theorem do_3no (gm : Nat) (F : Nat → Bool) (x y : Nat) (hx : x < 8) (hy : y < 8) (w : World) (h : MB gm F w) (hF : F x = true) (hFy : F y = true) (hxy : x ≠ y) (hb : (aloneF F x || aloneF F y || F (16 + x * 8 + y)) = true) :
    Calls Try.prog 33 #[.pointer (some ⟨gm, 0, none⟩), .int .i64 3, .int .i64 (x : Int), .int .i64 (y : Int)] w (DoPost gm w (false, F)) := by
  have hx1 : (0 : Int) ≤ (x : Int) := by omega
  have hx2 : (x : Int) < 8 := by omega
  have hy1 : (0 : Int) ≤ (y : Int) := by omega
  have hy2 : (y : Int) < 8 := by omega
  have hne : ¬ (x : Int) = (y : Int) := by omega
  have hc1 := h.cell (i := x) (by omega)
  rw [hF] at hc1
  have hc2 := h.cell (i := y) (by omega)
  rw [hFy] at hc2
  have hc3 := h.cell (i := 16 + x * 8 + y) (by omega)
  have hal := alone_any gm F x hx w h
  have hal2 := alone_any gm F y hy w h
  have hI := Aside0.mk (MW.start h)
  clear h
  cases hA : aloneF F x with
  | true =>
    rw [hA] at hal
    go_enter Try.func33, Try.ntmps33
    go_wp2_with (go_at_call 47; refine hal.mono ?_; rintro e w2 ⟨rfl, rfl⟩)
    go_ret
    exact ⟨rfl, hI.out⟩
  | false =>
    rw [hA] at hal
    cases hA2 : aloneF F y with
    | true =>
      rw [hA2] at hal2
      go_enter Try.func33, Try.ntmps33
      go_wp2_with fail
      refine hal.mono ?_
      rintro e w2 ⟨rfl, rfl⟩
      go_wp2_with fail
      refine hal2.mono ?_
      rintro e w2 ⟨rfl, rfl⟩
      go_wp2_with fail
      go_ret
      exact ⟨rfl, hI.out⟩
    | false =>
      rw [hA2] at hal2
      rw [hA, hA2] at hb
      have hb' : F (16 + x * 8 + y) = true := by simpa using hb
      rw [hb'] at hc3
      go_enter Try.func33, Try.ntmps33
      go_wp2_with fail
      refine hal.mono ?_
      rintro e w2 ⟨rfl, rfl⟩
      go_wp2_with fail
      refine hal2.mono ?_
      rintro e w2 ⟨rfl, rfl⟩
      go_wp2_with fail
      go_ret
      exact ⟨rfl, hI.out⟩

set_option maxRecDepth 100000 in
set_option maxHeartbeats 4000000 in
theorem do_3 (gm : Nat) (F : Nat → Bool) (x y : Nat) (hx : x < 8) (hy : y < 8) (w : World) (h : MB gm F w) (hF : F x = true) (hFy : F y = true) (hxy : x ≠ y) (hb : (aloneF F x || aloneF F y || F (16 + x * 8 + y)) = false) :
    Calls Try.prog 33 #[.pointer (some ⟨gm, 0, none⟩), .int .i64 3, .int .i64 (x : Int), .int .i64 (y : Int)] w (DoPost gm w (true, mgO F x y 8)) := by
  have hx1 : (0 : Int) ≤ (x : Int) := by omega
  have hx2 : (x : Int) < 8 := by omega
  have hy1 : (0 : Int) ≤ (y : Int) := by omega
  have hy2 : (y : Int) < 8 := by omega
  have hne : ¬ (x : Int) = (y : Int) := by omega
  have hc1 := h.cell (i := x) (by omega)
  rw [hF] at hc1
  have hc2 := h.cell (i := y) (by omega)
  rw [hFy] at hc2
  have hc3 := h.cell (i := 16 + x * 8 + y) (by omega)
  have hal := alone_any gm F x hx w h
  have hal2 := alone_any gm F y hy w h
  have hI := Aside0.mk (MW.start h)
  clear h
  simp only [Bool.or_eq_false_iff] at hb
  obtain ⟨⟨hA, hA2⟩, hb'⟩ := hb
  rw [hA] at hal
  rw [hA2] at hal2
  rw [hb'] at hc3
  go_enter Try.func33, Try.ntmps33
  go_wp2_with fail
  refine hal.mono ?_
  rintro e w2 ⟨rfl, rfl⟩
  go_wp2_with fail
  refine hal2.mono ?_
  rintro e w2 ⟨rfl, rfl⟩
  go_wp2_with (with_reducible refine gate_ (.load 47 (.tmp 135)) rfl ?_; refine copy47 (gm := gm) (p := 135) (d := 136) (e := 10) (F := F) rfl rfl rfl rfl rfl rfl rfl rfl rfl (by first | rfl | (simp [Act.eval, go_sem]; done)) (by first | rfl | (simp [Act.eval, go_sem]; done)) (by first | rfl | (simp [Act.eval, go_sem]; done)) hI.out.m ?_)
  have hgo : w.heap.size ≠ gm := fun e => by have := hI.out.m.lt; omega
  have H0 := Aside0.mk (And.intro (hI.out.alloc (.cells (jl F).toArray 47)) (OB.new F w))
  generalize w.alloc (.cells (jl F).toArray 47) = W0 at H0 ⊢
  clear hc1 hc2 hc3 hal hal2 hI
  obtain ⟨go, hgoe⟩ : ∃ go, w.heap.size = go := ⟨_, rfl⟩
  rw [hgoe] at hgo H0 ⊢
  go_loopw [11] (fun s11 wr => ∃ (p : Nat), p ≤ 8 ∧ s11 = .int .i64 (p : Int) ∧ Aside0 (MW gm w (mgO F x y p) wr ∧ OB go F wr)) (fun s11 _ => (8 - intOf s11).toNat)
  case atStart => exact ⟨0, by omega, rfl, H0⟩
  case round =>
    clear H0
    obtain ⟨p, hp, rfl, hI⟩ := hrel
    by_cases hp8 : p < 8
    · have hp1 : (p : Int) < 8 := by omega
      have hp0 : (0 : Int) ≤ (p : Int) := by omega
      go_wp2_with fail
      go_loopw [12] (fun s12 wr => ∃ (q : Nat), q ≤ 8 ∧ s12 = .int .i64 (q : Int) ∧ Aside0 (MW gm w (mgI F x y p (mgO F x y p) q) wr ∧ OB go F wr)) (fun s12 _ => (8 - intOf s12).toNat)
      case atStart => exact ⟨0, by omega, rfl, hI⟩
      case round =>
        clear hI
        obtain ⟨q, hq, rfl, hI⟩ := hrel
        by_cases hq8 : q < 8
        · have hq1 : (q : Int) < 8 := by omega
          have hq0 : (0 : Int) ≤ (q : Int) := by omega
          have ca := hI.out.2.cell (i := p * 8 + x) (by omega)
          have cb := hI.out.2.cell (i := q * 8 + y) (by omega)
          rw [show 16 + (p * 8 + x) = 16 + p * 8 + x by omega] at ca
          rw [show 16 + (q * 8 + y) = 16 + q * 8 + y by omega] at cb
          have c1 := hI.out.1.m.cell (i := 16 + p * 8 + q) (by omega)
          have f1 := hI.out.1.m.frozen (16 + p * 8 + q)
          have J1 := Aside0.mk (hI.out.1.set (i := 16 + p * 8 + q) (by omega) true)
          have c2 := J1.out.m.cell (i := 16 + q * 8 + p) (by omega)
          have f2 := J1.out.m.frozen (16 + q * 8 + p)
          have J2 := Aside0.mk (J1.out.set (i := 16 + q * 8 + p) (by omega) true)
          have O2 := Aside0.mk ((hI.out.2.grown (grownBy_setCell'' _ gm (16 + p * 8 + q) (.bool true)) hgo).grown (grownBy_setCell'' _ gm (16 + q * 8 + p) (.bool true)) hgo)
          clear J1
          have HL : (decide (p = x) || F (16 + p * 8 + x)) = true ∨ (decide (p = x) || F (16 + p * 8 + x)) = false := by cases (decide (p = x) || F (16 + p * 8 + x)) <;> simp
          have HR : (decide (q = y) || F (16 + q * 8 + y)) = true ∨ (decide (q = y) || F (16 + q * 8 + y)) = false := by cases (decide (q = y) || F (16 + q * 8 + y)) <;> simp
          have dp : decide ((p : Int) = (x : Int)) = decide (p = x) := by rw [Bool.eq_iff_iff]; simp only [decide_eq_true_eq]; omega
          have dq : decide ((q : Int) = (y : Int)) = decide (q = y) := by rw [Bool.eq_iff_iff]; simp only [decide_eq_true_eq]; omega
          have KT : (decide (p = x) || F (16 + p * 8 + x)) = true → (decide (q = y) || F (16 + q * 8 + y)) = true → ∀ W', Aside0 (MW gm w (upd (upd (mgI F x y p (mgO F x y p) q) (16 + p * 8 + q) true) (16 + q * 8 + p) true) W') → Aside0 (OB go F W') → Aside0 (MW gm w (mgI F x y p (mgO F x y p) (q + 1)) W' ∧ OB go F W') := fun a b W' h1 h2 => ⟨by
            have e : mgI F x y p (mgO F x y p) (q + 1) = upd (upd (mgI F x y p (mgO F x y p) q) (16 + p * 8 + q) true) (16 + q * 8 + p) true := by simp only [mgI, a, b, Bool.and_self, if_true]
            rw [e]; exact h1.out, h2.out⟩
          have KF : ((decide (p = x) || F (16 + p * 8 + x)) && (decide (q = y) || F (16 + q * 8 + y))) = false → Aside0 (MW gm w (mgI F x y p (mgO F x y p) (q + 1)) wr ∧ OB go F wr) := fun a => ⟨by
            have e : mgI F x y p (mgO F x y p) (q + 1) = mgI F x y p (mgO F x y p) q := by simp only [mgI, a]; rfl
            rw [e]; exact hI.out.1, hI.out.2⟩
          clear hI
          have eF : ∀ b : Bool, b = true ∨ b = false := fun b => by cases b <;> simp
          rcases (show ((p : Int) = (x : Int) ∧ p = x) ∨ (¬ (p : Int) = (x : Int) ∧ ¬ p = x ∧ F (16 + p * 8 + x) = true) ∨ (¬ (p : Int) = (x : Int) ∧ ¬ p = x ∧ F (16 + p * 8 + x) = false) by rcases eF (F (16 + p * 8 + x)) with h | h <;> by_cases e : p = x <;> simp [h, e] <;> omega) with ⟨hpi, hpx⟩ | ⟨hpi, hpx, hFL⟩ | ⟨hpi, hpx, hFL⟩
          · have lb : (decide (p = x) || F (16 + p * 8 + x)) = true := by simp [hpx]
            clear ca
            rcases (show ((q : Int) = (y : Int) ∧ q = y) ∨ (¬ (q : Int) = (y : Int) ∧ ¬ q = y ∧ F (16 + q * 8 + y) = true) ∨ (¬ (q : Int) = (y : Int) ∧ ¬ q = y ∧ F (16 + q * 8 + y) = false) by rcases eF (F (16 + q * 8 + y)) with h | h <;> by_cases e : q = y <;> simp [h, e] <;> omega) with ⟨hqi, hqy⟩ | ⟨hqi, hqy, hFR⟩ | ⟨hqi, hqy, hFR⟩
            · have rb : (decide (q = y) || F (16 + q * 8 + y)) = true := by simp [hqy]
              clear cb
              have KK := KT lb rb _ J2 O2
              have dpi : ((p : Int) == (x : Int)) = true := by rw [hpi]; exact beq_self_eq_true _
              have dqi : ((q : Int) == (y : Int)) = true := by rw [hqi]; exact beq_self_eq_true _
              clear KT KF J2 O2 HL HR dp dq lb rb hpi hqi hpx hqy
              go_wp2_with fail
              go_roundw
              case rel => exact ⟨q + 1, by omega, by go_num, KK⟩
              case measure => simp [intOf]; omega
            · have rb : (decide (q = y) || F (16 + q * 8 + y)) = true := by simp [hFR]
              rw [hFR] at cb
              have KK := KT lb rb _ J2 O2
              have dpi : ((p : Int) == (x : Int)) = true := by rw [hpi]; exact beq_self_eq_true _
              have dqi : ((q : Int) == (y : Int)) = false := by rw [beq_eq_false_iff_ne]; exact hqi
              clear KT KF J2 O2 HL HR dp dq lb rb hpi hqi hpx hqy
              go_wp2_with fail
              go_roundw
              case rel => exact ⟨q + 1, by omega, by go_num, KK⟩
              case measure => simp [intOf]; omega
            · have rb : (decide (q = y) || F (16 + q * 8 + y)) = false := by simp [hFR, hqy]
              rw [hFR] at cb
              have KK := KF (by rw [lb, rb]; rfl)
              have dpi : ((p : Int) == (x : Int)) = true := by rw [hpi]; exact beq_self_eq_true _
              have dqi : ((q : Int) == (y : Int)) = false := by rw [beq_eq_false_iff_ne]; exact hqi
              clear KT KF J2 O2 HL HR dp dq lb rb hpi hqi hpx hqy
              go_wp2_with fail
              go_roundw
              case rel => exact ⟨q + 1, by omega, by go_num, KK⟩
              case measure => simp [intOf]; omega
          · have lb : (decide (p = x) || F (16 + p * 8 + x)) = true := by simp [hFL]
            rw [hFL] at ca
            rcases (show ((q : Int) = (y : Int) ∧ q = y) ∨ (¬ (q : Int) = (y : Int) ∧ ¬ q = y ∧ F (16 + q * 8 + y) = true) ∨ (¬ (q : Int) = (y : Int) ∧ ¬ q = y ∧ F (16 + q * 8 + y) = false) by rcases eF (F (16 + q * 8 + y)) with h | h <;> by_cases e : q = y <;> simp [h, e] <;> omega) with ⟨hqi, hqy⟩ | ⟨hqi, hqy, hFR⟩ | ⟨hqi, hqy, hFR⟩
            · have rb : (decide (q = y) || F (16 + q * 8 + y)) = true := by simp [hqy]
              clear cb
              have KK := KT lb rb _ J2 O2
              have dpi : ((p : Int) == (x : Int)) = false := by rw [beq_eq_false_iff_ne]; exact hpi
              have dqi : ((q : Int) == (y : Int)) = true := by rw [hqi]; exact beq_self_eq_true _
              clear KT KF J2 O2 HL HR dp dq lb rb hpi hqi hpx hqy
              go_wp2_with fail
              go_roundw
              case rel => exact ⟨q + 1, by omega, by go_num, KK⟩
              case measure => simp [intOf]; omega
            · have rb : (decide (q = y) || F (16 + q * 8 + y)) = true := by simp [hFR]
              rw [hFR] at cb
              have KK := KT lb rb _ J2 O2
              have dpi : ((p : Int) == (x : Int)) = false := by rw [beq_eq_false_iff_ne]; exact hpi
              have dqi : ((q : Int) == (y : Int)) = false := by rw [beq_eq_false_iff_ne]; exact hqi
              clear KT KF J2 O2 HL HR dp dq lb rb hpi hqi hpx hqy
              go_wp2_with fail
              go_roundw
              case rel => exact ⟨q + 1, by omega, by go_num, KK⟩
              case measure => simp [intOf]; omega
            · have rb : (decide (q = y) || F (16 + q * 8 + y)) = false := by simp [hFR, hqy]
              rw [hFR] at cb
              have KK := KF (by rw [lb, rb]; rfl)
              have dpi : ((p : Int) == (x : Int)) = false := by rw [beq_eq_false_iff_ne]; exact hpi
              have dqi : ((q : Int) == (y : Int)) = false := by rw [beq_eq_false_iff_ne]; exact hqi
              clear KT KF J2 O2 HL HR dp dq lb rb hpi hqi hpx hqy
              go_wp2_with fail
              go_roundw
              case rel => exact ⟨q + 1, by omega, by go_num, KK⟩
              case measure => simp [intOf]; omega
          · have lb : (decide (p = x) || F (16 + p * 8 + x)) = false := by simp [hFL, hpx]
            rw [hFL] at ca
            rcases (show ((q : Int) = (y : Int) ∧ q = y) ∨ (¬ (q : Int) = (y : Int) ∧ ¬ q = y ∧ F (16 + q * 8 + y) = true) ∨ (¬ (q : Int) = (y : Int) ∧ ¬ q = y ∧ F (16 + q * 8 + y) = false) by rcases eF (F (16 + q * 8 + y)) with h | h <;> by_cases e : q = y <;> simp [h, e] <;> omega) with ⟨hqi, hqy⟩ | ⟨hqi, hqy, hFR⟩ | ⟨hqi, hqy, hFR⟩
            · have rb : (decide (q = y) || F (16 + q * 8 + y)) = true := by simp [hqy]
              clear cb
              have KK := KF (by rw [lb, rb]; rfl)
              have dpi : ((p : Int) == (x : Int)) = false := by rw [beq_eq_false_iff_ne]; exact hpi
              have dqi : ((q : Int) == (y : Int)) = true := by rw [hqi]; exact beq_self_eq_true _
              clear KT KF J2 O2 HL HR dp dq lb rb hpi hqi hpx hqy
              go_wp2_with fail
              go_roundw
              case rel => exact ⟨q + 1, by omega, by go_num, KK⟩
              case measure => simp [intOf]; omega
            · have rb : (decide (q = y) || F (16 + q * 8 + y)) = true := by simp [hFR]
              rw [hFR] at cb
              have KK := KF (by rw [lb, rb]; rfl)
              have dpi : ((p : Int) == (x : Int)) = false := by rw [beq_eq_false_iff_ne]; exact hpi
              have dqi : ((q : Int) == (y : Int)) = false := by rw [beq_eq_false_iff_ne]; exact hqi
              clear KT KF J2 O2 HL HR dp dq lb rb hpi hqi hpx hqy
              go_wp2_with fail
              go_roundw
              case rel => exact ⟨q + 1, by omega, by go_num, KK⟩
              case measure => simp [intOf]; omega
            · have rb : (decide (q = y) || F (16 + q * 8 + y)) = false := by simp [hFR, hqy]
              rw [hFR] at cb
              have KK := KF (by rw [lb, rb]; rfl)
              have dpi : ((p : Int) == (x : Int)) = false := by rw [beq_eq_false_iff_ne]; exact hpi
              have dqi : ((q : Int) == (y : Int)) = false := by rw [beq_eq_false_iff_ne]; exact hqi
              clear KT KF J2 O2 HL HR dp dq lb rb hpi hqi hpx hqy
              go_wp2_with fail
              go_roundw
              case rel => exact ⟨q + 1, by omega, by go_num, KK⟩
              case measure => simp [intOf]; omega
        · obtain rfl : q = 8 := by omega
          have hq1 : ¬ ((8 : Nat) : Int) < 8 := by omega
          go_wp2_with fail
          go_roundw
          case rel => exact ⟨p + 1, by omega, by go_num, hI⟩
          case measure => simp [intOf]; omega
    · obtain rfl : p = 8 := by omega
      have hp1 : ¬ ((8 : Nat) : Int) < 8 := by omega
      go_wp2_with fail
      go_ret
      exact ⟨rfl, hI.out.1⟩
end Go.Proofs.Ytmjenmhidnkbdaa.P

/- The law's own model: every operation. -/
namespace Go.Proofs.Ytmjenmhidnkbdaa.P
open Go.RowKit Go.Shelf Go.Proofs.YtmjenmhidnkbdaaW.PrintWords Go.Proofs.YtmjenmhidnkbdaaW.PrintLast Go.Proofs.YtmjenmhidnkbdaaW.PrintMore
set_option linter.unusedVariables false
set_option linter.unusedSimpArgs false

theorem do_any (kind : Nat) (hkind : kind < 6) (gm : Nat) (F : Nat → Bool) (x y : Nat) (hx : x < 8) (hy : y < 8) (w : World) (h : MB gm F w) :
    Calls Try.prog 33 #[.pointer (some ⟨gm, 0, none⟩), .int .i64 (kind : Int), .int .i64 (x : Int), .int .i64 (y : Int)] w (DoPost gm w (doF kind x y F)) := by
  unfold doF
  by_cases k0 : kind = 0
  · subst k0
    rw [if_pos rfl]
    exact do_0 gm F x y hx hy w h
  rw [if_neg k0]
  cases hF : F x with
  | false =>
    rw [if_pos (.inl rfl)]
    exact do_no (kind : Int) (by omega) gm F x y hx hy w h hF
  | true =>
    by_cases k1 : kind = 1
    · subst k1
      rw [if_neg (by rintro (h | ⟨h, _⟩); cases h; omega), if_pos rfl]
      exact do_1 gm F x y hx hy w h hF
    by_cases k23 : kind = 2 ∨ kind = 3
    · cases hFy : F y with
      | false =>
        rw [if_pos (.inr ⟨k23, .inl rfl⟩)]
        exact do_noy (kind : Int) (by omega) gm F x y hx hy w h hF hFy
      | true =>
        by_cases hxy : x = y
        · subst hxy
          rw [if_pos (.inr ⟨k23, .inr rfl⟩)]
          exact do_self (kind : Int) (by omega) gm F x hx w h hF
        · rw [if_neg (by rintro (h | ⟨_, h | h⟩); cases h; cases h; exact hxy h), if_neg k1]
          by_cases k2 : kind = 2
          · subst k2
            rw [if_pos rfl]
            exact do_2 gm F x y hx hy w h hF hFy hxy
          · have k3 : kind = 3 := by omega
            subst k3
            rw [if_neg (by decide), if_pos rfl]
            cases hb : (aloneF F x || aloneF F y || F (16 + x * 8 + y)) with
            | true => rw [if_pos rfl]; exact do_3no gm F x y hx hy w h hF hFy hxy hb
            | false => rw [if_neg (by decide)]; exact do_3 gm F x y hx hy w h hF hFy hxy hb
    · rw [if_neg (by rintro (h | ⟨h, _⟩); cases h; exact k23 h), if_neg k1, if_neg (by omega), if_neg (by omega)]
      exact do_4 (kind : Int) (decide (kind = 4)) (by
        by_cases e : kind = 4
        · left; exact ⟨by omega, by simp [e]⟩
        · right; exact ⟨by omega, by simp [e]⟩) gm F x y hx hy w h hF
end Go.Proofs.Ytmjenmhidnkbdaa.P
