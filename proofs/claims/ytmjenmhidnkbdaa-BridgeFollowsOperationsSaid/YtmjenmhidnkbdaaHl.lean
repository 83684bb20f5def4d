/- slices.BinarySearchFunc at legs with (target).add's comparison: where a number stands or would stand in a list sorted by numbers. -/
import Derived.Test.YtmjenmhidnkbdaaHk
namespace Go.Proofs.Ytmjenmhidnkbdaa.P
open Go.RowKit Go.Shelf Go.Proofs.YtmjenmhidnkbdaaW.PrintWords Go.Proofs.YtmjenmhidnkbdaaW.PrintLast Go.Proofs.YtmjenmhidnkbdaaW.PrintMore
set_option linter.unusedVariables false
set_option linter.unusedSimpArgs false

/-- How many legs stand ahead of a number. -/
def pos (l : List S36) (id : Int) : Nat := (l.takeWhile fun x => decide (x.f0 < id)).length
theorem pos_le (l : List S36) (id : Int) : pos l id ≤ l.length := by
  unfold pos
  exact (List.takeWhile_sublist _).length_le
theorem pos_of (l : List S36) (id : Int) (i : Nat) (hi : i ≤ l.length) (h1 : ∀ (q : Nat) (x : S36), q < i → l[q]? = some x → x.f0 < id) (h2 : ∀ x, l[i]? = some x → ¬ x.f0 < id) : pos l id = i := by
  induction l generalizing i with
  | nil =>
    obtain rfl : i = 0 := by simpa using hi
    rfl
  | cons x l ih =>
    cases i with
    | zero =>
      have := h2 x rfl
      simp [pos, this]
    | succ i =>
      have h0 := h1 0 x (by omega) rfl
      have := ih i (by simpa using hi) (fun q y hq hy => h1 (q + 1) y (by omega) (by simpa using hy)) (fun y hy => h2 y (by simpa using hy))
      unfold pos at this ⊢
      simp [h0, this]

theorem pair_lt {l : List S36} (hs : l.Pairwise fun x y => x.f0 < y.f0) {q m : Nat} {x y : S36} (h : q < m) (hx : l[q]? = some x) (hy : l[m]? = some y) : x.f0 < y.f0 := by
  obtain ⟨h1, rfl⟩ := List.getElem?_eq_some_iff.1 hx
  obtain ⟨h2, rfl⟩ := List.getElem?_eq_some_iff.1 hy
  exact List.pairwise_iff_getElem.1 hs q m h1 h2 h
/-- Is the number there? -/
def there (l : List S36) (id : Int) : Bool := decide (pos l id < l.length) && ((rd_T36 l (pos l id : Int)).f0 == id)

/-- What the search knows between two rounds. -/
structure BI (l : List S36) (id : Int) (i j : Nat) : Prop where
  ij : i ≤ j
  jn : j ≤ l.length
  lo : ∀ (q : Nat) (x : S36), q < i → l[q]? = some x → x.f0 < id
  hi : ∀ (q : Nat) (x : S36), j ≤ q → l[q]? = some x → ¬ x.f0 < id

set_option maxRecDepth 100000 in
set_option maxHeartbeats 2000000 in
theorem search_any (A : Option Addr) (c : Nat) (l : List S36) (id : Int) (w : World) (hr : Kd.C k36 w A l.length l) (hlen : l.length ≤ 2000) (hs : l.Pairwise fun x y => x.f0 < y.f0) :
    Calls Try.prog 53 #[.slice A l.length c, .int .i64 id, .func (.func 54) #[] #[]] w fun e w' => e = .returned (.tuple #[.int .i64 (pos l id), .bool (there l id)]) ∧ Below w.heap.size w w' := by
  have HR := Aside0.mk hr
  have HS := Aside0.mk hs
  have hu36 := Try.underlying36
  clear hr hs
  go_enter Try.func53, Try.ntmps53
  go_wp2
  go_loopw [9, 10] (fun s9 s10 wr => ∃ (i j : Nat), s9 = .int .i64 i ∧ s10 = .int .i64 j ∧ Aside0 (BI l id i j) ∧ j ≤ l.length ∧ Aside0 (Below w.heap.size w wr)) (fun s9 s10 _ => (intOf s10 - intOf s9).toNat)
  case atStart => exact ⟨0, l.length, rfl, rfl, ⟨by omega, by omega, fun q x h => by omega, fun q x h hx => by have := (List.getElem?_eq_some_iff.1 hx).1; omega⟩, by omega, ⟨Below.refl _ _⟩⟩
  case round =>
    obtain ⟨i, j, rfl, rfl, hB, hj, hb⟩ := hrel
    by_cases hlt : i < j
    · have hltz : (i : Int) < (j : Int) := by omega
      obtain ⟨m, hm⟩ : ∃ m : Nat, ((i : Int) + (j : Int)) / 2 = (m : Int) := ⟨(i + j) / 2, by omega⟩
      have hmi : i ≤ m := by omega
      have hmj : m < j := by omega
      have hmn : m < l.length := by omega
      obtain ⟨ad, rfl, hc0, hc1, hc2⟩ := at_T36 (Kd.C_below HR.out hb.out) (m : Int) (by omega) (by omega)
      simp only [Int.toNat_natCast] at hc0 hc1 hc2
      have HX := Aside0.mk (rd_at l m hmn)
      have hcall := addCmp_any (rd_T36 l (m : Int)) id wr
      generalize rd_T36 l (m : Int) = x at hc0 hc1 hc2 hcall HX
      have hm0 : (0 : Int) ≤ (m : Int) := by omega
      by_cases hx : x.f0 < id
      · have hr : cmpI x.f0 id = -1 := by simp [cmpI, hx]
        rw [hr] at hcall
        have hx' := Aside0.mk hx
        clear hr hx
        go_wp2_with (go_at_call 54; refine hcall.mono ?_; rintro e w1 ⟨rfl, hb1⟩; have HB1 := Aside0.mk hb1; clear hb1)
        go_roundw
        case rel =>
          refine ⟨m + 1, j, by go_num, rfl, ⟨⟨by omega, hB.out.jn, fun q y hq hy => ?_, hB.out.hi⟩⟩, hj, ⟨hb.out.trans (HB1.out.mono hb.out.size)⟩⟩
          by_cases e : q = m
          · subst e
            rw [HX.out] at hy
            injection hy with hy
            subst hy
            exact hx'.out
          · have := pair_lt HS.out (show q < m by omega) hy HX.out
            have := hx'.out
            omega
        case measure => simp [intOf]; omega
      · have hr : 0 ≤ cmpI x.f0 id := by unfold cmpI; rw [if_neg hx]; split <;> omega
        have hr' : ¬ cmpI x.f0 id < 0 := by omega
        have hx' := Aside0.mk hx
        generalize cmpI x.f0 id = r at hr hr' hcall
        clear hx
        go_wp2_with (go_at_call 54; refine hcall.mono ?_; rintro e w1 ⟨rfl, hb1⟩; have HB1 := Aside0.mk hb1; clear hb1)
        go_roundw
        case rel =>
          refine ⟨i, m, rfl, by go_num, ⟨⟨by omega, by omega, hB.out.lo, fun q y hq hy => ?_⟩⟩, by omega, ⟨hb.out.trans (HB1.out.mono hb.out.size)⟩⟩
          by_cases e : q = m
          · subst e
            rw [HX.out] at hy
            injection hy with hy
            subst hy
            have := hx'.out
            omega
          · have := pair_lt HS.out (show m < q by omega) HX.out hy
            have := hx'.out
            omega
        case measure => simp [intOf]; omega
    · have hij : i = j := by have := hB.out.ij; omega
      subst hij
      have hp : pos l id = i := pos_of l id i hj hB.out.lo (fun x hx => hB.out.hi i x (Nat.le_refl _) hx)
      have HP := Aside0.mk hp
      have hltz : ¬ (i : Int) < (i : Int) := by omega
      by_cases hin : i < l.length
      · have hinz : decide ((i : Int) < (l.length : Int)) = true := by simp; exact hin
        have hinz' : (i : Int) < (l.length : Int) := by omega
        obtain ⟨ad, rfl, hc0, hc1, hc2⟩ := at_T36 (Kd.C_below HR.out hb.out) (i : Int) (by omega) (by omega)
        simp only [Int.toNat_natCast] at hc0 hc1 hc2
        have hcall := addCmp_any (rd_T36 l (i : Int)) id wr
        have hth : there l id = ((rd_T36 l (i : Int)).f0 == id) := by unfold there; rw [hp]; simp [hin]
        have HT := Aside0.mk hth
        have hge : ¬ (rd_T36 l (i : Int)).f0 < id := hB.out.hi i _ (Nat.le_refl _) (rd_at l i hin)
        have hcm : (cmpI (rd_T36 l (i : Int)).f0 id == 0) = ((rd_T36 l (i : Int)).f0 == id) := by
          unfold cmpI
          rw [if_neg hge]
          by_cases e : (rd_T36 l (i : Int)).f0 = id
          · simp [e]
          · rw [if_pos (by omega)]; simp [e]
        have HCM := Aside0.mk hcm
        clear hp hth hge hcm
        generalize cmpI (rd_T36 l (i : Int)).f0 id = r at hcall HCM
        generalize rd_T36 l (i : Int) = x at *
        go_wp2_with (go_at_call 54; refine hcall.mono ?_; rintro e w1 ⟨rfl, hb1⟩; have HB1 := Aside0.mk hb1; clear hb1)
        go_ret2
        rw [HP.out, HT.out, ← HCM.out]
        exact ⟨rfl, hb.out.trans (HB1.out.mono hb.out.size)⟩
      · have hinz : decide ((i : Int) < (l.length : Int)) = false := by simp; omega
        have hth : there l id = false := by unfold there; rw [hp]; simp [hin]
        have HT := Aside0.mk hth
        clear hp hth
        go_wp2
        go_ret2
        rw [HP.out, HT.out]
        exact ⟨rfl, hb.out⟩
end Go.Proofs.Ytmjenmhidnkbdaa.P
