/- slices.IndexFunc at routes: where a target's route stands. -/
import Derived.Test.YtjaodgicpnoifaaHd
namespace Go.Proofs.Ytjaodgicpnoifaa.P
open Go.RowKit Go.Shelf Go.Proofs.YtjaodgicpnoifaaW.PrintWords Go.Proofs.YtjaodgicpnoifaaW.PrintLast Go.Proofs.YtjaodgicpnoifaaW.PrintMore
set_option linter.unusedVariables false
set_option linter.unusedSimpArgs false

theorem orderIs_any (t : Int) (v : Value) (hv : v.oneCell' = true) (id : Int) (b : Nat) (w : World) (hb : b < w.heap.size) (hc : w.cell? ⟨b, 0, none⟩ = some (.int .i64 id)) :
    Calls Try.prog 43 #[.agg #[.int .i64 t, v], .pointer (some ⟨b, 0, none⟩)] w fun e w' => e = .returned (.bool (t == id)) ∧ Below w.heap.size w w' := by
  have hc' : (w.alloc (.cells #[.int .i64 t, v] 47)).cell? ⟨b, 0, none⟩ = some (.int .i64 id) := (World.cell?_alloc_lt w _ _ hb).trans hc
  go_enter Try.func43, Try.ntmps43
  go_wp2
  go_ret
  exact ⟨rfl, (Below.refl _ _).alloc (Nat.le_refl _) _⟩

def ridx (t : Int) : List S47 → Int
  | [] => -1
  | x :: l => if x.f0 == t then 0 else if ridx t l < 0 then -1 else ridx t l + 1
theorem ridx_miss (t : Int) (l : List S47) (h : ∀ (j : Nat) (x : S47), l[j]? = some x → (x.f0 == t) = false) : ridx t l = -1 := by
  induction l with
  | nil => rfl
  | cons x l ih =>
    have h0 := h 0 x rfl
    have h1 := ih (fun j y hy => h (j + 1) y (by simpa using hy))
    simp only [ridx, h0, h1]
    rfl
theorem ridx_hit (t : Int) (l : List S47) (k : Nat) (x : S47) (hx : l[k]? = some x) (hp : (x.f0 == t) = true) (h : ∀ (j : Nat) (y : S47), j < k → l[j]? = some y → (y.f0 == t) = false) : ridx t l = k := by
  induction l generalizing k with
  | nil => simp at hx
  | cons y l ih =>
    cases k with
    | zero =>
      have : y = x := by simpa using hx
      subst this
      simp only [ridx, hp, if_true]; rfl
    | succ k =>
      have h0 := h 0 y (by omega) rfl
      have h1 := ih k (by simpa using hx) (fun j z hj hz => h (j + 1) z (by omega) (by simpa using hz))
      simp only [ridx, h0, h1]
      simp
      omega

set_option maxHeartbeats 2000000 in
theorem rfind_any (t : Int) (b : Nat) (A : Option Addr) (c : Nat) (l : List S47) (w : World) (hr : Kd.C k47 w A l.length l) (hbl : b < w.heap.size) (hbc : w.cell? ⟨b, 0, none⟩ = some (.int .i64 t)) :
    Calls Try.prog 42 #[.slice A l.length c, .func (.func 43) #[] #[.pointer (some ⟨b, 0, none⟩)]] w fun e w' => e = .returned (.int .i64 (ridx t l)) ∧ Below w.heap.size w w' := by
  have eg : ∀ args w, (callFunc 43 args).run Try.prog w = .ok (.enter 43 args) w := enters_of Try.func43 (by kernel_rfl) rfl
  have hlen : l.length ≤ 9223372036854775807 := hr.2.1
  obtain ⟨n, hn⟩ : ∃ n, n = l.length := ⟨_, rfl⟩
  have HL : Hid (n = l.length) := hn
  rw [← hn] at hr hlen ⊢
  clear hn
  have HR := Aside0.mk hr
  have HP := Aside0.mk (And.intro hbl hbc)
  clear hr hbl hbc
  go_enter Try.func42, Try.ntmps42
  go_wp2
  go_loopg [5, 8] n (fun gg _ s8 wr => ∃ kk : Nat, kk ≤ n ∧ n - kk ≤ gg ∧ s8 = .int .i64 kk ∧ Aside0 (Below w.heap.size w wr) ∧ Aside0 (∀ j y, j < kk → l[j]? = some y → (y.f0 == t) = false))
  case atStart => exact ⟨0, Nat.zero_le _, by omega, rfl, ⟨Below.refl _ w⟩, ⟨fun j y hj => absurd hj (Nat.not_lt_zero _)⟩⟩
  case round =>
    obtain ⟨kk, hkk, hg, rfl, BW, HA⟩ := hrel
    by_cases hlt : kk < n
    · have hltz : (kk : Int) < (n : Int) := by omega
      obtain ⟨ad, A1, c1, rfl, hc0, hc1, hle1, hC1⟩ := at_T47 (Kd.C_below HR.out BW.out) (kk : Int) (by omega) hltz
      simp only [Int.toNat_natCast] at hc0 hc1
      have hx : l[kk]? = some (rd_T47 l kk) := by
        have : kk < l.length := by rw [← HL.out]; exact hlt
        simp [rd_T47, this]
      have HX := Aside0.mk hx
      clear hx hC1
      generalize rd_T47 l kk = y at hc0 hc1 HX hle1
      have hcall := orderIs_any y.f0 (.slice A1 y.f1.length c1) rfl t b wr (Nat.lt_of_lt_of_le HP.out.1 BW.out.size) ((BW.out.cell HP.out.1).trans HP.out.2)
      cases hq : (y.f0 == t) with
      | true =>
        rw [hq] at hcall
        have Hq := Aside0.mk hq
        clear hq
        go_wp2_with (go_at_fn 43; refine hcall.mono ?_; rintro e w' ⟨rfl, hb'⟩)
        go_ret
        exact ⟨by rw [ridx_hit t l kk y HX.out Hq.out HA.out]; rfl, BW.out.trans (hb'.mono BW.out.size)⟩
      | false =>
        rw [hq] at hcall
        have Hq := Aside0.mk hq
        clear hq
        go_wp2_with (go_at_fn 43; refine hcall.mono ?_; rintro e w' ⟨rfl, hb'⟩)
        go_roundg (n - (kk + 1))
        case measure => omega
        case rel =>
          refine ⟨kk + 1, by omega, by omega, by go_num, ⟨BW.out.trans (hb'.mono BW.out.size)⟩, ⟨fun j z hj hz => ?_⟩⟩
          by_cases e : j = kk
          · subst e
            have := HX.out
            rw [this] at hz
            injection hz with hz
            subst hz
            exact Hq.out
          · exact HA.out j z (by omega) hz
    · have hltz : ¬ (kk : Int) < (n : Int) := by omega
      obtain rfl : kk = n := by omega
      go_wp2
      go_ret
      refine ⟨?_, BW.out⟩
      rw [ridx_miss t l (fun j x hx => HA.out j x (by rw [HL.out]; exact (List.getElem?_eq_some_iff.1 hx).1) hx)]
      rfl
end Go.Proofs.Ytjaodgicpnoifaa.P
