/- slices.IndexFunc at legs, bridge.index, (*editor).find: what each call answers, for every list of legs. -/
import Derived.Test.YtmjenmhidnkbdaaHa
namespace Go.Proofs.Ytmjenmhidnkbdaa.P
open Go.RowKit Go.Proofs.YtmjenmhidnkbdaaW.PrintWords Go.Proofs.YtmjenmhidnkbdaaW.PrintLast Go.Proofs.YtmjenmhidnkbdaaW.PrintMore
set_option linter.unusedVariables false
set_option linter.unusedSimpArgs false

/-- The index of the first element of which p holds, or -1. -/
def idx (p : S36 → Bool) : List S36 → Int
  | [] => -1
  | x :: l => if p x then 0 else if idx p l < 0 then -1 else idx p l + 1

theorem idx_ge (p : S36 → Bool) (l : List S36) : -1 ≤ idx p l := by
  induction l with
  | nil => simp [idx]
  | cons x l ih => simp only [idx]; split <;> (try split) <;> omega
theorem idx_miss (p : S36 → Bool) (l : List S36) (h : ∀ (j : Nat) (x : S36), l[j]? = some x → p x = false) : idx p l = -1 := by
  induction l with
  | nil => rfl
  | cons x l ih =>
    have h0 := h 0 x rfl
    have h1 := ih (fun j y hy => h (j + 1) y (by simpa using hy))
    simp [idx, h0, h1]
theorem idx_hit (p : S36 → Bool) (l : List S36) (k : Nat) (x : S36) (hx : l[k]? = some x) (hp : p x = true) (h : ∀ (j : Nat) (y : S36), j < k → l[j]? = some y → p y = false) : idx p l = k := by
  induction l generalizing k with
  | nil => simp at hx
  | cons y l ih =>
    cases k with
    | zero =>
      have : y = x := by simpa using hx
      subst this
      simp [idx, hp]
    | succ k =>
      have h0 := h 0 y (by omega) rfl
      have h1 := ih k (by simpa using hx) (fun j z hj hz => h (j + 1) z (by omega) (by simpa using hz))
      simp only [idx, h0, h1]
      simp
      omega

/-- What is asked of a predicate's function: it answers p, and may lay blocks of its own. -/
def Pred (g : Nat) (lb : Array Value) (p : S36 → Bool) (w : World) : Prop :=
  ∀ (W : World) (x : S36), Below w.heap.size w W → Calls Try.prog g (#[legV x] ++ lb) W fun e w' => e = .returned (.bool (p x)) ∧ Below w.heap.size w w'

set_option maxHeartbeats 2000000 in
theorem indexFunc_any (p : S36 → Bool) (g : Nat) (lb : Array Value) (eg : ∀ args w, (callFunc g args).run Try.prog w = .ok (.enter g args) w) (A : Option Addr) (c : Nat) (l : List S36) (w : World)
    (hr : Kd.C k36 w A l.length l) (hp : Pred g lb p w) :
    Calls Try.prog 59 #[.slice A l.length c, .func (.func g) #[] lb] w fun e w' => e = .returned (.int .i64 (idx p l)) ∧ Below w.heap.size w w' := by
  have hu36 := Try.underlying36
  have hlen : l.length ≤ 9223372036854775807 := hr.2.1
  obtain ⟨n, hn⟩ : ∃ n, n = l.length := ⟨_, rfl⟩
  have HL : Hid (n = l.length) := hn
  rw [← hn] at hr hlen ⊢
  clear hn
  have HR := Aside0.mk hr
  have HP := Aside0.mk hp
  clear hr hp
  go_enter Try.func59, Try.ntmps59
  go_wp2
  go_loopg [5, 8] n (fun gg _ s8 wr => ∃ kk : Nat, kk ≤ n ∧ n - kk ≤ gg ∧ s8 = .int .i64 kk ∧ Aside0 (Below w.heap.size w wr) ∧ Aside0 (∀ j y, j < kk → l[j]? = some y → p y = false))
  case atStart => exact ⟨0, Nat.zero_le _, by omega, rfl, ⟨Below.refl _ w⟩, ⟨fun j y hj => absurd hj (Nat.not_lt_zero _)⟩⟩
  case round =>
    obtain ⟨kk, hkk, hg, rfl, BW, HA⟩ := hrel
    by_cases hlt : kk < n
    · have hltz : (kk : Int) < (n : Int) := by omega
      obtain ⟨ad, rfl, hc0, hc1, hc2⟩ := at_T36 (Kd.C_below HR.out BW.out) (kk : Int) (by omega) hltz
      simp only [Int.toNat_natCast] at hc0 hc1 hc2
      have hx : l[kk]? = some (rd_T36 l kk) := by
        have : kk < l.length := by rw [← HL.out]; exact hlt
        simp [rd_T36, this]
      have HX := Aside0.mk hx
      have hcall := HP.out wr (rd_T36 l kk) BW.out
      clear hx
      generalize rd_T36 l kk = y at hc0 hc1 hc2 hcall HX
      have HQ : Aside0 (p y = p y) := ⟨rfl⟩
      cases hq : p y with
      | true =>
        rw [hq] at hcall
        have Hq := Aside0.mk hq
        clear hq
        go_wp2_with (go_at_fn g; refine hcall.mono ?_; rintro e w' ⟨rfl, hb'⟩)
        go_ret
        exact ⟨by rw [idx_hit p l kk y HX.out Hq.out HA.out]; rfl, hb'⟩
      | false =>
        rw [hq] at hcall
        have Hq := Aside0.mk hq
        clear hq
        go_wp2_with (go_at_fn g; refine hcall.mono ?_; rintro e w' ⟨rfl, hb'⟩)
        go_roundg (n - (kk + 1))
        case measure => omega
        case rel =>
          refine ⟨kk + 1, by omega, by omega, by go_num, ⟨hb'⟩, ⟨fun j z hj hz => ?_⟩⟩
          by_cases e : j = kk
          · subst e
            have := HX.out
            rw [this] at hz
            injection hz with hz
            subst hz
            exact Hq.out
          · exact HA.out j z (by omega) hz
    · have hltz : ¬ (kk : Int) < (n : Int) := by omega
      obtain rfl : kk = n := by omega
      go_wp2
      go_ret
      refine ⟨?_, BW.out⟩
      rw [idx_miss p l (fun j x hx => HA.out j x (by rw [HL.out]; exact (List.getElem?_eq_some_iff.1 hx).1) hx)]
      rfl

theorem index_any (p : S36 → Bool) (g : Nat) (lb : Array Value) (eg : ∀ args w, (callFunc g args).run Try.prog w = .ok (.enter g args) w) (A : Option Addr) (c : Nat) (l : List S36) (w : World)
    (hr : Kd.C k36 w A l.length l) (hp : Pred g lb p w) :
    Calls Try.prog 50 #[.slice A l.length c, .func (.func g) #[] lb] w fun e w' => e = .returned (.tuple #[.int .i64 (idx p l), .bool (decide (0 ≤ idx p l))]) ∧ Below w.heap.size w w' := by
  have H := (indexFunc_any p g lb eg A c l w hr hp)
  clear hr hp
  go_enter Try.func50, Try.ntmps50
  go_wp2_with (go_at_call 59; refine H.mono ?_; rintro e w' ⟨rfl, hb⟩)
  go_ret2
  exact ⟨rfl, hb⟩

/-- The index of a leg's number in a list, or -1. -/
def fnd (l : List S36) (id : Int) : Int := idx (fun x => x.f0 == id) l

theorem fnd_lt (p : S36 → Bool) (l : List S36) : idx p l < l.length := by
  induction l with
  | nil => simp [idx]
  | cons x l ih => simp only [idx, List.length_cons]; split <;> (try split) <;> omega

/-- The leg at a list's index: its address. -/
def legAt (A : Option Addr) (i : Int) : Value := if 0 ≤ i then .pointer (A.map fun a => a.add (i.toNat * 3)) else .pointer none

set_option maxHeartbeats 1000000 in
theorem find_any (B : Nat) (A : Option Addr) (c : Nat) (l : List S36) (nx id : Int) (w : World)
    (hB : w.heap[B]? = some (.cells #[.slice A l.length c, .int .i64 nx] 63 (0, 0))) (hr : Kd.C k36 w A l.length l) :
    Calls Try.prog 37 #[.pointer (some ⟨B, 0, none⟩), .int .i64 id] w fun e w' => e = .returned (legAt A (fnd l id)) ∧ Below w.heap.size w w' := by
  have hBlt := blk_lt hB
  have hlt := fnd_lt (fun x => x.f0 == id) l
  have hP : Pred 51 #[.pointer (some ⟨w.heap.size, 0, none⟩)] (fun x => x.f0 == id) (w.alloc (.cells #[.int .i64 id] 3)) := fun W x hb => by
    have hb0 : w.heap.size < W.heap.size := by have := hb.size; simp at this; omega
    refine (findIs_any x id w.heap.size W hb0 ?_).mono fun e w' ⟨he, hw⟩ => ⟨he, hb.trans (hw.mono hb.size)⟩
    rw [hb.cell (by simp)]
    exact (blk_cell (heap_alloc_new w _) 0).trans rfl
  have H := index_any (fun x => x.f0 == id) 51 #[.pointer (some ⟨w.heap.size, 0, none⟩)] (enters_of Try.func51 (by kernel_rfl) rfl) A c l _ (Kd.C_below hr ((Below.refl _ w).alloc (Nat.le_refl _) _)) hP
  have hBw : (w.alloc (.cells #[.int .i64 id] 3)).heap[B]? = some (.cells #[.slice A l.length c, .int .i64 nx] 63 (0, 0)) := (Below.heap_alloc w _ B hBlt).trans hB
  have hc0 : w.cell? ⟨B, 0, none⟩ = some (.slice A l.length c) := (blk_cell hB 0).trans rfl
  have hc1 : (w.alloc (.cells #[.int .i64 id] 3)).cell? ⟨B, 0, none⟩ = some (.slice A l.length c) := (blk_cell hBw 0).trans rfl
  have hc2 : ∀ W, Below (w.alloc (.cells #[.int .i64 id] 3)).heap.size (w.alloc (.cells #[.int .i64 id] 3)) W → W.cell? ⟨B, 0, none⟩ = some (.slice A l.length c) := fun W hb => (hb.cell (by simp; omega)).trans hc1
  have HR := Aside0.mk hr
  clear hB hr hP hBw
  unfold fnd legAt
  have hA : 0 ≤ idx (fun x => x.f0 == id) l → ∃ ad, A = some ad := fun h => by
    obtain ⟨ad, e, _⟩ := HR.out.2.2 (by omega)
    exact ⟨ad, e⟩
  clear HR
  generalize idx (fun x => x.f0 == id) l = i at H hlt hA ⊢
  by_cases h : 0 ≤ i
  · obtain ⟨ad, rfl⟩ := hA h
    clear hA
    have hd : decide (0 ≤ i) = true := decide_eq_true h
    rw [hd] at H
    rw [if_pos h]
    obtain ⟨k, rfl⟩ : ∃ k : Nat, i = k := ⟨i.toNat, by omega⟩
    clear hd h
    have hk : k < l.length := by omega
    go_enter Try.func37, Try.ntmps37
    go_wp2_with (go_at_call 50; refine H.mono ?_; rintro e w' ⟨rfl, hb⟩; have hc3 := hc2 _ hb)
    go_ret
    exact ⟨rfl, ((Below.refl _ w).alloc (Nat.le_refl _) _).trans (hb.mono (by simp))⟩
  · have hd : decide (0 ≤ i) = false := decide_eq_false h
    rw [hd] at H
    rw [if_neg h]
    clear hA hlt hd
    go_enter Try.func37, Try.ntmps37
    go_wp2_with (go_at_call 50; refine H.mono ?_; rintro e w' ⟨rfl, hb⟩; have hc3 := hc2 _ hb)
    go_ret
    exact ⟨rfl, ((Below.refl _ w).alloc (Nat.le_refl _) _).trans (hb.mono (by simp))⟩
end Go.Proofs.Ytmjenmhidnkbdaa.P
