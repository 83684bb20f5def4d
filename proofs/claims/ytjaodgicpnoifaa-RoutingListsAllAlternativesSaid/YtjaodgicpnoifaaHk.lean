/- The network as a value; network.has, network.valid. -/
import Derived.Test.YtjaodgicpnoifaaHj
import Derived.Deep.WholeRow
namespace Go.Proofs.Ytjaodgicpnoifaa.P
open Go.RowKit Go.Shelf Go.Proofs.YtjaodgicpnoifaaW.PrintWords Go.Proofs.YtjaodgicpnoifaaW.PrintLast Go.Proofs.YtjaodgicpnoifaaW.PrintMore
set_option linter.unusedVariables false
set_option linter.unusedSimpArgs false

/-- A network's cells: the number of exchanges, then who is linked with whom. -/
def nwL (n : Int) (F : Nat → Bool) : List Value := .int .i64 n :: (List.range 36).map fun i => .bool (F i)
def nw (n : Int) (F : Nat → Bool) : Array Value := (nwL n F).toArray
theorem nw_size (n : Int) (F : Nat → Bool) : (nw n F).size = 37 := by simp [nw, nwL]
theorem nw_0 (n : Int) (F : Nat → Bool) : (nw n F)[0]? = some (.int .i64 n) := by simp [nw, nwL]
theorem nw_at (n : Int) (F : Nat → Bool) {i : Nat} (hi : i < 36) : (nw n F)[1 + i]? = some (.bool (F i)) := by
  rw [Nat.add_comm]; simp [nw, nwL, hi]
theorem nw_one (n : Int) (F : Nat → Bool) : (nw n F).all (·.oneCell') = true := by simp [nw, nwL, Value.oneCell']
def hasF (n x : Int) : Bool := decide (0 ≤ x) && decide (x < n)

set_option maxRecDepth 100000 in
set_option maxHeartbeats 2000000 in
theorem has_any (n : Int) (F : Nat → Bool) (x : Int) (w : World) : Calls Try.prog 52 #[.agg (nw n F), .int .i64 x] w fun e w' => e = .returned (.bool (hasF n x)) ∧ Below w.heap.size w w' := by
  have hc : (w.alloc (.cells (nw n F) 58)).cell? ⟨w.heap.size, 0, none⟩ = some (.int .i64 n) := (blk_cell (blk_new w _) 0).trans (nw_0 n F)
  obtain ⟨r, hr⟩ : ∃ r, hasF n x = r := ⟨_, rfl⟩
  rw [hr]
  unfold hasF at hr
  by_cases h1 : 0 ≤ x
  · have d1 : decide (0 ≤ x) = true := by simpa using h1
    rw [d1, Bool.true_and] at hr
    subst hr
    go_enter Try.func52, Try.ntmps52
    go_wp2
    go_ret
    exact ⟨rfl, (Below.refl _ _).alloc (Nat.le_refl _) _⟩
  · have d1 : decide (0 ≤ x) = false := by simpa using h1
    rw [d1, Bool.false_and] at hr
    subst hr
    go_enter Try.func52, Try.ntmps52
    go_wp2
    go_ret
    exact ⟨rfl, (Below.refl _ _).alloc (Nat.le_refl _) _⟩

theorem info58 : (Try.prog.info? 58).map (·.size) = some 37 := by kernel_rfl
/-- A network out of its block. -/
theorem load58 {ops : Array Oper} {Q : Exit → Act → World → Prop} {rest : List Oper} {o : Oper} {a : Act} {W : World} {N p : Tmp} {g : Nat} {n : Int} {F : Nat → Bool} (gd : o.guard = none) (h : o.op = .load 58 (.tmp p)) (d : o.dst = some N)
    (ha : a.eval (.tmp p) = .pointer (some ⟨g, 0, none⟩)) (hW : W.heap[g]? = some (.cells (nw n F) 58 (0, 0))) (hk : wpList Try.prog ops Q rest (a.put (some N) (.agg (nw n F))) W) : wpList Try.prog ops Q (o :: rest) a W := by
  refine wpList_plain gd fun K hK => ?_
  refine wp_load_row 58 (.tmp p) h g ha 58 (nw n F) (0, 0) _ hW Try.underlying58 rfl (by rw [nw_size]; exact info58) ?_
  rw [d]
  exact hK _ _ hk

set_option maxRecDepth 100000 in
set_option maxHeartbeats 2000000 in
theorem notHas_any (n : Int) (F : Nat → Bool) (b : Nat) (x : Int) (w : World) (hb : w.heap[b]? = some (.cells (nw n F) 58 (0, 0))) :
    Calls Try.prog 54 #[.int .i64 x, .pointer (some ⟨b, 0, none⟩)] w fun e w' => e = .returned (.bool (!hasF n x)) ∧ Below w.heap.size w w' := by
  have hh := has_any n F x w
  go_enter Try.func54, Try.ntmps54
  go_wp2_with (with_reducible refine gate_ (.load 58 (.tmp 1)) rfl ?_; refine load58 (g := b) (n := n) (F := F) rfl rfl rfl (by first | rfl | (simp [Act.eval]; done)) hb ?_)
  refine hh.mono ?_
  rintro e w1 ⟨rfl, hb1⟩
  go_wp2_with fail
  go_ret
  exact ⟨rfl, hb1⟩
/-- The index of the first number that is no exchange. -/
def vidx (n : Int) : List Int → Int
  | [] => -1
  | x :: l => if hasF n x then (if vidx n l < 0 then -1 else vidx n l + 1) else 0
theorem vidx_all (n : Int) (l : List Int) : vidx n l < 0 ↔ l.all (hasF n) = true := by
  induction l with
  | nil => simp [vidx]
  | cons x l ih =>
    simp only [vidx, List.all_cons, Bool.and_eq_true]
    by_cases h : hasF n x = true
    · rw [if_pos h]
      by_cases h2 : vidx n l < 0
      · rw [if_pos h2]; exact ⟨fun _ => ⟨h, ih.1 h2⟩, fun _ => by omega⟩
      · rw [if_neg h2]; exact ⟨fun h3 => by omega, fun h3 => absurd (ih.2 h3.2) h2⟩
    · rw [if_neg h]
      exact ⟨fun h3 => by omega, fun h3 => absurd h3.1 h⟩
theorem vidx_miss (n : Int) (l : List Int) (h : ∀ (j : Nat) (x : Int), l[j]? = some x → hasF n x = true) : vidx n l = -1 := by
  induction l with
  | nil => rfl
  | cons x l ih =>
    have h0 := h 0 x rfl
    have h1 := ih (fun j y hy => h (j + 1) y (by simpa using hy))
    simp only [vidx, h0, h1, if_true]
    rfl
theorem vidx_hit (n : Int) (l : List Int) (k : Nat) (x : Int) (hx : l[k]? = some x) (hp : hasF n x = false) (h : ∀ (j : Nat) (y : Int), j < k → l[j]? = some y → hasF n y = true) : vidx n l = k := by
  induction l generalizing k with
  | nil => simp at hx
  | cons y l ih =>
    cases k with
    | zero =>
      have : y = x := by simpa using hx
      subst this
      simp only [vidx, hp]; rfl
    | succ k =>
      have h0 := h 0 y (by omega) rfl
      have h1 := ih k (by simpa using hx) (fun j z hj hz => h (j + 1) z (by omega) (by simpa using hz))
      simp only [vidx, h0, h1, if_true]
      rw [if_neg (by omega)]
      omega

set_option maxHeartbeats 2000000 in
theorem vfind_any (n : Int) (F : Nat → Bool) (b : Nat) (A : Option Addr) (c : Nat) (l : List Int) (w : World) (hr : Kd.C (Kd.int .i64) w A l.length l) (hb : w.heap[b]? = some (.cells (nw n F) 58 (0, 0))) :
    Calls Try.prog 59 #[.slice A l.length c, .func (.func 54) #[] #[.pointer (some ⟨b, 0, none⟩)]] w fun e w' => e = .returned (.int .i64 (vidx n l)) ∧ Below w.heap.size w w' := by
  have eg : ∀ args w, (callFunc 54 args).run Try.prog w = .ok (.enter 54 args) w := enters_of Try.func54 (by kernel_rfl) rfl
  have hlen : l.length ≤ 9223372036854775807 := hr.2.1
  obtain ⟨N, hn⟩ : ∃ N, N = l.length := ⟨_, rfl⟩
  have HL : Hid (N = l.length) := hn
  rw [← hn] at hr hlen ⊢
  clear hn
  have HR := Aside0.mk hr
  have HP := Aside0.mk hb
  clear hr hb
  go_enter Try.func59, Try.ntmps59
  go_wp2
  go_loopg [5, 8] N (fun gg _ s8 wr => ∃ kk : Nat, kk ≤ N ∧ N - kk ≤ gg ∧ s8 = .int .i64 kk ∧ Aside0 (Below w.heap.size w wr) ∧ Aside0 (∀ (j : Nat) (y : Int), j < kk → l[j]? = some y → hasF n y = true))
  case atStart => exact ⟨0, Nat.zero_le _, by omega, rfl, ⟨Below.refl _ w⟩, ⟨fun j y hj => absurd hj (Nat.not_lt_zero _)⟩⟩
  case round =>
    obtain ⟨kk, hkk, hg, rfl, BW, HA⟩ := hrel
    by_cases hlt : kk < N
    · have hltz : (kk : Int) < (N : Int) := by omega
      obtain ⟨ad, rfl, hc0⟩ := Kd.at_int (Kd.C_below HR.out BW.out) (kk : Int) (by omega) hltz
      simp only [Int.toNat_natCast] at hc0
      have hx : l[kk]? = some (rd l kk) := by
        have : kk < l.length := by rw [← HL.out]; exact hlt
        simp [rd, this]
      have HX := Aside0.mk hx
      clear hx
      generalize rd l kk = y at hc0 HX
      have hcall := notHas_any n F b y wr ((BW.out.block b (blk_lt HP.out)).trans HP.out)
      cases hq : hasF n y with
      | false =>
        rw [hq] at hcall
        have Hq := Aside0.mk hq
        clear hq
        go_wp2_with (go_at_fn 54; refine hcall.mono ?_; rintro e w' ⟨rfl, hb'⟩)
        go_ret
        exact ⟨by rw [vidx_hit n l kk y HX.out Hq.out HA.out]; rfl, BW.out.trans (hb'.mono BW.out.size)⟩
      | true =>
        rw [hq] at hcall
        have Hq := Aside0.mk hq
        clear hq
        go_wp2_with (go_at_fn 54; refine hcall.mono ?_; rintro e w' ⟨rfl, hb'⟩)
        go_roundg (N - (kk + 1))
        case measure => omega
        case rel =>
          refine ⟨kk + 1, by omega, by omega, by go_num, ⟨BW.out.trans (hb'.mono BW.out.size)⟩, ⟨fun j z hj hz => ?_⟩⟩
          by_cases e : j = kk
          · subst e
            have := HX.out
            rw [this] at hz
            injection hz with hz
            subst hz
            exact Hq.out
          · exact HA.out j z (by omega) hz
    · have hltz : ¬ (kk : Int) < (N : Int) := by omega
      obtain rfl : kk = N := by omega
      go_wp2
      go_ret
      refine ⟨?_, BW.out⟩
      rw [vidx_miss n l (fun j x hx => HA.out j x (by rw [HL.out]; exact (List.getElem?_eq_some_iff.1 hx).1) hx)]
      rfl

set_option maxHeartbeats 2000000 in
theorem valid_any (n : Int) (F : Nat → Bool) (A : Option Addr) (c : Nat) (l : List Int) (w : World) (hr : Kd.C (Kd.int .i64) w A l.length l) :
    Calls Try.prog 29 #[.agg (nw n F), .slice A l.length c] w fun e w' => e = .returned (.bool (l.all (hasF n))) ∧ Below w.heap.size w w' := by
  have hal : Below w.heap.size w (w.alloc (.cells (nw n F) 58)) := (Below.refl _ _).alloc (Nat.le_refl _) _
  have hf := vfind_any n F w.heap.size A c l _ (Kd.C_below hr hal) (blk_new w (.cells (nw n F) 58))
  have hc : Calls Try.prog 53 #[.slice A l.length c, .func (.func 54) #[] #[.pointer (some ⟨w.heap.size, 0, none⟩)]] (w.alloc (.cells (nw n F) 58)) fun e w' => e = .returned (.bool (!l.all (hasF n))) ∧ Below (w.alloc (.cells (nw n F) 58)).heap.size (w.alloc (.cells (nw n F) 58)) w' := by
    clear hr hal
    generalize w.alloc (.cells (nw n F) 58) = W at hf ⊢
    by_cases hv : vidx n l < 0
    · have ha := (vidx_all n l).1 hv
      rw [ha]
      have hv' : ¬ 0 ≤ vidx n l := by omega
      go_enter Try.func53, Try.ntmps53
      go_wp2_with (go_at_call 59; refine hf.mono ?_; rintro e w1 ⟨rfl, hb⟩)
      go_ret
      exact ⟨by first | rfl | simp [hv'], hb⟩
    · have ha : l.all (hasF n) = false := by
        cases e : l.all (hasF n) with
        | false => rfl
        | true => exact absurd ((vidx_all n l).2 e) hv
      rw [ha]
      have hv' : 0 ≤ vidx n l := by omega
      go_enter Try.func53, Try.ntmps53
      go_wp2_with (go_at_call 59; refine hf.mono ?_; rintro e w1 ⟨rfl, hb⟩)
      go_ret
      exact ⟨by first | rfl | simp [hv'], hb⟩
  clear hf hr
  have HB := Aside0.mk hal
  clear hal
  obtain ⟨r, hr⟩ : ∃ r, l.all (hasF n) = r := ⟨_, rfl⟩
  rw [hr] at hc ⊢
  clear hr
  go_enter Try.func29, Try.ntmps29
  go_wp2_with (go_at_call 53; refine hc.mono ?_; rintro e w1 ⟨rfl, hb⟩)
  go_ret
  exact ⟨by first | rfl | simp, HB.out.trans (hb.mono HB.out.size)⟩
end Go.Proofs.Ytjaodgicpnoifaa.P
