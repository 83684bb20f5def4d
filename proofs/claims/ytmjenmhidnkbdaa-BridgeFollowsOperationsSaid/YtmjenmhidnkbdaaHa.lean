/- Contracts of the small functions of package bridge and of its closures: what each call answers, for every argument. -/
import Derived.Test.YtmjenmhidnkbdaaPx0
import Derived.Shelf.Abstract
namespace Go.Proofs.Ytmjenmhidnkbdaa.P
open Go.RowKit Go.Proofs.YtmjenmhidnkbdaaW.PrintWords Go.Proofs.YtmjenmhidnkbdaaW.PrintLast Go.Proofs.YtmjenmhidnkbdaaW.PrintMore
set_option linter.unusedVariables false
set_option linter.unusedSimpArgs false

/-- The three cells of a leg. -/
def legV (x : S36) : Value := .agg #[.int .i64 x.f0, .int .i64 x.f1, .bool x.f2]

theorem isNaN_any (x : Int) (w : World) : Calls Try.prog 60 #[.int .i64 x] w fun e w' => e = .returned (.bool false) ∧ w = w' := by
  go_enter Try.func60, Try.ntmps60
  go_wp2
  go_ret
  exact ⟨by simp, rfl⟩

/-- cmp.Compare on int. -/
def cmpI (x y : Int) : Int := if x < y then -1 else if y < x then 1 else 0

theorem compare_any (x y : Int) (w : World) : Calls Try.prog 55 #[.int .i64 x, .int .i64 y] w fun e w' => e = .returned (.int .i64 (cmpI x y)) ∧ w = w' := by
  have e1 : x < y → cmpI x y = -1 := fun h => by simp [cmpI, h]
  have e2 : ¬ x < y → y < x → cmpI x y = 1 := fun h h' => by simp [cmpI, h, h']
  have e3 : ¬ x < y → ¬ y < x → cmpI x y = 0 := fun h h' => by simp [cmpI, h, h']
  generalize cmpI x y = r at e1 e2 e3 ⊢
  by_cases h1 : x < y
  · obtain rfl := e1 h1
    clear e1 e2 e3
    go_enter Try.func55, Try.ntmps55
    go_wp2_with (go_at_call 60; refine (isNaN_any _ _).mono ?_; rintro e w' ⟨rfl, rfl⟩)
    go_ret
    exact ⟨rfl, rfl⟩
  · by_cases h2 : y < x
    · obtain rfl := e2 h1 h2
      clear e1 e2 e3
      go_enter Try.func55, Try.ntmps55
      go_wp2_with (go_at_call 60; refine (isNaN_any _ _).mono ?_; rintro e w' ⟨rfl, rfl⟩)
      go_ret
      exact ⟨rfl, rfl⟩
    · obtain rfl := e3 h1 h2
      clear e1 e2 e3
      go_enter Try.func55, Try.ntmps55
      go_wp2_with (go_at_call 60; refine (isNaN_any _ _).mono ?_; rintro e w' ⟨rfl, rfl⟩)
      go_ret
      exact ⟨rfl, rfl⟩

theorem addCmp_any (x : S36) (id : Int) (w : World) : Calls Try.prog 54 #[legV x, .int .i64 id] w fun e w' => e = .returned (.int .i64 (cmpI x.f0 id)) ∧ Below w.heap.size w w' := by
  unfold legV
  go_enter Try.func54, Try.ntmps54
  go_wp2_with (go_at_call 55; refine (compare_any _ _ _).mono ?_; rintro e w' ⟨rfl, rfl⟩)
  go_ret
  exact ⟨rfl, (Below.refl _ _).alloc (Nat.le_refl _) _⟩

theorem findIs_any (x : S36) (id : Int) (b : Nat) (w : World) (hb : b < w.heap.size) (hc : w.cell? ⟨b, 0, none⟩ = some (.int .i64 id)) :
    Calls Try.prog 51 #[legV x, .pointer (some ⟨b, 0, none⟩)] w fun e w' => e = .returned (.bool (x.f0 == id)) ∧ Below w.heap.size w w' := by
  unfold legV
  have hc' : (w.alloc (.cells #[.int .i64 x.f0, .int .i64 x.f1, .bool x.f2] 36)).cell? ⟨b, 0, none⟩ = some (.int .i64 id) := (World.cell?_alloc_lt w _ _ hb).trans hc
  go_enter Try.func51, Try.ntmps51
  go_wp2
  go_ret
  exact ⟨rfl, (Below.refl _ _).alloc (Nat.le_refl _) _⟩

theorem removeIs_any (x : S36) (id : Int) (b : Nat) (w : World) (hb : b < w.heap.size) (hc : w.cell? ⟨b, 0, none⟩ = some (.int .i64 id)) :
    Calls Try.prog 58 #[legV x, .pointer (some ⟨b, 0, none⟩)] w fun e w' => e = .returned (.bool (x.f0 == id)) ∧ Below w.heap.size w w' := by
  unfold legV
  have hc' : (w.alloc (.cells #[.int .i64 x.f0, .int .i64 x.f1, .bool x.f2] 36)).cell? ⟨b, 0, none⟩ = some (.int .i64 id) := (World.cell?_alloc_lt w _ _ hb).trans hc
  go_enter Try.func58, Try.ntmps58
  go_wp2
  go_ret
  exact ⟨rfl, (Below.refl _ _).alloc (Nat.le_refl _) _⟩
end Go.Proofs.Ytmjenmhidnkbdaa.P
