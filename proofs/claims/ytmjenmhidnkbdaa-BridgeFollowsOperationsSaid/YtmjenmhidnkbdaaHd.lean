/- The bridge's functions told by hand, in the form in which the printed texts call for them. -/
import Derived.Test.YtmjenmhidnkbdaaHq
import Derived.Test.YtmjenmhidnkbdaaHq2
import Derived.Test.YtmjenmhidnkbdaaHr
namespace Go.Proofs.Ytmjenmhidnkbdaa.P
open Go.RowKit Go.Shelf Go.Proofs.YtmjenmhidnkbdaaW.PrintWords Go.Proofs.YtmjenmhidnkbdaaW.PrintLast Go.Proofs.YtmjenmhidnkbdaaW.PrintMore
set_option linter.unusedVariables false

def bridge_Add.f (l : List S36) (nx : Int) (id : Int) : Option (List S36 × Int × Int) := if l.length ≤ 2000 then some (editF (addOp id) l nx) else none
theorem bridge_Add.calls (A0_0 : Option Addr) (c0_0 : Nat) (l0_0 : List S36) (a0_1 : Int) (id : Int) (r1 : List S36) (r2 r3 : Int) (w : World) (hr0_0 : Kd.C k36 w A0_0 l0_0.length l0_0) (hc0_0 : l0_0.length ≤ c0_0) (h : bridge_Add.f l0_0 a0_1 id = some (r1, r2, r3)) :
    Calls Try.prog 21 #[.agg #[.slice A0_0 l0_0.length c0_0, .int .i64 a0_1], .int .i64 id] w fun e w' => ∃ v0_ : Value, e = .returned (.tuple #[.agg #[v0_, .int .i64 r2], .int .i64 r3]) ∧ Kd.R k36 36 w' w.heap.size (fun _ => True) v0_ r1 ∧ Below w.heap.size w w' := by
  unfold bridge_Add.f at h
  split at h
  · rename_i hl
    have e := Option.some.inj h
    refine (Add_any A0_0 c0_0 l0_0 a0_1 id w hr0_0 hl).mono ?_
    rintro e w' ⟨A', c', rfl, hO, hb⟩
    have e1 := congrArg (fun x : List S36 × Int × Int => x.1) e
    have e2 := congrArg (fun x : List S36 × Int × Int => x.2.1) e
    have e3 := congrArg (fun x : List S36 × Int × Int => x.2.2) e
    simp only at e1 e2 e3
    rw [e1, e2, e3]
    rw [e1] at hO
    exact ⟨_, rfl, hO.R, hb⟩
  · cases h

def bridge_Remove.f (l : List S36) (nx : Int) (id : Int) : Option (List S36 × Int × Int) := if l.length ≤ 2000 then some (editF (removeOp id) l nx) else none
theorem bridge_Remove.calls (A0_0 : Option Addr) (c0_0 : Nat) (l0_0 : List S36) (a0_1 : Int) (id : Int) (r1 : List S36) (r2 r3 : Int) (w : World) (hr0_0 : Kd.C k36 w A0_0 l0_0.length l0_0) (hc0_0 : l0_0.length ≤ c0_0) (h : bridge_Remove.f l0_0 a0_1 id = some (r1, r2, r3)) :
    Calls Try.prog 22 #[.agg #[.slice A0_0 l0_0.length c0_0, .int .i64 a0_1], .int .i64 id] w fun e w' => ∃ v0_ : Value, e = .returned (.tuple #[.agg #[v0_, .int .i64 r2], .int .i64 r3]) ∧ Kd.R k36 36 w' w.heap.size (fun _ => True) v0_ r1 ∧ Below w.heap.size w w' := by
  unfold bridge_Remove.f at h
  split at h
  · rename_i hl
    have e := Option.some.inj h
    refine (Remove_any A0_0 c0_0 l0_0 a0_1 id w hr0_0 hl).mono ?_
    rintro e w' ⟨A', c', rfl, hO, hb⟩
    have e1 := congrArg (fun x : List S36 × Int × Int => x.1) e
    have e2 := congrArg (fun x : List S36 × Int × Int => x.2.1) e
    have e3 := congrArg (fun x : List S36 × Int × Int => x.2.2) e
    simp only at e1 e2 e3
    rw [e1, e2, e3]
    rw [e1] at hO
    exact ⟨_, rfl, hO.R, hb⟩
  · cases h

def bridge_Connect.f (l : List S36) (nx : Int) (x y : Int) : Option (List S36 × Int × Int) := if l.length ≤ 2000 then some (editF (connectOp x y) l nx) else none
theorem bridge_Connect.calls (A0_0 : Option Addr) (c0_0 : Nat) (l0_0 : List S36) (a0_1 : Int) (x y : Int) (r1 : List S36) (r2 r3 : Int) (w : World) (hr0_0 : Kd.C k36 w A0_0 l0_0.length l0_0) (hc0_0 : l0_0.length ≤ c0_0) (h : bridge_Connect.f l0_0 a0_1 x y = some (r1, r2, r3)) :
    Calls Try.prog 14 #[.agg #[.slice A0_0 l0_0.length c0_0, .int .i64 a0_1], .int .i64 x, .int .i64 y] w fun e w' => ∃ v0_ : Value, e = .returned (.tuple #[.agg #[v0_, .int .i64 r2], .int .i64 r3]) ∧ Kd.R k36 36 w' w.heap.size (fun _ => True) v0_ r1 ∧ Below w.heap.size w w' := by
  unfold bridge_Connect.f at h
  split at h
  · rename_i hl
    have e := Option.some.inj h
    refine (Connect_any A0_0 c0_0 l0_0 a0_1 x y w hr0_0 hl).mono ?_
    rintro e w' ⟨A', c', rfl, hO, hb⟩
    have e1 := congrArg (fun x : List S36 × Int × Int => x.1) e
    have e2 := congrArg (fun x : List S36 × Int × Int => x.2.1) e
    have e3 := congrArg (fun x : List S36 × Int × Int => x.2.2) e
    simp only at e1 e2 e3
    rw [e1, e2, e3]
    rw [e1] at hO
    exact ⟨_, rfl, hO.R, hb⟩
  · cases h

def bridge_Merge.f (l : List S36) (nx : Int) (x y : Int) : Option (List S36 × Int × Int) := if l.length ≤ 2000 then some (editF (mergeOp x y) l nx) else none
theorem bridge_Merge.calls (A0_0 : Option Addr) (c0_0 : Nat) (l0_0 : List S36) (a0_1 : Int) (x y : Int) (r1 : List S36) (r2 r3 : Int) (w : World) (hr0_0 : Kd.C k36 w A0_0 l0_0.length l0_0) (hc0_0 : l0_0.length ≤ c0_0) (h : bridge_Merge.f l0_0 a0_1 x y = some (r1, r2, r3)) :
    Calls Try.prog 20 #[.agg #[.slice A0_0 l0_0.length c0_0, .int .i64 a0_1], .int .i64 x, .int .i64 y] w fun e w' => ∃ v0_ : Value, e = .returned (.tuple #[.agg #[v0_, .int .i64 r2], .int .i64 r3]) ∧ Kd.R k36 36 w' w.heap.size (fun _ => True) v0_ r1 ∧ Below w.heap.size w w' := by
  unfold bridge_Merge.f at h
  split at h
  · rename_i hl
    have e := Option.some.inj h
    refine (Merge_any A0_0 c0_0 l0_0 a0_1 x y w hr0_0 hl).mono ?_
    rintro e w' ⟨A', c', rfl, hO, hb⟩
    have e1 := congrArg (fun x : List S36 × Int × Int => x.1) e
    have e2 := congrArg (fun x : List S36 × Int × Int => x.2.1) e
    have e3 := congrArg (fun x : List S36 × Int × Int => x.2.2) e
    simp only at e1 e2 e3
    rw [e1, e2, e3]
    rw [e1] at hO
    exact ⟨_, rfl, hO.R, hb⟩
  · cases h

def bridge_Hold.f (l : List S36) (nx : Int) (id : Int) (on : Bool) : Option (List S36 × Int × Int) := if l.length ≤ 2000 then some (editF (holdOp id on) l nx) else none
theorem bridge_Hold.calls (A0_0 : Option Addr) (c0_0 : Nat) (l0_0 : List S36) (a0_1 : Int) (id : Int) (on : Bool) (r1 : List S36) (r2 r3 : Int) (w : World) (hr0_0 : Kd.C k36 w A0_0 l0_0.length l0_0) (hc0_0 : l0_0.length ≤ c0_0) (h : bridge_Hold.f l0_0 a0_1 id on = some (r1, r2, r3)) :
    Calls Try.prog 18 #[.agg #[.slice A0_0 l0_0.length c0_0, .int .i64 a0_1], .int .i64 id, .bool on] w fun e w' => ∃ v0_ : Value, e = .returned (.tuple #[.agg #[v0_, .int .i64 r2], .int .i64 r3]) ∧ Kd.R k36 36 w' w.heap.size (fun _ => True) v0_ r1 ∧ Below w.heap.size w w' := by
  unfold bridge_Hold.f at h
  split at h
  · rename_i hl
    have e := Option.some.inj h
    refine (Hold_any A0_0 c0_0 l0_0 a0_1 id on w hr0_0 hl).mono ?_
    rintro e w' ⟨A', c', rfl, hO, hb⟩
    have e1 := congrArg (fun x : List S36 × Int × Int => x.1) e
    have e2 := congrArg (fun x : List S36 × Int × Int => x.2.1) e
    have e3 := congrArg (fun x : List S36 × Int × Int => x.2.2) e
    simp only at e1 e2 e3
    rw [e1, e2, e3]
    rw [e1] at hO
    exact ⟨_, rfl, hO.R, hb⟩
  · cases h

def bridge_Check.f (l : List S36) (nx : Int) : Option Int := if l.length ≤ 2000 then some (checkE l nx) else none
theorem bridge_Check.calls (A0_0 : Option Addr) (c0_0 : Nat) (l0_0 : List S36) (a0_1 : Int) (r : Int) (w : World) (hr0_0 : Kd.C k36 w A0_0 l0_0.length l0_0) (hc0_0 : l0_0.length ≤ c0_0) (h : bridge_Check.f l0_0 a0_1 = some r) :
    Calls Try.prog 12 #[.agg #[.slice A0_0 l0_0.length c0_0, .int .i64 a0_1]] w fun e w' => e = .returned (.int .i64 r) ∧ Below w.heap.size w w' := by
  unfold bridge_Check.f at h
  split at h
  · rename_i hl
    obtain rfl := Option.some.inj h
    exact check_any A0_0 c0_0 l0_0 a0_1 w hr0_0 hl
  · cases h

def bridge_Hears.f (l : List S36) (nx id : Int) : Option (List Int) := if l.length ≤ 2000 then some (hearsL l id) else none
theorem bridge_Hears.calls (A0_0 : Option Addr) (c0_0 : Nat) (l0_0 : List S36) (a0_1 : Int) (id : Int) (r : List Int) (w : World) (hr0_0 : Kd.C k36 w A0_0 l0_0.length l0_0) (hc0_0 : l0_0.length ≤ c0_0) (h : bridge_Hears.f l0_0 a0_1 id = some r) :
    Calls Try.prog 16 #[.agg #[.slice A0_0 l0_0.length c0_0, .int .i64 a0_1], .int .i64 id] w fun e w' => ∃ v0_ : Value, e = .returned v0_ ∧ Kd.R (Kd.int .i64) 3 w' w.heap.size (fun _ => True) v0_ r ∧ Below w.heap.size w w' := by
  unfold bridge_Hears.f at h
  split at h
  · rename_i hl
    obtain rfl := Option.some.inj h
    exact hears_any A0_0 c0_0 l0_0 a0_1 id w hr0_0 hl
  · cases h
end Go.Proofs.Ytmjenmhidnkbdaa.P
