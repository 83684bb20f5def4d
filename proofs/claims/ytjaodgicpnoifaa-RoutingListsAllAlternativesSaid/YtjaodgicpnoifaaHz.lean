/- routing's functions told by hand, in the form in which the printed texts call for them. -/
import Derived.Test.YtjaodgicpnoifaaHt
namespace Go.Proofs.Ytjaodgicpnoifaa.P
open Go.RowKit Go.Shelf Go.Proofs.YtjaodgicpnoifaaW.PrintWords Go.Proofs.YtjaodgicpnoifaaW.PrintLast Go.Proofs.YtjaodgicpnoifaaW.PrintMore
set_option linter.unusedVariables false

/-- Lists of a size that a machine can hold. -/
def okTab (l : List S47) : Bool := decide (l.length ≤ 1000000) && l.all (fun z => decide (z.f1.length ≤ 1000000))
theorem okTab_1 {l : List S47} (h : okTab l = true) : l.length ≤ 1000000 ∧ ∀ z ∈ l, z.f1.length ≤ 1000000 := by
  simpa [okTab] using h
def routing_Check.f (l : List S47) (g : Int) : Option Int := if okTab l = true then some (chkF l g) else none
theorem routing_Check.calls (A0 : Option Addr) (c0 : Nat) (l0 : List S47) (a1 : Int) (r : Int) (w : World) (hr0 : Kd.C k47 w A0 l0.length l0) (hc0 : l0.length ≤ c0) (h : routing_Check.f l0 a1 = some r) :
    Calls Try.prog 19 #[.slice A0 l0.length c0, .int .i64 a1] w fun e w' => e = .returned (.int .i64 r) ∧ Below w.heap.size w w' := by
  unfold routing_Check.f at h
  split at h
  · rename_i hl
    obtain ⟨h1, h2⟩ := okTab_1 hl
    have e := Option.some.inj h
    subst e
    exact check_any A0 c0 l0 a1 w hr0 h1 h2
  · cases h
def routing_Order.f (l : List S47) (t s : Int) : Option (List Int × Int) := if okTab l = true then some (ordF l t s) else none
theorem routing_Order.calls (A0 : Option Addr) (c0 : Nat) (l0 : List S47) (a1 a2 : Int) (r1 : List Int) (r2 : Int) (w : World) (hr0 : Kd.C k47 w A0 l0.length l0) (hc0 : l0.length ≤ c0) (h : routing_Order.f l0 a1 a2 = some (r1, r2)) :
    Calls Try.prog 21 #[.slice A0 l0.length c0, .int .i64 a1, .int .i64 a2] w fun e w' => ∃ v0_ : Value, e = .returned (.tuple #[v0_, .int .i64 r2]) ∧ Kd.R (Kd.int .i64) 3 w' w.heap.size (fun _ => True) v0_ r1 ∧ Below w.heap.size w w' := by
  unfold routing_Order.f at h
  split at h
  · rename_i hl
    obtain ⟨h1, h2⟩ := okTab_1 hl
    exact order_any A0 c0 l0 a1 a2 w hr0 h1 h2 r1 r2 (Option.some.inj h)
  · cases h
def routing_Select.f (l : List S47) (t s hops : Int) (u : List Bool) : Option (Int × Int) := if okTab l = true then some (selF l t s hops u) else none
theorem routing_Select.calls (A0 : Option Addr) (c0 : Nat) (l0 : List S47) (a1 a2 a3 : Int) (A4 : Option Addr) (c4 : Nat) (l4 : List Bool) (r1 r2 : Int) (w : World) (hr0 : Kd.C k47 w A0 l0.length l0) (hc0 : l0.length ≤ c0) (hr4 : Kd.C Kd.bool w A4 l4.length l4) (hc4 : l4.length ≤ c4)
    (h : routing_Select.f l0 a1 a2 a3 l4 = some (r1, r2)) :
    Calls Try.prog 23 #[.slice A0 l0.length c0, .int .i64 a1, .int .i64 a2, .int .i64 a3, .slice A4 l4.length c4] w fun e w' => e = .returned (.tuple #[.int .i64 r1, .int .i64 r2]) ∧ Below w.heap.size w w' := by
  unfold routing_Select.f at h
  split at h
  · rename_i hl
    obtain ⟨h1, h2⟩ := okTab_1 hl
    have e := Option.some.inj h
    have hs := select_any A0 c0 l0 a1 a2 a3 A4 c4 l4 w hr0 hr4 h1 h2
    rw [e] at hs
    exact hs
  · cases h
def routing_Distances.f (n : Int) (l : List (List Int)) (t : List Int) : Option (List Int × Int) := if l.length ≤ 1000000 then some (distsF n l t) else none
theorem routing_Distances.calls (a0 : Int) (A1 : Option Addr) (c1 : Nat) (l1 : List (List Int)) (A2 : Option Addr) (c2 : Nat) (l2 : List Int) (r1 : List Int) (r2 : Int) (w : World) (hr1 : Kd.C (Kd.slice 3 (Kd.int .i64)) w A1 l1.length l1) (hc1 : l1.length ≤ c1)
    (hr2 : Kd.C (Kd.int .i64) w A2 l2.length l2) (hc2 : l2.length ≤ c2) (h : routing_Distances.f a0 l1 l2 = some (r1, r2)) :
    Calls Try.prog 13 #[.int .i64 a0, .slice A1 l1.length c1, .slice A2 l2.length c2] w fun e w' => ∃ v0_ : Value, e = .returned (.tuple #[v0_, .int .i64 r2]) ∧ Kd.R (Kd.int .i64) 3 w' w.heap.size (fun _ => True) v0_ r1 ∧ Below w.heap.size w w' := by
  unfold routing_Distances.f at h
  split at h
  · rename_i hl
    have e := Option.some.inj h
    have hs := dists_any a0 A1 c1 l1 A2 c2 l2 w hr1 hl hr2
    rw [e] at hs
    exact hs
  · cases h
def routing_Build.f (n : Int) (l : List (List Int)) (sf : Int) (cs : List Int) : Option (List Int × List S47 × Int) := if l.length ≤ 1000000 then some (buildF n l sf cs) else none
theorem routing_Build.calls (a0 : Int) (A1 : Option Addr) (c1 : Nat) (l1 : List (List Int)) (a2 : Int) (A3 : Option Addr) (c3 : Nat) (l3 : List Int) (r1 : List Int) (r2 : List S47) (r3 : Int) (w : World) (hr1 : Kd.C (Kd.slice 3 (Kd.int .i64)) w A1 l1.length l1) (hc1 : l1.length ≤ c1)
    (hr3 : Kd.C (Kd.int .i64) w A3 l3.length l3) (hc3 : l3.length ≤ c3) (h : routing_Build.f a0 l1 a2 l3 = some (r1, r2, r3)) :
    Calls Try.prog 15 #[.int .i64 a0, .slice A1 l1.length c1, .int .i64 a2, .slice A3 l3.length c3] w fun e w' => ∃ v0_ v1_ : Value, e = .returned (.tuple #[v0_, v1_, .int .i64 r3]) ∧ Kd.R (Kd.int .i64) 3 w' w.heap.size (fun _ => True) v0_ r1 ∧ Kd.S k47 47 w' w.heap.size (fun _ => True) v1_ r2 ∧ Below w.heap.size w w' := by
  unfold routing_Build.f at h
  split at h
  · rename_i hl
    have e := Option.some.inj h
    have hs := build_any a0 A1 c1 l1 a2 A3 c3 l3 w hr1 hl hr3
    rw [e] at hs
    exact hs
  · cases h
end Go.Proofs.Ytjaodgicpnoifaa.P
