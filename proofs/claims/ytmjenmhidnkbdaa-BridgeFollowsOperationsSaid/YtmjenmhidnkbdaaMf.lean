/- What BridgeFollowsOperations holds between its rounds. -/
import Derived.Test.YtmjenmhidnkbdaaMe
import Derived.Test.YtmjenmhidnkbdaaPx14
import Derived.Test.YtmjenmhidnkbdaaMo
namespace Go.Proofs.Ytmjenmhidnkbdaa.P
open Go.RowKit Go.Shelf Go.Proofs.YtmjenmhidnkbdaaW.PrintWords Go.Proofs.YtmjenmhidnkbdaaW.PrintLast Go.Proofs.YtmjenmhidnkbdaaW.PrintMore
set_option linter.unusedVariables false
set_option linter.unusedSimpArgs false

/-- The empty model's cells. -/
def m0 : Array Value := Array.replicate 80 (.bool false)
theorem m0_size : m0.size = 80 := by simp [m0]
theorem m0_at {i : Nat} (hi : i < 80) : m0[i]? = some (.bool false) := by simp [m0, hi]
theorem build49 {ops : Array Oper} {Q : Exit → Act → World → Prop} {rest : List Oper} {o : Oper} {a : Act} {W : World} {N : Tmp} (g : o.guard = none) (h : o.op = .build 49 #[]) (d : o.dst = some N)
    (hk : wpList Try.prog ops Q rest (a.put (some N) (.agg m0)) W) : wpList Try.prog ops Q (o :: rest) a W := by
  refine wpList_plain g fun K hK => ?_
  obtain ⟨hz, hzs⟩ := zero_of_info (P := Try.prog) (t := 49) (v := .agg (Array.replicate 80 (.bool false))) (n := 80) (by kernel_rfl)
  have r : (execOp a.eval o).run Try.prog W = .ok (.value (.agg m0)) W := by
    have h1 : (Instr.build 49 #[]).run Try.prog W = .ok (.agg m0) W := by
      have s46 : (sizeOf 46).run Try.prog W = .ok 8 W := by kernel_rfl
      have s47 : (sizeOf 47).run Try.prog W = .ok 64 W := by kernel_rfl
      unfold Instr.build
      simp [hz, run_underlying Try.underlying49, s46, s47, Result.andThen, Value.cells, m0, Instr.fill]
    unfold execOp
    simp [h, h1, Result.andThen]
  unfold Oper.wp
  rw [r, Oper.upon_value, d]
  exact hK _ _ hk
theorem MB.new (W : World) : MB W.heap.size (fun _ => false) (W.alloc (.cells m0 49)) := ⟨⟨m0, blk_new W _, m0_size, fun i hi => m0_at hi⟩⟩

/-- Between two rounds. -/
structure FI (w : World) (g3 gm : Nat) (A : Option Addr) (c : Nat) (l : List S36) (nx : Int) (F : Nat → Bool) (W : World) : Prop where
  X : Bx w.heap.size g3 A c l nx W
  m : MB gm F W
  b : Below w.heap.size w W
  l3 : w.heap.size ≤ g3
  lm : w.heap.size ≤ gm
  ne : g3 ≠ gm
  ok : Ok l nx
  sim : Sim l F
section
variable {w : World} {g3 gm : Nat} {A : Option Addr} {c : Nat} {l : List S36} {nx : Int} {F : Nat → Bool} {W W' : World}
theorem FI.below (h : FI w g3 gm A c l nx F W) (hb : Below W.heap.size W W') : FI w g3 gm A c l nx F W' := ⟨h.X.below hb, h.m.below h.m.lt hb, h.b.trans (hb.mono h.b.size), h.l3, h.lm, h.ne, h.ok, h.sim⟩
theorem FI.start {w1 : World} {A0 : Option Addr} {c0 : Nat} (hb : Below w.heap.size w w1) (hO : Own3 w1 w.heap.size A0 c0 []) :
    FI w w1.heap.size (w1.heap.size + 1) A0 c0 [] 1 (fun _ => false) ((w1.alloc (.cells #[.slice A0 0 c0, .int .i64 1] 24)).alloc (.cells m0 49)) := by
  have X : Bx w.heap.size w1.heap.size A0 c0 [] 1 (w1.alloc (.cells #[.slice A0 0 c0, .int .i64 1] 24)) := Bx.new hO
  have hs : (w1.alloc (.cells #[.slice A0 0 c0, .int .i64 1] 24)).heap.size = w1.heap.size + 1 := by simp
  have hal : Below (w1.alloc (.cells #[.slice A0 0 c0, .int .i64 1] 24)).heap.size (w1.alloc (.cells #[.slice A0 0 c0, .int .i64 1] 24)) ((w1.alloc (.cells #[.slice A0 0 c0, .int .i64 1] 24)).alloc (.cells m0 49)) := (Below.refl _ _).alloc (Nat.le_refl _) _
  have hM := MB.new (w1.alloc (.cells #[.slice A0 0 c0, .int .i64 1] 24))
  rw [hs] at hM
  refine ⟨X.below hal, hM, (hb.alloc hb.size _).alloc (by simp; have := hb.size; omega) _, hb.size, by have := hb.size; omega, by omega, ?_, ?_⟩
  · exact ⟨by decide, by decide, List.Pairwise.nil, by simp, by simp, by simp⟩
  · exact ⟨by simp, fun p _ => rfl, fun p _ => rfl, fun p q _ _ => by unfold jb; simp [cf, lk]⟩
/-- The model has been written. -/
theorem FI.model {F' : Nat → Bool} (h : FI w g3 gm A c l nx F W) (k : MW gm W F' W') (hs : Sim l F') : FI w g3 gm A c l nx F' W' := by
  have hb : Below w.heap.size w W' := h.b.grown k.g h.b.size (fun j e => by cases e; exact h.lm)
  have hO : Own3 W' w.heap.size A c l := h.X.O.other k.g fun g' e e2 => by
    cases e2
    subst e
    obtain ⟨cs, hc, _⟩ := h.m.ex
    exact h.X.O.ne hc (by decide) rfl
  exact ⟨⟨(k.g.block g3 h.X.lt (by simpa using h.ne)).trans h.X.h, hO⟩, k.m, hb, h.l3, h.lm, h.ne, h.ok, hs⟩
theorem own3_le {W : World} {base : Nat} {A : Option Addr} {c : Nat} {l : List S36} (h : Own3 W base A c l) : l.length ≤ c := by
  obtain ⟨A', c', e, hle, _⟩ := Kd.R_reads h.R
  simp only [Value.slice.injEq] at e
  omega
theorem MB.grown {gm g : Nat} {F : Nat → Bool} {W W' : World} (h : MB gm F W) (k : W.grownBy W' (some g)) (hne : gm ≠ g) : MB gm F W' := by
  obtain ⟨cs, h1, h2⟩ := h.ex
  exact ⟨⟨cs, (k.block gm (blk_lt h1) (by simpa using hne)).trans h1, h2⟩⟩
theorem Bx.model {base g gm : Nat} {A : Option Addr} {c : Nat} {l : List S36} {nx : Int} {F : Nat → Bool} {W W' : World} (h : Bx base g A c l nx W) (hm : MB gm F W) (k : W.grownBy W' (some gm)) : Bx base g A c l nx W' := by
  obtain ⟨cs, hc, _⟩ := hm.ex
  have hne : g ≠ gm := fun e => by
    subst e
    have := h.h.symm.trans hc
    simp at this
  refine ⟨(k.block g h.lt (by simpa using hne)).trans h.h, h.O.other k fun g' e e2 => ?_⟩
  cases e2
  subst e
  exact h.O.ne hc (by decide) rfl
/-- The bridge has been taken over. -/
theorem FI.turn {A' : Option Addr} {c' : Nat} {l' : List S36} {nx' : Int} (h : FI w g3 gm A c l nx F W) (hO : Own3 W w.heap.size A' c' l') {F' : Nat → Bool} (hm : MB gm F' W) (hok : Ok l' nx') (hs : Sim l' F') :
    FI w g3 gm A' c' l' nx' F' ((W.setCell ⟨g3, 0, none⟩ (.slice A' l'.length c')).setCell ⟨g3, 1, none⟩ (.int .i64 nx')) :=
  ⟨h.X.turn hO, (hm.grown (grownBy_setCell'' W g3 0 _) h.ne.symm).grown (grownBy_setCell'' _ g3 1 _) h.ne.symm, (h.b.setCell (p := ⟨g3, 0, none⟩) h.l3 _).setCell (p := ⟨g3, 1, none⟩) h.l3 _, h.l3, h.lm, h.ne, hok, hs⟩
theorem FI.c0 (h : FI w g3 gm A c l nx F W) : W.cell? ⟨g3, 0, none⟩ = some (.slice A l.length c) := h.X.c0
theorem FI.c1 (h : FI w g3 gm A c l nx F W) : W.cell? ⟨g3, 1, none⟩ = some (.int .i64 nx) := h.X.c1
/-- Who hears whom, as the model has it. -/
theorem FI.hears (h : FI w g3 gm A c l nx F W) {p q : Nat} (hp : p < 8) (hq : q < 8) : hb l (p : Int) (q : Int) = (F (16 + p * 8 + q) && !F (8 + p) && !F (8 + q)) := by
  rw [hb_jb h.ok, h.sim.jn p q hp hq, h.sim.hd p hp, h.sim.hd q hq]
end
end Go.Proofs.Ytmjenmhidnkbdaa.P
