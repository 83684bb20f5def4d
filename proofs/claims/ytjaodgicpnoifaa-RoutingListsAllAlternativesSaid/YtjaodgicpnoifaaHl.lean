/- The network's block: whole loads and stores, single links. -/
import Derived.Test.YtjaodgicpnoifaaHk
namespace Go.Proofs.Ytjaodgicpnoifaa.P
open Go.RowKit Go.Shelf Go.Proofs.YtjaodgicpnoifaaW.PrintWords Go.Proofs.YtjaodgicpnoifaaW.PrintLast Go.Proofs.YtjaodgicpnoifaaW.PrintMore
set_option linter.unusedVariables false
set_option linter.unusedSimpArgs false

/-- A block that holds a network. -/
def NB (g : Nat) (n : Int) (F : Nat → Bool) (W : World) : Prop := W.heap[g]? = some (.cells (nw n F) 58 (0, 0))
section
variable {g : Nat} {n : Int} {F : Nat → Bool} {W W' : World}
theorem NB.lt (h : NB g n F W) : g < W.heap.size := blk_lt h
theorem NB.c0 (h : NB g n F W) : W.cell? ⟨g, 0, none⟩ = some (.int .i64 n) := (blk_cell h 0).trans (nw_0 n F)
theorem NB.cell (h : NB g n F W) {i : Nat} (hi : i < 36) : W.cell? ⟨g, 1 + i, none⟩ = some (.bool (F i)) := (blk_cell h (1 + i)).trans (nw_at n F hi)
theorem NB.frozen (h : NB g n F W) (i : Nat) : W.frozen? ⟨g, i, none⟩ = false := blk_frozen h i
theorem NB.below {B : Nat} (h : NB g n F W) (hB : g < B) (hb : Below B W W') : NB g n F W' := (hb.block _ hB).trans h
theorem nw_set (n : Int) (F : Nat → Bool) {i : Nat} (hi : i < 36) (b : Bool) : (nw n F).setIfInBounds (1 + i) (.bool b) = nw n (upd F i b) := by
  unfold nw nwL
  rw [List.setIfInBounds_toArray, Nat.add_comm 1 i, List.set_cons_succ]
  congr 2
  refine List.ext_getElem? fun k => ?_
  by_cases hk : k < 36
  · rw [List.getElem?_map, List.getElem?_range hk]
    by_cases e : k = i
    · subst e
      rw [List.getElem?_set_self (by simpa using hk)]
      simp [upd]
    · rw [List.getElem?_set_ne (fun h => e h.symm), List.getElem?_map, List.getElem?_range hk]
      simp [upd, e]
  · rw [List.getElem?_eq_none (by simp; omega), List.getElem?_eq_none (by simp; omega)]
theorem nw_n (n m : Int) (F : Nat → Bool) : (nw n F).setIfInBounds 0 (.int .i64 m) = nw m F := by
  unfold nw nwL
  rw [List.setIfInBounds_toArray]; rfl
theorem NB.set (h : NB g n F W) {i : Nat} (hi : i < 36) (b : Bool) : NB g n (upd F i b) (W.setCell ⟨g, 1 + i, none⟩ (.bool b)) := blk_put h (1 + i) _ (nw_set n F hi b)
theorem NB.setN (h : NB g n F W) (m : Int) : NB g m F (W.setCell ⟨g, 0, none⟩ (.int .i64 m)) := blk_put h 0 _ (nw_n n m F)
theorem NB.new (w : World) (n : Int) (F : Nat → Bool) : NB w.heap.size n F (w.alloc (.cells (nw n F) 58)) := blk_new w _
/-- The whole network out of its block, in whatever world holds it. -/
theorem run_nb (h : NB g n F W) : (loadVar 58 ⟨g, 0, none⟩).run Try.prog W = .ok (.agg (nw n F)) W :=
  run_loadVar_row W g 58 58 (nw n F) (0, 0) _ h Try.underlying58 rfl (by rw [nw_size]; exact info58)
theorem exec_nb {o : Oper} {a : Act} {p : Tmp} (h : NB g n F W) (ho : o.op = .load 58 (.tmp p)) (ha : a.eval (.tmp p) = .pointer (some ⟨g, 0, none⟩)) : (execOp a.eval o).run Try.prog W = .ok (.value (.agg (nw n F))) W := by
  unfold execOp
  simp [ho, ha, Instr.loadAt, Instr.sureAddr, run_nb h, Result.andThen]
/-- What was just read, written back: the same world. -/
theorem setRow_self (h : NB g n F W) : W.setRow g (nw n F) = W := by
  have hx : ∀ f : Obj → Obj, f (.cells (nw n F) 58 (0, 0)) = .cells (nw n F) 58 (0, 0) → W.heap.modify g f = W.heap := fun f hf => by
    refine Array.ext_getElem? fun i => ?_
    rw [Array.getElem?_modify]
    by_cases e : g = i
    · subst e
      have h' : W.heap[g]? = some (.cells (nw n F) 58 (0, 0)) := h
      rw [if_pos rfl, h', Option.map_some, hf]
    · rw [if_neg e]
  unfold World.setRow
  rw [hx _ rfl]
theorem store58 {ops : Array Oper} {Q : Exit → Act → World → Prop} {rest : List Oper} {o : Oper} {a : Act} {p q : Tmp} (gd : o.guard = none) (ho : o.op = .store 58 (.tmp p) (.tmp q)) (d : o.dst = none)
    (ha : a.eval (.tmp p) = .pointer (some ⟨g, 0, none⟩)) (hv : a.eval (.tmp q) = .agg (nw n F)) (h : NB g n F W) (hk : wpList Try.prog ops Q rest (a.put none undef) W) : wpList Try.prog ops Q (o :: rest) a W := by
  refine wpList_plain gd fun K hK => ?_
  have hs := run_storeVar_row (P := Try.prog) W g 58 58 (nw n F) (nw n F) h (by rw [nw_size]; exact info58) rfl (nw_one n F)
  rw [setRow_self h] at hs
  have r : (execOp a.eval o).run Try.prog W = .ok .skip W := by
    unfold execOp
    simp [ho, ha, hv, Instr.storeAt, Instr.sureAddr, hs, Result.andThen]
  unfold Oper.wp
  rw [r, Oper.upon_skip, d]
  exact hK _ _ hk
end
end Go.Proofs.Ytjaodgicpnoifaa.P
