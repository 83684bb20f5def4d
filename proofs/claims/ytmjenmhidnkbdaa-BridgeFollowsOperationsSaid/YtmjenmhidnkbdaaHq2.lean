/- bridge.Merge: edit called at a method's value. -/
import Derived.Test.YtmjenmhidnkbdaaHp
import Derived.Test.YtmjenmhidnkbdaaHi
namespace Go.Proofs.Ytmjenmhidnkbdaa.P
open Go.RowKit Go.Shelf Go.Proofs.YtmjenmhidnkbdaaW.PrintWords Go.Proofs.YtmjenmhidnkbdaaW.PrintLast Go.Proofs.YtmjenmhidnkbdaaW.PrintMore
set_option linter.unusedVariables false
set_option linter.unusedSimpArgs false

set_option maxRecDepth 100000 in
set_option maxHeartbeats 4000000 in
theorem Merge_any (A : Option Addr) (c : Nat) (l : List S36) (nx : Int) (x y : Int) (w : World) (hr : Kd.C k36 w A l.length l) (hlen : l.length ≤ 2000) :
    Calls Try.prog 20 #[.agg #[.slice A l.length c, .int .i64 nx], .int .i64 x, .int .i64 y] w fun e w' =>
      ∃ A' c', e = .returned (.tuple #[.agg #[.slice A' (editF (mergeOp x y) l nx).1.length c', .int .i64 (editF (mergeOp x y) l nx).2.1], .int .i64 (editF (mergeOp x y) l nx).2.2]) ∧ Own3 w' w.heap.size A' c' (editF (mergeOp x y) l nx).1 ∧ Below w.heap.size w w' := by
  have HS := Aside0.mk (EI.start (w := w) (A := A) (c := c) (l := l) (nx := nx))
  have hk0 : ((w.alloc (.cells #[.slice A l.length c, .int .i64 nx] 24)).alloc (.cells #[.slice none 0 0, .int .i64 0] 24)).cell? ⟨w.heap.size, 0, none⟩ = some (.slice A l.length c) := (blk_cell HS.out.t2 0).trans rfl
  have hk1 : ((w.alloc (.cells #[.slice A l.length c, .int .i64 nx] 24)).alloc (.cells #[.slice none 0 0, .int .i64 0] 24)).cell? ⟨w.heap.size, 1, none⟩ = some (.int .i64 nx) := (blk_cell HS.out.t2 1).trans rfl
  have hed := edit_any 40 (.agg #[.int .i64 x, .int .i64 y, .bool false]) (mergeOp x y) ((merge_any x y false).S) (enters_of Try.func40 (by kernel_rfl) rfl) A c l nx _ (Kd.C_below hr HS.out.b) hlen
  clear hr
  generalize editF (mergeOp x y) l nx = r at *
  obtain ⟨r1, r2, r3⟩ := r
  go_enter Try.func20, Try.ntmps20
  go_wp2_with (go_at_call 35; refine hed.mono ?_; rintro e w1 ⟨A', c', rfl, hO, hb⟩; have HI := Aside0.mk (HS.out.below HS.out.lt hb); have HO := Aside0.mk hO; have hc4 : w1.cell? ⟨w.heap.size + 1, 0, none⟩ = some (.slice none 0 0) := (blk_cell HI.out.t4 0).trans rfl; have hc5 : w1.cell? ⟨w.heap.size + 1, 1, none⟩ = some (.int .i64 0) := (blk_cell HI.out.t4 1).trans rfl; have hf4 := blk_frozen HI.out.t4 0; have hf5 := blk_frozen HI.out.t4 1; clear hO hb)
  refine bodyPost_ret (results_ct rfl _ _ (w.heap.size + 1) 24 #[.slice A' r1.length c', .int .i64 r2] (0, 0) _ rfl (blk_put (cs := #[.slice A' r1.length c', .int .i64 0]) (blk_put (cs := #[.slice none 0 0, .int .i64 0]) HI.out.t4 0 _ rfl) 1 _ rfl) Try.underlying24 rfl (by kernel_rfl)) rfl ?_
  exact ⟨A', c', rfl, edit_own (HO.out.lower (by have := HS.out.lt; omega)) HI.out.t4, HI.out.b.setCell (p := ⟨w.heap.size + 1, 0, none⟩) (by simp) _ |>.setCell (p := ⟨w.heap.size + 1, 1, none⟩) (by simp) _⟩
end Go.Proofs.Ytmjenmhidnkbdaa.P
