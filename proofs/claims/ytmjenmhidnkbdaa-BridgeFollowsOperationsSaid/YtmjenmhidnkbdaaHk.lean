/- (target).remove: a leg leaves its conference and the bridge. -/
import Derived.Test.YtmjenmhidnkbdaaHj
namespace Go.Proofs.Ytmjenmhidnkbdaa.P
open Go.RowKit Go.Shelf Go.Proofs.YtmjenmhidnkbdaaW.PrintWords Go.Proofs.YtmjenmhidnkbdaaW.PrintLast Go.Proofs.YtmjenmhidnkbdaaW.PrintMore
set_option linter.unusedVariables false
set_option linter.unusedSimpArgs false

def removeOp (id : Int) : Does := fun l nx =>
  let i := fnd l id
  if i < 0 then (180, l, nx) else (0, rm (lv l i.toNat) id, nx)

def ids (l : List S36) : List Int := l.map S36.f0
theorem idx_ids (l m : List S36) (id : Int) (h : ids l = ids m) : fnd l id = fnd m id := by
  unfold fnd
  induction l generalizing m with
  | nil =>
    cases m with
    | nil => rfl
    | cons y m => simp [ids] at h
  | cons x l ih =>
    cases m with
    | nil => simp [ids] at h
    | cons y m =>
      simp only [ids, List.map_cons, List.cons.injEq] at h
      simp only [idx, h.1, ih m h.2]
theorem ids_out (l : List S36) (j : Nat) : ids (outOf l j) = ids l := by
  unfold ids outOf
  rw [List.map_set]
  by_cases h : j < l.length
  · refine List.ext_getElem? fun q => ?_
    by_cases e : j = q
    · subst e
      rw [List.getElem?_set_self (by simpa using h)]
      simp [rd_T36, h]
    · rw [List.getElem?_set_ne e]
  · rw [List.set_eq_of_length_le (by simp; omega)]
theorem ids_lv (l : List S36) (i : Nat) : ids (lv l i) = ids l := by
  unfold lv
  split
  · exact ids_out _ _
  · split
    · rw [ids_out, ids_out]
    · exact ids_out _ _

set_option maxRecDepth 100000 in
set_option maxHeartbeats 2000000 in
theorem remove_any (x y : Int) (on : Bool) : DoOp 42 (.agg #[.int .i64 x, .int .i64 y, .bool on]) (removeOp x) := by
  intro w base B A c l nx hl hn0 hn1 hE
  have hC := Cl.start (x := x) (y := y) (on := on) hE
  have hf := hC.find x
  have k1 := hC.tx
  have hC := Aside0.mk hC
  clear hE
  by_cases hi : fnd l x < 0
  · have HE := Aside0.mk (show removeOp x l nx = (180, l, nx) by simp [removeOp, hi])
    rw [legAt_none hi] at hf
    clear hi
    go_enter Try.func42, Try.ntmps42
    go_wp2_with (go_at_call 37; refine hf.mono ?_; rintro e W ⟨rfl, hW⟩; have HW := Aside0.mk hW; clear hW)
    go_ret
    rw [HE.out]
    exact ⟨A, c, rfl, HW.out.E, HW.out.b⟩
  · obtain ⟨i, hi'⟩ : ∃ i : Nat, fnd l x = i := ⟨(fnd l x).toNat, by omega⟩
    have hil : i < l.length := by have := fnd_lt (fun z => z.f0 == x) l; change fnd l x < _ at this; omega
    obtain ⟨g, rfl, hlx⟩ := legAt_some hC.out.E.hO i hil
    have HE := Aside0.mk (show removeOp x l nx = (0, rm (lv l i) x, nx) by simp [removeOp, hi'])
    have hfi : 0 ≤ idx (fun z => z.f0 == x) (lv l i) := by
      have := idx_ids (lv l i) l x (ids_lv l i)
      unfold fnd at this
      rw [this]
      change 0 ≤ fnd l x
      omega
    rw [hi', hlx] at hf
    clear hi hi' hlx
    go_enter Try.func42, Try.ntmps42
    go_wp2_with (go_at_call 37; refine hf.mono ?_; rintro e W ⟨rfl, hW⟩; have HW := Aside0.mk hW; clear hW; have hleave := leave_any B g c i l nx base W hil (by omega) HW.out.E.hB HW.out.E.hO)
    refine hleave.mono ?_
    rintro e w1 ⟨rfl, hg1, hO1⟩
    have E1 := HW.out.E.turned hg1 hO1 (lv_len l i)
    have B1 := HW.out.b.trans (below_of_grown HW.out.E.bl hg1 HW.out.E.base)
    have T1 := (hg1.block w.heap.size (blk_lt HW.out.t) (by have := HW.out.E.hO.ne HW.out.t (by decide); simpa using this)).trans HW.out.t
    have ll := lv_len l i
    rw [← ll] at hl
    have kc := E1.cell0
    have hdel := deleteFunc_any w.heap.size g c (lv l i) x y on base w1 E1.hO T1 hfi hl
    have hE1 := Aside0.mk (And.intro E1 B1)
    clear hleave hg1 hO1 E1 B1 T1 ll hl k1 hf hfi hil
    generalize lv l i = l1 at *
    go_wp2_with (go_at_call 57; refine hdel.mono ?_; rintro e w2 ⟨rfl, hO2, hg2⟩; have hB2 := (hg2.block B hE1.out.1.lt (by have := hE1.out.1.hO.ne hE1.out.1.hB (by decide); simpa using this)).trans hE1.out.1.hB; have kb2 : w2.cell? ⟨B, 0, none⟩ = some (.slice (some ⟨g, 0, none⟩) l1.length c) := (blk_cell hB2 0).trans rfl; have kf2 := blk_frozen hB2 0; have H2 := Aside0.mk (And.intro hO2 (And.intro hg2 hB2)); clear hO2 hg2 hB2)
    go_ret
    rw [HE.out]
    obtain ⟨hO2, hg2, hB2⟩ := H2.out
    have hne : B ≠ g := hE1.out.1.hO.ne hE1.out.1.hB (by decide)
    refine ⟨_, c, rfl, ⟨hE1.out.1.le, by have := hg2.size; have := hE1.out.1.bl; simp [World.setCell]; omega, ?_, hO2.other (grownBy_setCell'' w2 B 0 _) (fun g' e e2 => by cases e; cases e2; exact hne rfl)⟩, ?_⟩
    · have := blk_set hB2 0 (.slice (some ⟨g, 0, none⟩) (rm l1 x).length c)
      simpa using this
    · exact (hE1.out.2.trans (below_of_grown hE1.out.1.bl hg2 hE1.out.1.base)).setCell (p := ⟨B, 0, none⟩) hE1.out.1.le _
end Go.Proofs.Ytmjenmhidnkbdaa.P
