/- (target).hold: a leg is put on hold or taken off hold. -/
import Derived.Test.YtmjenmhidnkbdaaHf
namespace Go.Proofs.Ytmjenmhidnkbdaa.P
open Go.RowKit Go.Shelf Go.Proofs.YtmjenmhidnkbdaaW.PrintWords Go.Proofs.YtmjenmhidnkbdaaW.PrintLast Go.Proofs.YtmjenmhidnkbdaaW.PrintMore
set_option linter.unusedVariables false
set_option linter.unusedSimpArgs false

/-- An editor at block B: its list lies in a row of the call's own (from block base on). -/
structure Ed (w : World) (base B : Nat) (A : Option Addr) (c : Nat) (l : List S36) (nx : Int) : Prop where
  le : base ≤ B
  bl : base ≤ w.heap.size
  hB : w.heap[B]? = some (.cells #[.slice A l.length c, .int .i64 nx] 63 (0, 0))
  hO : Own3 w base A c l
theorem Ed.lt {w : World} {base B : Nat} {A : Option Addr} {c : Nat} {l : List S36} {nx : Int} (h : Ed w base B A c l nx) : B < w.heap.size := blk_lt h.hB
theorem Ed.below {w w' : World} {base B : Nat} {A : Option Addr} {c : Nat} {l : List S36} {nx : Int} (h : Ed w base B A c l nx) (hb : Below w.heap.size w w') : Ed w' base B A c l nx :=
  ⟨h.le, Nat.le_trans h.bl hb.size, (hb.block B h.lt).trans h.hB, h.hO.below hb⟩
theorem Ed.alloc {w : World} {base B : Nat} {A : Option Addr} {c : Nat} {l : List S36} {nx : Int} (h : Ed w base B A c l nx) (o : Obj) : Ed (w.alloc o) base B A c l nx :=
  h.below ((Below.refl _ w).alloc (Nat.le_refl _) _)
theorem Ed.cell0 {w : World} {base B : Nat} {A : Option Addr} {c : Nat} {l : List S36} {nx : Int} (h : Ed w base B A c l nx) : w.cell? ⟨B, 0, none⟩ = some (.slice A l.length c) := (blk_cell h.hB 0).trans rfl
theorem Ed.cell1 {w : World} {base B : Nat} {A : Option Addr} {c : Nat} {l : List S36} {nx : Int} (h : Ed w base B A c l nx) : w.cell? ⟨B, 1, none⟩ = some (.int .i64 nx) := (blk_cell h.hB 1).trans rfl
theorem Ed.free {w : World} {base B : Nat} {A : Option Addr} {c : Nat} {l : List S36} {nx : Int} (h : Ed w base B A c l nx) (i : Nat) : w.frozen? ⟨B, i, none⟩ = false := blk_frozen h.hB i
theorem drawn {B : Nat} {w w' : World} (h : Below B w w') (n : Nat) : Below B w (w'.drewN n) := by
  induction n with
  | zero => exact h
  | succ n ih => rw [← World.drew_drewN]; exact ih.drew
theorem Ed.drewN {w : World} {base B : Nat} {A : Option Addr} {c : Nat} {l : List S36} {nx : Int} (h : Ed w base B A c l nx) (n : Nat) : Ed (w.drewN n) base B A c l nx := h.below (drawn (Below.refl _ w) n)
/-- Its row has been turned (and new blocks laid). -/
theorem Ed.turned {w w' : World} {base B g : Nat} {c : Nat} {l l' : List S36} {nx : Int} (h : Ed w base B (some ⟨g, 0, none⟩) c l nx) (hg : w.grownBy w' (some g)) (hO : Own3 w' base (some ⟨g, 0, none⟩) c l') (hl : l'.length = l.length) :
    Ed w' base B (some ⟨g, 0, none⟩) c l' nx :=
  ⟨h.le, Nat.le_trans h.bl hg.size, by rw [hl]; exact (hg.block B h.lt (by have := h.hO.ne h.hB (by decide); simpa using this)).trans h.hB, hO⟩
theorem Ed.base {w : World} {base B g : Nat} {c : Nat} {l : List S36} {nx : Int} (h : Ed w base B (some ⟨g, 0, none⟩) c l nx) : base ≤ g := (World.ownsRow.lt h.hO g rfl).1
theorem below_of_grown {w w' : World} {base g : Nat} (hb : base ≤ w.heap.size) (hg : w.grownBy w' (some g)) (h : base ≤ g) : Below base w w' :=
  (Below.refl base w).grown hg hb (fun k e => by cases e; exact h)

/-- What an operation of an editor makes of it: an answer, the list, the next number. -/
abbrev Does := List S36 → Int → Int × List S36 × Int

def DoOp (f : Nat) (t : Value) (op : Does) : Prop := ∀ (w : World) (base B : Nat) (A : Option Addr) (c : Nat) (l : List S36) (nx : Int), l.length ≤ 2000 → 0 ≤ nx → nx ≤ 1099511627776 → Ed w base B A c l nx →
  Calls Try.prog f #[t, .pointer (some ⟨B, 0, none⟩)] w fun e w' => ∃ A' c', e = .returned (.int .i64 (op l nx).1) ∧ Ed w' base B A' c' (op l nx).2.1 (op l nx).2.2 ∧ Below base w w'

/-- The leg at an index. -/
abbrev at_ (l : List S36) (i : Int) : S36 := rd_T36 l i

def holdOp (id : Int) (on : Bool) : Does := fun l nx =>
  let i := fnd l id
  if i < 0 ∨ (at_ l i).f1 = 0 ∨ (at_ l i).f2 = on then (180, l, nx) else (0, l.set i.toNat ⟨(at_ l i).f0, (at_ l i).f1, on⟩, nx)

theorem legAt_some {A : Option Addr} {w : World} {base c : Nat} {l : List S36} (h : Own3 w base A c l) (k : Nat) (hk : k < l.length) : ∃ g, A = some ⟨g, 0, none⟩ ∧ legAt A (k : Int) = .pointer (some ⟨g, k * 3, none⟩) := by
  obtain ⟨g, rfl, _⟩ := h.form (by omega)
  refine ⟨g, rfl, ?_⟩
  simp [legAt, addr_leg]
theorem legAt_none {A : Option Addr} {i : Int} (h : i < 0) : legAt A i = .pointer none := by simp [legAt, show ¬ 0 ≤ i by omega]

set_option maxRecDepth 100000 in
set_option maxHeartbeats 2000000 in
theorem hold_any (id y : Int) (on : Bool) : DoOp 39 (.agg #[.int .i64 id, .int .i64 y, .bool on]) (holdOp id on) := by
  intro w base B A c l nx hl _ _ hE
  have hE1 := hE.alloc (.cells #[.int .i64 id, .int .i64 y, .bool on] 60)
  have hf := find_any B A c l nx id _ hE1.hB hE1.hO.C
  have hb1 : Below base w (w.alloc (.cells #[.int .i64 id, .int .i64 y, .bool on] 60)) := (Below.refl _ w).alloc hE.bl _
  have hlt := fnd_lt (fun x => x.f0 == id) l
  have hge := idx_ge (fun x => x.f0 == id) l
  change fnd l id < _ at hlt
  change -1 ≤ fnd l id at hge
  unfold holdOp
  generalize fnd l id = i at *
  have hE1 := Aside0.mk hE1
  have hb1 := Aside0.mk hb1
  clear hE
  by_cases hi : i < 0
  · simp only [hi, true_or, if_true]
    rw [legAt_none hi] at hf
    clear hi hlt hge
    go_enter Try.func39, Try.ntmps39
    go_wp2_with (go_at_call 37; refine hf.mono ?_; rintro e w' ⟨rfl, hb⟩; have HB := Aside0.mk hb; clear hb)
    go_quiet (fail)
    go_wp2
    go_ret
    exact ⟨A, c, rfl, (hE1.out.below HB.out).drewN _, hb1.out.trans (drawn (HB.out.mono (by have := hE1.out.bl; omega)) _)⟩
  · obtain ⟨k, rfl⟩ : ∃ k : Nat, i = k := ⟨i.toNat, by omega⟩
    have hk : k < l.length := by omega
    obtain ⟨g, rfl, hlg⟩ := legAt_some hE1.out.hO k hk
    rw [hlg] at hf
    have hx := rd_at l k hk
    simp only [Int.toNat_natCast, hi, false_or]
    show Calls _ _ _ _ (fun e w' => _)
    have HX := Aside0.mk hx
    clear hi hlt hge hlg hx
    have e0 : at_ l (k : Int) = rd_T36 l (k : Int) := rfl
    rw [e0]
    clear e0
    generalize rd_T36 l (k : Int) = x at *
    obtain ⟨x0, x1, x2⟩ := x
    by_cases h1 : x1 = 0
    · subst h1
      simp only [true_or, if_true]
      go_enter Try.func39, Try.ntmps39
      go_wp2_with (go_at_call 37; refine hf.mono ?_; rintro e w' ⟨rfl, hb⟩; have hE2 := hE1.out.below hb; have k1 := hE2.hO.cell (j := 1) HX.out rfl; have hE3 := Aside0.mk hE2; have HB := Aside0.mk hb; clear hb hE2)
      go_quiet (fail)
      go_wp2
      go_ret
      exact ⟨_, c, rfl, hE3.out.drewN _, hb1.out.trans (drawn (HB.out.mono (by have := hE1.out.bl; omega)) _)⟩
    · have h1b : (x1 == 0) = false := by simpa using h1
      by_cases h2 : x2 = on
      · subst h2
        simp only [h1, false_or, if_true]
        clear h1
        go_enter Try.func39, Try.ntmps39
        go_wp2_with (go_at_call 37; refine hf.mono ?_; rintro e w' ⟨rfl, hb⟩; have hE2 := hE1.out.below hb; have k1 := hE2.hO.cell (j := 1) HX.out rfl; have k2 := hE2.hO.cell (j := 2) HX.out rfl; have k3 : w'.cell? ⟨w.heap.size, 2, none⟩ = some (.bool x2) := (hb.cell (p := ⟨w.heap.size, 2, none⟩) (by simp)).trans ((blk_cell (heap_alloc_new w _) 2).trans rfl); have hE3 := Aside0.mk hE2; have HB := Aside0.mk hb; clear hb hE2)
        go_quiet (fail)
        go_wp2
        go_ret
        exact ⟨_, c, rfl, hE3.out.drewN _, hb1.out.trans (drawn (HB.out.mono (by have := hE1.out.bl; omega)) _)⟩
      · have h2b : (x2 == on) = false := by simpa using h2
        simp only [h1, h2, false_or, if_false]
        clear h1 h2
        go_enter Try.func39, Try.ntmps39
        go_wp2_with (go_at_call 37; refine hf.mono ?_; rintro e w' ⟨rfl, hb⟩; have hE2 := hE1.out.below hb; have k1 := hE2.hO.cell (j := 1) HX.out rfl; have k2 := hE2.hO.cell (j := 2) HX.out rfl; have k4 := hE2.hO.free (k * 3 + 2); have k3 : w'.cell? ⟨w.heap.size, 2, none⟩ = some (.bool on) := (hb.cell (p := ⟨w.heap.size, 2, none⟩) (by simp)).trans ((blk_cell (heap_alloc_new w _) 2).trans rfl); have hE3 := Aside0.mk hE2; have HB := Aside0.mk hb; clear hb hE2)
        go_quiet (fail)
        go_wp2
        go_ret
        have hE4 := hE3.out.drewN nq
        obtain ⟨hp, hg⟩ := hE4.hO.put (j := 2) (u := .bool on) (y := ⟨x0, x1, on⟩) HX.out (by omega) rfl
        refine ⟨_, c, rfl, hE4.turned hg hp (by simp), ?_⟩
        exact (hb1.out.trans (drawn (HB.out.mono (by have := hE1.out.bl; omega)) _)).trans (below_of_grown hE4.bl hg hE4.base)
end Go.Proofs.Ytmjenmhidnkbdaa.P
