/- (target).add: a leg is added. -/
import Derived.Test.YtmjenmhidnkbdaaHm
namespace Go.Proofs.Ytmjenmhidnkbdaa.P
open Go.RowKit Go.Shelf Go.Proofs.YtmjenmhidnkbdaaW.PrintWords Go.Proofs.YtmjenmhidnkbdaaW.PrintLast Go.Proofs.YtmjenmhidnkbdaaW.PrintMore
set_option linter.unusedVariables false
set_option linter.unusedSimpArgs false

def Sorted (l : List S36) : Prop := l.Pairwise fun x y => x.f0 < y.f0
/-- An operation that may ask for a sorted list. -/
def DoOpS (f : Nat) (t : Value) (op : Does) : Prop := ∀ (w : World) (base B : Nat) (A : Option Addr) (c : Nat) (l : List S36) (nx : Int), l.length ≤ 2000 → 0 ≤ nx → nx ≤ 1099511627776 → Sorted l → Ed w base B A c l nx →
  Calls Try.prog f #[t, .pointer (some ⟨B, 0, none⟩)] w fun e w' => ∃ A' c', e = .returned (.int .i64 (op l nx).1) ∧ Ed w' base B A' c' (op l nx).2.1 (op l nx).2.2 ∧ Below base w w'
theorem DoOp.S {f : Nat} {t : Value} {op : Does} (h : DoOp f t op) : DoOpS f t op := fun w base B A c l nx a b d _ e => h w base B A c l nx a b d e

def okId (n : Int) : Bool := decide (0 ≤ n) && decide (n ≤ 1099511627776)
theorem inRange_any (n : Int) (w : World) : Calls Try.prog 34 #[.int .i64 n] w fun e w' => e = .returned (.bool (okId n)) ∧ w = w' := by
  unfold okId
  by_cases h : 0 ≤ n
  · have h' : decide (0 ≤ n) = true := by simpa using h
    rw [h', Bool.true_and]
    clear h'
    go_enter Try.func34, Try.ntmps34
    go_wp2
    go_ret
    exact ⟨rfl, rfl⟩
  · have h' : decide (0 ≤ n) = false := by simpa using h
    rw [h', Bool.false_and]
    clear h'
    go_enter Try.func34, Try.ntmps34
    go_wp2
    go_ret
    exact ⟨rfl, rfl⟩

def addOp (id : Int) : Does := fun l nx =>
  if okId id = false then (1, l, nx) else if there l id = true then (180, l, nx) else if l.length = 1024 then (2, l, nx) else (0, ins l (pos l id) ⟨id, 0, false⟩, nx)

theorem Cl.search {w : World} {base B : Nat} {A : Option Addr} {c : Nat} {l : List S36} {nx : Int} {tb : Nat} {x y : Int} {on : Bool} {W : World} (h : Cl w base B A c l nx tb x y on W) (id : Int) (hl : l.length ≤ 2000) (hs : Sorted l) :
    Calls Try.prog 53 #[.slice A l.length c, .int .i64 id, .func (.func 54) #[] #[]] W fun e w' => e = .returned (.tuple #[.int .i64 (pos l id), .bool (there l id)]) ∧ Cl w base B A c l nx tb x y on w' :=
  (search_any A c l id W h.E.hO.C hl hs).mono fun _ _ ⟨he, hb⟩ => ⟨he, h.below hb⟩

/-- What Insert leaves of the editor: its block as it was, the longer row. -/
structure Added (w : World) (base B : Nat) (A : Option Addr) (c : Nat) (l : List S36) (nx : Int) (A' : Option Addr) (c' : Nat) (l' : List S36) (W : World) : Prop where
  hB : W.heap[B]? = some (.cells #[.slice A l.length c, .int .i64 nx] 63 (0, 0))
  O : Own3 W base A' c' l'
  b : Below base w W
  bl : base ≤ W.heap.size
theorem Added.ed {w W : World} {base B : Nat} {A : Option Addr} {c : Nat} {l : List S36} {nx : Int} {A' : Option Addr} {c' p : Nat} {x : S36} (h : Added w base B A c l nx A' c' (ins l p x) W) (hp : p ≤ l.length) (hB : base ≤ B) :
    Ed (W.setCell ⟨B, 0, none⟩ (.slice A' (l.length + 1) c')) base B A' c' (ins l p x) nx := by
  refine ⟨hB, by simpa using h.bl, ?_, h.O.other (grownBy_setCell'' W B 0 _) (fun g e e2 => ?_)⟩
  · have := blk_set h.hB 0 (.slice A' (l.length + 1) c')
    rw [ins_len l p x hp]
    simpa using this
  · cases e2; subst e
    exact h.O.ne h.hB (by decide) rfl
theorem Added.below {w W : World} {base B : Nat} {A : Option Addr} {c : Nat} {l : List S36} {nx : Int} {A' : Option Addr} {c' : Nat} {l' : List S36} (h : Added w base B A c l nx A' c' l' W) (hB : base ≤ B) {v : Value} :
    Below base w (W.setCell ⟨B, 0, none⟩ v) := h.b.setCell (p := ⟨B, 0, none⟩) hB _
theorem Cl.insert {w : World} {base B : Nat} {A : Option Addr} {c : Nat} {l : List S36} {nx : Int} {tb : Nat} {x y : Int} {on : Bool} {W : World} (h : Cl w base B A c l nx tb x y on W) (id : Int) (p : Nat) (hp : p ≤ l.length) (hl : l.length ≤ 2000) :
    Calls Try.prog 56 #[.slice A l.length c, .int .i64 p, .slice (some ⟨W.heap.size, 0, none⟩) 1 1] (W.alloc (.cells #[.int .i64 id, .int .i64 0, .bool false] 36)) fun e w' =>
      ∃ A' c', e = .returned (.slice A' (l.length + 1) c') ∧ Added w base B A c l nx A' c' (ins l p ⟨id, 0, false⟩) w' := by
  have hE := h.E.alloc (.cells #[.int .i64 id, .int .i64 0, .bool false] 36)
  refine (insert_any A c W.heap.size p l ⟨id, 0, false⟩ base _ hE.hO (by omega) hE.bl (heap_alloc_new W _) (fun g e => ?_) hp).mono ?_
  · subst e
    have := blk_lt h.E.hO.blk.choose_spec
    omega
  · rintro e w' ⟨A', c', rfl, hO, hg⟩
    have hb : Below base w (W.alloc (.cells #[.int .i64 id, .int .i64 0, .bool false] 36)) := h.b.trans ((Below.refl _ W).alloc h.E.bl _)
    refine ⟨A', c', rfl, (hg.block B hE.lt (fun e => ?_)).trans hE.hB, hO, hb.grown hg hE.bl (fun k e => (World.ownsRow.lt hE.hO k e).1), Nat.le_trans hE.bl hg.size⟩
    obtain ⟨cur, hcur⟩ := own_typed hE.hO B e.symm
    have := hE.hB
    rw [hcur] at this
    simp at this

set_option maxRecDepth 100000 in
set_option maxHeartbeats 2000000 in
theorem add_any (x y : Int) (on : Bool) : DoOpS 41 (.agg #[.int .i64 x, .int .i64 y, .bool on]) (addOp x) := by
  intro w base B A c l nx hl hn0 hn1 hs hE
  have hC := Aside0.mk (Cl.start (x := x) (y := y) (on := on) hE)
  have hs := Aside0.mk hs
  clear hE
  go_enter Try.func41, Try.ntmps41
  go_wp2
  refine wp_region_class (Cl w base B A c l nx w.heap.size x y on) (by kernel_rfl) (by kernel_rfl) hC.out.drew ?_
  refine BigFrame.wpQuiet_want rfl (fun K hK => ⟨.pointer (some ⟨B, 0, none⟩), fun W hW => ?_, hK _ ?_⟩)
  · go_simp
  clear hK K
  simp only [Act.put, List.setIfInBounds_toArray, List.set_cons_zero, List.set_cons_succ]
  refine BigFrame.wpQuiet_want rfl (fun K hK => ⟨.pointer (some ⟨B, 0, none⟩), fun W hW => ?_, hK _ ?_⟩)
  · go_simp
  clear hK K
  simp only [Act.put, List.setIfInBounds_toArray, List.set_cons_zero, List.set_cons_succ]
  refine BigFrame.wpQuiet_want rfl (fun K hK => ⟨.pointer (some ⟨B, 0, none⟩), fun W hW => ?_, hK _ ?_⟩)
  · go_simp
  clear hK K
  simp only [Act.put, List.setIfInBounds_toArray, List.set_cons_zero, List.set_cons_succ]
  refine BigFrame.wpQuiet_want rfl (fun K hK => ⟨.pointer (some ⟨B, 0, none⟩), fun W hW => ?_, hK _ ?_⟩)
  · go_simp
  clear hK K
  simp only [Act.put, List.setIfInBounds_toArray, List.set_cons_zero, List.set_cons_succ]
  refine BigFrame.wpQuiet_want rfl (fun K hK => ⟨.slice A l.length c, fun W hW => ?_, hK _ ?_⟩)
  · have c1 := hW.E.cell0; go_simp
  clear hK K
  simp only [Act.put, List.setIfInBounds_toArray, List.set_cons_zero, List.set_cons_succ]
  refine BigFrame.wpQuiet_want rfl (fun K hK => ⟨.pointer (some ⟨w.heap.size, 0, none⟩), fun W hW => ?_, hK _ ?_⟩)
  · go_simp
  clear hK K
  simp only [Act.put, List.setIfInBounds_toArray, List.set_cons_zero, List.set_cons_succ]
  refine BigFrame.wpQuiet_want rfl (fun K hK => ⟨.int .i64 x, fun W hW => ?_, hK _ ?_⟩)
  · have c1 := hW.tx; go_simp
  clear hK K
  simp only [Act.put, List.setIfInBounds_toArray, List.set_cons_zero, List.set_cons_succ]
  refine BigFrame.wpQuiet_want rfl (fun K hK => ⟨.tuple #[.int .i64 (pos l x), .bool (there l x)], fun W hW => ?_, hK _ ?_⟩)
  · go_simp; exact hW.search x hl hs.out
  clear hK K
  simp only [Act.put, List.setIfInBounds_toArray, List.set_cons_zero, List.set_cons_succ]
  refine BigFrame.wpQuiet_want rfl (fun K hK => ⟨.tuple #[.int .i64 (pos l x), .bool (there l x)], fun W hW => ?_, hK _ ?_⟩)
  · go_simp
  clear hK K
  simp only [Act.put, List.setIfInBounds_toArray, List.set_cons_zero, List.set_cons_succ]
  refine BigFrame.wpQuiet_want rfl (fun K hK => ⟨.int .i64 (pos l x), fun W hW => ?_, hK _ ?_⟩)
  · go_simp
  clear hK K
  simp only [Act.put, List.setIfInBounds_toArray, List.set_cons_zero, List.set_cons_succ]
  refine BigFrame.wpQuiet_want rfl (fun K hK => ⟨.bool (there l x), fun W hW => ?_, hK _ ?_⟩)
  · go_simp
  clear hK K
  simp only [Act.put, List.setIfInBounds_toArray, List.set_cons_zero, List.set_cons_succ]
  refine BigFrame.wpQuiet_want rfl (fun K hK => ⟨.int .i64 (pos l x), fun W hW => ?_, hK _ ?_⟩)
  · go_simp
  clear hK K
  simp only [Act.put, List.setIfInBounds_toArray, List.set_cons_zero, List.set_cons_succ]
  refine BigFrame.wpQuiet_want rfl (fun K hK => ⟨.bool (there l x), fun W hW => ?_, hK _ ?_⟩)
  · go_simp
  clear hK K
  simp only [Act.put, List.setIfInBounds_toArray, List.set_cons_zero, List.set_cons_succ]
  refine wpQuiet_nil ?_
  intro W hW
  have HW := Aside0.mk hW
  have tx := hW.tx
  have kc := hW.E.cell0
  have hpl := pos_le l x
  have hlen1 : ((l.length : Int) == 1024) = decide (l.length = 1024) := by
    by_cases h : l.length = 1024
    · simp [h]
    · simp [h]; omega
  clear hW
  by_cases h1 : okId x = false
  · have HE := Aside0.mk (show addOp x l nx = (1, l, nx) by simp [addOp, h1])
    go_wp2_with (go_at_call 34; refine (inRange_any x _).mono ?_; rintro e w1 ⟨rfl, rfl⟩; rw [h1])
    go_ret
    rw [HE.out]
    exact ⟨A, c, rfl, HW.out.E, HW.out.b⟩
  · have h1' : okId x = true := by simpa using h1
    by_cases h2 : there l x = true
    · have HE := Aside0.mk (show addOp x l nx = (180, l, nx) by simp [addOp, h1', h2])
      rw [h2]
      clear h1 h2
      go_wp2_with (go_at_call 34; refine (inRange_any x _).mono ?_; rintro e w1 ⟨rfl, rfl⟩; rw [h1'])
      go_ret
      rw [HE.out]
      exact ⟨A, c, rfl, HW.out.E, HW.out.b⟩
    · have h2' : there l x = false := by simpa using h2
      rw [h2']
      by_cases h3 : l.length = 1024
      · have HE := Aside0.mk (show addOp x l nx = (2, l, nx) by simp [addOp, h1', h2', h3])
        rw [show decide (l.length = 1024) = true by simpa using h3] at hlen1
        clear h1 h2 h2' h3
        go_wp2_with (go_at_call 34; refine (inRange_any x _).mono ?_; rintro e w1 ⟨rfl, rfl⟩; rw [h1'])
        go_ret
        rw [HE.out]
        exact ⟨A, c, rfl, HW.out.E, HW.out.b⟩
      · have HE := Aside0.mk (show addOp x l nx = (0, ins l (pos l x) ⟨x, 0, false⟩, nx) by simp [addOp, h1', h2', h3])
        rw [show decide (l.length = 1024) = false by simpa using h3] at hlen1
        clear h1 h2 h2' h3
        generalize pos l x = p at *
        go_wp2_with (go_at_call 34; refine (inRange_any x _).mono ?_; rintro e w1 ⟨rfl, rfl⟩; rw [h1'])
        have hD := HW.out.drew
        have tx' := hD.tx
        have kc' := hD.E.cell0
        have hins := hD.insert x p hpl hl
        have hBl : B < W.heap.size := HW.out.E.lt
        have htl : w.heap.size < W.heap.size := blk_lt HW.out.t
        clear hD
        have z36 := zero36
        go_region_with (go_at_call 56; refine hins.mono ?_; rintro e w1 ⟨A', c', rfl, hA⟩; have kb := blk_cell hA.hB 0; have kf := blk_frozen hA.hB 0; have kc1 : w1.cell? ⟨B, 0, none⟩ = some (.slice A l.length c) := kb.trans rfl; have HA := Aside0.mk hA; clear hA kb)
        all_goals
          go_wp2
          go_ret
          rw [HE.out]
          exact ⟨A', c', rfl, HA.out.ed hpl (HW.out.E.le), HA.out.below HW.out.E.le⟩
end Go.Proofs.Ytmjenmhidnkbdaa.P
