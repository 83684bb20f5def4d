/- Costs and their order: cmp.Compare, the closures of Order and Build. -/
import Derived.Test.YtjaodgicpnoifaaHc
import Derived.Sort.Grow
namespace Go.Proofs.Ytjaodgicpnoifaa.P
open Go.RowKit Go.Shelf Go.Proofs.YtjaodgicpnoifaaW.PrintWords Go.Proofs.YtjaodgicpnoifaaW.PrintLast Go.Proofs.YtjaodgicpnoifaaW.PrintMore
set_option linter.unusedVariables false
set_option linter.unusedSimpArgs false

/-- Draws and new blocks, nothing else. -/
def Gr (w w' : World) : Prop := ∃ (q : Nat) (os : Array Obj), w' = Go.Sort.grow (w.drewN q) os
theorem Gr.refl (w : World) : Gr w w := ⟨0, #[], by simp [Go.Sort.grow, World.drewN]⟩
theorem Gr.alloc {w w' : World} (h : Gr w w') (o : Obj) : Gr w (w'.alloc o) := by
  obtain ⟨q, os, rfl⟩ := h
  exact ⟨q, os ++ #[o], by rw [Go.Sort.alloc_eq_grow, Go.Sort.grow_grow]⟩
theorem Gr.drew {w w' : World} (h : Gr w w') : Gr w w'.drew := by
  obtain ⟨q, os, rfl⟩ := h
  exact ⟨q + 1, os, rfl⟩
theorem Gr.trans {a b c : World} (h : Gr a b) (k : Gr b c) : Gr a c := by
  obtain ⟨q, os, rfl⟩ := h
  obtain ⟨q', os', rfl⟩ := k
  refine ⟨q + q', os ++ os', ?_⟩
  rw [← Go.Sort.grow_grow]
  simp only [Go.Sort.grow, World.drewN, Nat.add_assoc]
theorem Gr.below {w w' : World} (h : Gr w w') : Below w.heap.size w w' := by
  obtain ⟨q, os, rfl⟩ := h
  refine ⟨rfl, rfl, rfl, by simp [Go.Sort.grow, World.drewN], fun i hi => ?_⟩
  show (w.heap ++ os)[i]? = w.heap[i]?
  exact Array.getElem?_append_left hi
def chV (x : S49) : Value := .agg #[.int .i64 x.f0, .int .i64 x.f1, .int .i64 x.f2]
theorem isNaN_any (x : Int) (w : World) : Calls Try.prog 57 #[.int .i64 x] w fun e w' => e = .returned (.bool false) ∧ w = w' := by
  go_enter Try.func57, Try.ntmps57
  go_wp2
  go_ret
  exact ⟨by simp, rfl⟩
def cmpI (x y : Int) : Int := if x < y then -1 else if y < x then 1 else 0
theorem compare_any (x y : Int) (w : World) : Calls Try.prog 37 #[.int .i64 x, .int .i64 y] w fun e w' => e = .returned (.int .i64 (cmpI x y)) ∧ w = w' := by
  have e1 : x < y → cmpI x y = -1 := fun h => by simp [cmpI, h]
  have e2 : ¬ x < y → y < x → cmpI x y = 1 := fun h h' => by simp [cmpI, h, h']
  have e3 : ¬ x < y → ¬ y < x → cmpI x y = 0 := fun h h' => by simp [cmpI, h, h']
  generalize cmpI x y = r at e1 e2 e3 ⊢
  by_cases h1 : x < y
  · obtain rfl := e1 h1
    clear e1 e2 e3
    go_enter Try.func37, Try.ntmps37
    go_wp2_with (go_at_call 57; refine (isNaN_any _ _).mono ?_; rintro e w' ⟨rfl, rfl⟩)
    go_ret
    exact ⟨rfl, rfl⟩
  · by_cases h2 : y < x
    · obtain rfl := e2 h1 h2
      clear e1 e2 e3
      go_enter Try.func37, Try.ntmps37
      go_wp2_with (go_at_call 57; refine (isNaN_any _ _).mono ?_; rintro e w' ⟨rfl, rfl⟩)
      go_ret
      exact ⟨rfl, rfl⟩
    · obtain rfl := e3 h1 h2
      clear e1 e2 e3
      go_enter Try.func37, Try.ntmps37
      go_wp2_with (go_at_call 57; refine (isNaN_any _ _).mono ?_; rintro e w' ⟨rfl, rfl⟩)
      go_ret
      exact ⟨rfl, rfl⟩
/-- The cost of a choice by night and by day. -/
def price (day : Bool) (c : S49) : Int := if day then c.f1 else c.f2
def costF (day : Bool) : Nat := if day then 45 else 44
theorem cost_any (day : Bool) (x : S49) (w : World) : Calls Try.prog (costF day) #[.agg #[.int .i64 x.f0, .int .i64 x.f1, .int .i64 x.f2]] w fun e w' => e = .returned (.int .i64 (price day x)) ∧ Gr w w' := by
  cases day with
  | false =>
    show Calls Try.prog 44 _ w _
    go_enter Try.func44, Try.ntmps44
    go_wp2
    go_ret
    exact ⟨rfl, (Gr.refl _).alloc _⟩
  | true =>
    show Calls Try.prog 45 _ w _
    go_enter Try.func45, Try.ntmps45
    go_wp2
    go_ret
    exact ⟨rfl, (Gr.refl _).alloc _⟩
/-- The comparison of Build's table: by the cost by day. -/
theorem dayCmp_any (x y : S49) (w : World) : Calls Try.prog 36 #[chV x, chV y] w fun e w' => e = .returned (.int .i64 (cmpI x.f1 y.f1)) ∧ Gr w w' := by
  unfold chV
  go_enter Try.func36, Try.ntmps36
  first
  | (go_wp2_with (go_at_call 37; refine (compare_any _ _ _).mono ?_; rintro e w' ⟨rfl, rfl⟩)
     go_ret
     exact ⟨rfl, ((Gr.refl _).alloc _).alloc _⟩)
  | (go_wp2_with fail
     go_region_with (go_at_call 37; refine (compare_any _ _ _).mono ?_; rintro e w' ⟨rfl, rfl⟩)
     all_goals go_wp2_with fail
     all_goals go_ret
     all_goals exact ⟨rfl, (((Gr.refl _).alloc _).alloc _).drew⟩)

section
variable {P : Program} {ops : Array Oper} {Q : Exit → Act → World → Prop}
theorem goesV_ {oi : Oper} {N : Option Tmp} {a : Act} {w : World} {K : Act → World → Prop} {f : FuncId} {fn : Func} {x : Operand} {xs : Array Operand} {ts : Array TypeId} (hf : P.funcs[f]? = some fn) (hname : (fn.name == "runtime.NumGoroutine") = false) (hb : fn.body.isSome = true) (args : Array Value)
    (hw : Region.wanted oi (yielded ops a.tmps) = true) (hN : oi.dst = N) (hop : oi.op = .call { callee := .value x, args := xs, argTypes := ts }) (hx : a.eval x = .func (.func f) #[] #[]) (hargs : xs.map a.eval = args)
    (h : Calls P f args w fun e w' => ∃ v, e = .returned v ∧ K (a.put N v) w') : if Region.wanted oi (yielded ops a.tmps) = true then Oper.wp P oi a w K Q else K (a.put N undef) w := by
  refine call_ f args hw hN ?_ h
  have he := enters_ hf hname hb args w
  unfold execOp
  simp [hop, resolve, hx, Deferred.ofValue, invoke, hargs, he]
end
/-- What the comparison holds while it runs: both arguments in their blocks, the cost's function in its own. -/
def OC (day : Bool) (b10 b3 : Nat) (x y : S49) (W : World) : Prop :=
  W.cell? ⟨b10, 0, none⟩ = some (.func (.func (costF day)) #[] #[]) ∧ W.cell? ⟨b3, 0, none⟩ = some (.int .i64 x.f0) ∧ W.cell? ⟨b3, 1, none⟩ = some (.int .i64 x.f1) ∧ W.cell? ⟨b3, 2, none⟩ = some (.int .i64 x.f2) ∧
  W.cell? ⟨b3 + 1, 0, none⟩ = some (.int .i64 y.f0) ∧ W.cell? ⟨b3 + 1, 1, none⟩ = some (.int .i64 y.f1) ∧ W.cell? ⟨b3 + 1, 2, none⟩ = some (.int .i64 y.f2)
theorem OC.below {day : Bool} {b10 b3 : Nat} {x y : S49} {W W' : World} (h : OC day b10 b3 x y W) (hb : Below W.heap.size W W') : OC day b10 b3 x y W' := by
  have k : ∀ {p : Addr} {v : Value}, W.cell? p = some v → W'.cell? p = some v := fun {p v} e => (hb.cell (World.block_lt_of_cell? W _ e)).trans e
  obtain ⟨h0, h1, h2, h3, h4, h5, h6⟩ := h
  exact ⟨k h0, k h1, k h2, k h3, k h4, k h5, k h6⟩
def orderCmp.T1 : Bool × List (List Nat × List Nat) := (true, [([], []), ([], []), ([0, 1], [0, 1]), ([], []), ([], []), ([3, 4, 2], [3, 4]), ([2, 5, 5], [2, 5]), ([6, 6, 0, 1, 2, 3, 4, 5, 6], [6])])
def orderCmp.B1 : List Nat := [0, 0, 3, 0, 0, 31, 63, 127]
theorem orderCmp.tab1 : rtab .any (opsOf Try.f47 1) = orderCmp.T1 := by kernel_rfl
theorem orderCmp.bits1 : waitsOk orderCmp.T1.2 orderCmp.B1 = true := by kernel_rfl

set_option maxRecDepth 100000 in
set_option maxHeartbeats 4000000 in
theorem orderCmp_any (day : Bool) (b10 : Nat) (x y : S49) (w : World) (hc : w.cell? ⟨b10, 0, none⟩ = some (.func (.func (costF day)) #[] #[])) :
    Calls Try.prog 47 #[chV x, chV y, .pointer (some ⟨b10, 0, none⟩)] w fun e w' => e = .returned (.int .i64 (cmpI (price day x) (price day y))) ∧ Gr w w' := by
  unfold chV
  have hlt : b10 < w.heap.size := World.block_lt_of_cell? w _ hc
  go_enter Try.func47, Try.ntmps47
  go_wp2_with fail
  have hW : OC day b10 w.heap.size x y ((w.alloc (.cells #[.int .i64 x.f0, .int .i64 x.f1, .int .i64 x.f2] 49)).alloc (.cells #[.int .i64 y.f0, .int .i64 y.f1, .int .i64 y.f2] 49)) := by
    have hs : (w.alloc (.cells #[.int .i64 x.f0, .int .i64 x.f1, .int .i64 x.f2] 49)).heap.size = w.heap.size + 1 := by simp
    have hx := blk_new w (.cells #[.int .i64 x.f0, .int .i64 x.f1, .int .i64 x.f2] 49)
    have hx2 := (heap_alloc_old (w.alloc (.cells #[.int .i64 x.f0, .int .i64 x.f1, .int .i64 x.f2] 49)) (.cells #[.int .i64 y.f0, .int .i64 y.f1, .int .i64 y.f2] 49) (by rw [hs]; omega)).trans hx
    have hy := blk_new (w.alloc (.cells #[.int .i64 x.f0, .int .i64 x.f1, .int .i64 x.f2] 49)) (.cells #[.int .i64 y.f0, .int .i64 y.f1, .int .i64 y.f2] 49)
    rw [hs] at hy
    have hb : Below w.heap.size w ((w.alloc (.cells #[.int .i64 x.f0, .int .i64 x.f1, .int .i64 x.f2] 49)).alloc (.cells #[.int .i64 y.f0, .int .i64 y.f1, .int .i64 y.f2] 49)) := ((Below.refl _ _).alloc (Nat.le_refl _) _).alloc (by simp) _
    exact ⟨(hb.cell hlt).trans hc, (blk_cell hx2 0).trans rfl, (blk_cell hx2 1).trans rfl, (blk_cell hx2 2).trans rfl, (blk_cell hy 0).trans rfl, (blk_cell hy 1).trans rfl, (blk_cell hy 2).trans rfl⟩
  have hB : Gr w ((w.alloc (.cells #[.int .i64 x.f0, .int .i64 x.f1, .int .i64 x.f2] 49)).alloc (.cells #[.int .i64 y.f0, .int .i64 y.f1, .int .i64 y.f2] 49)) := ((Gr.refl _).alloc _).alloc _
  clear hc
  generalize (w.alloc (.cells #[.int .i64 x.f0, .int .i64 x.f1, .int .i64 x.f2] 49)).alloc (.cells #[.int .i64 y.f0, .int .i64 y.f1, .int .i64 y.f2] 49) = W0 at hW hB ⊢
  replace hW := hW.below ((Below.refl _ W0).drew)
  replace hB := hB.drew
  refine start_ (n := 8) (S := fun w' => OC day b10 w.heap.size x y w') (ds := []) #[false, false, false, false, false, false, false, false] (by kernel_rfl) rfl rfl hW (fun hHeld => ?_)
  refine with_tabW orderCmp.tab1 orderCmp.bits1 (fun HT_ HW_ => ?_)
  generalize W0.drew = W1 at hW hB hHeld ⊢
  refine take_ (i := 0) (N := some 6) (v := ?_) (a' := ?_) #[true, false, false, false, false, false, false, false] rfl rfl (take_ofW HT_.out HW_.out (by kernel_rfl)) (fun _ _ _ h => h) (Or.inl ⟨by rfl, ?_⟩) hHeld ?_ ?_
  rotate_left
  · rintro w' ⟨s0, s1, s2, s3, s4, s5, s6⟩
    go_simp
    with_reducible rfl
  rotate_left
  · simp only [Act.put, List.setIfInBounds_toArray, List.set_cons_zero, List.set_cons_succ, i64_w, i32_w]
    rfl
  refine take_ (i := 1) (N := some 7) (v := ?_) (a' := ?_) #[true, true, false, false, false, false, false, false] rfl rfl (take_ofW HT_.out HW_.out (by kernel_rfl)) (fun _ _ _ h => h) (Or.inl ⟨by rfl, ?_⟩) hHeld ?_ ?_
  rotate_left
  · rintro w' ⟨s0, s1, s2, s3, s4, s5, s6⟩
    go_simp
    with_reducible rfl
  rotate_left
  · simp only [Act.put, List.setIfInBounds_toArray, List.set_cons_zero, List.set_cons_succ, i64_w, i32_w]
    rfl
  refine take_ (i := 3) (N := some 9) (v := ?_) (a' := ?_) #[true, true, false, true, false, false, false, false] rfl rfl (take_ofW HT_.out HW_.out (by kernel_rfl)) (fun _ _ _ h => h) (Or.inl ⟨by rfl, ?_⟩) hHeld ?_ ?_
  rotate_left
  · rintro w' ⟨s0, s1, s2, s3, s4, s5, s6⟩
    go_simp
    with_reducible rfl
  rotate_left
  · simp only [Act.put, List.setIfInBounds_toArray, List.set_cons_zero, List.set_cons_succ, i64_w, i32_w]
    rfl
  refine take_ (i := 4) (N := some 10) (v := ?_) (a' := ?_) #[true, true, false, true, true, false, false, false] rfl rfl (take_ofW HT_.out HW_.out (by kernel_rfl)) (fun _ _ _ h => h) (Or.inl ⟨by rfl, ?_⟩) hHeld ?_ ?_
  rotate_left
  · rintro w' ⟨s0, s1, s2, s3, s4, s5, s6⟩
    go_simp
    with_reducible rfl
  rotate_left
  · simp only [Act.put, List.setIfInBounds_toArray, List.set_cons_zero, List.set_cons_succ, i64_w, i32_w]
    rfl
  refine one_ (i := 2) (N := some 8) #[true, true, true, true, true, false, false, false] rfl rfl (one_of HT_.out (by kernel_rfl)) (by decide) (fun K hK => ?_)
  refine goesV_ (f := costF day) (fn := if day then Try.f45 else Try.f44) (by cases day <;> kernel_rfl) (by cases day <;> rfl) (by cases day <;> rfl) #[.agg #[.int .i64 x.f0, .int .i64 x.f1, .int .i64 x.f2]] (by rfl) rfl rfl (by rfl) (by (try simp only [List.map_toArray, List.map_cons, List.map_nil]); first | done | rfl) ?_
  refine (cost_any day x _).mono ?_
  rintro e W2 ⟨rfl, hb⟩
  refine ⟨_, rfl, ?_⟩
  replace hW := hW.below hb.below
  replace hB := hB.trans hb
  clear hb
  refine hK.out _ _ hW (fun hHeld => ?_)
  clear hK K
  refine norm_ (a' := ?_) ?_ ?_
  rotate_left
  · show Act.put _ (some 8) _ = _
    simp only [Act.put, List.setIfInBounds_toArray, List.set_cons_zero, List.set_cons_succ, i64_w, i32_w]
    rfl
  refine one_ (i := 5) (N := some 11) #[true, true, true, true, true, true, false, false] rfl rfl (one_of HT_.out (by kernel_rfl)) (by decide) (fun K hK => ?_)
  refine goesV_ (f := costF day) (fn := if day then Try.f45 else Try.f44) (by cases day <;> kernel_rfl) (by cases day <;> rfl) (by cases day <;> rfl) #[.agg #[.int .i64 y.f0, .int .i64 y.f1, .int .i64 y.f2]] (by rfl) rfl rfl (by rfl) (by (try simp only [List.map_toArray, List.map_cons, List.map_nil]); first | done | rfl) ?_
  refine (cost_any day y _).mono ?_
  rintro e W3 ⟨rfl, hb⟩
  refine ⟨_, rfl, ?_⟩
  replace hW := hW.below hb.below
  replace hB := hB.trans hb
  clear hb
  refine hK.out _ _ hW (fun hHeld => ?_)
  clear hK K
  refine norm_ (a' := ?_) ?_ ?_
  rotate_left
  · show Act.put _ (some 11) _ = _
    simp only [Act.put, List.setIfInBounds_toArray, List.set_cons_zero, List.set_cons_succ, i64_w, i32_w]
    rfl
  refine one_ (i := 6) (N := some 12) #[true, true, true, true, true, true, true, false] rfl rfl (one_of HT_.out (by kernel_rfl)) (by decide) (fun K hK => ?_)
  refine goes_ Try.func37 (by kernel_rfl) rfl #[.int .i64 (price day x), .int .i64 (price day y)] (by rfl) rfl rfl (by (try simp only [List.map_toArray, List.map_cons, List.map_nil]); first | done | rfl) ?_
  refine (compare_any _ _ _).mono ?_
  rintro e W4 ⟨rfl, rfl⟩
  refine ⟨_, rfl, ?_⟩
  refine hK.out _ _ hW (fun hHeld => ?_)
  clear hK K
  refine norm_ (a' := ?_) ?_ ?_
  rotate_left
  · show Act.put _ (some 12) _ = _
    simp only [Act.put, List.setIfInBounds_toArray, List.set_cons_zero, List.set_cons_succ, i64_w, i32_w]
    rfl
  refine pure_ (i := 7) (N := some 5) (v := ?_) (a' := ?_) #[true, true, true, true, true, true, true, true] rfl rfl (any_of HT_.out (by kernel_rfl)) (fun _ _ _ h => h) (Or.inl ⟨by rfl, ?_⟩) ?_ ?_
  rotate_left
  · intro w'
    go_simp
    with_reducible rfl
  rotate_left
  · simp only [Act.put, List.setIfInBounds_toArray, List.set_cons_zero, List.set_cons_succ, i64_w, i32_w]
    rfl
  refine done_ (done_of HT_.out (by kernel_rfl)) ?_
  go_wp2_with fail
  go_ret
  exact ⟨rfl, hB⟩
end Go.Proofs.Ytjaodgicpnoifaa.P
