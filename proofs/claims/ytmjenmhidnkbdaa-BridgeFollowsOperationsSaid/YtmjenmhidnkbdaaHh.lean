/- (target).connect: two legs are moved into a new conference. -/
import Derived.Test.YtmjenmhidnkbdaaHg
namespace Go.Proofs.Ytmjenmhidnkbdaa.P
open Go.RowKit Go.Shelf Go.Proofs.YtmjenmhidnkbdaaW.PrintWords Go.Proofs.YtmjenmhidnkbdaaW.PrintLast Go.Proofs.YtmjenmhidnkbdaaW.PrintMore
set_option linter.unusedVariables false
set_option linter.unusedSimpArgs false

theorem grownBy_setCell'' (W : World) (b i : Nat) (v : Value) : W.grownBy (W.setCell ⟨b, i, none⟩ v) (some b) :=
  ⟨rfl, rfl, rfl, by simp [World.setCell], fun k _ hk => Below.heap_setCell W ⟨b, i, none⟩ v k (fun e => hk (by rw [e]))⟩

/-- A region that draws its order, its operations quiet in a class of worlds of one's own. -/
theorem wp_region_class {P : Program} {id : Nat} {Q : Exit → Act → World → Prop} {a : Act} {w : World} {l : List Oper} (C : World → Prop) (hm : P.follows .mixedOrders = true) (hB : Region.lexB .any l.toArray = true) (hC : C w.drew)
    (h : wpQuiet P l.toArray C (fun a' => ∀ w', C w' → Q .normal a' w') l a) : (Code.region id l.toArray true).wp P Q a w :=
  wp_region_quiet (C := C) hm hB hC (by simpa using h)

theorem Ed.next {w : World} {base B : Nat} {A : Option Addr} {c : Nat} {l : List S36} {nx : Int} (h : Ed w base B A c l nx) (m : Int) : Ed (w.setCell ⟨B, 1, none⟩ (.int .i64 m)) base B A c l m :=
  ⟨h.le, by simpa using h.bl, by have := blk_set h.hB 1 (.int .i64 m); simpa using this, h.hO.other (row := some B) (grownBy_setCell'' w B 1 _) (fun g e e2 => by
    cases e2; subst e
    exact h.hO.ne h.hB (by decide) rfl)⟩

/-- Two pointers into one block, compared. -/
theorem run_eq_ptr (W : World) (g a b : Nat) : (Op.equal 64 (.pointer (some ⟨g, a, none⟩)) (.pointer (some ⟨g, b, none⟩))).run Try.prog W = .ok (a == b) W := by
  obtain ⟨i0, hi, hz0, hz1, hz2⟩ := info_parts info36
  have e : ((⟨g, a, none⟩ : Addr) == ⟨g, b, none⟩) = (a == b) := by
    rw [Bool.eq_iff_iff]; simp
  have h : ∀ d : Nat, (Op.equalIn (d + 1) 64 (.pointer (some ⟨g, a, none⟩)) (.pointer (some ⟨g, b, none⟩))).run Try.prog W = .ok (a == b) W := fun d => by
    simp [Op.equalIn, run_underlying Try.underlying64, sizeOf, typeInfo, hi, hz1, sameAddr, e]
  simp [Op.equal, Op.maxDepth, h 9999]
theorem eqlPtr (W : World) (g a b : Nat) : (binOp .eql 64 (.pointer (some ⟨g, a, none⟩)) (.pointer (some ⟨g, b, none⟩))).run Try.prog W = .ok (.bool (a == b)) W := by
  simp only [binOp]
  simp [run_eq_ptr W g a b]
theorem neqPtr (W : World) (g a b : Nat) : (binOp .neq 64 (.pointer (some ⟨g, a, none⟩)) (.pointer (some ⟨g, b, none⟩))).run Try.prog W = .ok (.bool (!(a == b))) W := by
  simp only [binOp]
  simp [run_eq_ptr W g a b]

def setCf (l : List S36) (i : Nat) (c : Int) : List S36 := l.set i ⟨(rd_T36 l (i : Int)).f0, c, (rd_T36 l (i : Int)).f2⟩
theorem setCf_len (l : List S36) (i : Nat) (c : Int) : (setCf l i c).length = l.length := by simp [setCf]
theorem own3_cf {w : World} {base g c : Nat} {l : List S36} {i : Nat} (h : Own3 w base (some ⟨g, 0, none⟩) c l) (hi : i < l.length) (m : Int) :
    Own3 (w.setCell ⟨g, i * 3 + 1, none⟩ (.int .i64 m)) base (some ⟨g, 0, none⟩) c (setCf l i m) ∧ w.grownBy (w.setCell ⟨g, i * 3 + 1, none⟩ (.int .i64 m)) (some g) :=
  h.put (j := 1) (rd_at l i hi) (by omega) rfl
def connectOp (x y : Int) : Does := fun l nx =>
  let i := fnd l x
  let k := fnd l y
  if i < 0 ∨ k < 0 ∨ i = k then (180, l, nx) else if nx = 1099511627776 then (2, l, nx) else
    (0, setCf (setCf (lv (lv l i.toNat) k.toNat) i.toNat nx) k.toNat nx, nx + 1)

/-- The class of worlds behind the two finds: the editor as it was, the target's block, what lay below base. -/
structure Cl (w : World) (base B : Nat) (A : Option Addr) (c : Nat) (l : List S36) (nx : Int) (tb : Nat) (x y : Int) (on : Bool) (W : World) : Prop where
  E : Ed W base B A c l nx
  b : Below base w W
  t : W.heap[tb]? = some (.cells #[.int .i64 x, .int .i64 y, .bool on] 60 (0, 0))
section
variable {w : World} {base B : Nat} {A : Option Addr} {c : Nat} {l : List S36} {nx : Int} {tb : Nat} {x y : Int} {on : Bool} {W W' : World}
theorem Cl.below (h : Cl w base B A c l nx tb x y on W) (hb : Below W.heap.size W W') : Cl w base B A c l nx tb x y on W' :=
  ⟨h.E.below hb, h.b.trans (hb.mono h.E.bl), (hb.block tb (blk_lt h.t)).trans h.t⟩
theorem Cl.drew (h : Cl w base B A c l nx tb x y on W) : Cl w base B A c l nx tb x y on W.drew := h.below (Below.refl _ W).drew
theorem Cl.tx (h : Cl w base B A c l nx tb x y on W) : W.cell? ⟨tb, 0, none⟩ = some (.int .i64 x) := (blk_cell h.t 0).trans rfl
theorem Cl.ty (h : Cl w base B A c l nx tb x y on W) : W.cell? ⟨tb, 1, none⟩ = some (.int .i64 y) := (blk_cell h.t 1).trans rfl
theorem Cl.start (hE : Ed w base B A c l nx) : Cl w base B A c l nx w.heap.size x y on (w.alloc (.cells #[.int .i64 x, .int .i64 y, .bool on] 60)) :=
  ⟨hE.alloc _, (Below.refl _ w).alloc hE.bl _, heap_alloc_new w _⟩
theorem Cl.find (h : Cl w base B A c l nx tb x y on W) (id : Int) : Calls Try.prog 37 #[.pointer (some ⟨B, 0, none⟩), .int .i64 id] W fun e w' => e = .returned (legAt A (fnd l id)) ∧ Cl w base B A c l nx tb x y on w' :=
  (find_any B A c l nx id W h.E.hB h.E.hO.C).mono fun _ _ ⟨he, hb⟩ => ⟨he, h.below hb⟩
end

set_option maxRecDepth 100000 in
set_option maxHeartbeats 2000000 in
theorem connect_any (x y : Int) (on : Bool) : DoOp 36 (.agg #[.int .i64 x, .int .i64 y, .bool on]) (connectOp x y) := by
  intro w base B A c l nx hl hn0 hn1 hE
  have hC := Aside0.mk (Cl.start (x := x) (y := y) (on := on) hE)
  clear hE
  go_enter Try.func36, Try.ntmps36
  go_wp2
  refine wp_region_class (Cl w base B A c l nx w.heap.size x y on) (by kernel_rfl) (by kernel_rfl) hC.out.drew ?_
  go_big_quiet_step (fail)
  refine BigFrame.wpQuiet_want rfl (fun K hK => ⟨.pointer (some ⟨w.heap.size, 0, none⟩), fun W hW => ?_, hK _ ?_⟩)
  · go_simp
  clear hK K
  simp only [Act.put, List.setIfInBounds_toArray, List.set_cons_zero, List.set_cons_succ]
  refine BigFrame.wpQuiet_want rfl (fun K hK => ⟨.int .i64 x, fun W hW => ?_, hK _ ?_⟩)
  · have c1 := hW.tx; go_simp
  clear hK K
  simp only [Act.put, List.setIfInBounds_toArray, List.set_cons_zero, List.set_cons_succ]
  refine BigFrame.wpQuiet_want rfl (fun K hK => ⟨legAt A (fnd l x), fun W hW => ?_, hK _ ?_⟩)
  · go_simp; exact hW.find x
  clear hK K
  simp only [Act.put, List.setIfInBounds_toArray, List.set_cons_zero, List.set_cons_succ]
  go_big_quiet_step (fail)
  refine BigFrame.wpQuiet_want rfl (fun K hK => ⟨.pointer (some ⟨w.heap.size, 1, none⟩), fun W hW => ?_, hK _ ?_⟩)
  · go_simp
  clear hK K
  simp only [Act.put, List.setIfInBounds_toArray, List.set_cons_zero, List.set_cons_succ]
  refine BigFrame.wpQuiet_want rfl (fun K hK => ⟨.int .i64 y, fun W hW => ?_, hK _ ?_⟩)
  · have c1 := hW.ty; go_simp
  clear hK K
  simp only [Act.put, List.setIfInBounds_toArray, List.set_cons_zero, List.set_cons_succ]
  refine BigFrame.wpQuiet_want rfl (fun K hK => ⟨legAt A (fnd l y), fun W hW => ?_, hK _ ?_⟩)
  · go_simp; exact hW.find y
  clear hK K
  simp only [Act.put, List.setIfInBounds_toArray, List.set_cons_zero, List.set_cons_succ]
  repeat (go_big_quiet_step (fail))
  refine wpQuiet_nil ?_
  intro W hW
  have HW := Aside0.mk hW
  clear hW
  by_cases hi : fnd l x < 0
  · rw [legAt_none hi]
    have e : connectOp x y l nx = (180, l, nx) := by simp [connectOp, hi]
    have HE := Aside0.mk e
    clear hi e
    go_wp2
    go_ret
    rw [HE.out]
    exact ⟨_, c, rfl, HW.out.E, HW.out.b⟩
  · obtain ⟨i, hi'⟩ : ∃ i : Nat, fnd l x = i := ⟨(fnd l x).toNat, by omega⟩
    have hil : i < l.length := by have := fnd_lt (fun z => z.f0 == x) l; change fnd l x < _ at this; omega
    obtain ⟨g, rfl, hlx⟩ := legAt_some HW.out.E.hO i hil
    rw [hi', hlx]
    by_cases hk : fnd l y < 0
    · rw [legAt_none hk]
      have e : connectOp x y l nx = (180, l, nx) := by simp [connectOp, hk]
      have HE := Aside0.mk e
      clear hi hi' hk hlx e hil
      go_wp2
      go_ret
      rw [HE.out]
      exact ⟨_, c, rfl, HW.out.E, HW.out.b⟩
    · obtain ⟨k, hk'⟩ : ∃ k : Nat, fnd l y = k := ⟨(fnd l y).toNat, by omega⟩
      have hkl : k < l.length := by have := fnd_lt (fun z => z.f0 == y) l; change fnd l y < _ at this; omega
      obtain ⟨g', eg, hly⟩ := legAt_some HW.out.E.hO k hkl
      cases eg
      rw [hk', hly]
      by_cases hik : i = k
      · subst hik
        have e : connectOp x y l nx = (180, l, nx) := by simp [connectOp, hi', hk']
        have HE := Aside0.mk e
        clear hi hi' hk hk' hlx hly e hil hkl
        have hq := eqlPtr W g (i * 3) (i * 3)
        rw [beq_self_eq_true] at hq
        go_wp2
        go_ret
        rw [HE.out]
        exact ⟨_, c, rfl, HW.out.E, HW.out.b⟩
      · have hne : (i * 3 == k * 3) = false := by simp; omega
        have hq := eqlPtr W g (i * 3) (k * 3)
        rw [hne] at hq
        by_cases hm : nx = 1099511627776
        · have e : connectOp x y l nx = (2, l, nx) := by simp [connectOp, hi', hk', hik, hm]; omega
          have HE := Aside0.mk e
          have kc := HW.out.E.cell1
          rw [hm] at kc
          clear hi hi' hk hk' hlx hly e hil hkl hm
          go_wp2
          go_ret
          rw [HE.out]
          exact ⟨_, c, rfl, HW.out.E, HW.out.b⟩
        · have e : connectOp x y l nx = (0, setCf (setCf (lv (lv l i) k) i nx) k nx, nx + 1) := by simp [connectOp, hi', hk', hik, hm]; omega
          have HE := Aside0.mk e
          have kc := HW.out.E.cell1
          have hmb : (nx == 1099511627776) = false := by simpa using hm
          clear hi hi' hk hk' hlx hly e hm
          go_wp2_with fail
          refine (leave_any B g c i l nx base W hil (by omega) HW.out.E.hB HW.out.E.hO).mono ?_
          rintro e w1 ⟨rfl, hg1, hO1⟩
          have E1 := HW.out.E.turned hg1 hO1 (lv_len l i)
          have B1 := Aside0.mk (HW.out.b.trans (below_of_grown HW.out.E.bl hg1 HW.out.E.base))
          clear hg1 hO1 kc
          have kc := E1.cell1
          have E1 := Aside0.mk E1
          go_wp2_with fail
          refine (leave_any B g c k (lv l i) nx base w1 (by rw [lv_len]; exact hkl) (by rw [lv_len]; omega) E1.out.hB E1.out.hO).mono ?_
          rintro e w2 ⟨rfl, hg2, hO2⟩
          have E2 := E1.out.turned hg2 hO2 (lv_len (lv l i) k)
          have B2 := Aside0.mk (B1.out.trans (below_of_grown E1.out.bl hg2 E1.out.base))
          have hl2 : (lv (lv l i) k).length = l.length := by rw [lv_len, lv_len]
          rw [← hl2] at hil hkl
          clear hg2 hO2 kc E1 B1 hl2
          generalize lv (lv l i) k = l2 at *
          have kc := E2.cell1
          have kn := E2.free 1
          have f1 := E2.hO.free (i * 3 + 1)
          have f2 := E2.hO.free (k * 3 + 1)
          have c1 := E2.hO.cell (j := 1) (rd_at l2 i hil) rfl
          have c2 := E2.hO.cell (j := 1) (rd_at l2 k hkl) rfl
          obtain ⟨v2, c3⟩ := cell?_setCell_some (w := w2.drew) (p := ⟨g, i * 3 + 1, none⟩) (x := .int .i64 nx) (q := ⟨g, k * 3 + 1, none⟩) (v := _) c2
          have E2 := Aside0.mk E2
          go_wp2_with fail
          go_region
          have hE5 : Ed ((w2.setCell ⟨g, i * 3 + 1, none⟩ (.int .i64 nx)).setCell ⟨g, k * 3 + 1, none⟩ (.int .i64 nx)).drew base B (some ⟨g, 0, none⟩) c (setCf (setCf l2 i nx) k nx) nx ∧
              Below base w ((w2.setCell ⟨g, i * 3 + 1, none⟩ (.int .i64 nx)).setCell ⟨g, k * 3 + 1, none⟩ (.int .i64 nx)).drew := by
            obtain ⟨p1, g1⟩ := own3_cf E2.out.hO hil nx
            have E3 := E2.out.turned g1 p1 (setCf_len l2 i nx)
            obtain ⟨p2, g2⟩ := own3_cf E3.hO (i := k) (by rw [setCf_len]; exact hkl) nx
            have E4 := E3.turned g2 p2 (setCf_len _ k nx)
            exact ⟨E4.below (Below.refl _ _).drew, ((B2.out.trans (below_of_grown E2.out.bl g1 E2.out.base)).trans (below_of_grown E3.bl g2 E3.base)).drew⟩
          obtain ⟨E5, B5⟩ := hE5
          clear c1 c2 c3 f1 f2 kc kn B2 E2
          generalize ((w2.setCell ⟨g, i * 3 + 1, none⟩ (.int .i64 nx)).setCell ⟨g, k * 3 + 1, none⟩ (.int .i64 nx)).drew = w5 at *
          have kc := E5.cell1
          have kn := E5.free 1
          have E5 := Aside0.mk E5
          go_wp2
          go_ret
          rw [HE.out]
          exact ⟨_, c, rfl, E5.out.next (nx + 1), B5.setCell (p := ⟨B, 1, none⟩) E5.out.le _⟩
end Go.Proofs.Ytmjenmhidnkbdaa.P
