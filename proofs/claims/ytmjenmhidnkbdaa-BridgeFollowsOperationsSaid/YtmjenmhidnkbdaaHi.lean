/- (target).merge: the conferences of two legs are joined. -/
import Derived.Test.YtmjenmhidnkbdaaHh
namespace Go.Proofs.Ytmjenmhidnkbdaa.P
open Go.RowKit Go.Shelf Go.Proofs.YtmjenmhidnkbdaaW.PrintWords Go.Proofs.YtmjenmhidnkbdaaW.PrintLast Go.Proofs.YtmjenmhidnkbdaaW.PrintMore
set_option linter.unusedVariables false
set_option linter.unusedSimpArgs false
attribute [local go_sem] Oper.semAt_some

theorem Cl.alloc {w : World} {base B : Nat} {A : Option Addr} {c : Nat} {l : List S36} {nx : Int} {tb : Nat} {x y : Int} {on : Bool} {W : World} (h : Cl w base B A c l nx tb x y on W) (o : Obj) : Cl w base B A c l nx tb x y on (W.alloc o) :=
  h.below ((Below.refl _ W).alloc (Nat.le_refl _) _)

theorem bcell {W w1 : World} (hb : Below W.heap.size W w1) : (∀ b o, b < W.heap.size → w1.cell? ⟨b, o, none⟩ = W.cell? ⟨b, o, none⟩) ∧ (∀ b o, b < W.heap.size → w1.frozen? ⟨b, o, none⟩ = W.frozen? ⟨b, o, none⟩) :=
  ⟨fun b o h => hb.cell (p := ⟨b, o, none⟩) h, fun b o h => hb.frozen (p := ⟨b, o, none⟩) h⟩
theorem World.size_drew (w : World) : w.drew.heap.size = w.heap.size := rfl
theorem alloc_at {W : World} {o : Obj} {b : Nat} (h : b = W.heap.size) : (W.alloc o).heap[b]? = some o := by subst h; exact heap_alloc_new W o
theorem drew_at {W : World} {b : Nat} {o : Option Obj} (h : W.heap[b]? = o) : W.drew.heap[b]? = o := h
theorem set_at {W : World} {b : Nat} {t : TypeId} {v : Value} (h : W.heap[b]? = some (.cells #[v] t (0, 0))) (u : Value) : (W.setCell ⟨b, 0, none⟩ u).heap[b]? = some (.cells #[u] t (0, 0)) := by
  have := blk_set h 0 u
  simpa using this
theorem Cl.drewN {w : World} {base B : Nat} {A : Option Addr} {c : Nat} {l : List S36} {nx : Int} {tb : Nat} {x y : Int} {on : Bool} {W : World} (h : Cl w base B A c l nx tb x y on W) (n : Nat) : Cl w base B A c l nx tb x y on (W.drewN n) :=
  h.below (drawn (Below.refl _ W) n)
theorem Cl.lt_tb {w : World} {base B : Nat} {A : Option Addr} {c : Nat} {l : List S36} {nx : Int} {tb : Nat} {x y : Int} {on : Bool} {W : World} (h : Cl w base B A c l nx tb x y on W) : tb < W.heap.size := blk_lt h.t
theorem Cl.setNew {w : World} {base B : Nat} {A : Option Addr} {c : Nat} {l : List S36} {nx : Int} {x y : Int} {on : Bool} {W : World} (h : Cl w base B A c l nx w.heap.size x y on W) (hlo : B < w.heap.size ∧ ∀ g, A = some ⟨g, 0, none⟩ → g < w.heap.size) {b : Nat} (hb : w.heap.size < b) (hbl : base ≤ w.heap.size) (u : Value) : Cl w base B A c l nx w.heap.size x y on (W.setCell ⟨b, 0, none⟩ u) := by
  refine ⟨⟨h.E.le, by simpa using h.E.bl, (Below.heap_setCell W ⟨b, 0, none⟩ u B (by have := hlo.1; simp; omega)).trans h.E.hB, h.E.hO.other (grownBy_setCell'' W b 0 u) (fun g e e2 => ?_)⟩, h.b.setCell (p := ⟨b, 0, none⟩) (by simp; omega) u, (Below.heap_setCell W ⟨b, 0, none⟩ u w.heap.size (by simp; omega)).trans h.t⟩
  have := hlo.2 g e
  cases e2
  omega
def legP (A : Option Addr) (i : Int) : Option Addr := if 0 ≤ i then A.map fun a => a.add (i.toNat * 3) else none
theorem legAt_P (A : Option Addr) (i : Int) : legAt A i = .pointer (legP A i) := by unfold legAt legP; split <;> rfl

/-- All legs of one conference into another. -/
def moveTo (l : List S36) (from_ to_ : Int) : List S36 := l.map fun z => if z.f1 = from_ then ⟨z.f0, to_, z.f2⟩ else z
def mergeOp (x y : Int) : Does := fun l nx =>
  let i := fnd l x
  let k := fnd l y
  if i < 0 ∨ k < 0 ∨ (at_ l i).f1 = 0 ∨ (at_ l k).f1 = 0 ∨ (at_ l i).f1 = (at_ l k).f1 then (180, l, nx) else (0, moveTo l (at_ l k).f1 (at_ l i).f1, nx)

/-- A post that takes a normal end alone. -/
def normalOnly (N : Act → World → Prop) : Exit → Act → World → Prop
  | .normal, a, w => N a w
  | _, _, _ => False

/-- The law of a range over members, the assignment to the loop's variable in slot d. -/
theorem wpIn_members2 {m : Nat} {g : Operand} {assign body : Code} {Q : Exit → Act → World → Prop} {a : Act} {w : World} (p d : Nat)
    (b1 b2 B : Nat) (A : Option Addr) (n c : Nat) (conf : Int) (cf : Nat → Int) (hn : n ≤ 9223372036854775807)
    (hg : a.eval g = .func (.func 52) #[] #[.pointer (some ⟨b1, 0, none⟩), .pointer (some ⟨b2, 0, none⟩)])
    (I : Nat → World → Prop) (hI : OwnFrom w.heap.size I) (hread : ∀ i W, I i W → MemRead b1 b2 B A n c conf cf i W) (hdraw : ∀ i W, I i W → I i W.drew)
    (hskip : ∀ i W, I i W → i < n → cf i ≠ conf → I (i + 1) W) (h0 : I 0 w)
    (hassign : ∀ (l : Nat) (ad : Addr) (W : World) (K : Act → World → Prop), K ⟨(a.tmps.setIfInBounds p (.pointer (some ad))).setIfInBounds d (.pointer (some ad)), []⟩ W →
      assign.wpIn (Fence.wide.inRound l) (m - 1 - 1) Try.prog (Exit.then K (fun _ _ _ => False)) { tmps := a.tmps.setIfInBounds p (.pointer (some ad)), defers := [] } W)
    (hbody : ∀ (l i : Nat) (ad : Addr) (W : World), I i W → i < n → cf i = conf → A = some ad →
      body.wpIn (Fence.wide.inRound l) (m - 1 - 1) Try.prog (memPost I i W) ⟨(a.tmps.setIfInBounds p (.pointer (some (ad.add (i * 3))))).setIfInBounds d (.pointer (some (ad.add (i * 3)))), []⟩ W)
    (hdone : ∀ (D : Nat) (W : World), w.heap.size ≤ D → I n W → W.heap[D]? = some (.deferred (some [])) → Q .normal { a with defers := { target := .collected D, args := #[] } :: a.defers } W) :
    (Code.rangeFunc g #[p] assign body).wpIn Fence.wide m Try.prog Q a w :=
  wpIn_members b1 b2 B A n c conf cf hn hg rfl I hI hread hdraw hskip h0 (fun ad => ⟨(a.tmps.setIfInBounds p (.pointer (some ad))).setIfInBounds d (.pointer (some ad)), []⟩)
    (fun l ad W K hK => by have := hassign l ad W K hK; simpa using this) hbody hdone

/-- The first j legs moved. -/
def mvTo (l : List S36) (from_ to_ : Int) (j : Nat) : List S36 := moveTo (l.take j) from_ to_ ++ l.drop j
theorem moveTo_len (l : List S36) (a b : Int) : (moveTo l a b).length = l.length := by simp [moveTo]
theorem mvTo_len (l : List S36) (a b : Int) (j : Nat) : (mvTo l a b j).length = l.length := by
  simp [mvTo, moveTo_len]; omega
theorem mvTo_zero (l : List S36) (a b : Int) : mvTo l a b 0 = l := by simp [mvTo, moveTo]
theorem mvTo_all (l : List S36) (a b : Int) : mvTo l a b l.length = moveTo l a b := by simp [mvTo]
theorem mvTo_get (l : List S36) (a b : Int) (j q : Nat) (z : S36) (hz : l[q]? = some z) : (mvTo l a b j)[q]? = some (if q < j ∧ z.f1 = a then ⟨z.f0, b, z.f2⟩ else z) := by
  have hq := (List.getElem?_eq_some_iff.1 hz).1
  unfold mvTo moveTo
  by_cases h : q < j
  · rw [List.getElem?_append_left (by simp; omega), List.getElem?_map, List.getElem?_take, if_pos h, hz]
    simp [h]
  · rw [List.getElem?_append_right (by simp; omega), List.getElem?_drop]
    simp only [List.length_map, List.length_take]
    rw [show j + (q - min j l.length) = q from by omega, hz]
    simp [h]
theorem mvTo_same (l : List S36) (a b : Int) (j : Nat) (z : S36) (hz : l[j]? = some z) (h : z.f1 ≠ a) : mvTo l a b (j + 1) = mvTo l a b j := by
  refine List.ext_getElem? fun q => ?_
  by_cases hq : q < l.length
  · have hx := List.getElem?_eq_getElem hq
    rw [mvTo_get l a b _ q _ hx, mvTo_get l a b _ q _ hx]
    by_cases e : q = j
    · subst e
      rw [hz] at hx
      injection hx with hx
      subst hx
      simp [h]
    · by_cases h1 : q < j
      · simp [h1, show q < j + 1 by omega]
      · simp [h1, show ¬ q < j + 1 by omega]
  · rw [List.getElem?_eq_none (by rw [mvTo_len]; omega), List.getElem?_eq_none (by rw [mvTo_len]; omega)]
theorem mvTo_step (l : List S36) (a b : Int) (j : Nat) (z : S36) (hz : l[j]? = some z) (h : z.f1 = a) : (mvTo l a b j).set j ⟨z.f0, b, z.f2⟩ = mvTo l a b (j + 1) := by
  have hjl := (List.getElem?_eq_some_iff.1 hz).1
  refine List.ext_getElem? fun q => ?_
  by_cases hq : q < l.length
  · have hx := List.getElem?_eq_getElem hq
    rw [mvTo_get l a b (j + 1) q _ hx]
    by_cases e : q = j
    · subst e
      rw [List.getElem?_set_self (by rw [mvTo_len]; exact hq)]
      rw [hz] at hx
      injection hx with hx
      subst hx
      simp [h]
    · rw [List.getElem?_set_ne (by omega), mvTo_get l a b j q _ hx]
      by_cases h1 : q < j
      · simp [h1, show q < j + 1 by omega]
      · simp [h1, show ¬ q < j + 1 by omega]
  · rw [List.getElem?_eq_none (by simp [mvTo_len]; omega), List.getElem?_eq_none (by rw [mvTo_len]; omega)]

/-- What the loop keeps: the first j legs are moved; the variables lie as they lay. -/
structure MI (w : World) (base B g c : Nat) (l : List S36) (nx : Int) (b1 b2 b5 n0 : Nat) (p5 : Value) (fr to_ : Int) (j : Nat) (W : World) : Prop where
  E : Ed W base B (some ⟨g, 0, none⟩) c (mvTo l fr to_ j) nx
  x1 : Boxed W b1 61 (.pointer (some ⟨B, 0, none⟩))
  x2 : Boxed W b2 3 (.int .i64 fr)
  x5 : Boxed W b5 64 p5
  bw : Below base w W
  sz : n0 ≤ W.heap.size
  lo : B < n0 ∧ g < n0 ∧ b1 < n0 ∧ b2 < n0 ∧ b5 < n0 ∧ base ≤ n0

section
variable {w : World} {base B g c : Nat} {l : List S36} {nx : Int} {b1 b2 b5 n0 : Nat} {p5 : Value} {fr to_ : Int} {j : Nat} {W W' : World}
theorem MI.grown (h : MI w base B g c l nx b1 b2 b5 n0 p5 fr to_ j W) {row : Option Nat} (hg : W.grownBy W' row) (hr : ∀ r, row = some r → n0 ≤ r) : MI w base B g c l nx b1 b2 b5 n0 p5 fr to_ j W' := by
  obtain ⟨l1, l2, l3, l4, l5, l6⟩ := h.lo
  exact ⟨⟨h.E.le, Nat.le_trans h.E.bl hg.size, (hg.block B h.E.lt (fun e => by have := hr _ e.symm; omega)).trans h.E.hB, h.E.hO.other hg (fun g' e e2 => by cases e; have := hr _ e2.symm; omega)⟩,
    h.x1.kept hg (fun e => by have := hr _ e.symm; omega), h.x2.kept hg (fun e => by have := hr _ e.symm; omega), h.x5.kept hg (fun e => by have := hr _ e.symm; omega),
    h.bw.grown hg (Nat.le_trans l6 h.sz) (fun k e => by have := hr k e; omega), Nat.le_trans h.sz hg.size, h.lo⟩
theorem MI.drew (h : MI w base B g c l nx b1 b2 b5 n0 p5 fr to_ j W) : MI w base B g c l nx b1 b2 b5 n0 p5 fr to_ j W.drew := h.grown (row := none) ⟨rfl, rfl, rfl, Nat.le_refl _, fun _ _ _ => rfl⟩ (fun r e => by cases e)
end

set_option maxRecDepth 100000 in
set_option maxHeartbeats 8000000 in
theorem merge_any (x y : Int) (on : Bool) : DoOp 40 (.agg #[.int .i64 x, .int .i64 y, .bool on]) (mergeOp x y) := by
  intro w base B A c l nx hl hn0 hn1 hE
  have hC := Cl.start (x := x) (y := y) (on := on) hE
  have hf : ∀ W id, Cl w base B A c l nx w.heap.size x y on W → Calls Try.prog 37 #[.pointer (some ⟨B, 0, none⟩), .int .i64 id] W fun e w' => e = .returned (.pointer (legP A (fnd l id))) ∧ (Cl w base B A c l nx w.heap.size x y on w' ∧ Below W.heap.size W w') := fun W id h =>
    (find_any B A c l nx id W h.E.hB h.E.hO.C).mono fun _ _ ⟨he, hb⟩ => ⟨by rw [← legAt_P]; exact he, h.below hb, hb⟩
  have k1 := hC.tx
  have k2 := hC.ty
  have hbl := hE.bl
  have hlo : B < w.heap.size ∧ ∀ g, A = some ⟨g, 0, none⟩ → g < w.heap.size := ⟨hE.lt, fun g e => by subst e; exact blk_lt hE.hO.blk.choose_spec⟩
  clear hE
  refine (callsIn_wide (n := 5)).1 (callsIn_of_wp_marks Try.func40 rfl trivial (wpIn_wide.2 ?_) rfl)
  simp only [Try.ntmps40, List.size_toArray, List.length_cons, List.length_nil, Nat.reduceAdd, Nat.reduceSub, Array.replicate_succ, Array.replicate_zero, List.push_toArray, List.append_toArray, List.nil_append, List.cons_append]
  go_upto_region 1 with (fail)
  refine Code.wp_mono (Q := normalOnly (fun a' W => ∃ (b5 : Nat) (u9 u10 u11 u12 u13 u14 u15 u16 : Value), a' = (⟨#[.agg #[.int .i64 x, .int .i64 y, .bool on], .pointer (some ⟨B, 0, none⟩), .pointer (some ⟨w.heap.size, 0, none⟩), undef, .int .i64 0, .pointer (some ⟨b5, 0, none⟩), .pointer (legP A (fnd l y)), undef, undef, u9, u10, u11, u12, u13, u14, u15, u16, undef, undef, undef, undef, undef, undef, undef, undef, undef, undef, undef, undef, undef, undef, undef, undef, undef, undef, undef, undef, undef, undef, undef, undef, undef, undef, undef, undef, undef, undef, undef, undef, undef, undef, undef, undef, undef, undef, undef, undef, undef, undef, undef, undef, undef, undef], []⟩ : Act) ∧ Aside0 (W.heap[b5]? = some (.cells #[.pointer (legP A (fnd l x))] 64 (0, 0)) ∧ w.heap.size < b5 ∧ Cl w base B A c l nx w.heap.size x y on W))) ?rest ?first
  case first =>
    go_region_with (first | (go_at_call_of 37 (Value.int .i64 x); refine (hf _ x (by first | exact hC.drew | exact (hC.alloc _).drew)).mono ?_; rintro e w1 ⟨rfl, hC1, hB1⟩; have k1' := hC1.tx; have k2' := hC1.ty; have kb1 := hB1.size; (try (simp only [World.size_alloc, World.size_drew] at kb1; replace kb1 := Nat.lt_of_succ_le kb1)); obtain ⟨hc1, hf1⟩ := bcell hB1) | (go_at_call_of 37 (Value.int .i64 y); refine (hf _ y (by first | exact hC1 | exact hC1.alloc _)).mono ?_; rintro e w2 ⟨rfl, hC2, hB2⟩; have k1'' := hC2.tx; have k2'' := hC2.ty; have kb2 := hB2.size; (try (simp only [World.size_alloc, World.size_drew] at kb2; replace kb2 := Nat.lt_of_succ_le kb2)); obtain ⟨hc2, hf2⟩ := bcell hB2))
    all_goals first
      | exact ⟨_, _, _, _, _, _, _, _, _, rfl, ⟨heap_alloc_new _ _, by have := hC2.lt_tb; omega, hC2.alloc _⟩⟩
      | exact ⟨_, _, _, _, _, _, _, _, _, rfl, ⟨set_at ((hB2.block _ (by simp)).trans (heap_alloc_new _ _)) _, by have := hC1.lt_tb; omega, hC2.setNew hlo (by have := hC1.lt_tb; omega) hbl _⟩⟩
      | exact ⟨_, _, _, _, _, _, _, _, _, rfl, ⟨set_at ((hB2.block _ kb1).trans ((hB1.block _ (by simp [World.size_drew])).trans (alloc_at (by simp)))) _, by omega, hC2.setNew hlo (by omega) hbl _⟩⟩
  case rest =>
    intro e a' wc h
    cases e with
    | exit id => exact h.elim
    | goto id => exact h.elim
    | ret => exact h.elim
    | panic id => exact h.elim
    | outgrown => exact h.elim
    | normal =>
    obtain ⟨b5, u9, u10, u11, u12, u13, u14, u15, u16, rfl, HW⟩ := h
    clear k1 k2 hf hC
    simp only [Exit.then]
    have kb := (blk_cell HW.out.1 0).trans rfl
    have fin : ∀ (W : World), Cl w base B A c l nx w.heap.size x y on W → mergeOp x y l nx = (180, l, nx) →
        ∃ A' c', Ending.returned (.int .i64 180) = Ending.returned (.int .i64 (mergeOp x y l nx).1) ∧ Ed W base B A' c' (mergeOp x y l nx).2.1 (mergeOp x y l nx).2.2 ∧ Below base w W := fun W h e => by
      rw [e]; exact ⟨A, c, rfl, h.E, h.b⟩
    have FIN := Aside0.mk fin
    clear fin
    by_cases hi : fnd l x < 0
    · have HE := Aside0.mk (show mergeOp x y l nx = (180, l, nx) by simp [mergeOp, hi])
      have e2 : legP A (fnd l x) = none := by simp [legP, show ¬ 0 ≤ fnd l x by omega]
      rw [e2] at kb
      clear hi e2
      go_wp2
      go_quiet (fail)
      go_wp2
      (refine ⟨_, results_tmp rfl _ _ _, ?_⟩; exact FIN.out _ (HW.out.2.2.drewN _) HE.out)
    · obtain ⟨i, hi'⟩ : ∃ i : Nat, fnd l x = i := ⟨(fnd l x).toNat, by omega⟩
      have hil : i < l.length := by have := fnd_lt (fun z => z.f0 == x) l; change fnd l x < _ at this; omega
      obtain ⟨g, rfl, hlx⟩ := legAt_some HW.out.2.2.E.hO i hil
      have e2 : legP (some ⟨g, 0, none⟩) (fnd l x) = some ⟨g, i * 3, none⟩ := by rw [hi']; rw [legAt_P] at hlx; injection hlx
      rw [e2] at kb HW
      by_cases hk : fnd l y < 0
      · have HE := Aside0.mk (show mergeOp x y l nx = (180, l, nx) by simp [mergeOp, hk])
        have e3 : legP (some ⟨g, 0, none⟩) (fnd l y) = none := by simp [legP, show ¬ 0 ≤ fnd l y by omega]
        rw [e3]
        clear hi hi' hk hlx e2 e3 hil
        go_wp2
        go_quiet (fail)
        go_wp2
        (refine ⟨_, results_tmp rfl _ _ _, ?_⟩; exact FIN.out _ (HW.out.2.2.drewN _) HE.out)
      · obtain ⟨k, hk'⟩ : ∃ k : Nat, fnd l y = k := ⟨(fnd l y).toNat, by omega⟩
        have hkl : k < l.length := by have := fnd_lt (fun z => z.f0 == y) l; change fnd l y < _ at this; omega
        obtain ⟨g', eg, hly⟩ := legAt_some HW.out.2.2.E.hO k hkl
        cases eg
        have e3 : legP (some ⟨g, 0, none⟩) (fnd l y) = some ⟨g, k * 3, none⟩ := by rw [hk']; rw [legAt_P] at hly; injection hly
        rw [e3]
        have c1 := HW.out.2.2.E.hO.cell (j := 1) (rd_at l i hil) rfl
        have c2 := HW.out.2.2.E.hO.cell (j := 1) (rd_at l k hkl) rfl
        have HM : Hid (mergeOp x y l nx = if (rd_T36 l (i : Int)).f1 = 0 ∨ (rd_T36 l (k : Int)).f1 = 0 ∨ (rd_T36 l (i : Int)).f1 = (rd_T36 l (k : Int)).f1 then (180, l, nx) else (0, moveTo l (rd_T36 l (k : Int)).f1 (rd_T36 l (i : Int)).f1, nx)) := by
          show mergeOp x y l nx = _
          simp only [mergeOp, hi', hk', at_]
          have n1 : ¬ ((i : Int) < 0) := by omega
          have n2 : ¬ ((k : Int) < 0) := by omega
          simp only [n1, n2, false_or]
        clear hi hi' hk hk' hlx hly e2 e3
        obtain ⟨cx, hcx⟩ : ∃ cx, cx = (rd_T36 l (i : Int)).f1 := ⟨_, rfl⟩
        obtain ⟨cy, hcy⟩ : ∃ cy, cy = (rd_T36 l (k : Int)).f1 := ⟨_, rfl⟩
        have HC := Aside0.mk (And.intro (show cfAt l i = cx from hcx.symm) (show cfAt l k = cy from hcy.symm))
        rw [← hcx, ← hcy] at HM
        rw [← hcx] at c1
        rw [← hcy] at c2
        clear hcx hcy
        by_cases h1 : cx = 0
        · have HE := Aside0.mk (show mergeOp x y l nx = (180, l, nx) by rw [HM.out]; simp [h1])
          have h1b : (cx == 0) = true := by simpa using h1
          clear h1 HM
          go_wp2
          go_quiet (fail)
          go_wp2
          (refine ⟨_, results_tmp rfl _ _ _, ?_⟩; exact FIN.out _ (HW.out.2.2.drewN _) HE.out)
        · have h1b : (cx == 0) = false := by simpa using h1
          by_cases h2 : cy = 0
          · have HE := Aside0.mk (show mergeOp x y l nx = (180, l, nx) by rw [HM.out]; simp [h2])
            have h2b : (cy == 0) = true := by simpa using h2
            clear h1 h2 HM
            go_wp2
            go_quiet (fail)
            go_wp2
            (refine ⟨_, results_tmp rfl _ _ _, ?_⟩; exact FIN.out _ (HW.out.2.2.drewN _) HE.out)
          · have h2b : (cy == 0) = false := by simpa using h2
            by_cases h3 : cx = cy
            · have HE := Aside0.mk (show mergeOp x y l nx = (180, l, nx) by rw [HM.out]; simp [h3])
              have h3b : (cx == cy) = true := by simpa using h3
              clear h1 h2 h3 HM
              go_wp2
              go_quiet (fail)
              go_wp2
              (refine ⟨_, results_tmp rfl _ _ _, ?_⟩; exact FIN.out _ (HW.out.2.2.drewN _) HE.out)
            · have h3b : (cx == cy) = false := by simpa using h3
              have HE := Aside0.mk (show mergeOp x y l nx = (0, moveTo l cy cx, nx) by rw [HM.out]; simp [h1, h2, h3])
              have HN := Aside0.mk h3
              clear h1 h2 h3 HM FIN
              go_wp2
              go_quiet (fail)
              go_wp2_with (go_at_call 38; refine (members_any _ _ _).mono ?_; rintro e w' ⟨rfl, rfl⟩)
              have hCl := HW.out.2.2.drewN nq
              have hb5 : (wc.drewN nq).heap[b5]? = some (.cells #[.pointer (some ⟨g, i * 3, none⟩)] 64 (0, 0)) := (drawn (Below.refl _ wc) nq).block b5 (blk_lt HW.out.1) |>.trans HW.out.1
              have hb5' : w.heap.size < b5 := HW.out.2.1
              have hbz : (wc.drewN nq).heap.size = wc.heap.size := by simp
              clear kb c1 c2 HW
              generalize wc.drewN nq = wd at *
              rw [← hbz]
              obtain ⟨W0, hW0⟩ : ∃ W0, (wd.alloc (.cells #[.pointer (some ⟨B, 0, none⟩)] 61)).alloc (.cells #[.int .i64 cy] 3) = W0 := ⟨_, rfl⟩
              rw [hW0]
              have hsz0 : W0.heap.size = wd.heap.size + 2 := by rw [← hW0]; simp
              have hx1 : Boxed W0 wd.heap.size 61 (.pointer (some ⟨B, 0, none⟩)) := by rw [← hW0]; exact (Boxed.new wd 61 _).alloc _
              have hx2 : Boxed W0 (wd.heap.size + 1) 3 (.int .i64 cy) := by
                rw [← hW0]
                have := Boxed.new (wd.alloc (.cells #[.pointer (some ⟨B, 0, none⟩)] 61)) 3 (.int .i64 cy)
                simpa using this
              have hCl0 : Cl w base B (some ⟨g, 0, none⟩) c l nx w.heap.size x y on W0 := by rw [← hW0]; exact (hCl.alloc _).alloc _
              have hx5 : Boxed W0 b5 64 (.pointer (some ⟨g, i * 3, none⟩)) := by
                rw [← hW0]
                have h5 : Boxed wd b5 64 (.pointer (some ⟨g, i * 3, none⟩)) := hb5
                exact (h5.alloc _).alloc _
              have hb5lt := blk_lt hb5
              clear hW0 hb5 hCl
              generalize wd.heap.size = b1 at *
              clear wd
              have hM0 : MI w base B g c l nx b1 (b1 + 1) b5 W0.heap.size (.pointer (some ⟨g, i * 3, none⟩)) cy cx 0 W0 :=
                ⟨by rw [mvTo_zero]; exact hCl0.E, hx1, hx2, hx5, hCl0.b, Nat.le_refl _, ⟨by have := hlo.1; omega, by have := hlo.2 g rfl; omega, by omega, by omega, by omega, by omega⟩⟩
              refine (wpIn_wide (n := 5)).1 ?_
              refine wpIn_members2 55 8 b1 (b1 + 1) B (some ⟨g, 0, none⟩) l.length c cy (cfAt l) (by omega) rfl
                (MI w base B g c l nx b1 (b1 + 1) b5 W0.heap.size (.pointer (some ⟨g, i * 3, none⟩)) cy cx) ?own ?read (fun j W h => h.drew) ?skip hM0 ?assign ?body ?done
              case own => exact fun j W W' row h hg hr => h.grown hg (fun r e => (hr r e).1)
              case read =>
                intro j W h
                refine ⟨h.x1.cell, h.x2.cell, by rw [h.E.cell0, mvTo_len], fun hj => ⟨_, rfl, ?_⟩⟩
                rw [addr_leg]
                have hz := mvTo_get l cy cx j j _ (rd_at l j hj)
                rw [if_neg (by simp)] at hz
                exact h.E.hO.cell (j := 1) hz rfl
              case skip =>
                intro j W h hj hc
                have e := mvTo_same l cy cx j _ (rd_at l j hj) hc
                exact ⟨by rw [e]; exact h.E, h.x1, h.x2, h.x5, h.bw, h.sz, h.lo⟩
              case assign =>
                intro l' ad W K hK
                simp only [List.setIfInBounds_toArray, List.set_cons_zero, List.set_cons_succ] at hK ⊢
                gi_wp2
                exact hK
              case body =>
                intro l' j ad W h hj hc hA
                obtain rfl : (⟨g, 0, none⟩ : Addr) = ad := by injection hA
                rw [addr_leg]
                simp only [List.setIfInBounds_toArray, List.set_cons_zero, List.set_cons_succ]
                have hzi := mvTo_get l cy cx j i _ (rd_at l i hil)
                rw [if_neg (by rw [show (rd_T36 l (i : Int)).f1 = cx from HC.out.1]; exact fun e => HN.out e.2)] at hzi
                have hzj := mvTo_get l cy cx j j _ (rd_at l j hj)
                rw [if_neg (by simp)] at hzj
                have q1 := h.E.hO.cell (j := 1) hzi rfl
                rw [show (rd_T36 l (i : Int)).f1 = cx from HC.out.1] at q1
                have q2 := h.E.hO.cell (j := 1) hzj rfl
                have q3 := h.E.hO.free (j * 3 + 1)
                have q5 := h.x5.cell
                have H := Aside0.mk h
                have HZ := Aside0.mk hzj
                clear h hzi hzj hA
                gi_wp2
                obtain ⟨p1, g1⟩ := H.out.E.hO.put (j := 1) (u := .int .i64 cx) (y := ⟨(rd_T36 l (j : Int)).f0, cx, (rd_T36 l (j : Int)).f2⟩) HZ.out (by omega) rfl
                rw [mvTo_step l cy cx j _ (rd_at l j hj) hc] at p1
                obtain ⟨l1, l2, l3, l4, l5, l6⟩ := H.out.lo
                have E1 := H.out.E.turned g1 p1 (by rw [mvTo_len, mvTo_len])
                exact ⟨KeepsOthers.setCell _ _ _, E1, H.out.x1.kept g1 (by have := H.out.x1.not_row (by decide) H.out.E.hO; exact this), H.out.x2.kept g1 (by have := H.out.x2.not_row (by decide) H.out.E.hO; exact this),
                  H.out.x5.kept g1 (by have := H.out.x5.not_row (by decide) H.out.E.hO; exact this), H.out.bw.trans (below_of_grown H.out.E.bl g1 H.out.E.base), Nat.le_trans H.out.sz g1.size, H.out.lo⟩
              case done =>
                intro D W hD h hK
                have h2 := h.grown (grownBy_putObj' W D (.deferred none)) (fun r e => by cases e; exact hD)
                have hE := h2.E
                rw [mvTo_all] at hE
                have H := Aside0.mk (And.intro hE h2.bw)
                clear h h2 hE
                go_wp2
                refine ⟨by simp, .inl ⟨_, _, rfl, run_takeDeferred hK, ?_⟩⟩
                refine ⟨_, results_tmp rfl _ _ _, ?_⟩
                rw [HE.out]
                exact ⟨_, c, rfl, H.out.1, H.out.2⟩
end Go.Proofs.Ytmjenmhidnkbdaa.P
