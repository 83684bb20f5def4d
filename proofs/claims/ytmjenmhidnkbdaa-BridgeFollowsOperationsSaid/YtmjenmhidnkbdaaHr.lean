/- bridge.Hears: the numbers of the other legs of a conference that are not on hold. -/
import Derived.Test.YtmjenmhidnkbdaaHq
import Derived.Test.YtmjenmhidnkbdaaHi
namespace Go.Proofs.Ytmjenmhidnkbdaa.P
open Go.RowKit Go.Shelf Go.Proofs.YtmjenmhidnkbdaaW.PrintWords Go.Proofs.YtmjenmhidnkbdaaW.PrintLast Go.Proofs.YtmjenmhidnkbdaaW.PrintMore
set_option linter.unusedVariables false
set_option linter.unusedSimpArgs false
attribute [local go_sem] Oper.semAt_some
attribute [-go_sem] Builtin.append_

/-- What a leg hears among the first n. -/
def hTo (l : List S36) (i n : Nat) : List Int := ((List.range n).filter fun (j : Nat) => (cfAt l j == cfAt l i) && !(j == i) && !(rd_T36 l (j : Int)).f2).map fun (j : Nat) => (rd_T36 l (j : Int)).f0
def hearsL (l : List S36) (id : Int) : List Int :=
  let i := fnd l id
  if i < 0 ∨ (at_ l i).f1 = 0 ∨ (at_ l i).f2 = true then [] else hTo l i.toNat l.length
theorem hTo_succ (l : List S36) (i n : Nat) : hTo l i (n + 1) = hTo l i n ++ (if cfAt l n = cfAt l i ∧ n ≠ i ∧ (rd_T36 l (n : Int)).f2 = false then [(rd_T36 l (n : Int)).f0] else []) := by
  unfold hTo
  rw [List.range_succ, List.filter_append, List.map_append]
  congr 1
  by_cases h1 : cfAt l n = cfAt l i
  · by_cases h2 : n = i
    · simp [h1, h2]
    · cases h3 : (rd_T36 l (n : Int)).f2 <;> simp [h1, h2, h3]
  · simp [h1]
theorem hTo_len (l : List S36) (i n : Nat) : (hTo l i n).length ≤ n := by
  unfold hTo
  rw [List.length_map]
  exact Nat.le_trans (List.length_filter_le _ _) (by simp)
def iv (xs : List Int) : List Value := xs.map (Value.int .i64)

theorem eq_gen (W : World) (ad : Addr) (a b : Nat) : (Op.equal 64 (.pointer (some (ad.add (a * 3)))) (.pointer (some (ad.add (b * 3))))).run Try.prog W = .ok (a == b) W := by
  obtain ⟨i0, hi, hz0, hz1, hz2⟩ := info_parts info36z
  have e : ((ad.add (a * 3)) == (ad.add (b * 3))) = (a == b) := by
    by_cases h : a = b
    · subst h; simp
    · have h1 : (a == b) = false := by simpa using h
      rw [h1]
      have hne : ad.add (a * 3) ≠ ad.add (b * 3) := by
        intro e
        have := congrArg Addr.off e
        unfold Addr.add at this
        split at this <;> split at this <;> simp at this <;> omega
      simpa using hne
  have hbk : (ad.add (a * 3)).block = (ad.add (b * 3)).block := by
    unfold Addr.add
    split <;> split <;> simp
  have h : ∀ d : Nat, (Op.equalIn (d + 1) 64 (.pointer (some (ad.add (a * 3)))) (.pointer (some (ad.add (b * 3))))).run Try.prog W = .ok (a == b) W := fun d => by
    simp [Op.equalIn, run_underlying Try.underlying64, sizeOf, typeInfo, hi, hz1, sameAddr, e, hbk]
  simp [Op.equal, Op.maxDepth, h 9999]
theorem neqGen (W : World) (ad : Addr) (a b : Nat) : (binOp .neq 64 (.pointer (some (ad.add (a * 3)))) (.pointer (some (ad.add (b * 3))))).run Try.prog W = .ok (.bool (!(a == b))) W := by
  simp only [binOp]
  simp [eq_gen W ad a b]

theorem R_ints {w : World} {base : Nat} {v : Value} {xs : List Int} (h : w.ownsRow base 3 1 v xs.length (iv xs)) : Kd.R (Kd.int .i64) 3 w base (fun _ => True) v xs :=
  ⟨fun _ _ => trivial, _, h, by show (iv xs).length = xs.length * 1; simp [iv], fun j p hp => by have e : ((iv xs).drop (j * 1)).take 1 = [.int .i64 p] := (by rw [Nat.mul_one, List.take_one, List.head?_drop]; simp [iv, hp]); show (Kd.int .i64).M w base _ p (((iv xs).drop (j * 1)).take 1); rw [e]; exact rfl⟩

/-- What the loop keeps. -/
structure HI (w : World) (ad : Addr) (c : Nat) (l : List S36) (nx : Int) (k B b1 b2 b6 b7 n0 : Nat) (j : Nat) (W : World) : Prop where
  x1 : Boxed W b1 61 (.pointer (some ⟨B, 0, none⟩))
  x2 : Boxed W b2 3 (.int .i64 (cfAt l k))
  x6 : Boxed W b6 64 (.pointer (some (ad.add (k * 3))))
  hB : W.heap[B]? = some (.cells #[.slice (some ad) l.length c, .int .i64 nx] 63 (0, 0))
  row : ∃ v, Boxed W b7 33 v ∧ W.ownsRow n0 3 1 v (hTo l k j).length (iv (hTo l k j))
  bw : Below w.heap.size w W
  sz : n0 ≤ W.heap.size
  lo : B < n0 ∧ b1 < n0 ∧ b2 < n0 ∧ b6 < n0 ∧ b7 < n0 ∧ w.heap.size ≤ b7 ∧ w.heap.size ≤ n0 ∧ b7 ≠ B ∧ b7 ≠ b1 ∧ b7 ≠ b2 ∧ b7 ≠ b6
section
variable {w : World} {ad : Addr} {c : Nat} {l : List S36} {nx : Int} {k B b1 b2 b6 b7 n0 j : Nat} {W W' : World}
theorem HI.grown (h : HI w ad c l nx k B b1 b2 b6 b7 n0 j W) {row : Option Nat} (hg : W.grownBy W' row) (hr : ∀ r, row = some r → n0 ≤ r ∧ ∀ cs t fr, W.heap[r]? ≠ some (.cells cs t fr)) : HI w ad c l nx k B b1 b2 b6 b7 n0 j W' := by
  obtain ⟨l1, l2, l3, l4, l5, l6, l7, _⟩ := h.lo
  obtain ⟨v, hv, hrow⟩ := h.row
  refine ⟨h.x1.kept hg (fun e => by have := (hr _ e.symm).1; omega), h.x2.kept hg (fun e => by have := (hr _ e.symm).1; omega), h.x6.kept hg (fun e => by have := (hr _ e.symm).1; omega),
    (hg.block B (blk_lt h.hB) (fun e => by have := (hr _ e.symm).1; omega)).trans h.hB, ⟨v, hv.kept hg (fun e => by have := (hr _ e.symm).1; omega), hrow.kept hg ?_⟩,
    h.bw.grown hg (by have := h.sz; omega) (fun k e => by have := (hr k e).1; omega), Nat.le_trans h.sz hg.size, h.lo⟩
  cases hb : v.ownBlock with
  | none => exact .inl rfl
  | some g =>
    refine .inr fun e => ?_
    obtain ⟨cs, hcs⟩ := own_typed hrow g hb
    exact (hr g e.symm).2 _ _ _ hcs
theorem HI.drew (h : HI w ad c l nx k B b1 b2 b6 b7 n0 j W) : HI w ad c l nx k B b1 b2 b6 b7 n0 j W.drew := h.grown (row := none) ⟨rfl, rfl, rfl, Nat.le_refl _, fun _ _ _ => rfl⟩ (fun r e => by cases e)
theorem HI.leg (h : HI w ad c l nx k B b1 b2 b6 b7 n0 j W) (hr : Kd.C k36 w (some ad) l.length l) (q : Nat) (hq : q < l.length) :
    W.cell? (ad.add (q * 3)) = some (.int .i64 (rd_T36 l (q : Int)).f0) ∧ W.cell? ⟨(ad.add (q * 3)).block, (ad.add (q * 3)).off + 1, none⟩ = some (.int .i64 (cfAt l q)) ∧ W.cell? ⟨(ad.add (q * 3)).block, (ad.add (q * 3)).off + 2, none⟩ = some (.bool (rd_T36 l (q : Int)).f2) := by
  obtain ⟨ad', e, hc0, hc1, hc2⟩ := at_T36 (Kd.C_below hr h.bw) (q : Int) (by omega) (by omega)
  cases e
  simp only [Int.toNat_natCast] at hc0 hc1 hc2
  exact ⟨hc0, hc1, hc2⟩
theorem HI.push (h : HI w ad c l nx k B b1 b2 b6 b7 n0 j W) {v v' tmpv : Value} {x0 : Int} (hv : Boxed W b7 33 v) (hrow : W.ownsRow n0 3 1 v (hTo l k j).length (iv (hTo l k j)))
    (hown : W'.ownsRow n0 3 1 v' ((hTo l k j).length + 1) (iv (hTo l k j) ++ [.int .i64 x0])) (hg : (W.alloc (.cells #[tmpv] 3)).drew.grownBy W' v.ownBlock) (he : hTo l k (j + 1) = hTo l k j ++ [x0]) :
    KeepsOthers W (W'.setCell ⟨b7, 0, none⟩ v') ∧ HI w ad c l nx k B b1 b2 b6 b7 n0 (j + 1) (W'.setCell ⟨b7, 0, none⟩ v') := by
  obtain ⟨l1, l2, l3, l4, l5, l6, l7, l8, l9, l10, l11⟩ := h.lo
  have hg1 : (W.alloc (.cells #[tmpv] 3)).grownBy W' v.ownBlock := ⟨hg.os, hg.tape, hg.output, hg.size, hg.block⟩
  have hge : ∀ g, v.ownBlock = some g → n0 ≤ g := fun g e => (World.ownsRow.lt hrow g e).1
  obtain ⟨hv1, hv2, _, hk, hb⟩ := hv.appended (by decide) (own_weaken hrow (show b7 ≤ n0 by omega)) (by have := h.sz; omega) (Nat.le_refl _) (own_weaken hown (show b7 ≤ n0 by omega)) hg1
  have hrow2 := hown.kept (grownBy_setCell' W' b7 v') (.inr (hv1.not_row (by decide) hown).symm)
  have hg0 : W.grownBy W' v.ownBlock := (World.grownBy_alloc W _ _).trans hg1
  refine ⟨hk, (h.x1.kept hg0 (fun e => by have := hge _ e.symm; omega)).other (fun e => l9 e.symm) v', (h.x2.kept hg0 (fun e => by have := hge _ e.symm; omega)).other (fun e => l10 e.symm) v', (h.x6.kept hg0 (fun e => by have := hge _ e.symm; omega)).other (fun e => l11 e.symm) v', ?_, ⟨v', hv2, ?_⟩, ?_, ?_, h.lo⟩
  · exact (Below.heap_setCell W' ⟨b7, 0, none⟩ v' B (fun e => l8 e.symm)).trans ((hg0.block B (blk_lt h.hB) (fun e => by have := hge _ e.symm; omega)).trans h.hB)
  · rw [he]
    simpa [iv] using hrow2
  · exact h.bw.trans (hb.mono (by omega))
  · have := hg0.size
    simp [World.setCell]
    exact Nat.le_trans h.sz this
theorem HI.same (h : HI w ad c l nx k B b1 b2 b6 b7 n0 j W) (he : hTo l k (j + 1) = hTo l k j) : HI w ad c l nx k B b1 b2 b6 b7 n0 (j + 1) W :=
  ⟨h.x1, h.x2, h.x6, h.hB, by rw [he]; exact h.row, h.bw, h.sz, h.lo⟩
end

set_option maxRecDepth 100000 in
set_option maxHeartbeats 4000000 in
theorem hears_any (A : Option Addr) (c : Nat) (l : List S36) (nx id : Int) (w : World) (hr : Kd.C k36 w A l.length l) (hlen : l.length ≤ 2000) :
    Calls Try.prog 16 #[.agg #[.slice A l.length c, .int .i64 nx], .int .i64 id] w fun e w' =>
      ∃ v, e = .returned v ∧ Kd.R (Kd.int .i64) 3 w' w.heap.size (fun _ => True) v (hearsL l id) ∧ Below w.heap.size w w' := by
  have hr2 : Kd.C k36 ((w.alloc (.cells #[.slice A l.length c, .int .i64 nx] 24)).alloc (.cells #[.slice A l.length c, .int .i64 nx] 63)) A l.length l :=
    Kd.C_below hr (((Below.refl w.heap.size w).alloc (Nat.le_refl _) _).alloc (by simp) _)
  have hs : (w.alloc (.cells #[.slice A l.length c, .int .i64 nx] 24)).heap.size = w.heap.size + 1 := by simp
  have hB2 : ((w.alloc (.cells #[.slice A l.length c, .int .i64 nx] 24)).alloc (.cells #[.slice A l.length c, .int .i64 nx] 63)).heap[w.heap.size + 1]? = some (.cells #[.slice A l.length c, .int .i64 nx] 63 (0, 0)) := by
    rw [← hs]; exact heap_alloc_new _ _
  have hk0 : (w.alloc (.cells #[.slice A l.length c, .int .i64 nx] 24)).cell? ⟨w.heap.size, 0, none⟩ = some (.slice A l.length c) := (blk_cell (heap_alloc_new w _) 0).trans rfl
  have hk1 : (w.alloc (.cells #[.slice A l.length c, .int .i64 nx] 24)).cell? ⟨w.heap.size, 1, none⟩ = some (.int .i64 nx) := (blk_cell (heap_alloc_new w _) 1).trans rfl
  have hf := find_any (w.heap.size + 1) A c l nx id _ hB2 hr2
  have HB2 := Aside0.mk hB2
  have HR := Aside0.mk hr
  have hb2 : Below w.heap.size w ((w.alloc (.cells #[.slice A l.length c, .int .i64 nx] 24)).alloc (.cells #[.slice A l.length c, .int .i64 nx] 63)) := ((Below.refl w.heap.size w).alloc (Nat.le_refl _) _).alloc (by simp) _
  have HBW := Aside0.mk hb2
  clear hr hr2 hB2 hb2 hs
  by_cases hi : fnd l id < 0
  · have HE := Aside0.mk (show hearsL l id = [] by simp [hearsL, hi])
    rw [legAt_none hi] at hf
    go_enter Try.func16, Try.ntmps16
    go_wp2_with (go_at_call 37; refine hf.mono ?_; rintro e w1 ⟨rfl, hb⟩; have HB := Aside0.mk hb; clear hb)
    go_ret
    rw [HE.out]
    exact ⟨_, rfl, R_ints (xs := []) (World.ownsRow_nil _ _ _ _), (HBW.out.trans (HB.out.mono (by simp; omega))).alloc (by have := HB.out.size; simp at this; omega) _⟩
  · obtain ⟨k, hk'⟩ : ∃ k : Nat, fnd l id = k := ⟨(fnd l id).toNat, by omega⟩
    have hkl : k < l.length := by have := fnd_lt (fun z => z.f0 == id) l; change fnd l id < _ at this; omega
    rw [hk'] at hf
    obtain ⟨ad, rfl, _, hq1, _⟩ := at_T36 HR.out (k : Int) (by omega) (by omega)
    simp only [Int.toNat_natCast] at hq1
    have hadb : (ad.add (k * 3)).block < w.heap.size := World.block_lt_of_cell? w ⟨(ad.add (k * 3)).block, (ad.add (k * 3)).off + 1, none⟩ hq1
    clear hq1
    rw [show legAt (some ad) (k : Int) = .pointer (some (ad.add (k * 3))) by simp [legAt]] at hf
    have hx : ∀ W, Below w.heap.size w W → W.cell? ⟨(ad.add (k * 3)).block, (ad.add (k * 3)).off + 1, none⟩ = some (.int .i64 (cfAt l k)) ∧ W.cell? ⟨(ad.add (k * 3)).block, (ad.add (k * 3)).off + 2, none⟩ = some (.bool (rd_T36 l (k : Int)).f2) := fun W hb => by
      obtain ⟨ad', e, hc0, hc1, hc2⟩ := at_T36 (Kd.C_below HR.out hb) (k : Int) (by omega) (by omega)
      cases e
      simp only [Int.toNat_natCast] at hc1 hc2
      exact ⟨hc1, hc2⟩
    have HX := Aside0.mk hx
    clear hx
    by_cases h0 : cfAt l k = 0
    · have HE := Aside0.mk (show hearsL l id = [] by unfold hearsL; rw [hk']; simp only [Int.toNat_natCast]; rw [if_pos (.inr (.inl h0))])
      clear hi hk'
      go_enter Try.func16, Try.ntmps16
      go_wp2_with (go_at_call 37; refine hf.mono ?_; rintro e w1 ⟨rfl, hb⟩; have hal : (ad.add (k * 3)).block < w1.heap.size := (by have := hb.size; simp at this; omega); have hc1 := (HX.out w1 (HBW.out.trans (hb.mono (by simp; omega)))).1; rw [h0] at hc1; have HB := Aside0.mk hb; clear hb)
      go_ret
      rw [HE.out]
      exact ⟨_, rfl, R_ints (xs := []) (World.ownsRow_nil _ _ _ _), (HBW.out.trans (HB.out.mono (by simp; omega))).alloc (by have := HB.out.size; simp at this; omega) _⟩
    · have h0' : (cfAt l k == 0) = false := by simpa using h0
      by_cases hh : (rd_T36 l (k : Int)).f2 = true
      · have HE := Aside0.mk (show hearsL l id = [] by unfold hearsL; rw [hk']; simp only [Int.toNat_natCast]; rw [if_pos (.inr (.inr hh))])
        clear hi hk'
        go_enter Try.func16, Try.ntmps16
        go_wp2_with (go_at_call 37; refine hf.mono ?_; rintro e w1 ⟨rfl, hb⟩; have hal : (ad.add (k * 3)).block < w1.heap.size := (by have := hb.size; simp at this; omega); have hc1 := (HX.out w1 (HBW.out.trans (hb.mono (by simp; omega)))).1; have hc2 := (HX.out w1 (HBW.out.trans (hb.mono (by simp; omega)))).2; rw [hh] at hc2; have HB := Aside0.mk hb; clear hb)
        go_ret
        rw [HE.out]
        exact ⟨_, rfl, R_ints (xs := []) (World.ownsRow_nil _ _ _ _), (HBW.out.trans (HB.out.mono (by simp; omega))).alloc (by have := HB.out.size; simp at this; omega) _⟩
      · have hh' : (rd_T36 l (k : Int)).f2 = false := by simpa using hh
        have HE := Aside0.mk (show hearsL l id = hTo l k l.length by unfold hearsL; rw [hk']; simp only [Int.toNat_natCast]; rw [if_neg (by rintro (h | h | h); exact absurd h (by omega); exact h0 h; exact hh h)])
        obtain ⟨i0, hi0, hz0, hz1, hz2⟩ := info_parts info3
        clear hi hk' hh h0
        refine (callsIn_wide (n := 5)).1 ?_
        refine callsIn_of_wp_marks Try.func16 rfl trivial ?_ rfl
        simp only [Try.ntmps16, List.size_toArray, List.length_cons, List.length_nil, Nat.reduceAdd, Nat.reduceSub, Array.replicate_succ, Array.replicate_zero, List.push_toArray, List.append_toArray, List.nil_append, List.cons_append]
        gi_wp2_with (first | (refine ⟨trivial, ?_⟩; gi_at_call 37; refine (callsIn_wide.2 hf).mono ?_; rintro e w1 ⟨rfl, hb⟩; have hal : (ad.add (k * 3)).block < w1.heap.size := (by have := hb.size; simp at this; omega); have hc1 := (HX.out w1 (HBW.out.trans (hb.mono (by simp; omega)))).1; have hc2 := (HX.out w1 (HBW.out.trans (hb.mono (by simp; omega)))).2; rw [hh'] at hc2; have hws : w.heap.size + 2 ≤ w1.heap.size := (by have := hb.size; simp at this; exact this); have hcB : w1.heap[w.heap.size + 1]? = some (.cells #[.slice (some ad) l.length c, .int .i64 nx] 63 (0, 0)) := (hb.block _ (by simp)).trans HB2.out; have HB := Aside0.mk (HBW.out.trans (hb.mono (by simp; omega))); clear hb) | (refine ⟨trivial, ?_⟩; gi_at_call 38; refine (callsIn_wide.2 (members_any _ _ _)).mono ?_; rintro e w' ⟨rfl, rfl⟩))
        obtain ⟨W0, hW0⟩ : ∃ W0, (((w1.alloc (.cells #[.pointer (some (ad.add (k * 3)))] 64)).alloc (.cells #[.slice none 0 0] 33)).alloc (.cells #[.pointer (some ⟨w.heap.size + 1, 0, none⟩)] 61)).alloc (.cells #[.int .i64 (cfAt l k)] 3) = W0 := ⟨_, rfl⟩
        rw [hW0]
        have hI0 : HI w ad c l nx k (w.heap.size + 1) (w1.heap.size + 1 + 1) (w1.heap.size + 1 + 1 + 1) w1.heap.size (w1.heap.size + 1) (w1.heap.size + 1 + 1 + 1 + 1) 0 W0 := by
          have s1 : (w1.alloc (.cells #[.pointer (some (ad.add (k * 3)))] 64)).heap.size = w1.heap.size + 1 := by simp
          have s2 : ((w1.alloc (.cells #[.pointer (some (ad.add (k * 3)))] 64)).alloc (.cells #[.slice none 0 0] 33)).heap.size = w1.heap.size + 1 + 1 := by simp
          have s3 : (((w1.alloc (.cells #[.pointer (some (ad.add (k * 3)))] 64)).alloc (.cells #[.slice none 0 0] 33)).alloc (.cells #[.pointer (some ⟨w.heap.size + 1, 0, none⟩)] 61)).heap.size = w1.heap.size + 1 + 1 + 1 := by simp
          have y6 := Boxed.new w1 64 (.pointer (some (ad.add (k * 3))))
          have y7 := Boxed.new (w1.alloc (.cells #[.pointer (some (ad.add (k * 3)))] 64)) 33 (.slice none 0 0)
          have y1 := Boxed.new ((w1.alloc (.cells #[.pointer (some (ad.add (k * 3)))] 64)).alloc (.cells #[.slice none 0 0] 33)) 61 (.pointer (some ⟨w.heap.size + 1, 0, none⟩))
          have y2 := Boxed.new (((w1.alloc (.cells #[.pointer (some (ad.add (k * 3)))] 64)).alloc (.cells #[.slice none 0 0] 33)).alloc (.cells #[.pointer (some ⟨w.heap.size + 1, 0, none⟩)] 61)) 3 (.int .i64 (cfAt l k))
          rw [s1] at y7
          rw [s2] at y1
          rw [s3, hW0] at y2
          have y7' := (y7.alloc (.cells #[.pointer (some ⟨w.heap.size + 1, 0, none⟩)] 61)).alloc (.cells #[.int .i64 (cfAt l k)] 3)
          have y1' := y1.alloc (.cells #[.int .i64 (cfAt l k)] 3)
          have y6' := ((y6.alloc (.cells #[.slice none 0 0] 33)).alloc (.cells #[.pointer (some ⟨w.heap.size + 1, 0, none⟩)] 61)).alloc (.cells #[.int .i64 (cfAt l k)] 3)
          rw [hW0] at y7' y1' y6'
          have hbb : Below w1.heap.size w1 W0 := by
            rw [← hW0]
            exact ((((Below.refl w1.heap.size w1).alloc (Nat.le_refl _) _).alloc (by rw [s1]; omega) _).alloc (by rw [s2]; omega) _).alloc (by rw [s3]; omega) _
          exact ⟨y1', y2, y6', (hbb.block _ (blk_lt hcB)).trans hcB, ⟨_, y7', World.ownsRow_nil _ _ _ _⟩, HB.out.trans (hbb.mono (by omega)), by rw [← hW0]; simp, ⟨by omega, by omega, by omega, by omega, by omega, by omega, by omega, by omega, by omega, by omega, by omega⟩⟩
        clear hW0 hc1 hc2 hcB hal HB HB2 HBW hf hk0 hk1 HX hadb
        generalize w1.heap.size = b6 at *
        clear w1
        have hW0s := hI0.sz
        refine wpIn_members2 36 8 (b6 + 1 + 1) (b6 + 1 + 1 + 1) (w.heap.size + 1) (some ad) l.length c (cfAt l k) (cfAt l) (by omega) rfl
          (HI w ad c l nx k (w.heap.size + 1) (b6 + 1 + 1) (b6 + 1 + 1 + 1) b6 (b6 + 1) (b6 + 1 + 1 + 1 + 1)) ?own ?read (fun j W h => h.drew) ?skip hI0 ?assign ?body ?done
        case own =>
          intro j W W' row h hg hr
          refine h.grown hg (fun r e => ⟨Nat.le_trans hW0s (hr r e).1, fun cs t fr e2 => ?_⟩)
          obtain ⟨_, o, ho, hc⟩ := hr r e
          rw [ho] at e2
          cases e2
          cases hc
        case read =>
          intro j W h
          exact ⟨h.x1.cell, h.x2.cell, (blk_cell h.hB 0).trans rfl, fun hj => ⟨_, rfl, (h.leg HR.out j hj).2.1⟩⟩
        case skip =>
          intro j W h hj hc
          exact h.same (by rw [hTo_succ, if_neg (fun e => hc e.1), List.append_nil])
        case assign =>
          intro l' ad' W K hK
          simp only [List.setIfInBounds_toArray, List.set_cons_zero, List.set_cons_succ] at hK ⊢
          gi_wp2
          exact hK
        case body =>
          intro l' j ad' W h hj hc hA
          obtain rfl : ad = ad' := by injection hA
          simp only [List.setIfInBounds_toArray, List.set_cons_zero, List.set_cons_succ]
          obtain ⟨q0, _, q2⟩ := h.leg HR.out j hj
          have q6 := h.x6.cell
          have hne := neqGen W ad j k
          have HH := Aside0.mk h
          clear h hA
          by_cases hjk : j = k
          · subst hjk
            have HE2 := Aside0.mk (show hTo l j (j + 1) = hTo l j j by rw [hTo_succ, if_neg (fun e => e.2.1 rfl), List.append_nil])
            rw [beq_self_eq_true, Bool.not_true] at hne
            gi_wp2
            exact ⟨KeepsOthers.refl _, HH.out.same HE2.out⟩
          · have hjk' : (j == k) = false := by simpa using hjk
            rw [hjk', Bool.not_false] at hne
            cases hhj : (rd_T36 l (j : Int)).f2 with
            | true =>
              rw [hhj] at q2
              have HE2 := Aside0.mk (show hTo l k (j + 1) = hTo l k j by rw [hTo_succ, if_neg (fun e => by rw [hhj] at e; cases e.2.2), List.append_nil])
              gi_wp2
              exact ⟨KeepsOthers.refl _, HH.out.same HE2.out⟩
            | false =>
              rw [hhj] at q2
              have HE2 := Aside0.mk (show hTo l k (j + 1) = hTo l k j ++ [(rd_T36 l (j : Int)).f0] by rw [hTo_succ, if_pos ⟨hc, hjk, hhj⟩])
              clear hc hhj
              gi_wp2
              obtain ⟨v, hv, hrow⟩ := HH.out.row
              generalize (rd_T36 l (j : Int)).f0 = x0 at *
              have hlen2 := hTo_len l k j
              have hszW := HH.out.sz
              obtain ⟨v', W', hrun, hown', hgrow, _⟩ := run_append_own (P := Try.prog) (W.alloc (.cells #[.int .i64 x0] 3)).drew (b6 + 1 + 1 + 1 + 1) 33 33 3 i0 (.int .i64 0) 1 8 Try.underlying33 hi0 hz0 hz1 hz2 rfl (by decide) v _ (iv (hTo l k j)) (hrow.alloc _) ⟨W.heap.size, 0, none⟩ 1 1 [.int .i64 x0] rfl (fun j u h => cell_one_new W _ _ j u h) (by simp [Value.oneCell']) (by unfold maxLen; omega) (by omega) (by simp; omega)
              obtain ⟨g', cap', rfl⟩ := ownsRow_succ hown'
              obtain ⟨Av, cv, rfl⟩ := own_slice hrow
              have hvc := hv.cell
              have hvf := hv.frozen
              have hb7 : b6 + 1 < W.heap.size := hv.lt
              have HP := Aside0.mk (HH.out.push hv hrow hown' hgrow HE2.out)
              have hv1 : Boxed W' (b6 + 1) 33 (.slice Av (hTo l k j).length cv) := (hv.alloc (.cells #[.int .i64 x0] 3)).kept (W := (W.alloc (.cells #[.int .i64 x0] 3)).drew) hgrow (hv.not_row (by decide) hrow)
              have hvc1 := hv1.cell
              have hvf1 := hv1.frozen
              clear hv hrow hown' hgrow hv1
              gi_region
              all_goals exact HP.out
        case done =>
          intro D W hD h hK
          have h2 := h.grown (grownBy_putObj' W D (.deferred none)) (fun r e => by cases e; exact ⟨Nat.le_trans hW0s hD, fun cs t fr e2 => by rw [hK] at e2; cases e2⟩)
          obtain ⟨v, hv, hrow⟩ := h.row
          obtain ⟨v2, hv2, hrow2⟩ := h2.row
          have hbD : b6 + 1 ≠ D := by omega
          obtain rfl : v = v2 := by
            have e1 := hv.cell
            have e2 : (W.putObj D (.deferred none)).cell? ⟨b6 + 1, 0, none⟩ = W.cell? ⟨b6 + 1, 0, none⟩ := World.cell?_of_block (World.putObj_heap_other hbD)
            rw [hv2.cell, e1] at e2
            injection e2 with e2
            exact e2.symm
          obtain ⟨Av, cv, rfl⟩ := own_slice hrow
          have hvc := hv.cell
          have HF := Aside0.mk (And.intro hrow2 h2.bw)
          clear hv hrow h h2 hv2 hrow2
          gi_wp2
          refine ⟨by simp, .inl ⟨_, _, rfl, run_takeDeferred hK, ?_⟩⟩
          refine ⟨_, results_tmp rfl _ _ _, ?_⟩
          rw [HE.out]
          exact ⟨_, rfl, R_ints (own_weaken HF.out.1 (by omega)), HF.out.2⟩
end Go.Proofs.Ytmjenmhidnkbdaa.P
