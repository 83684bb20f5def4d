/- (*editor).leave: a leg leaves its conference; a conference of one leg is dissolved. -/
import Derived.Test.YtmjenmhidnkbdaaHe
namespace Go.Proofs.Ytmjenmhidnkbdaa.P
open Go.RowKit Go.Shelf Go.Proofs.YtmjenmhidnkbdaaW.PrintWords Go.Proofs.YtmjenmhidnkbdaaW.PrintLast Go.Proofs.YtmjenmhidnkbdaaW.PrintMore
set_option linter.unusedVariables false
set_option linter.unusedSimpArgs false
attribute [local go_sem] Oper.semAt_some

/-- The conference of the leg at an index. -/
def cfAt (l : List S36) (j : Nat) : Int := (rd_T36 l (j : Int)).f1
/-- The indices of a conference's legs below n. -/
def memTo (l : List S36) (conf : Int) (n : Nat) : List Nat := (List.range n).filter fun j => cfAt l j == conf
def mem (l : List S36) (conf : Int) : List Nat := memTo l conf l.length
/-- A leg out of its conference. -/
def outOf (l : List S36) (j : Nat) : List S36 := l.set j ⟨(rd_T36 l (j : Int)).f0, 0, false⟩
/-- What leave makes of a list. -/
def lv (l : List S36) (i : Nat) : List S36 :=
  if cfAt l i = 0 then outOf l i else
    match mem (outOf l i) (cfAt l i) with
    | [j] => outOf (outOf l i) j
    | _ => outOf l i

theorem rd_at (l : List S36) (i : Nat) (h : i < l.length) : l[i]? = some (rd_T36 l (i : Int)) := by simp [rd_T36, h]
theorem memTo_succ (l : List S36) (conf : Int) (n : Nat) : memTo l conf (n + 1) = memTo l conf n ++ (if cfAt l n = conf then [n] else []) := by
  unfold memTo
  rw [List.range_succ, List.filter_append]
  by_cases h : cfAt l n = conf <;> simp [h]
theorem memTo_len (l : List S36) (conf : Int) (n : Nat) : (memTo l conf n).length ≤ n := by
  unfold memTo
  exact Nat.le_trans (List.length_filter_le _ _) (by simp)
theorem memTo_lt (l : List S36) (conf : Int) (n j : Nat) (h : j ∈ memTo l conf n) : j < n := by
  unfold memTo at h
  simp at h
  exact h.1
theorem outOf_len (l : List S36) (j : Nat) : (outOf l j).length = l.length := by simp [outOf]
theorem lv_len (l : List S36) (i : Nat) : (lv l i).length = l.length := by
  unfold lv
  split
  · exact outOf_len _ _
  · split
    · rw [outOf_len, outOf_len]
    · exact outOf_len _ _

theorem own3_out {w : World} {base g c : Nat} {l : List S36} {i : Nat} (h : Own3 w base (some ⟨g, 0, none⟩) c l) (hi : i < l.length) :
    Own3 ((w.setCell ⟨g, i * 3 + 1, none⟩ (.int .i64 0)).setCell ⟨g, i * 3 + 2, none⟩ (.bool false)) base (some ⟨g, 0, none⟩) c (outOf l i) ∧
    w.grownBy ((w.setCell ⟨g, i * 3 + 1, none⟩ (.int .i64 0)).setCell ⟨g, i * 3 + 2, none⟩ (.bool false)) (some g) := by
  obtain ⟨h1, g1⟩ := h.put (j := 1) (u := .int .i64 0) (y := ⟨(rd_T36 l (i : Int)).f0, 0, (rd_T36 l (i : Int)).f2⟩) (rd_at l i hi) (by omega) rfl
  obtain ⟨h2, g2⟩ := h1.put (i := i) (j := 2) (u := .bool false) (x := ⟨(rd_T36 l (i : Int)).f0, 0, (rd_T36 l (i : Int)).f2⟩) (y := ⟨(rd_T36 l (i : Int)).f0, 0, false⟩) (by simp [hi]) (by omega) rfl
  rw [List.set_set] at h2
  exact ⟨h2, World.grownBy.trans g1 g2⟩

set_option maxRecDepth 100000 in
set_option maxHeartbeats 2000000 in
theorem leave_zero (B g c i : Nat) (l : List S36) (base : Nat) (w : World) (hi : i < l.length) (hO : Own3 w base (some ⟨g, 0, none⟩) c l) (h0 : cfAt l i = 0) :
    Calls Try.prog 49 #[.pointer (some ⟨B, 0, none⟩), .pointer (some ⟨g, i * 3, none⟩)] w fun e w' => e = .returned (.tuple #[]) ∧ w.grownBy w' (some g) ∧ Own3 w' base (some ⟨g, 0, none⟩) c (lv l i) := by
  have hx := rd_at l i hi
  have hc1 := hO.cell (j := 1) hx rfl
  have hf1 := hO.free (i * 3 + 1)
  obtain ⟨v2, hv2⟩ : ∃ v, v = Value.bool (rd_T36 l (i : Int)).f2 := ⟨_, rfl⟩
  have hc2 := hO.cell (j := 2) hx rfl
  have hf2 := hO.free (i * 3 + 2)
  have HO := Aside0.mk (own3_out hO hi)
  have e1 : lv l i = outOf l i := by unfold lv; rw [if_pos h0]
  rw [e1]
  have h0' : (rd_T36 l (i : Int)).f1 = 0 := h0
  rw [h0'] at hc1
  clear hO hx e1 h0 h0' hv2 v2
  go_enter Try.func49, Try.ntmps49
  go_wp2
  refine bodyPost_ret (results_none rfl _ _ _) rfl ?_
  exact ⟨rfl, HO.out.2, HO.out.1⟩

/-- A world that is w but for new blocks and one row: a turn of a new block besides. -/
theorem grown_putObj {w W : World} {row : Option Nat} (h : w.grownBy W row) {D : Nat} (hD : w.heap.size ≤ D) (o : Obj) : w.grownBy (W.putObj D o) row :=
  ⟨h.os, h.tape, h.output, by simpa using h.size, fun k hk hr => (World.putObj_heap_other (by omega)).trans (h.block k hk hr)⟩
theorem grown_below {w W W' : World} {row : Option Nat} (h : w.grownBy W row) {R : Nat} (hR : w.heap.size ≤ R) (hb : Below R W W') : w.grownBy W' row :=
  ⟨hb.os.trans h.os, hb.tape.trans h.tape, hb.output.trans h.output, Nat.le_trans h.size hb.size, fun k hk hr => (hb.block k (by omega)).trans (h.block k hk hr)⟩

theorem grown_drew {w W : World} {row : Option Nat} (h : w.grownBy W row) : w.grownBy W.drew row := ⟨h.os, h.tape, h.output, h.size, h.block⟩

/-- The pointers to a conference's legs. -/
def ptrs (g : Nat) (l : List Nat) : List Value := l.map fun j => .pointer (some ⟨g, j * 3, none⟩)
theorem info64 : (Try.prog.info? 64).map (fun i => (i.zero, i.size, i.bytes)) = some (some (.pointer none), 1, 8) := by kernel_rfl

set_option maxRecDepth 100000 in
set_option maxHeartbeats 4000000 in
theorem leave_some (B g c i : Nat) (l : List S36) (nx : Int) (base : Nat) (w : World) (hi : i < l.length) (hlen : l.length ≤ 100000)
    (hB : w.heap[B]? = some (.cells #[.slice (some ⟨g, 0, none⟩) l.length c, .int .i64 nx] 63 (0, 0)))
    (hO : Own3 w base (some ⟨g, 0, none⟩) c l) (h0 : cfAt l i ≠ 0) :
    Calls Try.prog 49 #[.pointer (some ⟨B, 0, none⟩), .pointer (some ⟨g, i * 3, none⟩)] w fun e w' => e = .returned (.tuple #[]) ∧ w.grownBy w' (some g) ∧ Own3 w' base (some ⟨g, 0, none⟩) c (lv l i) := by
  have hx := rd_at l i hi
  have hc1 := hO.cell (j := 1) hx rfl
  have hf1 := hO.free (i * 3 + 1)
  have hc2 := hO.cell (j := 2) hx rfl
  have hf2 := hO.free (i * 3 + 2)
  have HO := Aside0.mk (own3_out hO hi)
  have hgB : B ≠ g := hO.ne hB (by decide)
  have HB := Aside0.mk hB
  have E1 : Hid (lv l i = match mem (outOf l i) (cfAt l i) with | [j] => outOf (outOf l i) j | _ => outOf l i) := by show lv l i = _; unfold lv; rw [if_neg h0]
  have hne0 : (cfAt l i == 0) = false := by simpa using h0
  have hcf : (rd_T36 l (i : Int)).f1 = cfAt l i := rfl
  rw [hcf] at hc1
  have hglt : g < w.heap.size := blk_lt hO.blk.choose_spec
  have hBlt : B < w.heap.size := blk_lt hB
  obtain ⟨conf, hconf⟩ : ∃ conf, conf = cfAt l i := ⟨_, rfl⟩
  rw [← hconf] at hc1 hne0 E1
  clear hO hx h0 hcf hconf hB
  obtain ⟨i0, hi0, hz0, hz1, hz2⟩ := info_parts info64
  refine (callsIn_wide (n := 5)).1 ?_
  refine callsIn_of_wp_marks Try.func49 rfl trivial ?_ rfl
  simp only [Try.ntmps49, List.size_toArray, List.length_cons, List.length_nil, Nat.reduceAdd, Nat.reduceSub, Array.replicate_succ, Array.replicate_zero, List.push_toArray, List.append_toArray, List.nil_append, List.cons_append]
  gi_wp2_with (refine ⟨trivial, ?_⟩; gi_at_call 38; refine (callsIn_wide.2 (members_any _ _ _)).mono ?_; rintro e w' ⟨rfl, rfl⟩)
  obtain ⟨W2, hW2⟩ : ∃ W2, (w.setCell ⟨g, i * 3 + 1, none⟩ (.int .i64 0)).setCell ⟨g, i * 3 + 2, none⟩ (.bool false) = W2 := ⟨_, rfl⟩
  rw [hW2] at HO ⊢
  have hsz : W2.heap.size = w.heap.size := by rw [← hW2]; simp [World.setCell]
  obtain ⟨R, hR⟩ : ∃ R, w.heap.size = R := ⟨_, rfl⟩
  obtain ⟨hO2, hG2⟩ := HO.out
  have hB2 : W2.heap[B]? = some (.cells #[.slice (some ⟨g, 0, none⟩) l.length c, .int .i64 nx] 63 (0, 0)) := (hG2.block B hBlt (by simpa using hgB)).trans HB.out
  clear hW2 HO HB hc1 hc2 hf1 hf2
  have hl1 := outOf_len l i
  rw [← hl1] at hlen hB2
  rw [hR] at hglt hBlt hsz ⊢
  clear hl1
  generalize outOf l i = l1 at *
  obtain ⟨W3, hW3⟩ : ∃ W3, ((W2.alloc (.cells #[.slice none 0 0] 83)).alloc (.cells #[.pointer (some ⟨B, 0, none⟩)] 61)).alloc (.cells #[.int .i64 conf] 3) = W3 := ⟨_, rfl⟩
  rw [hW3]
  have hsz3 : W3.heap.size = R + 3 := by rw [← hW3]; simp; omega
  have hx1 : Boxed W3 R 83 (.slice none 0 0) := by rw [← hW3, ← hsz]; exact ((Boxed.new W2 83 _).alloc _).alloc _
  have hx2 : Boxed W3 (R + 1) 61 (.pointer (some ⟨B, 0, none⟩)) := by
    rw [← hW3, ← hsz]
    have := (Boxed.new (W2.alloc (.cells #[.slice none 0 0] 83)) 61 (.pointer (some ⟨B, 0, none⟩))).alloc (.cells #[.int .i64 conf] 3)
    simpa using this
  have hx3 : Boxed W3 (R + 2) 3 (.int .i64 conf) := by
    rw [← hW3, ← hsz]
    have := Boxed.new ((W2.alloc (.cells #[.slice none 0 0] 83)).alloc (.cells #[.pointer (some ⟨B, 0, none⟩)] 61)) 3 (.int .i64 conf)
    simpa using this
  have hb3 : Below R W2 W3 := by
    rw [← hW3]
    exact (((Below.refl R W2).alloc (by omega) _).alloc (by simp; omega) _).alloc (by simp; omega) _
  clear hW3
  refine wpIn_members (m := 5) (R + 1) (R + 2) B (some ⟨g, 0, none⟩) l1.length c conf (cfAt l1) (by omega) rfl rfl
    (fun j W => (∃ v, Boxed W R 83 v ∧ W.ownsRow R 64 1 v (memTo l1 conf j).length (ptrs g (memTo l1 conf j)) ∧ True) ∧ Boxed W (R + 1) 61 (.pointer (some ⟨B, 0, none⟩)) ∧ Boxed W (R + 2) 3 (.int .i64 conf) ∧ Below R W3 W)
    ?own ?read (fun j W h => ⟨h.1, h.2.1, h.2.2.1, h.2.2.2.drew⟩) ?skip ⟨⟨_, hx1, by simp [memTo, ptrs]; exact World.ownsRow_nil _ _ _ _, trivial⟩, hx2, hx3, Below.refl _ _⟩ (fun ad => ⟨#[.pointer (some ⟨B, 0, none⟩), .pointer (some ⟨g, i * 3, none⟩), undef, undef, .int .i64 conf, .pointer (some ⟨R, 0, none⟩), .pointer (some ad),
          .pointer (some ⟨g, i * 3, none⟩), .pointer (some ⟨g, i * 3, none⟩), .pointer (some ⟨g, i * 3 + 1, none⟩), .int .i64 conf, .pointer (some ⟨g, i * 3, none⟩), .pointer (some ⟨g, i * 3, none⟩),
          .pointer (some ⟨g, i * 3, none⟩), .pointer (some ⟨g, i * 3 + 1, none⟩), .pointer (some ⟨g, i * 3, none⟩), .pointer (some ⟨g, i * 3 + 2, none⟩),
          .int .i64 conf, .bool false, .pointer (some ⟨B, 0, none⟩), .int .i64 conf, .func (.func 52) #[] #[.pointer (some ⟨R + 1, 0, none⟩), .pointer (some ⟨R + 1 + 1, 0, none⟩)],
          .pointer (some ad), undef, undef, undef, undef, undef, undef, undef, undef, undef, undef, undef, undef, undef, undef, undef, undef, undef], []⟩) ?assign ?body ?done
  case own =>
    exact OwnFrom.and (Own.from (holdsRow_own R R 83 64 1 (fun j => (memTo l1 conf j).length) (fun j => ptrs g (memTo l1 conf j)) (fun _ _ => True)) _)
      (OwnFrom.and (Own.from (boxed_own (R + 1) 61 (fun _ => .pointer (some ⟨B, 0, none⟩))) _) (OwnFrom.and (Own.from (boxed_own (R + 2) 3 (fun _ => .int .i64 conf)) _) (ownFrom_below (by omega) (by omega))))
  case read =>
    rintro j W ⟨⟨v, hv, hr, _⟩, h2, h3, hb⟩
    refine ⟨h2.cell, h3.cell, ?_, fun hj => ⟨_, rfl, ?_⟩⟩
    · rw [hb.cell (p := ⟨B, 0, none⟩) hBlt, hb3.cell (p := ⟨B, 0, none⟩) hBlt]
      exact (blk_cell hB2 0).trans rfl
    · rw [addr_leg]
      rw [hb.cell (p := ⟨g, j * 3 + 1, none⟩) hglt, hb3.cell (p := ⟨g, j * 3 + 1, none⟩) hglt]
      exact hO2.cell (j := 1) (rd_at l1 j hj) rfl
  case skip =>
    rintro j W ⟨⟨v, hv, hr, _⟩, h2, h3, hb⟩ hj hc
    have e : memTo l1 conf (j + 1) = memTo l1 conf j := by rw [memTo_succ, if_neg hc, List.append_nil]
    rw [e]
    exact ⟨⟨v, hv, hr, trivial⟩, h2, h3, hb⟩
  case assign =>
    intro l' ad W K hK
    gi_wp2
    exact hK
  case body =>
    rintro l' j ad W ⟨⟨v, hv, hr, _⟩, h2, h3, hb⟩ hj hc hA
    obtain rfl : (⟨g, 0, none⟩ : Addr) = ad := by injection hA
    rw [addr_leg]
    have e : memTo l1 conf (j + 1) = memTo l1 conf j ++ [j] := by rw [memTo_succ, if_pos hc]
    have e2 : ptrs g (memTo l1 conf (j + 1)) = ptrs g (memTo l1 conf j) ++ [.pointer (some ⟨g, j * 3, none⟩)] := by rw [e]; simp [ptrs]
    have e3 : (memTo l1 conf (j + 1)).length = (memTo l1 conf j).length + 1 := by rw [e]; simp
    have hk := memTo_len l1 conf j
    have HE := Aside0.mk (And.intro e2 e3)
    clear e e2 e3 hc hA
    generalize memTo l1 conf j = mj at *
    have hsW : R + 3 ≤ W.heap.size := by have := hb.size; omega
    have hvc := hv.cell
    have hvf := hv.frozen
    gi_wp2_with (gi_at_builtin; refine wpListIn_append_own _ rfl _ _ 83 rfl R 64 i0 (.pointer none) 1 8 Try.underlying83 hi0 hz0 hz1 hz2 rfl (by decide) _ _ _ rfl (hr.alloc _) ⟨W.heap.size, 0, none⟩ 1 1 [.pointer (some ⟨g, j * 3, none⟩)] rfl rfl (cell_one_new _ _ _) (by simp [Value.oneCell']) (by unfold maxLen; omega) (by omega) (by simp; omega) ?_; intro v' w1 hown' hgrow _; obtain ⟨g', cap', rfl⟩ := ownsRow_succ hown'; obtain ⟨hv1, hv2, hr2, hk2, hb2⟩ := hv.appended (by decide) hr (by omega) (by omega) hown' hgrow; have hc1 := hv1.cell; have hf1 := hv1.frozen)
    have hgrow' : (W.alloc (.cells #[.pointer (some ⟨g, j * 3, none⟩)] 64)).grownBy w1 v.ownBlock := hgrow
    have b1 := ((h2.alloc (.cells #[.pointer (some ⟨g, j * 3, none⟩)] 64)).kept hgrow' ((h2.alloc (.cells #[.pointer (some ⟨g, j * 3, none⟩)] 64)).not_row (by decide) (hr.alloc (.cells #[.pointer (some ⟨g, j * 3, none⟩)] 64)))).other (B' := R) (by omega) (.slice (some ⟨g', 0, none⟩) (mj.length + 1) cap')
    have b2 := ((h3.alloc (.cells #[.pointer (some ⟨g, j * 3, none⟩)] 64)).kept hgrow' ((h3.alloc (.cells #[.pointer (some ⟨g, j * 3, none⟩)] 64)).not_row (by decide) (hr.alloc (.cells #[.pointer (some ⟨g, j * 3, none⟩)] 64)))).other (B' := R) (by omega) (.slice (some ⟨g', 0, none⟩) (mj.length + 1) cap')
    refine ⟨hk2, ⟨_, hv2, ?_, trivial⟩, b1, b2, hb.trans hb2⟩
    rw [HE.out.1, HE.out.2]
    exact hr2
  case done =>
    rintro D W hD ⟨⟨v, hv, hr, _⟩, h2, h3, hb⟩ hK
    have hvc := hv.cell
    have hvf := hv.frozen
    have hG3 : w.grownBy W (some g) := grown_below hG2 (by omega) (hb3.trans hb)
    have hO3 : Own3 W base (some ⟨g, 0, none⟩) c l1 := by
      have hb4 := hb3.trans hb
      rw [← hsz] at hb4
      exact hO2.below hb4
    have hlv : Hid (lv l i = match memTo l1 conf l1.length with | [j] => outOf l1 j | _ => l1) := E1.out
    have hmlt := fun j => memTo_lt l1 conf l1.length j
    have HG := Aside0.mk (And.intro hG3 hO3)
    clear hG3 hO3 hG2 hO2 hB2 E1 h2 h3 hb hb3 hx1 hx2 hx3
    generalize memTo l1 conf l1.length = mj at *
    match mj, hlv, hmlt, hr with
    | [j], hlv, hmlt, hr =>
      have hj := hmlt j (by simp)
      obtain ⟨hO3, hG3⟩ : Own3 W base (some ⟨g, 0, none⟩) c l1 ∧ w.grownBy W (some g) := ⟨HG.out.2, HG.out.1⟩
      obtain ⟨g', cap', rfl⟩ := ownsRow_succ hr
      have hp : W.cell? ⟨g', 0, none⟩ = some (.pointer (some ⟨g, j * 3, none⟩)) := hr.cells (g := g') rfl 0 (.pointer (some ⟨g, j * 3, none⟩)) rfl
      have hq1 := hO3.free (j * 3 + 1)
      have hq2 := hO3.free (j * 3 + 2)
      have hc1 := hO3.cell (j := 1) (rd_at l1 j hj) rfl
      have hc2 := hO3.cell (j := 2) (rd_at l1 j hj) rfl
      have HO := Aside0.mk (own3_out hO3 hj)
      clear hmlt hr HG hO3
      gi_wp2
      gi_region
      gi_wp2
      have hK' : (((W.setCell ⟨g, j * 3 + 1, none⟩ (.int .i64 0)).setCell ⟨g, j * 3 + 2, none⟩ (.bool false)).drew).heap[D]? = some (.deferred (some [])) :=
        ((KeepsOthers.setCell W ⟨g, j * 3 + 1, none⟩ (.int .i64 0)).trans (KeepsOthers.setCell _ ⟨g, j * 3 + 2, none⟩ (.bool false))).same D _ hK rfl
      have hO4 : Own3 ((W.setCell ⟨g, j * 3 + 1, none⟩ (.int .i64 0)).setCell ⟨g, j * 3 + 2, none⟩ (.bool false)).drew base (some ⟨g, 0, none⟩) c (outOf l1 j) := HO.out.1
      have hG4 : w.grownBy ((W.setCell ⟨g, j * 3 + 1, none⟩ (.int .i64 0)).setCell ⟨g, j * 3 + 2, none⟩ (.bool false)).drew (some g) := grown_drew (World.grownBy.trans hG3 HO.out.2)
      refine ⟨by simp, .inl ⟨_, _, rfl, run_takeDeferred hK', ?_⟩⟩
      exact ⟨_, results_none rfl _ _ _, rfl, grown_putObj hG4 (by omega) _, by rw [hlv.out]; exact hO4.other (grownBy_putObj' _ D _) (fun g' e e2 => by cases e; cases e2; omega)⟩
    | [], hlv, hmlt, hr =>
      obtain ⟨A', c', rfl⟩ := own_slice hr
      clear hmlt hr
      gi_wp2
      refine ⟨by simp, .inl ⟨_, _, rfl, run_takeDeferred hK, ?_⟩⟩
      exact ⟨_, results_none rfl _ _ _, rfl, grown_putObj HG.out.1 (by omega) _, by rw [hlv.out]; exact HG.out.2.other (grownBy_putObj' W D _) (fun g' e e2 => by cases e; cases e2; omega)⟩
    | a :: b :: mj, hlv, hmlt, hr =>
      obtain ⟨A', c', rfl⟩ := own_slice hr
      have hne2 : (((a :: b :: mj).length : Int) == 1) = false := by simp; omega
      clear hmlt hr
      gi_wp2
      refine ⟨by simp, .inl ⟨_, _, rfl, run_takeDeferred hK, ?_⟩⟩
      exact ⟨_, results_none rfl _ _ _, rfl, grown_putObj HG.out.1 (by omega) _, by rw [hlv.out]; exact HG.out.2.other (grownBy_putObj' W D _) (fun g' e e2 => by cases e; cases e2; omega)⟩

theorem leave_any (B g c i : Nat) (l : List S36) (nx : Int) (base : Nat) (w : World) (hi : i < l.length) (hlen : l.length ≤ 100000)
    (hB : w.heap[B]? = some (.cells #[.slice (some ⟨g, 0, none⟩) l.length c, .int .i64 nx] 63 (0, 0)))
    (hO : Own3 w base (some ⟨g, 0, none⟩) c l) :
    Calls Try.prog 49 #[.pointer (some ⟨B, 0, none⟩), .pointer (some ⟨g, i * 3, none⟩)] w fun e w' => e = .returned (.tuple #[]) ∧ w.grownBy w' (some g) ∧ Own3 w' base (some ⟨g, 0, none⟩) c (lv l i) := by
  by_cases h0 : cfAt l i = 0
  · exact leave_zero B g c i l base w hi hO h0
  · exact leave_some B g c i l nx base w hi hlen hB hO h0
end Go.Proofs.Ytmjenmhidnkbdaa.P
