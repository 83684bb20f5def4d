/- slices.DeleteFunc at legs with (target).remove's closure, and (target).remove. -/
import Derived.Test.YtmjenmhidnkbdaaHh
namespace Go.Proofs.Ytmjenmhidnkbdaa.P
open Go.RowKit Go.Shelf Go.Proofs.YtmjenmhidnkbdaaW.PrintWords Go.Proofs.YtmjenmhidnkbdaaW.PrintLast Go.Proofs.YtmjenmhidnkbdaaW.PrintMore
set_option linter.unusedVariables false
set_option linter.unusedSimpArgs false

theorem idx_spec (p : S36 → Bool) (l : List S36) (h : 0 ≤ idx p l) : ∃ x, l[(idx p l).toNat]? = some x ∧ p x = true ∧ ∀ (q : Nat) (y : S36), q < (idx p l).toNat → l[q]? = some y → p y = false := by
  induction l with
  | nil => simp [idx] at h
  | cons x l ih =>
    by_cases hp : p x = true
    · refine ⟨x, by simp [idx, hp], hp, fun q y hq => ?_⟩
      simp [idx, hp] at hq
    · have hp' : p x = false := by simpa using hp
      have e : idx p (x :: l) = if idx p l < 0 then -1 else idx p l + 1 := by simp [idx, hp']
      by_cases h0 : idx p l < 0
      · rw [e, if_pos h0] at h; omega
      · rw [if_neg h0] at e
        obtain ⟨z, hz, hpz, hb⟩ := ih (by omega)
        rw [e, show (idx p l + 1).toNat = (idx p l).toNat + 1 from by omega]
        refine ⟨z, by simpa using hz, hpz, fun q y hq hy => ?_⟩
        cases q with
        | zero => obtain rfl : x = y := by simpa using hy
                  exact hp'
        | succ q => exact hb q y (by omega) (by simpa using hy)

/-- The legs but those with a number. -/
def rm (l : List S36) (id : Int) : List S36 := l.filter fun x => !(x.f0 == id)
theorem rm_take_succ (l : List S36) (id : Int) (j : Nat) (x : S36) (hx : l[j]? = some x) : rm (l.take (j + 1)) id = rm (l.take j) id ++ (if x.f0 = id then [] else [x]) := by
  unfold rm
  rw [List.take_add_one, hx, List.filter_append]
  by_cases h : x.f0 = id <;> simp [h]
theorem rm_len (l : List S36) (id : Int) : (rm l id).length ≤ l.length := List.length_filter_le _ _
theorem rm_none (l : List S36) (id : Int) (n : Nat) (h : ∀ (q : Nat) (x : S36), q < n → l[q]? = some x → (x.f0 == id) = false) : rm (l.take n) id = l.take n := by
  unfold rm
  rw [List.filter_eq_self]
  intro x hx
  obtain ⟨q, hq⟩ := List.mem_iff_getElem?.1 hx
  rw [List.getElem?_take] at hq
  split at hq
  · rw [h q x (by assumption) hq]; rfl
  · cases hq

/-- What the loop holds: i legs kept of the first j. -/
structure DI (w : World) (base g c tb : Nat) (tv : Array Value) (l : List S36) (id : Int) (i j : Nat) (M : List S36) (W : World) : Prop where
  len : M.length = l.length
  O : Own3 W base (some ⟨g, 0, none⟩) c M
  kept : M.take i = rm (l.take j) id
  rest : ∀ q, j ≤ q → M[q]? = l[q]?
  ij : i < j
  t : W.heap[tb]? = some (.cells tv 60 (0, 0))
  gr : w.grownBy W (some g)
section
variable {w : World} {base g c tb : Nat} {tv : Array Value} {l M : List S36} {id : Int} {i j : Nat} {W W' : World}
theorem DI.below (h : DI w base g c tb tv l id i j M W) (hb : Below W.heap.size W W') : DI w base g c tb tv l id i j M W' :=
  ⟨h.len, h.O.below hb, h.kept, h.rest, h.ij, (hb.block tb (blk_lt h.t)).trans h.t, grown_below h.gr h.gr.size hb⟩
end

theorem flat_take (M : List S36) (i : Nat) (h : i ≤ M.length) : flat (M.take i) = (flat M).take (i * 3) := by
  have e : flat M = flat (M.take i) ++ flat (M.drop i) := by rw [← flat_append, List.take_append_drop]
  have hl : (flat (M.take i)).length = i * 3 := by rw [flat_len, List.length_take]; omega
  rw [e, List.take_left' hl]
theorem zero36 (w : World) : (zeroValue 36).run Try.prog w = .ok (.agg #[.int .i64 0, .int .i64 0, .bool false]) w := by kernel_rfl
theorem zeroCells_len (m : Nat) : (Builtin.zeroCells #[.int .i64 0, .int .i64 0, .bool false] m).toList.length = m * 3 := by simp [Builtin.zeroCells]
theorem zeroCells_one (m : Nat) : ∀ v ∈ (Builtin.zeroCells #[.int .i64 0, .int .i64 0, .bool false] m).toList, v.oneCell' = true := by
  intro v hv
  simp only [Builtin.zeroCells, Array.toList_map, List.mem_map] at hv
  obtain ⟨i, _, rfl⟩ := hv
  have : i % 3 < 3 := Nat.mod_lt _ (by omega)
  show Value.oneCell' (#[Value.int .i64 0, .int .i64 0, .bool false][i % 3]!) = true
  generalize i % 3 = r at this
  match r, this with
  | 0, _ => rfl
  | 1, _ => rfl
  | 2, _ => rfl

theorem own3_clear {W : World} {base g c : Nat} {M : List S36} (h : Own3 W base (some ⟨g, 0, none⟩) c M) {i : Nat} (hi : i < M.length) (cc : Nat) :
    ∃ W', (Builtin.clear_ #[22] 0 #[.slice (some ⟨g, i * 3, none⟩) (M.length - i) cc]).run Try.prog W = .ok (.tuple #[]) W' ∧ Own3 W' base (some ⟨g, 0, none⟩) c (M.take i) ∧ W.grownBy W' (some g) := by
  rcases h.2 with ⟨e, _⟩ | ⟨g', cap, cur, e, hb, hh, hnc, hcm, hcs, htake⟩
  · simp at e
  · simp only [Value.slice.injEq, Option.some.injEq, Addr.mk.injEq, and_true, true_and] at e
    obtain ⟨rfl, rfl⟩ := e
    have hst := run_storeCells_at Try.prog g (i * 3) 36 (Builtin.zeroCells #[.int .i64 0, .int .i64 0, .bool false] (M.length - i)).toList 0 cur W hh (by rw [zeroCells_len]; omega) (zeroCells_one _)
    obtain ⟨m, hm⟩ : ∃ m, M.length - i = m + 1 := ⟨M.length - i - 1, by omega⟩
    rw [hm] at hst ⊢
    simp only [Nat.add_zero] at hst
    generalize hZ : (Builtin.zeroCells #[.int .i64 0, .int .i64 0, .bool false] (m + 1)).toList = Z at hst
    have hZl : Z.length = (m + 1) * 3 := by rw [← hZ]; exact zeroCells_len _
    refine ⟨W.setRow g (cur.toList.take (i * 3) ++ Z ++ cur.toList.drop (i * 3 + Z.length)).toArray, ?_, ?_, ?_⟩
    rotate_left
    · show World.ownsRow _ _ _ _ _ _ _
      refine ⟨by rw [flat_len], .inr ⟨g, c, _, rfl, hb, setRow_heap W g cur _ 36 (0, 0) hh, by rw [List.length_take]; omega, hcm, ?_, ?_⟩⟩
      · simp only [List.size_toArray, List.length_append, hZl, List.length_take, List.length_drop, Array.length_toList]; omega
      · rw [List.length_take, Nat.min_eq_left (by omega), List.append_assoc, List.take_append_of_le_length (by simp; omega), List.take_take, Nat.min_eq_left (by omega)]
        have := flat_take M i (by omega)
        rw [this, ← htake, List.take_take, Nat.min_eq_left (by omega)]
    · exact ⟨rfl, rfl, rfl, by simp, fun k _ hk => setRow_other W g k _ (fun e => hk (by rw [e]))⟩
    · simp [Builtin.clear_, run_underlying Try.underlying22, zero36, Value.cells, hZ, hst]

theorem info36b : (Try.prog.info? 36).map (·.size) = some 3 := by kernel_rfl

set_option maxRecDepth 100000 in
set_option maxHeartbeats 4000000 in
theorem deleteFunc_any (tb g c : Nat) (l : List S36) (id y : Int) (on : Bool) (base : Nat) (w : World) (hO : Own3 w base (some ⟨g, 0, none⟩) c l) (ht : w.heap[tb]? = some (.cells #[.int .i64 id, .int .i64 y, .bool on] 60 (0, 0)))
    (hf : 0 ≤ idx (fun x => x.f0 == id) l) (hlen : l.length ≤ 2000) :
    Calls Try.prog 57 #[.slice (some ⟨g, 0, none⟩) l.length c, .func (.func 58) #[] #[.pointer (some ⟨tb, 0, none⟩)]] w fun e w' =>
      e = .returned (.slice (some ⟨g, 0, none⟩) (rm l id).length c) ∧ Own3 w' base (some ⟨g, 0, none⟩) c (rm l id) ∧ w.grownBy w' (some g) := by
  have hP : Pred 58 #[.pointer (some ⟨tb, 0, none⟩)] (fun x => x.f0 == id) w := fun W x hb =>
    (removeIs_any x id tb W (Nat.lt_of_lt_of_le (blk_lt ht) hb.size) (by rw [hb.cell (blk_lt ht)]; exact (blk_cell ht 0).trans rfl)).mono fun e w' ⟨he, hw⟩ => ⟨he, hb.trans (hw.mono hb.size)⟩
  have H := indexFunc_any (fun x => x.f0 == id) 58 #[.pointer (some ⟨tb, 0, none⟩)] (enters_of Try.func58 (by kernel_rfl) rfl) (some ⟨g, 0, none⟩) c l w hO.C hP
  have hlt := fnd_lt (fun x => x.f0 == id) l
  have hI : ∃ i0 : Nat, idx (fun x => x.f0 == id) l = i0 ∧ i0 < l.length ∧ rm (l.take (i0 + 1)) id = l.take i0 := by
    refine ⟨(idx (fun x => x.f0 == id) l).toNat, by omega, by omega, ?_⟩
    obtain ⟨x, hx, hp, hbef⟩ := idx_spec (fun x => x.f0 == id) l hf
    rw [rm_take_succ l id _ x hx, if_pos (by simpa using hp), List.append_nil]
    exact rm_none l id _ hbef
  obtain ⟨i0, hi0, hi1, hi2⟩ := hI
  rw [hi0] at H
  have hcl := hO.le
  have HD := Aside0.mk (show ∀ W, Below w.heap.size w W → DI w base g c tb #[.int .i64 id, .int .i64 y, .bool on] l id i0 (i0 + 1) l W from fun W hb =>
    (⟨rfl, hO, hi2.symm, fun _ _ => rfl, by omega, ht, World.grownBy.refl _ _⟩ : DI w base g c tb #[.int .i64 id, .int .i64 y, .bool on] l id i0 (i0 + 1) l w).below hb)
  clear hO ht hf hP hi0 hi2 hlt
  have hne1 : ((i0 : Int) == -1) = false := by simp
  go_enter Try.func57, Try.ntmps57
  go_wp2_with (go_at_call 59; refine H.mono ?_; rintro e w1 ⟨rfl, hb⟩; have HD1 := Aside0.mk (HD.out _ hb); clear hb)
  clear H HD
  go_loopw [5, 6] (fun s5 s6 wr => ∃ (i j : Nat) (M : List S36), s5 = .int .i64 i ∧ s6 = .int .i64 j ∧ j ≤ l.length ∧ Aside0 (DI w base g c tb #[.int .i64 id, .int .i64 y, .bool on] l id i j M wr)) (fun _ s6 _ => l.length - (intOf s6).toNat)
  case atStart => exact ⟨i0, i0 + 1, l, rfl, by go_num, by omega, HD1⟩
  case round =>
    obtain ⟨i, j, M, rfl, rfl, hj, hD⟩ := hrel
    clear HD1
    have hij := hD.out.ij
    by_cases hlt : j < l.length
    · have hltz : (j : Int) < (l.length : Int) := by omega
      have hx := hD.out.rest j (Nat.le_refl _)
      rw [List.getElem?_eq_getElem hlt] at hx
      have HL := Aside0.mk (List.getElem?_eq_getElem hlt)
      generalize l[j] = x at hx HL
      obtain ⟨x0, x1, x2⟩ := x
      have q0 : wr.cell? ⟨g, j * 3, none⟩ = some (.int .i64 x0) := hD.out.O.cell (j := 0) hx rfl
      have q1 := hD.out.O.cell (j := 1) hx rfl
      have q2 := hD.out.O.cell (j := 2) hx rfl
      have ea := addr_leg g j
      have HX := Aside0.mk hx
      clear hx
      have hD1 := hD.out.below ((Below.refl _ wr).alloc (Nat.le_refl _) (.cells #[.int .i64 x0, .int .i64 x1, .bool x2] 36))
      have hcall := removeIs_any ⟨x0, x1, x2⟩ id tb (wr.alloc (.cells #[.int .i64 x0, .int .i64 x1, .bool x2] 36)) (blk_lt hD1.t) ((blk_cell hD1.t 0).trans rfl)
      have HD1 := Aside0.mk hD1
      clear hD1 hD
      have hin : i < l.length := by omega
      by_cases he : x0 = id
      · have hq : (x0 == id) = true := by simpa using he
        rw [show (S36.f0 ⟨x0, x1, x2⟩ == id) = true from hq] at hcall
        have HE := Aside0.mk he
        clear he hq ea
        go_wp2_with (go_at_call 58; refine hcall.mono ?_; rintro e w2 ⟨rfl, hb⟩; have HD2 := Aside0.mk (HD1.out.below hb); clear hb)
        go_roundw
        case rel =>
          refine ⟨i, j + 1, M, rfl, by go_num, by omega, ⟨⟨HD2.out.len, HD2.out.O, ?_, fun q hq => HD2.out.rest q (by omega), by omega, HD2.out.t, HD2.out.gr⟩⟩⟩
          rw [rm_take_succ l id j _ HL.out, if_pos HE.out, List.append_nil]
          exact HD2.out.kept
        case measure => simp [intOf]; omega
      · have hq : (x0 == id) = false := by simpa using he
        rw [show (S36.f0 ⟨x0, x1, x2⟩ == id) = false from hq] at hcall
        have HE := Aside0.mk he
        clear he hq
        have ei := addr_leg g i
        have hiM : i < M.length := by rw [HD1.out.len]; exact hin
        have HM := Aside0.mk (List.getElem?_eq_getElem hiM)
        generalize M[i] = m at HM
        obtain ⟨m0, m1, m2⟩ := m
        go_wp2_with (go_at_call 58; refine hcall.mono ?_; rintro e w2 ⟨rfl, hb⟩; have hD2 := HD1.out.below hb; have b0 : w2.cell? ⟨wr.heap.size, 0, none⟩ = some (.int .i64 x0) := (hb.cell (p := ⟨wr.heap.size, 0, none⟩) (by simp)).trans ((blk_cell (heap_alloc_new wr _) 0).trans rfl); have b1 : w2.cell? ⟨wr.heap.size, 1, none⟩ = some (.int .i64 x1) := (hb.cell (p := ⟨wr.heap.size, 1, none⟩) (by simp)).trans ((blk_cell (heap_alloc_new wr _) 1).trans rfl); have b2 : w2.cell? ⟨wr.heap.size, 2, none⟩ = some (.bool x2) := (hb.cell (p := ⟨wr.heap.size, 2, none⟩) (by simp)).trans ((blk_cell (heap_alloc_new wr _) 2).trans rfl); have m0c : w2.cell? ⟨g, i * 3, none⟩ = some (.int .i64 m0) := hD2.O.cell (j := 0) HM.out rfl; have m1c := hD2.O.cell (j := 1) HM.out rfl; have m2c := hD2.O.cell (j := 2) HM.out rfl; have f0 : w2.frozen? ⟨g, i * 3, none⟩ = false := hD2.O.free (i * 3); have f1 := hD2.O.free (i * 3 + 1); have f2 := hD2.O.free (i * 3 + 2); have HD2 := Aside0.mk hD2; clear hb hD2)
        go_roundw
        case rel =>
          obtain ⟨p0, g0⟩ := HD2.out.O.put (i := i) (j := 0) (u := .int .i64 x0) (y := ⟨x0, m1, m2⟩) HM.out (by omega) rfl
          obtain ⟨p1, g1⟩ := p0.put (i := i) (j := 1) (u := .int .i64 x1) (x := ⟨x0, m1, m2⟩) (y := ⟨x0, x1, m2⟩) (by simp [hiM]) (by omega) rfl
          obtain ⟨p2, g2⟩ := p1.put (i := i) (j := 2) (u := .bool x2) (x := ⟨x0, x1, m2⟩) (y := ⟨x0, x1, x2⟩) (by simp [hiM]) (by omega) rfl
          rw [List.set_set, List.set_set] at p2
          have hgr := World.grownBy.trans (World.grownBy.trans (World.grownBy.trans HD2.out.gr g0) g1) g2
          have hne := HD2.out.O.ne HD2.out.t (by decide)
          refine ⟨i + 1, j + 1, M.set i ⟨x0, x1, x2⟩, by go_num, by go_num, by omega, ⟨⟨by rw [List.length_set]; exact HD2.out.len, p2, ?_, fun q hq => ?_, by omega, ?_, hgr⟩⟩⟩
          · rw [rm_take_succ l id j _ HL.out, if_neg HE.out, ← HD2.out.kept, List.take_add_one, List.getElem?_set_self hiM, List.take_set_of_le (Nat.le_refl i)]
            rfl
          · rw [List.getElem?_set_ne (by omega)]
            exact HD2.out.rest q (by omega)
          · exact (g2.block tb (by have := blk_lt HD2.out.t; simp [World.setCell]; exact this) (by simpa using hne)).trans ((g1.block tb (by have := blk_lt HD2.out.t; simp [World.setCell]; exact this) (by simpa using hne)).trans ((g0.block tb (blk_lt HD2.out.t) (by simpa using hne)).trans HD2.out.t))
        case measure => simp [intOf]; omega
    · obtain rfl : j = l.length := by omega
      have hltz : ¬ ((l.length : Int) < (l.length : Int)) := by omega
      obtain ⟨W', hrun, hO', hg'⟩ := own3_clear hD.out.O (i := i) (by rw [hD.out.len]; omega) (c - i)
      rw [hD.out.len] at hrun
      have hk : rm l id = M.take i := by rw [hD.out.kept, List.take_length]
      have hkl : (M.take i).length = i := by rw [List.length_take, hD.out.len]; omega
      have HF := Aside0.mk (And.intro hk (And.intro hkl (And.intro hO' (World.grownBy.trans hD.out.gr hg'))))
      clear hk hkl hO' hg' hD
      go_wp2
      go_ret
      refine ⟨?_, ?_, HF.out.2.2.2⟩
      · rw [HF.out.1, HF.out.2.1]; rfl
      · rw [HF.out.1]; exact HF.out.2.2.1
end Go.Proofs.Ytmjenmhidnkbdaa.P
