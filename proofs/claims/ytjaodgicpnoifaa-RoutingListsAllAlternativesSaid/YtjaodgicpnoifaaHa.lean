/- routing.Check: what it answers. -/
import Derived.Test.YtjaodgicpnoifaaPx0
import Derived.Shelf.Abstract
namespace Go.Proofs.Ytjaodgicpnoifaa.P
open Go.RowKit Go.Shelf Go.Proofs.YtjaodgicpnoifaaW.PrintWords Go.Proofs.YtjaodgicpnoifaaW.PrintLast Go.Proofs.YtjaodgicpnoifaaW.PrintMore
set_option linter.unusedVariables false
set_option linter.unusedSimpArgs false
attribute [local go_sem] max2_int min2_int max_two min_two

theorem Calls_world {P : Program} {f : FuncId} {a : Array Value} {W : World} {Q : Ending → World → Prop} (h : ∀ W', W' = W → Calls P f a W' Q) : Calls P f a W Q := h W rfl
theorem blk_new (W : World) (o : Obj) : (W.alloc o).heap[W.heap.size]? = some o := heap_alloc_new W o
def upd (F : Nat → Bool) (i : Nat) (b : Bool) : Nat → Bool := fun j => if j = i then b else F j
/-- A block of bools, told by a function of the place. -/
structure SB (t : TypeId) (n g : Nat) (F : Nat → Bool) (W : World) : Prop where
  ex : ∃ cs : Array Value, W.heap[g]? = some (.cells cs t (0, 0)) ∧ cs.size = n ∧ ∀ i, i < n → cs[i]? = some (.bool (F i))
section
variable {t : TypeId} {n g : Nat} {F : Nat → Bool} {W W' : World}
theorem SB.lt (h : SB t n g F W) : g < W.heap.size := by obtain ⟨cs, h, _⟩ := h.ex; exact blk_lt h
theorem SB.cell (h : SB t n g F W) {i : Nat} (hi : i < n) : W.cell? ⟨g, i, none⟩ = some (.bool (F i)) := by
  obtain ⟨cs, h, _, hc⟩ := h.ex
  exact (blk_cell h i).trans (hc i hi)
theorem SB.frozen (h : SB t n g F W) (i : Nat) : W.frozen? ⟨g, i, none⟩ = false := by
  obtain ⟨cs, h, _⟩ := h.ex
  exact blk_frozen h i
theorem SB.set (h : SB t n g F W) {i : Nat} (hi : i < n) (b : Bool) : SB t n g (upd F i b) (W.setCell ⟨g, i, none⟩ (.bool b)) := by
  obtain ⟨cs, h, hs, hc⟩ := h.ex
  refine ⟨⟨cs.setIfInBounds i (.bool b), blk_put h i _ rfl, by simp [hs], fun j hj => ?_⟩⟩
  unfold upd
  by_cases e : j = i
  · subst e
    rw [if_pos rfl, Array.getElem?_setIfInBounds_self_of_lt (by omega)]
  · rw [if_neg e, Array.getElem?_setIfInBounds_ne (fun h => e h.symm)]
    exact hc j hj
theorem SB.below {B : Nat} (h : SB t n g F W) (hB : g < B) (hb : Below B W W') : SB t n g F W' := by
  obtain ⟨cs, h, hs⟩ := h.ex
  exact ⟨⟨cs, (hb.block _ hB).trans h, hs⟩⟩
theorem SB.new6 (W : World) : SB 55 6 W.heap.size (fun _ => false) (W.alloc (.cells #[.bool false, .bool false, .bool false, .bool false, .bool false, .bool false] 55)) :=
  ⟨⟨_, blk_new W _, rfl, fun i hi => by
    match i, hi with
    | 0, _ => rfl
    | 1, _ => rfl
    | 2, _ => rfl
    | 3, _ => rfl
    | 4, _ => rfl
    | 5, _ => rfl⟩⟩
end
theorem rd49_at (l : List S49) (i : Nat) (h : i < l.length) : l[i]? = some (rd_T49 l (i : Int)) := by simp [rd_T49, h]
theorem rd47_at (l : List S47) (i : Nat) (h : i < l.length) : l[i]? = some (rd_T47 l (i : Int)) := by simp [rd_T47, h]
theorem drop49 {l : List S49} {i : Nat} (h : i < l.length) : l.drop i = rd_T49 l (i : Int) :: l.drop (i + 1) := by
  rw [List.drop_eq_getElem_cons h]
  have h2 := rd49_at l i h
  rw [List.getElem?_eq_getElem h] at h2
  injection h2 with h2
  rw [h2]
theorem drop47 {l : List S47} {i : Nat} (h : i < l.length) : l.drop i = rd_T47 l (i : Int) :: l.drop (i + 1) := by
  rw [List.drop_eq_getElem_cons h]
  have h2 := rd47_at l i h
  rw [List.getElem?_eq_getElem h] at h2
  injection h2 with h2
  rw [h2]

/-- One choice is right: its group in range and new, its costs in range. -/
def okCh (g : Int) (F : Nat → Bool) (c : S49) : Bool :=
  decide (0 ≤ c.f0) && decide (c.f0 < g) && !F c.f0.toNat && decide (0 ≤ (if c.f2 < c.f1 then c.f2 else c.f1)) && decide ((if c.f1 < c.f2 then c.f2 else c.f1) ≤ 1000000)
def okChs (g : Int) : (Nat → Bool) → List S49 → Bool
  | _, [] => true
  | F, c :: l => okCh g F c && okChs g (upd F c.f0.toNat true) l
def okRt (g : Int) : Int → List S47 → Bool
  | _, [] => true
  | last, r :: l => decide (last < r.f0) && decide (r.f0 < 6) && okChs g (fun _ => false) r.f1 && okRt g r.f0 l
/-- What Check answers. -/
def chkF (l : List S47) (g : Int) : Int := if g < 0 ∨ 6 < g then 1 else if okRt g (-2) l = true then 0 else 1

/-- Between two choices. -/
structure CI (w : World) (b8 : Nat) (F : Nat → Bool) (W : World) : Prop where
  s : SB 55 6 b8 F W
  b : Below w.heap.size w W
  l : w.heap.size ≤ b8

set_option maxRecDepth 100000 in
set_option maxHeartbeats 8000000 in
theorem check_any (A : Option Addr) (c : Nat) (l : List S47) (g : Int) (w : World) (hr : Kd.C k47 w A l.length l) (hlen : l.length ≤ 1000000) (hcl : ∀ z ∈ l, z.f1.length ≤ 1000000) :
    Calls Try.prog 19 #[.slice A l.length c, .int .i64 g] w fun e w' => e = .returned (.int .i64 (chkF l g)) ∧ Below w.heap.size w w' := by
  have HR := Aside0.mk hr
  clear hr
  by_cases hg0 : g < 0
  · have e : chkF l g = 1 := by unfold chkF; rw [if_pos (.inl hg0)]
    rw [e]
    go_enter Try.func19, Try.ntmps19
    go_wp2_with fail
    go_ret
    exact ⟨rfl, Below.refl _ _⟩
  by_cases hg6 : 6 < g
  · have e : chkF l g = 1 := by unfold chkF; rw [if_pos (.inr hg6)]
    rw [e]
    go_enter Try.func19, Try.ntmps19
    go_wp2_with fail
    go_ret
    exact ⟨rfl, Below.refl _ _⟩
  have hbad : okRt g (-2) l = false → chkF l g = 1 := fun h => by unfold chkF; rw [if_neg (by omega), h]; rfl
  have hgood : okRt g (-2) l = true → chkF l g = 0 := fun h => by unfold chkF; rw [if_neg (by omega), h]; rfl
  go_enter Try.func19, Try.ntmps19
  go_wp2_with fail
  go_loopw [5, 19] (fun s5 s19 wr => ∃ (k : Nat) (last : Int), k ≤ l.length ∧ s19 = .int .i64 (k : Int) ∧ s5 = .int .i64 last ∧ okRt g (-2) l = okRt g last (l.drop k) ∧ Aside0 (Below w.heap.size w wr)) (fun _ s19 _ => ((l.length : Int) - intOf s19).toNat)
  case atStart => exact ⟨0, -2, by omega, rfl, rfl, rfl, ⟨Below.refl _ _⟩⟩
  case round =>
    obtain ⟨k, last, hk, rfl, rfl, hE, hB⟩ := hrel
    by_cases hkl : k < l.length
    · have hk1 : (k : Int) < (l.length : Int) := by omega
      have hk0 : (0 : Int) ≤ (k : Int) := by omega
      obtain ⟨ad, A1, c1, eA, x0, x1, hle1, hC1⟩ := at_T47 HR.out (k : Int) hk0 hk1
      subst eA
      have a0 := (hB.out.cell (World.block_lt_of_cell? w _ x0)).trans x0
      have a1 := (hB.out.cell (World.block_lt_of_cell? w _ x1)).trans x1
      simp only [Int.toNat_natCast] at a0 a1
      clear x0 x1
      rw [drop47 hkl] at hE
      have hml : (rd_T47 l (k : Int)).f1.length ≤ 1000000 := hcl _ (List.mem_iff_getElem?.2 ⟨k, rd47_at l k hkl⟩)
      obtain ⟨r, hr⟩ : ∃ r, rd_T47 l (k : Int) = r := ⟨_, rfl⟩
      rw [hr] at a0 a1 hle1 hC1 hE hml
      simp only [okRt] at hE
      have HC1 := Aside0.mk hC1
      clear hC1 hr
      by_cases hl1 : r.f0 ≤ last
      · have hv := hbad (by rw [hE]; simp; omega)
        clear hgood hbad hE
        go_wp2_with fail
        go_ret
        exact ⟨by first | rfl | (rw [hv]; rfl), hB.out.alloc hB.out.size _⟩
      by_cases hl2 : r.f0 ≥ 6
      · have hv := hbad (by rw [hE]; simp; omega)
        clear hgood hbad hE
        go_wp2_with fail
        go_ret
        exact ⟨by first | rfl | (rw [hv]; rfl), hB.out.alloc hB.out.size _⟩
      have d1 : decide (last < r.f0) = true := by simp; omega
      have d2 : decide (r.f0 < 6) = true := by simp; omega
      rw [d1, d2, Bool.true_and, Bool.true_and] at hE
      clear d1 d2
      go_wp2_with fail
      have hB7 := hB.out.alloc hB.out.size (.cells #[.int .i64 r.f0, .slice A1 r.f1.length c1] 47)
      have s7 : wr.heap.size < (wr.alloc (.cells #[.int .i64 r.f0, .slice A1 r.f1.length c1] 47)).heap.size := by simp
      have hlo : w.heap.size ≤ wr.heap.size := hB.out.size
      have hI : CI w (wr.alloc (.cells #[.int .i64 r.f0, .slice A1 r.f1.length c1] 47)).heap.size (fun _ => false) ((wr.alloc (.cells #[.int .i64 r.f0, .slice A1 r.f1.length c1] 47)).alloc (.cells #[.bool false, .bool false, .bool false, .bool false, .bool false, .bool false] 55)) :=
        ⟨SB.new6 _, hB7.alloc hB7.size _, hB7.size⟩
      have hs7 : (wr.alloc (.cells #[.int .i64 r.f0, .slice A1 r.f1.length c1] 47)).heap.size = wr.heap.size + 1 := by simp
      rw [hs7] at hI
      have HI := Aside0.mk hI
      clear hI hB7 hB a0 a1 s7 hs7
      generalize (wr.alloc (.cells #[.int .i64 r.f0, .slice A1 r.f1.length c1] 47)).alloc (.cells #[.bool false, .bool false, .bool false, .bool false, .bool false, .bool false] 55) = W0 at HI ⊢
      obtain ⟨b8, hb8⟩ : ∃ b, wr.heap.size + 1 = b := ⟨_, rfl⟩
      rw [hb8] at HI ⊢
      clear hb8
      have hbadc : okChs g (fun _ => false) r.f1 = false → chkF l g = 1 := fun h => hbad (by rw [hE, h]; rfl)
      clear hbad
      go_loopw [37] (fun s37 wr => ∃ (m : Nat) (F : Nat → Bool), m ≤ r.f1.length ∧ s37 = .int .i64 (m : Int) ∧ okChs g (fun _ => false) r.f1 = okChs g F (r.f1.drop m) ∧ Aside0 (CI w b8 F wr)) (fun s37 _ => ((r.f1.length : Int) - intOf s37).toNat)
      case atStart => exact ⟨0, _, by omega, rfl, rfl, HI⟩
      case round =>
        clear HI
        obtain ⟨m, F, hm, rfl, hF, HI⟩ := hrel
        by_cases hml2 : m < r.f1.length
        · have hm1 : (m : Int) < (r.f1.length : Int) := by omega
          have hm0 : (0 : Int) ≤ (m : Int) := by omega
          obtain ⟨ad2, eA2, x0, x1, x2⟩ := at_T49 HC1.out (m : Int) hm0 hm1
          subst eA2
          have a0 := (HI.out.b.cell (World.block_lt_of_cell? w _ x0)).trans x0
          have a1 := (HI.out.b.cell (World.block_lt_of_cell? w _ x1)).trans x1
          have a2 := (HI.out.b.cell (World.block_lt_of_cell? w _ x2)).trans x2
          simp only [Int.toNat_natCast] at a0 a1 a2
          clear x0 x1 x2
          rw [drop49 hml2] at hF
          obtain ⟨z, hz⟩ : ∃ z, rd_T49 r.f1 (m : Int) = z := ⟨_, rfl⟩
          rw [hz] at a0 a1 a2 hF
          clear hz
          simp only [okChs] at hF
          have hbadz : okCh g F z = false → chkF l g = 1 := fun h => hbadc (by rw [hF, h]; rfl)
          have hblt := HI.out.s.lt
          by_cases q1 : z.f0 < 0
          · have hv := hbadz (by unfold okCh; rw [decide_eq_false (show ¬ 0 ≤ z.f0 by omega)]; rfl)
            clear hbadz hbadc hgood hE hF
            go_wp2_with fail
            go_ret
            exact ⟨by first | rfl | (rw [hv]; rfl), HI.out.b.alloc HI.out.b.size _⟩
          by_cases q2 : z.f0 ≥ g
          · have hv := hbadz (by unfold okCh; rw [decide_eq_false (show ¬ z.f0 < g by omega), Bool.and_false]; rfl)
            clear hbadz hbadc hgood hE hF
            go_wp2_with fail
            go_ret
            exact ⟨by first | rfl | (rw [hv]; rfl), HI.out.b.alloc HI.out.b.size _⟩
          have q0 : 0 ≤ z.f0 := by omega
          have q6 : z.f0 < 6 := by omega
          have hi6 : z.f0.toNat < 6 := by omega
          have hc := HI.out.s.cell hi6
          have hf := HI.out.s.frozen z.f0.toNat
          have hal : Below wr.heap.size wr (wr.alloc (.cells #[.int .i64 z.f0, .int .i64 z.f1, .int .i64 z.f2] 49)) := (Below.refl _ _).alloc (Nat.le_refl _) _
          cases hFz : F z.f0.toNat with
          | true =>
            have hv := hbadz (by unfold okCh; rw [hFz]; simp)
            rw [hFz] at hc
            clear hbadz hbadc hgood hE hF
            go_wp2_with fail
            go_ret
            exact ⟨by first | rfl | (rw [hv]; rfl), HI.out.b.alloc HI.out.b.size _⟩
          | false =>
            rw [hFz] at hc
            obtain ⟨mi, hmi⟩ : ∃ x, (if z.f2 < z.f1 then z.f2 else z.f1) = x := ⟨_, rfl⟩
            obtain ⟨ma, hma⟩ : ∃ x, (if z.f1 < z.f2 then z.f2 else z.f1) = x := ⟨_, rfl⟩
            have hok : okCh g F z = (decide (0 ≤ mi) && decide (ma ≤ 1000000)) := by
              unfold okCh
              rw [hmi, hma, hFz, decide_eq_true q0, decide_eq_true (show z.f0 < g by omega)]
              simp
            by_cases q3 : mi < 0
            · have hv := hbadz (by rw [hok, decide_eq_false (show ¬ 0 ≤ mi by omega)]; rfl)
              clear hbadz hbadc hgood hE hF hok
              go_wp2_with fail
              go_ret
              exact ⟨by first | rfl | (rw [hv]; rfl), HI.out.b.alloc HI.out.b.size _⟩
            by_cases q4 : ma > 1000000
            · have hv := hbadz (by rw [hok, decide_eq_false (show ¬ ma ≤ 1000000 by omega), Bool.and_false])
              clear hbadz hbadc hgood hE hF hok
              go_wp2_with fail
              go_ret
              exact ⟨by first | rfl | (rw [hv]; rfl), HI.out.b.alloc HI.out.b.size _⟩
            have hok1 : okCh g F z = true := by rw [hok, decide_eq_true (show 0 ≤ mi by omega), decide_eq_true (show ma ≤ 1000000 by omega)]; rfl
            rw [hok1, Bool.true_and] at hF
            have hs1 := HI.out.s.set hi6 true
            have hb1 := HI.out.b.setCell (p := ⟨b8, z.f0.toNat, none⟩) HI.out.l (.bool true)
            have hs2 := hs1.below hs1.lt ((Below.refl _ (wr.setCell ⟨b8, z.f0.toNat, none⟩ (.bool true))).alloc (Nat.le_refl _) (.cells #[.int .i64 z.f0, .int .i64 z.f1, .int .i64 z.f2] 49))
            have HI2 : Aside0 (CI w b8 (upd F z.f0.toNat true) ((wr.setCell ⟨b8, z.f0.toNat, none⟩ (.bool true)).alloc (.cells #[.int .i64 z.f0, .int .i64 z.f1, .int .i64 z.f2] 49))) := ⟨⟨hs2, hb1.alloc hb1.size _, HI.out.l⟩⟩
            clear hs1 hs2 hb1 hal hok hok1 hbadz hgood
            go_wp2_with fail
            go_roundw
            case rel => exact ⟨m + 1, _, by omega, by go_num, hF, HI2⟩
            case measure => simp [intOf]; omega
        · have hm1 : ¬ (m : Int) < (r.f1.length : Int) := by omega
          have hT : okChs g (fun _ => false) r.f1 = true := by rw [hF, List.drop_eq_nil_of_le (by omega)]; rfl
          rw [hT, Bool.true_and] at hE
          clear hbadc hF
          go_wp2_with fail
          go_roundw
          case rel => exact ⟨k + 1, r.f0, by omega, by go_num, by first | rfl | trivial, hE, ⟨HI.out.b⟩⟩
          case measure => simp [intOf]; omega
    · have hv := hgood (by rw [hE, List.drop_eq_nil_of_le (by omega)]; rfl)
      have hk1 : ¬ (k : Int) < (l.length : Int) := by omega
      clear hgood hbad hE
      go_wp2_with fail
      go_ret
      exact ⟨by first | rfl | (rw [hv]; rfl), hB.out⟩
end Go.Proofs.Ytjaodgicpnoifaa.P
