/- Build's inner function: one route more. -/
import Derived.Test.YtjaodgicpnoifaaHr
namespace Go.Proofs.Ytjaodgicpnoifaa.P
open Go.RowKit Go.Shelf Go.Proofs.YtjaodgicpnoifaaW.PrintWords Go.Proofs.YtjaodgicpnoifaaW.PrintLast Go.Proofs.YtjaodgicpnoifaaW.PrintMore
set_option linter.unusedVariables false
set_option linter.unusedSimpArgs false

/-- Any operation that yields a value, as the one that may come up. -/
theorem runs_ {ops : Array Oper} {Q : Exit → Act → World → Prop} {oi : Oper} {a : Act} {w w1 : World} {K : Act → World → Prop} {N : Option Tmp} {v : Value} (hw : Region.wanted oi (yielded ops a.tmps) = true) (hN : oi.dst = N)
    (hr : (execOp a.eval oi).run Try.prog w = .ok (.value v) w1) (h : K (a.put N v) w1) : if Region.wanted oi (yielded ops a.tmps) = true then Oper.wp Try.prog oi a w K Q else K (a.put N undef) w := by
  rw [if_pos hw]
  unfold Oper.wp
  rw [hr, Oper.upon_value, hN]
  exact h
/-- A cell that holds a number. -/
structure DH (ad : Addr) (v : Int) (W : World) : Prop where
  c : W.cell? ad = some (.int .i64 v)
/-- What is held while Build runs: the network, the exchange, the peers, the routes. -/
structure BdS (n : Nat) (F : Nat → Bool) (sf : Int) (bn bs bp br : Nat) (ps : List Int) (rs : List S47) (pv rv : Value) (w W : World) : Prop where
  nb : NB bn n F W
  cs : W.heap[bs]? = some (.cells #[.int .i64 sf] 3 (0, 0))
  cp : W.heap[bp]? = some (.cells #[pv] 23 (0, 0))
  cr : W.heap[br]? = some (.cells #[rv] 24 (0, 0))
  pR : (Kd.int .i64).R 3 W w.heap.size (fun k => k ≠ bs) pv ps
  rS : Kd.S k47 47 W w.heap.size (fun _ => True) rv rs
  b : Below w.heap.size w W
  lr : w.heap.size ≤ br
section
variable {n : Nat} {F : Nat → Bool} {sf : Int} {bn bs bp br : Nat} {ps : List Int} {rs : List S47} {pv rv : Value} {w W W' : World}
theorem BdS.below (h : BdS n F sf bn bs bp br ps rs pv rv w W) (hb : Below W.heap.size W W') : BdS n F sf bn bs bp br ps rs pv rv w W' where
  nb := h.nb.below h.nb.lt hb
  cs := (hb.block _ (blk_lt h.cs)).trans h.cs
  cp := (hb.block _ (blk_lt h.cp)).trans h.cp
  cr := (hb.block _ (blk_lt h.cr)).trans h.cr
  pR := Kd.R_below h.pR hb
  rS := Kd.S_below h.rS hb
  b := h.b.trans (hb.mono h.b.size)
  lr := h.lr
theorem BdS.ns (h : BdS n F sf bn bs bp br ps rs pv rv w W) : W.cell? ⟨bs, 0, none⟩ = some (.int .i64 sf) := (blk_cell h.cs 0).trans rfl
theorem BdS.np (h : BdS n F sf bn bs bp br ps rs pv rv w W) : W.cell? ⟨bp, 0, none⟩ = some pv := (blk_cell h.cp 0).trans rfl
theorem BdS.nr (h : BdS n F sf bn bs bp br ps rs pv rv w W) : W.cell? ⟨br, 0, none⟩ = some rv := (blk_cell h.cr 0).trans rfl
theorem BdS.app {v1 : Value} {w1 : World} {z : S47} (h : BdS n F sf bn bs bp br ps rs pv rv w W) (hS : Kd.S k47 47 w1 w.heap.size (fun _ => True) v1 (rs ++ [z])) (hb : Below w.heap.size w w1) (hg : W.grownBy w1 rv.ownBlock) :
    w1.cell? ⟨br, 0, none⟩ = some rv ∧ w1.frozen? ⟨br, 0, none⟩ = false ∧ BdS n F sf bn bs bp br ps (rs ++ [z]) pv v1 w (w1.setCell ⟨br, 0, none⟩ v1) := by
  have k : ∀ {g t : Nat} {cs : Array Value}, W.heap[g]? = some (.cells cs t (0, 0)) → 47 ≠ t → w1.heap[g]? = some (.cells cs t (0, 0)) := fun {g t cs} hc ht => (hg.block g (blk_lt hc) (Kd.S_ne h.rS hc ht)).trans hc
  have nb1 : w1.heap[bn]? = some (.cells (nw n F) 58 (0, 0)) := k h.nb (by decide)
  have cs1 := k h.cs (by decide)
  have cp1 := k h.cp (by decide)
  have cr1 := k h.cr (by decide)
  have pR1 := Kd.R_over' h.pR (Kd.S_typed h.rS) (by decide) hg
  refine ⟨(blk_cell cr1 0).trans rfl, blk_frozen cr1 0, ?_, ?_, ?_, blk_put cr1 0 _ rfl, Kd.R_set pR1 cr1 (by decide) 0 _, Kd.S_set hS cr1 (by decide) 0 _, hb.setCell h.lr _, h.lr⟩
  · exact (Below.heap_setCell w1 ⟨br, 0, none⟩ v1 bn (blk_ne nb1 cr1 (by decide))).trans nb1
  · exact (Below.heap_setCell w1 ⟨br, 0, none⟩ v1 bs (blk_ne cs1 cr1 (by decide))).trans cs1
  · exact (Below.heap_setCell w1 ⟨br, 0, none⟩ v1 bp (blk_ne cp1 cr1 (by decide))).trans cp1
end
def add34.T6 : Bool × List (List Nat × List Nat) := (true, [([], []), ([], []), ([], []), ([], []), ([2, 3], [2, 3]), ([4], [4]), ([5], [5]), ([], []), ([], []), ([7, 8], [7, 8]), ([9], [9]), ([10], [10]), ([1, 6, 11], [1, 6, 11]), ([12], [12]), ([0, 13], [0, 13]), ([14, 14, 0, 1, 2, 3, 4, 5, 6, 7, 8, 9, 10, 11, 12, 13, 14], [0, 14])])
def add34.B6 : List Nat := [0, 0, 0, 0, 12, 28, 60, 0, 0, 384, 896, 1920, 4094, 8190, 16383, 32767]
theorem add34.tab6 : rtab .any (opsOf Try.f34 6) = add34.T6 := by kernel_rfl
theorem add34.bits6 : waitsOk add34.T6.2 add34.B6 = true := by kernel_rfl
set_option maxRecDepth 100000 in
set_option maxHeartbeats 8000000 in
theorem add_any (n : Nat) (h0 : 1 ≤ n) (h6 : n ≤ 6) (F : Nat → Bool) (hF : ∀ x y, x < 6 → y < 6 → F (x * 6 + y) = true → y < n) (sf : Int) (bn bs bp br : Nat) (ps : List Int) (rs : List S47) (pv rv : Value) (w W : World) (hW : BdS n F sf bn bs bp br ps rs pv rv w W)
    (hps : ∀ p ∈ ps, 0 ≤ p ∧ p < n) (hpl : ps.length ≤ 6) (hrl : rs.length ≤ 100) (target : Int) (At : Option Addr) (ct : Nat) (ts : List Int) (ht : Kd.C (Kd.int .i64) W At ts.length ts) (hts : ∀ t ∈ ts, 0 ≤ t ∧ t < n) :
    Calls Try.prog 34 #[.int .i64 target, .slice At ts.length ct, .pointer (some ⟨bn, 0, none⟩), .pointer (some ⟨bs, 0, none⟩), .pointer (some ⟨bp, 0, none⟩), .pointer (some ⟨br, 0, none⟩)] W
      fun e w' => e = .returned (.tuple #[]) ∧ ∃ rv', BdS n F sf bn bs bp br ps (rs ++ [routeF n F sf ps target ts]) pv rv' w w' := by
  have HW := Aside0.mk hW
  have hcall := distances_any n h0 h6 F hF At ct ts sf W ht hts
  have hbd := distF_bd (av := sf) h6 hF hts
  have hc1 := hW.ns
  clear hW ht hts
  unfold routeF
  obtain ⟨D, hD⟩ : ∃ D, distF n F sf ts = D := ⟨_, rfl⟩
  rw [hD] at hcall hbd ⊢
  obtain ⟨hDl, hbd⟩ := hbd
  clear hD
  obtain ⟨LL, hLL⟩ : ∃ LL, chsF D 0 ps = LL := ⟨_, rfl⟩
  have hLLl := chsF_len D ps 0
  rw [hLL] at hLLl ⊢
  go_enter Try.func34, Try.ntmps34
  go_wp2_with ((with_reducible refine gate_ (.load 58 (.tmp 2)) rfl ?_); refine load58 (g := bn) (n := n) (F := F) rfl rfl rfl (by first | rfl | (simp [Act.eval]; done)) HW.out.nb ?_)
  refine hcall.mono ?_
  rintro e W1 ⟨v0, rfl, hR, hb⟩
  obtain ⟨gd, cd, rfl, _, hgd, _⟩ := Kd.R_form hR (by omega)
  rw [hDl] at hR
  rw [hDl]
  have H1 := Aside0.mk (HW.out.below hb)
  have HD := Aside0.mk hR
  have hc2 := H1.out.np
  obtain ⟨Ap, cp, rfl, hlep, hCp⟩ := Kd.R_reads H1.out.pR
  have HCp := Aside0.mk hCp
  clear hb hR hcall HW hc1 hCp hlep
  go_wp2_with fail
  go_loopw [9, 18] (fun s9 s18 wr => ∃ (m : Nat) (ls : List S49), m ≤ ps.length ∧ s18 = .int .i64 (m : Int) ∧ ls.length ≤ m ∧ Aside0 (LL = ls ++ chsF D m (ps.drop m)) ∧ Aside0 (Below W1.heap.size W1 wr) ∧ Aside0 (Kd.R k49 49 wr W1.heap.size (fun _ => True) s9 ls)) (fun _ s18 _ => ((ps.length : Int) - intOf s18).toNat)
  case atStart => exact ⟨0, [], by omega, rfl, by simp, ⟨hLL.symm⟩, ⟨Below.refl _ _⟩, ⟨Kd.R_nil _ _ _ _ _⟩⟩
  case round =>
    clear hLL
    obtain ⟨m, ls, hm, rfl, hls, HS, HB, HL⟩ := hrel
    by_cases hml : m < ps.length
    · have hm1 : (m : Int) < (ps.length : Int) := by omega
      have hm0 : (0 : Int) ≤ (m : Int) := by omega
      obtain ⟨ad, rfl, hc3⟩ := Kd.at_int (Kd.C_below HCp.out HB.out) (m : Int) hm0 hm1
      simp only [Int.toNat_natCast] at hc3
      have hS := HS.out
      rw [hd_drop hml] at hS
      simp only [chsF] at hS
      obtain ⟨hp0, hpn⟩ := hps _ (rd_mem hml)
      clear HS
      generalize rd ps (m : Int) = p at hc3 hS hp0 hpn
      obtain ⟨X, rfl⟩ : ∃ X : Nat, p = (X : Int) := ⟨p.toNat, by omega⟩
      have hXn : X < n := by omega
      have hd1 := (Kd.R_celln 0 HD.out (X : Int) (by omega) (by omega)).1
      rw [Int.toNat_natCast] at hd1
      change W1.cell? ⟨gd, X, none⟩ = some (.int .i64 (rd D (X : Int))) at hd1
      have hd2 := (HB.out.cell (p := ⟨gd, X, none⟩) hgd).trans hd1
      obtain ⟨hb0, hb7⟩ := hbd (X : Int)
      generalize rd D (X : Int) = dx at hd1 hd2 hb0 hb7 hS
      by_cases hdx : 0 ≤ dx
      · rw [if_pos hdx, List.append_cons] at hS
        have HS := Aside0.mk hS
        clear hS
        go_wp2_with fail
        refine start_ (n := 16) (S := fun w' => DH ⟨gd, X, none⟩ dx w') (ds := []) #[false, false, false, false, false, false, false, false, false, false, false, false, false, false, false, false] (by kernel_rfl) rfl rfl ⟨(Below.refl wr.heap.size wr).drew.cell (World.block_lt_of_cell? wr _ hd2) |>.trans hd2⟩ (fun hHeld => ?_)
        refine with_tabW add34.tab6 add34.bits6 (fun HT_ HW_ => ?_)
        replace hd2 := ((Below.refl wr.heap.size wr).drew.cell (World.block_lt_of_cell? wr _ hd2)).trans hd2
        replace HB := Aside0.mk HB.out.drew
        replace HL := Aside0.mk (Kd.R_drew HL.out)
        generalize wr.drew = W2 at HB HL hd2 hHeld ⊢
        refine pure_ (i := 0) (N := some 28) (v := ?_) (a' := ?_) #[true, false, false, false, false, false, false, false, false, false, false, false, false, false, false, false] rfl rfl (any_of HT_.out (by kernel_rfl)) (fun _ _ _ h => h) (Or.inl ⟨by rfl, ?_⟩) ?_ ?_
        rotate_left
        · intro w'
          go_simp
          with_reducible rfl
        rotate_left
        · simp only [Act.put, List.setIfInBounds_toArray, List.set_cons_zero, List.set_cons_succ, i64_w, i32_w]
          rfl
        refine pure_ (i := 1) (N := some 29) (v := ?_) (a' := ?_) #[true, true, false, false, false, false, false, false, false, false, false, false, false, false, false, false] rfl rfl (any_of HT_.out (by kernel_rfl)) (fun _ _ _ h => h) (Or.inl ⟨by rfl, ?_⟩) ?_ ?_
        rotate_left
        · intro w'
          go_simp
          with_reducible rfl
        rotate_left
        · simp only [Act.put, List.setIfInBounds_toArray, List.set_cons_zero, List.set_cons_succ, i64_w, i32_w]
          rfl
        refine pure_ (i := 2) (N := some 30) (v := ?_) (a' := ?_) #[true, true, true, false, false, false, false, false, false, false, false, false, false, false, false, false] rfl rfl (any_of HT_.out (by kernel_rfl)) (fun _ _ _ h => h) (Or.inl ⟨by rfl, ?_⟩) ?_ ?_
        rotate_left
        · intro w'
          go_simp
          with_reducible rfl
        rotate_left
        · simp only [Act.put, List.setIfInBounds_toArray, List.set_cons_zero, List.set_cons_succ, i64_w, i32_w]
          rfl
        refine pure_ (i := 3) (N := some 31) (v := ?_) (a' := ?_) #[true, true, true, true, false, false, false, false, false, false, false, false, false, false, false, false] rfl rfl (any_of HT_.out (by kernel_rfl)) (fun _ _ _ h => h) (Or.inl ⟨by rfl, ?_⟩) ?_ ?_
        rotate_left
        · intro w'
          go_simp
          with_reducible rfl
        rotate_left
        · simp only [Act.put, List.setIfInBounds_toArray, List.set_cons_zero, List.set_cons_succ, i64_w, i32_w]
          rfl
        refine pure_ (i := 4) (N := some 32) (v := ?_) (a' := ?_) #[true, true, true, true, true, false, false, false, false, false, false, false, false, false, false, false] rfl rfl (any_of HT_.out (by kernel_rfl)) (fun _ _ _ h => h) (Or.inl ⟨by rfl, ?_⟩) ?_ ?_
        rotate_left
        · intro w'
          go_simp
          with_reducible rfl
        rotate_left
        · simp only [Act.put, List.setIfInBounds_toArray, List.set_cons_zero, List.set_cons_succ, i64_w, i32_w]
          rfl
        refine pure_ (i := 7) (N := some 35) (v := ?_) (a' := ?_) #[true, true, true, true, true, false, false, true, false, false, false, false, false, false, false, false] rfl rfl (any_of HT_.out (by kernel_rfl)) (fun _ _ _ h => h) (Or.inl ⟨by rfl, ?_⟩) ?_ ?_
        rotate_left
        · intro w'
          go_simp
          with_reducible rfl
        rotate_left
        · simp only [Act.put, List.setIfInBounds_toArray, List.set_cons_zero, List.set_cons_succ, i64_w, i32_w]
          rfl
        refine pure_ (i := 8) (N := some 36) (v := ?_) (a' := ?_) #[true, true, true, true, true, false, false, true, true, false, false, false, false, false, false, false] rfl rfl (any_of HT_.out (by kernel_rfl)) (fun _ _ _ h => h) (Or.inl ⟨by rfl, ?_⟩) ?_ ?_
        rotate_left
        · intro w'
          go_simp
          with_reducible rfl
        rotate_left
        · simp only [Act.put, List.setIfInBounds_toArray, List.set_cons_zero, List.set_cons_succ, i64_w, i32_w]
          rfl
        refine pure_ (i := 9) (N := some 37) (v := ?_) (a' := ?_) #[true, true, true, true, true, false, false, true, true, true, false, false, false, false, false, false] rfl rfl (any_of HT_.out (by kernel_rfl)) (fun _ _ _ h => h) (Or.inl ⟨by rfl, ?_⟩) ?_ ?_
        rotate_left
        · intro w'
          go_simp
          with_reducible rfl
        rotate_left
        · simp only [Act.put, List.setIfInBounds_toArray, List.set_cons_zero, List.set_cons_succ, i64_w, i32_w]
          rfl
        refine take_ (i := 5) (N := some 33) (v := ?_) (a' := ?_) #[true, true, true, true, true, true, false, true, true, true, false, false, false, false, false, false] rfl rfl (take_ofW HT_.out HW_.out (by kernel_rfl)) (fun _ _ _ h => h) (Or.inl ⟨by rfl, ?_⟩) hHeld ?_ ?_
        rotate_left
        · rintro w' ⟨s0⟩
          go_simp
          with_reducible rfl
        rotate_left
        · simp only [Act.put, List.setIfInBounds_toArray, List.set_cons_zero, List.set_cons_succ, i64_w, i32_w]
          rfl
        refine pure_ (i := 6) (N := some 34) (v := .int .i64 (1 + dx)) (a' := ?_) #[true, true, true, true, true, true, true, true, true, true, false, false, false, false, false, false] rfl rfl (any_of HT_.out (by kernel_rfl)) (fun _ _ _ h => h) (Or.inl ⟨by rfl, ?_⟩) ?_ ?_
        · intro w'
          have hw : RowKit.wrap64 (1 + dx) = 1 + dx := by unfold RowKit.wrap64; omega
          go_simp
          all_goals first | (with_reducible rfl) | (rw [IntWalk.i64_left]; exact hw)
        rotate_left
        · simp only [Act.put, List.setIfInBounds_toArray, List.set_cons_zero, List.set_cons_succ, i64_w, i32_w]
          rfl
        refine take_ (i := 10) (N := some 38) (v := ?_) (a' := ?_) #[true, true, true, true, true, true, true, true, true, true, true, false, false, false, false, false] rfl rfl (take_ofW HT_.out HW_.out (by kernel_rfl)) (fun _ _ _ h => h) (Or.inl ⟨by rfl, ?_⟩) hHeld ?_ ?_
        rotate_left
        · rintro w' ⟨s0⟩
          go_simp
          with_reducible rfl
        rotate_left
        · simp only [Act.put, List.setIfInBounds_toArray, List.set_cons_zero, List.set_cons_succ, i64_w, i32_w]
          rfl
        refine pure_ (i := 11) (N := some 39) (v := .int .i64 (1 + dx)) (a' := ?_) #[true, true, true, true, true, true, true, true, true, true, true, true, false, false, false, false] rfl rfl (any_of HT_.out (by kernel_rfl)) (fun _ _ _ h => h) (Or.inl ⟨by rfl, ?_⟩) ?_ ?_
        · intro w'
          have hw : RowKit.wrap64 (1 + dx) = 1 + dx := by unfold RowKit.wrap64; omega
          go_simp
          all_goals first | (with_reducible rfl) | (rw [IntWalk.i64_left]; exact hw)
        rotate_left
        · simp only [Act.put, List.setIfInBounds_toArray, List.set_cons_zero, List.set_cons_succ, i64_w, i32_w]
          rfl
        refine pure_ (i := 12) (N := some 40) (v := ?_) (a' := ?_) #[true, true, true, true, true, true, true, true, true, true, true, true, true, false, false, false] rfl rfl (any_of HT_.out (by kernel_rfl)) (fun _ _ _ h => h) (Or.inl ⟨by rfl, ?_⟩) ?_ ?_
        rotate_left
        · intro w'
          go_simp
          with_reducible rfl
        rotate_left
        · simp only [Act.put, List.setIfInBounds_toArray, List.set_cons_zero, List.set_cons_succ, i64_w, i32_w]
          rfl
        refine one_ (i := 13) (N := some 41) #[true, true, true, true, true, true, true, true, true, true, true, true, true, true, false, false] rfl rfl (one_of HT_.out (by kernel_rfl)) (by decide) (fun K hK => ?_)
        refine runs_ (v := .slice (some ⟨W2.heap.size, 0, none⟩) 1 1) (w1 := W2.alloc (.cells #[.int .i64 (m : Int), .int .i64 (1 + dx), .int .i64 (1 + dx)] 49)) (by rfl) rfl ?_ ?_
        · go_simp
          all_goals with_reducible rfl
        have hd3 := ((Below.refl W2.heap.size W2).alloc (Nat.le_refl _) (.cells #[.int .i64 (m : Int), .int .i64 (1 + dx), .int .i64 (1 + dx)] 49)).cell (World.block_lt_of_cell? W2 _ hd2)
        refine hK.out _ _ ⟨hd3.trans hd2⟩ (fun hHeld => ?_)
        clear hd3
        clear hK K
        refine norm_ (a' := ?_) ?_ ?_
        rotate_left
        · show Act.put _ (some 41) _ = _
          simp only [Act.put, List.setIfInBounds_toArray, List.set_cons_zero, List.set_cons_succ, i64_w, i32_w]
          rfl
        refine one_ (i := 14) (N := some 42) #[true, true, true, true, true, true, true, true, true, true, true, true, true, true, true, false] rfl rfl (one_of HT_.out (by kernel_rfl)) (by decide) (fun K hK => ?_)
        refine Kd.R_append_step k49 (w0 := W1) W1.heap.size (by rfl) (.tmp 28) (.tmp 41) 45 49 (.agg #[(.int .i64 0), (.int .i64 0), (.int .i64 0)]) 24 rfl Try.underlying45 info49 rfl (by decide) (by omega) _ ls (⟨(m : Int), 1 + dx, 1 + dx⟩ : S49) [.int .i64 (m : Int), .int .i64 (1 + dx), .int .i64 (1 + dx)] (fun _ => True) (fun _ => False) (by rfl) (by rfl) (k49_mkM _ _ _ (⟨(m : Int), 1 + dx, 1 + dx⟩ : S49)) (fun _ hk => hk.elim) (fun _ _ => trivial) HL.out HB.out HB.out.size (by omega) ?_
        intro v1 w3 ho hb hg hat
        clear HB HL hg hat
        have HB := Aside0.mk hb
        have HL := Aside0.mk ho
        have hd3 := (hb.cell (p := ⟨gd, X, none⟩) hgd).trans hd1
        clear ho hb hd2
        refine hK.out _ _ ⟨hd3⟩ (fun hHeld => ?_)
        clear hK K
        refine norm_ (a' := ?_) ?_ ?_
        rotate_left
        · show Act.put _ (some 42) _ = _
          simp only [Act.put, List.setIfInBounds_toArray, List.set_cons_zero, List.set_cons_succ, i64_w, i32_w]
          rfl
        refine pure_ (i := 15) (N := some 9) (v := ?_) (a' := ?_) #[true, true, true, true, true, true, true, true, true, true, true, true, true, true, true, true] rfl rfl (any_of HT_.out (by kernel_rfl)) (fun _ _ _ h => h) (Or.inl ⟨by rfl, ?_⟩) ?_ ?_
        rotate_left
        · intro w'
          go_simp
          with_reducible rfl
        rotate_left
        · simp only [Act.put, List.setIfInBounds_toArray, List.set_cons_zero, List.set_cons_succ, i64_w, i32_w]
          rfl
        refine done_ (done_of HT_.out (by kernel_rfl)) ?_
        go_wp2_with fail
        go_roundw
        case rel => exact ⟨m + 1, ls ++ [⟨(m : Int), 1 + dx, 1 + dx⟩], by omega, by go_num, by simp; omega, HS, HB, HL⟩
        case measure => simp [intOf]; omega
      · rw [if_neg hdx] at hS
        have HS := Aside0.mk hS
        clear hS
        go_wp2_with fail
        go_roundw
        case rel => exact ⟨m + 1, ls, by omega, by go_num, by omega, HS, HB, HL⟩
        case measure => simp [intOf]; omega
    · obtain rfl : m = ps.length := by omega
      have hS := HS.out
      rw [List.drop_eq_nil_of_le (Nat.le_refl _)] at hS
      simp only [chsF, List.append_nil] at hS
      subst hS
      obtain ⟨Al, cl, rfl, hle, hO⟩ := own3_of_R HL.out
      have HO := Aside0.mk hO
      clear HS HL hO hc2
      have hsrt := srt_len S49.f1 LL
      go_wp2_with fail
      refine (sortStable_any S49.f1 36 #[] W1.heap.size Al cl LL wr (enters_of Try.func36 (by kernel_rfl) rfl) (fun g eg => cmpLays_day g LL.length wr) HO.out (by omega)).mono ?_
      rintro e W6 ⟨rfl, hS⟩
      have hb6 := HB.out.trans (hS.below (Below.refl W1.heap.size wr) (fun g e => (HO.out.form'' e).1) HB.out.size)
      have hO6 := hS.O W1.heap.size LL hsrt.symm HO.out
      clear HO HB hS
      obtain ⟨L, hL⟩ : ∃ L, srt S49.f1 LL = L := ⟨_, rfl⟩
      rw [hL] at hsrt hO6
      have e2 : (rs ++ [(⟨target, L⟩ : S47)]).length = rs.length + 1 := by simp
      have H6 := Aside0.mk (H1.out.below hb6)
      have hp := k47_mkM W6 w.heap.size (fun k => W1.heap.size ≤ k) (⟨target, L⟩ : S47) (Kd.R_lower (Kd.R_mono (Kd.R_bound hO6.R) (fun k hk => hk.2.1)) H1.out.b.size)
      rw [hsrt] at hp
      have HP := Aside0.mk hp
      have HS := Aside0.mk (Kd.S_mono (ok' := fun k => True ∧ ¬ W1.heap.size ≤ k) (Kd.S_old H1.out.rS hb6) (fun k hk => ⟨trivial, by omega⟩))
      have HK := Aside0.mk (show ∀ k, W1.heap.size ≤ k → True ∧ some k ≠ rv.ownBlock from fun k hk => ⟨trivial, fun e => by have := Kd.S_lt H1.out.rS k e.symm; omega⟩)
      have hc4 := H6.out.nr
      clear hp hO6 hb6 H1 hsrt
      go_wp2_with ((with_reducible refine gate_builtin (b := .append) (xs := #[.tmp 46, .tmp 50]) rfl ?_); at_builtin; refine Kd.S_append k47 (w0 := w) w.heap.size rfl (.tmp 46) (.tmp 50) 24 47 (.agg #[(.int .i64 0), (.slice none 0 0)]) 32 rfl Try.underlying24 info47 rfl (by decide) (by omega) rv rs (⟨target, L⟩ : S47) [.int .i64 target, .slice Al LL.length cl] (fun _ => True) (fun k => W1.heap.size ≤ k) rfl rfl HP.out HK.out (fun _ _ => trivial) HS.out H6.out.b H6.out.b.size (by omega) ?_; intro v1 w7 hS7 hb7 hg7 hat; obtain ⟨Ar1, cr1, rfl⟩ := Kd.S_slice hS7; obtain ⟨q1, q2, q3⟩ := H6.out.app hS7 hb7 hg7; have HF := Aside0.mk q3; clear hS7 hb7 hg7 hat q3)
      have hf := HF.out
      rw [e2, ← hL] at hf
      exact ⟨rfl, _, results_none rfl _ _ _, rfl, _, hf⟩
end Go.Proofs.Ytjaodgicpnoifaa.P
