/- slices.Repeat of one number, up to six times. -/
import Derived.Test.YtjaodgicpnoifaaHm
namespace Go.Proofs.Ytjaodgicpnoifaa.P
open Go.RowKit Go.Shelf Go.Proofs.YtjaodgicpnoifaaW.PrintWords Go.Proofs.YtjaodgicpnoifaaW.PrintLast Go.Proofs.YtjaodgicpnoifaaW.PrintMore
set_option linter.unusedVariables false
set_option linter.unusedSimpArgs false

set_option maxHeartbeats 2000000 in
theorem mul64_any (n : Nat) (h0 : 1 ≤ n) (h1 : n ≤ 6) (w : World) : Calls Try.prog 64 #[.int .u64 1, .int .u64 (n : Int)] w fun e w' => e = .returned (.tuple #[.int .u64 0, .int .u64 (n : Int)]) ∧ w' = w := by
  obtain rfl | rfl | rfl | rfl | rfl | rfl : n = 1 ∨ n = 2 ∨ n = 3 ∨ n = 4 ∨ n = 5 ∨ n = 6 := by omega
  all_goals
    go_enter Try.func64, Try.ntmps64
    go_wp2_with fail
    go_ret2
    exact ⟨rfl, rfl⟩
set_option maxHeartbeats 2000000 in
theorem mul_any (n : Nat) (h0 : 1 ≤ n) (h1 : n ≤ 6) (w : World) : Calls Try.prog 60 #[.int .u64 1, .int .u64 (n : Int)] w fun e w' => e = .returned (.tuple #[.int .u64 0, .int .u64 (n : Int)]) ∧ w' = w := by
  go_enter Try.func60, Try.ntmps60
  go_wp2_with fail
  refine (mul64_any n h0 h1 w).mono ?_
  rintro e w1 ⟨rfl, rfl⟩
  go_wp2_with fail
  go_ret2
  exact ⟨rfl, rfl⟩
-- REPEAT
theorem R_puts {e base g n cap : Nat} {ok : Nat → Prop} : ∀ (vs : List Int) (k : Nat) (W : World) (L : List Int), (Kd.int .i64).R e W base ok (.slice (some ⟨g, 0, none⟩) n cap) L → k + vs.length ≤ n →
    (Kd.int .i64).R e (W.setCells g k (encs (Value.int .i64) vs)) base ok (.slice (some ⟨g, 0, none⟩) n cap) (L.take k ++ vs ++ L.drop (k + vs.length)) := by
  intro vs
  induction vs with
  | nil =>
    intro k W L h _
    simpa [encs, World.setCells] using h
  | cons x vs ih =>
    intro k W L h hk
    simp only [List.length_cons] at hk
    have hL : n = L.length := (Kd.R_reads' h).1
    have h2 := Kd.R_putn h (k : Int) x
    simp only [Int.toNat_natCast] at h2
    have h3 := ih (k + 1) _ _ h2 (by omega)
    have e1 : (L.set k x).take (k + 1) = L.take k ++ [x] := by
      rw [List.take_add_one, List.take_set_of_le (by omega)]
      simp [show k < L.length by omega]
    have e2 : (L.set k x).drop (k + 1 + vs.length) = L.drop (k + (vs.length + 1)) := by
      rw [List.drop_set_of_lt (by omega)]
      congr 1; omega
    rw [e1, e2] at h3
    simpa [encs, World.setCells] using h3
theorem copy_in {w0 W : World} {base g N cap k : Nat} {ok : Nat → Prop} {L : List Int} (h : (Kd.int .i64).R 3 W base ok (.slice (some ⟨g, 0, none⟩) N cap) L) (hk : k < N) (hb : Below base w0 W) (hbase : base ≤ W.heap.size) (ty : TypeId) (c1 c2 : Nat) :
    (Builtin.copy_ #[23, 23] ty #[.slice (some ⟨g, k, none⟩) (N - k) c1, .slice (some ⟨g, 0, none⟩) k c2]).run Try.prog W = .ok (.int .i64 ((min k (N - k) : Nat) : Int)) (W.setCells g k (encs (Value.int .i64) (L.take (min k (N - k))))) ∧
    (Kd.int .i64).R 3 (W.setCells g k (encs (Value.int .i64) (L.take (min k (N - k))))) base ok (.slice (some ⟨g, 0, none⟩) N cap) (L.take k ++ L.take (min k (N - k)) ++ L.drop (k + min k (N - k))) ∧ Below base w0 (W.setCells g k (encs (Value.int .i64) (L.take (min k (N - k))))) := by
  have hL : N = L.length := (Kd.R_reads' h).1
  have hlen : (L.take (min k (N - k))).length = min k (N - k) := by rw [List.length_take]; omega
  have h2 := R_puts (L.take (min k (N - k))) k W L h (by rw [hlen]; omega)
  rw [hlen] at h2
  have hcell : ∀ i, i < N → W.cell? ⟨g, i, none⟩ = some (.int .i64 (rdOf 0 L i)) ∧ W.frozen? ⟨g, i, none⟩ = false := fun i hi => by
    have := Kd.R_celln 0 h (i : Int) (by omega) (by omega)
    simpa using this
  refine ⟨?_, h2, ?_⟩
  · have hr := run_copy_cells (P := Try.prog) W 23 23 ty 3 g k (N - k) c1 ⟨g, 0, none⟩ k c2 (encs (Value.int .i64) (L.take (min k (N - k)))) Try.underlying23 (by rw [show (Try.prog.info? 3).map (·.size) = some 1 from by kernel_rfl])
      (by rw [encs_length, hlen]) (fun j u hu => ?_) (fun j hj => ?_) (fun j hj => ?_) (by intro u hu; simp only [encs, List.mem_map] at hu; obtain ⟨q, _, rfl⟩ := hu; rfl)
    · rw [hr, encs_length, hlen]; rfl
    · have hj : j < min k (N - k) := by
        have := (List.getElem?_eq_some_iff.1 hu).1
        rw [encs_length, hlen] at this
        exact this
      have h5 := (hcell j (by omega)).1
      rw [show (Addr.add ⟨g, 0, none⟩ j) = ⟨g, j, none⟩ from by by_cases hj0 : j = 0 <;> simp [Addr.add, hj0], h5, ← hu]
      simp [encs, rdOf, hj, show j < L.length by omega]
    · rw [encs_length, hlen] at hj
      rw [(hcell (k + j) (by omega)).1]; rfl
    · rw [encs_length, hlen] at hj
      exact (hcell (k + j) (by omega)).2
  · have hg : base ≤ g := Kd.R_base h g (by simp [Value.ownBlock])
    obtain ⟨s1, s2, s3, s4⟩ := setCells_same g (encs (Value.int .i64) (L.take (min k (N - k)))) k W
    exact hb.grown (row := some g) ⟨s1, s2, s3, by rw [s4]; exact Nat.le_refl _, fun q _ hq => setCells_far _ _ q (fun he => hq (by rw [he]))⟩ hbase (fun q hq => by injection hq with hq; omega)
/-- A copy as the one operation that may come up. -/
theorem copy_step {ops : Array Oper} {Q : Exit → Act → World → Prop} {oi : Oper} {a : Act} {w w1 : World} {K : Act → World → Prop} {x y : Operand} {t1 t2 : TypeId} {Z : Tmp} {u1 u2 r : Value} (hw : Region.wanted oi (yielded ops a.tmps) = true) (hop : oi.op = .call { callee := .builtin .copy, args := #[x, y], argTypes := #[t1, t2] }) (hN : oi.dst = some Z)
    (hr : (Builtin.copy_ #[t1, t2] oi.type #[u1, u2]).run Try.prog w = .ok r w1) (hx : a.eval x = u1) (hy : a.eval y = u2) (h : K (a.put (some Z) r) w1) : if Region.wanted oi (yielded ops a.tmps) = true then Oper.wp Try.prog oi a w K Q else K (a.put (some Z) undef) w := by
  rw [if_pos hw]
  unfold Oper.wp execOp
  simp only [hop, resolve, invoke, builtin, Sem.run_bind, Sem.run_pure, Result.andThen_ok, List.map_toArray, List.map_cons, List.map_nil, hx, hy, hr]
  show K (a.put oi.dst _) _
  rw [hN]
  exact h
def repeat55.T9 : Bool × List (List Nat × List Nat) := (true, [([], []), ([], []), ([], []), ([1, 2], [1, 2]), ([], []), ([], []), ([4, 5], [4, 5]), ([3, 6], [3, 6]), ([0, 7], [0, 7]), ([8, 7, 0, 1, 2, 3, 4, 5, 6, 7, 8], [0, 2, 5, 8])])
def repeat55.B9 : List Nat := [0, 0, 0, 6, 0, 0, 48, 126, 255, 511]
theorem repeat55.tab9 : rtab .any (opsOf Try.f55 9) = repeat55.T9 := by kernel_rfl
theorem repeat55.bits9 : waitsOk repeat55.T9.2 repeat55.B9 = true := by kernel_rfl
set_option maxRecDepth 100000 in
set_option maxHeartbeats 4000000 in
theorem repeat_any (N : Nat) (h0 : 1 ≤ N) (h1 : N ≤ 6) (v : Int) (A : Option Addr) (c : Nat) (w : World) (hr : Kd.C (Kd.int .i64) w A 1 [v]) :
    Calls Try.prog 55 #[.slice A 1 c, .int .i64 (N : Int)] w fun e w' => ∃ v0, e = .returned v0 ∧ Kd.R (Kd.int .i64) 3 w' w.heap.size (fun _ => True) v0 (List.replicate N v) ∧ Below w.heap.size w w' := by
  have HR := Aside0.mk hr
  clear hr
  have hN0 : (1 : Int) ≤ (N : Int) := by omega
  have hN6 : (N : Int) ≤ 6 := by omega
  go_enter Try.func55, Try.ntmps55
  go_wp2_with fail
  refine (mul_any N h0 h1 w).mono ?_
  rintro e w1 ⟨rfl, rfl⟩
  go_wp2_with (first
    | ((with_reducible refine gate_dst (N := 30) rfl ?_); refine Kd.R_make (Kd.int .i64) _ 3 rfl (N := 30) rfl 23 _ _ rfl (N : Int) rfl rfl Try.underlying23 (.int .i64 0) 8 info3 rfl (by decide) (by omega) 0 (ok := fun _ => True) (okp := fun _ => True) rfl (fun _ hk => hk) trivial (by omega) (by omega) (Below.refl _ _) (Nat.le_refl _) ?_; intro v1 w2 hO hb hg hnew; simp only [Int.toNat_natCast] at hO; obtain ⟨g, cap, rfl, hbg, _⟩ := Kd.R_form hO (by simp; omega); simp only [List.length_replicate] at hO ⊢; clear hg hnew; have HO := Aside0.mk hO; have HB := Aside0.mk hb; clear hO hb)
    | ((with_reducible refine gate_builtin (b := .copy) (xs := #[.tmp 31, .tmp 32]) rfl ?_); refine Kd.R_copy (enc := Value.int .i64) (h1 := fun _ => rfl) 0 (w0 := w1) w1.heap.size rfl (.tmp 31) (.tmp 32) 23 23 3 rfl Try.underlying23 (by kernel_rfl) _ (List.replicate N 0) [v] A 1 c (fun _ => True) rfl rfl HO.out (Kd.C_below HR.out HB.out) HB.out HB.out.size ?_; intro w3 hO2 hb2 hg2; clear HO HB hg2; have e1 : min 1 (List.replicate N (0 : Int)).length = 1 := (by rw [List.length_replicate]; omega); rw [e1] at hO2 ⊢; have HO := Aside0.mk hO2; have HB := Aside0.mk hb2; clear hO2 hb2))
  clear hbg
  have eL : ([v].take 1 ++ (List.replicate N (0 : Int)).drop 1 : List Int) = List.replicate 1 v ++ List.replicate (N - 1) 0 := by simp
  rw [eL] at HO
  go_loopw [8] (fun s8 wr => ∃ (k : Nat), 1 ≤ k ∧ k ≤ N ∧ s8 = .int .i64 (k : Int) ∧ Aside0 ((Kd.int .i64).R 3 wr w1.heap.size (fun _ => True) (.slice (some ⟨g, 0, none⟩) N cap) (List.replicate k v ++ List.replicate (N - k) 0)) ∧ Aside0 (Below w1.heap.size w1 wr)) (fun s8 _ => ((N : Int) - intOf s8).toNat)
  case atStart => exact ⟨1, by omega, h0, rfl, HO, HB⟩
  case round =>
    clear HO HB eL
    obtain ⟨k, hk1, hkN, rfl, HO, HB⟩ := hrel
    by_cases hlt : k < N
    · have hkz : (k : Int) < (N : Int) := by omega
      have hk0 : (0 : Int) ≤ (k : Int) := by omega
      have hcap := (Kd.R_reads' HO.out).2.1
      have hcz : (N : Int) ≤ (cap : Int) := by omega
      have hkc : k ≤ cap := by omega
      have hkc2 : (k : Int) ≤ (cap : Int) := by omega
      have hne : ¬ cap = k := by omega
      have hci := fun W (h : (Kd.int .i64).R 3 W w1.heap.size (fun _ => True) (.slice (some ⟨g, 0, none⟩) N cap) (List.replicate k v ++ List.replicate (N - k) 0)) hb => copy_in (w0 := w1) (base := w1.heap.size) h hlt hb (Below.size hb) 3 (cap - k) cap
      obtain ⟨mm, hmm⟩ : ∃ mm, min k (N - k) = mm := ⟨_, rfl⟩
      have hm1 : 1 ≤ mm := by omega
      have hm2 : k + mm ≤ N := by omega
      have hm3 : (k : Int) + (mm : Int) ≤ 6 := by omega
      rw [hmm] at hci
      go_wp2_with fail
      refine start_ (n := 10) (S := fun _ => True) (ds := []) #[false, false, false, false, false, false, false, false, false, false] (by kernel_rfl) rfl rfl trivial (fun hHeld => ?_)
      refine with_tabW repeat55.tab9 repeat55.bits9 (fun HT_ HW_ => ?_)
      replace HO := Aside0.mk (Kd.R_drew HO.out)
      replace HB := Aside0.mk (HB.out.drew)
      generalize wr.drew = W1 at HO HB hHeld ⊢
      refine pure_ (i := 0) (N := some 38) (v := ?_) (a' := ?_) #[true, false, false, false, false, false, false, false, false, false] rfl rfl (any_of HT_.out (by kernel_rfl)) (fun _ _ _ h => h) (Or.inl ⟨by rfl, ?_⟩) ?_ ?_
      rotate_left
      · intro w'
        go_simp
        with_reducible rfl
      rotate_left
      · simp only [Act.put, List.setIfInBounds_toArray, List.set_cons_zero, List.set_cons_succ, i64_w, i32_w]
        rfl
      refine pure_ (i := 1) (N := some 39) (v := ?_) (a' := ?_) #[true, true, false, false, false, false, false, false, false, false] rfl rfl (any_of HT_.out (by kernel_rfl)) (fun _ _ _ h => h) (Or.inl ⟨by rfl, ?_⟩) ?_ ?_
      rotate_left
      · intro w'
        go_simp
        with_reducible rfl
      rotate_left
      · simp only [Act.put, List.setIfInBounds_toArray, List.set_cons_zero, List.set_cons_succ, i64_w, i32_w]
        rfl
      refine pure_ (i := 2) (N := some 40) (v := ?_) (a' := ?_) #[true, true, true, false, false, false, false, false, false, false] rfl rfl (any_of HT_.out (by kernel_rfl)) (fun _ _ _ h => h) (Or.inl ⟨by rfl, ?_⟩) ?_ ?_
      rotate_left
      · intro w'
        go_simp
        with_reducible rfl
      rotate_left
      · simp only [Act.put, List.setIfInBounds_toArray, List.set_cons_zero, List.set_cons_succ, i64_w, i32_w]
        rfl
      refine pure_ (i := 3) (N := some 41) (v := ?_) (a' := ?_) #[true, true, true, true, false, false, false, false, false, false] rfl rfl (any_of HT_.out (by kernel_rfl)) (fun _ _ _ h => h) (Or.inl ⟨by rfl, ?_⟩) ?_ ?_
      rotate_left
      · intro w'
        go_simp
        with_reducible rfl
      rotate_left
      · simp only [Act.put, List.setIfInBounds_toArray, List.set_cons_zero, List.set_cons_succ, i64_w, i32_w]
        rfl
      refine pure_ (i := 4) (N := some 42) (v := ?_) (a' := ?_) #[true, true, true, true, true, false, false, false, false, false] rfl rfl (any_of HT_.out (by kernel_rfl)) (fun _ _ _ h => h) (Or.inl ⟨by rfl, ?_⟩) ?_ ?_
      rotate_left
      · intro w'
        go_simp
        with_reducible rfl
      rotate_left
      · simp only [Act.put, List.setIfInBounds_toArray, List.set_cons_zero, List.set_cons_succ, i64_w, i32_w]
        rfl
      refine pure_ (i := 5) (N := some 43) (v := ?_) (a' := ?_) #[true, true, true, true, true, true, false, false, false, false] rfl rfl (any_of HT_.out (by kernel_rfl)) (fun _ _ _ h => h) (Or.inl ⟨by rfl, ?_⟩) ?_ ?_
      rotate_left
      · intro w'
        go_simp
        with_reducible rfl
      rotate_left
      · simp only [Act.put, List.setIfInBounds_toArray, List.set_cons_zero, List.set_cons_succ, i64_w, i32_w]
        rfl
      refine pure_ (i := 6) (N := some 44) (v := ?_) (a' := ?_) #[true, true, true, true, true, true, true, false, false, false] rfl rfl (any_of HT_.out (by kernel_rfl)) (fun _ _ _ h => h) (Or.inl ⟨by rfl, ?_⟩) ?_ ?_
      rotate_left
      · intro w'
        go_simp
        with_reducible rfl
      rotate_left
      · simp only [Act.put, List.setIfInBounds_toArray, List.set_cons_zero, List.set_cons_succ, i64_w, i32_w]
        rfl
      refine one_ (i := 7) (N := some 45) #[true, true, true, true, true, true, true, true, false, false] rfl rfl (one_of HT_.out (by kernel_rfl)) (by decide) (fun K hK => ?_)
      refine copy_step (Z := 45) (x := .tmp 41) (y := .tmp 44) (by rfl) rfl rfl (hci W1 HO.out HB.out).1 (by rfl) (by rfl) ?_
      replace hci := hci W1 HO.out HB.out
      replace HO := Aside0.mk hci.2.1
      replace HB := Aside0.mk hci.2.2
      clear hci
      generalize W1.setCells g k _ = W2 at HO HB ⊢
      refine hK.out _ _ trivial (fun hHeld => ?_)
      clear hK K
      refine norm_ (a' := ?_) ?_ ?_
      rotate_left
      · show Act.put _ (some 45) _ = _
        simp only [Act.put, List.setIfInBounds_toArray, List.set_cons_zero, List.set_cons_succ, i64_w, i32_w]
        rfl
      refine pure_ (i := 8) (N := some 46) (v := ?_) (a' := ?_) #[true, true, true, true, true, true, true, true, true, false] rfl rfl (any_of HT_.out (by kernel_rfl)) (fun _ _ _ h => h) (Or.inl ⟨by rfl, ?_⟩) ?_ ?_
      rotate_left
      · intro w'
        go_simp
        with_reducible rfl
      rotate_left
      · simp only [Act.put, List.setIfInBounds_toArray, List.set_cons_zero, List.set_cons_succ, i64_w, i32_w]
        rfl
      refine pure_ (i := 9) (N := some 8) (v := ?_) (a' := ?_) #[true, true, true, true, true, true, true, true, true, true] rfl rfl (any_of HT_.out (by kernel_rfl)) (fun _ _ _ h => h) (Or.inl ⟨by rfl, ?_⟩) ?_ ?_
      rotate_left
      · intro w'
        go_simp
        with_reducible rfl
      rotate_left
      · simp only [Act.put, List.setIfInBounds_toArray, List.set_cons_zero, List.set_cons_succ, i64_w, i32_w]
        rfl
      refine done_ (done_of HT_.out (by kernel_rfl)) ?_
      go_wp2_with fail
      have hwr : RowKit.wrap64 ((k : Int) + (mm : Int)) = ((k + mm : Nat) : Int) := by unfold RowKit.wrap64; omega
      rw [hwr]
      go_roundw
      case rel =>
        refine ⟨k + mm, by omega, by omega, rfl, ?_, HB⟩
        have e3 : (List.replicate k v ++ List.replicate (N - k) (0 : Int)).take k ++ (List.replicate k v ++ List.replicate (N - k) 0).take (mm) ++ (List.replicate k v ++ List.replicate (N - k) 0).drop (k + mm) = List.replicate (k + mm) v ++ List.replicate (N - (k + mm)) 0 := by
          rw [List.take_append_of_le_length (by simp), List.take_append_of_le_length (by simp; omega), List.drop_append, List.drop_eq_nil_of_le (by simp)]
          simp only [List.take_replicate, List.drop_replicate, List.length_replicate, List.nil_append, Nat.min_self]
          rw [List.replicate_append_replicate]
          congr 2 <;> omega
        rw [← e3]
        exact HO
      case measure => simp [intOf]; omega
    · obtain rfl : k = N := by omega
      go_wp2_with fail
      go_ret
      refine ⟨_, rfl, ?_, HB.out⟩
      have := HO.out
      simpa using this
end Go.Proofs.Ytjaodgicpnoifaa.P
