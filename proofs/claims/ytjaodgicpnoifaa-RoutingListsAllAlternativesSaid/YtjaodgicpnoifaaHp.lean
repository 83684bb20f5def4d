/- network.distances: what it answers. -/
import Derived.Test.YtjaodgicpnoifaaHo
import Derived.WalkMore
import Derived.Deep.LoopGhost
namespace Go.Proofs.Ytjaodgicpnoifaa.P
open Go.RowKit Go.Shelf Go.Proofs.YtjaodgicpnoifaaW.PrintWords Go.Proofs.YtjaodgicpnoifaaW.PrintLast Go.Proofs.YtjaodgicpnoifaaW.PrintMore
set_option linter.unusedVariables false
set_option linter.unusedSimpArgs false

/-- What is held while distances runs: the network, the row of distances, the queue. -/
structure BI (n : Nat) (F : Nat → Bool) (gn g cap : Nat) (w : World) (qv : Value) (d q : List Int) (W : World) : Prop where
  nb : NB gn n F W
  b : Below w.heap.size w W
  dR : (Kd.int .i64).R 3 W w.heap.size (fun _ => True) (.slice (some ⟨g, 0, none⟩) n cap) d
  qQ : (Kd.int .i64).Q 3 W w.heap.size (fun k => k ≠ g) qv q
section
variable {n : Nat} {F : Nat → Bool} {gn g cap : Nat} {w W : World} {qv : Value} {d q : List Int}
theorem BI.len (h : BI n F gn g cap w qv d q W) : d.length = n := (Kd.R_reads' h.dR).1.symm
theorem BI.hg (h : BI n F gn g cap w qv d q W) : w.heap.size ≤ g := Kd.R_base h.dR g (by simp [Value.ownBlock])
theorem BI.lt (h : BI n F gn g cap w qv d q W) : g < W.heap.size := Kd.R_lt h.dR g (by simp [Value.ownBlock])
theorem BI.ne (h : BI n F gn g cap w qv d q W) : gn ≠ g := by
  rintro rfl
  obtain ⟨cells, hc⟩ := Kd.R_typed h.dR gn (by simp [Value.ownBlock])
  have h2 : W.heap[gn]? = some (.cells (nw n F) 58 (0, 0)) := h.nb
  rw [h2] at hc
  injection hc with hc
  injection hc with _ hc
  cases hc
theorem BI.get (h : BI n F gn g cap w qv d q W) {i : Nat} (hi : i < n) : W.cell? ⟨g, i, none⟩ = some (.int .i64 (rd d (i : Int))) ∧ W.frozen? ⟨g, i, none⟩ = false := by
  have := Kd.R_celln 0 h.dR (i : Int) (by omega) (by omega)
  rw [Int.toNat_natCast] at this
  exact this
theorem BI.setD (h : BI n F gn g cap w qv d q W) (i : Nat) (v : Int) : BI n F gn g cap w qv (d.set i v) q (W.setCell ⟨g, i, none⟩ (.int .i64 v)) where
  nb := (Below.heap_setCell W ⟨g, i, none⟩ (.int .i64 v) gn h.ne).trans h.nb
  b := h.b.setCell h.hg _
  dR := by have := Kd.R_putn h.dR (i : Int) v; rw [Int.toNat_natCast] at this; exact this
  qQ := Kd.Q_far h.qQ (fun k hk => hk) _
theorem BI.app (h : BI n F gn g cap w qv d q W) {v1 : Value} {w1 : World} {y : Int} (hq : (Kd.int .i64).Q 3 w1 w.heap.size (fun k => k ≠ g) v1 (q ++ [y])) (hb : Below w.heap.size w w1) (hg : W.grownBy w1 qv.ownBlock) : BI n F gn g cap w v1 d (q ++ [y]) w1 where
  nb := by
    refine (hg.block gn h.nb.lt (fun e => ?_)).trans h.nb
    obtain ⟨cells, hc⟩ := Kd.Q_typed h.qQ gn e.symm
    have h2 : W.heap[gn]? = some (.cells (nw n F) 58 (0, 0)) := h.nb
    rw [h2] at hc
    injection hc with hc
    injection hc with _ hc
    cases hc
  b := hb
  dR := Kd.R_grown2 h.dR rfl hg (fun k hk e => h.qQ.1 k hk (by injection e))
  qQ := hq
/-- A row of the matrix as one value. -/
def rowV (F : Nat → Bool) (X : Nat) : Array Value := #[.bool (F (X * 6)), .bool (F (X * 6 + 1)), .bool (F (X * 6 + 2)), .bool (F (X * 6 + 3)), .bool (F (X * 6 + 4)), .bool (F (X * 6 + 5))]
end
theorem load55 {ops : Array Oper} {Q : Exit → Act → World → Prop} {rest : List Oper} {o : Oper} {a : Act} {W : World} {N p : Tmp} {g X : Nat} {n : Int} {F : Nat → Bool} (gd : o.guard = none) (ho : o.op = .load 55 (.tmp p)) (d : o.dst = some N)
    (ha : a.eval (.tmp p) = .pointer (some ⟨g, 1 + X * 6, none⟩)) (hX : X < 6) (hW : NB g n F W) (hk : wpList Try.prog ops Q rest (a.put (some N) (.agg (rowV F X))) W) : wpList Try.prog ops Q (o :: rest) a W := by
  refine wpList_plain gd fun K hK => ?_
  have hl := run_loadCells_list (P := Try.prog) W ⟨g, 1 + X * 6, none⟩ [.bool (F (X * 6)), .bool (F (X * 6 + 1)), .bool (F (X * 6 + 2)), .bool (F (X * 6 + 3)), .bool (F (X * 6 + 4)), .bool (F (X * 6 + 5))] (fun j v hv => by
    have hj : j < 6 := (List.getElem?_eq_some_iff.1 hv).1
    have e : (Addr.add ⟨g, 1 + X * 6, none⟩ j) = ⟨g, 1 + (X * 6 + j), none⟩ := by by_cases hj0 : j = 0 <;> simp [Addr.add, hj0, Nat.add_assoc]
    rw [e, hW.cell (by omega), ← hv]
    obtain rfl | rfl | rfl | rfl | rfl | rfl : j = 0 ∨ j = 1 ∨ j = 2 ∨ j = 3 ∨ j = 4 ∨ j = 5 := by omega
    all_goals rfl)
  obtain ⟨i, hi, hz⟩ := Option.map_eq_some_iff.1 (show (Try.prog.info? 55).map (·.size) = some 6 from by kernel_rfl)
  have hag : (isAgg 55).run Try.prog W = .ok true W := by kernel_rfl
  have r : (execOp a.eval o).run Try.prog W = .ok (.value (.agg (rowV F X))) W := by
    unfold execOp
    simp only [List.length_cons, List.length_nil] at hl
    simp [ho, ha, Instr.loadAt, Instr.sureAddr, loadVar, hag, sizeOf, typeInfo, hi, hz, hl, Result.andThen, rowV]
  unfold Oper.wp
  rw [r, Oper.upon_value, d]
  exact hK _ _ hk
theorem index55 {ops : Array Oper} {Q : Exit → Act → World → Prop} {rest : List Oper} {o : Oper} {a : Act} {W : World} {N p q : Tmp} {X y : Nat} {F : Nat → Bool} (gd : o.guard = none) (ho : o.op = .index 55 (.tmp p) (.tmp q)) (d : o.dst = some N)
    (ha : a.eval (.tmp p) = .agg (rowV F X)) (hq : a.eval (.tmp q) = .int .i64 (y : Int)) (hy : y < 6) (hk : wpList Try.prog ops Q rest (a.put (some N) (.bool (F (X * 6 + y)))) W) : wpList Try.prog ops Q (o :: rest) a W := by
  refine wpList_plain gd fun K hK => ?_
  have r : (execOp a.eval o).run Try.prog W = .ok (.value (.bool (F (X * 6 + y)))) W := by
    unfold execOp
    simp only [ho, ha, hq]
    obtain rfl | rfl | rfl | rfl | rfl | rfl : y = 0 ∨ y = 1 ∨ y = 2 ∨ y = 3 ∨ y = 4 ∨ y = 5 := by omega
    all_goals kernel_rfl
  unfold Oper.wp
  rw [r, Oper.upon_value, d]
  exact hK _ _ hk
theorem hd_drop {l : List Int} {m : Nat} (h : m < l.length) : l.drop m = rd l (m : Int) :: l.drop (m + 1) := by
  rw [List.drop_eq_getElem_cons h]; simp [rd, h]
theorem rd_mem {l : List Int} {m : Nat} (h : m < l.length) : rd l (m : Int) ∈ l := by
  have : rd l (m : Int) = l[m] := by simp [rd, h]
  rw [this]; exact List.getElem_mem h
set_option maxRecDepth 100000 in
set_option maxHeartbeats 8000000 in
theorem distances_any (n : Nat) (h0 : 1 ≤ n) (h6 : n ≤ 6) (F : Nat → Bool) (hF : ∀ x y, x < 6 → y < 6 → F (x * 6 + y) = true → y < n) (A : Option Addr) (c : Nat) (l : List Int) (av : Int) (w : World) (hr : Kd.C (Kd.int .i64) w A l.length l) (hl : ∀ t ∈ l, 0 ≤ t ∧ t < n) :
    Calls Try.prog 30 #[.agg (nw n F), .slice A l.length c, .int .i64 av] w fun e w' => ∃ v0, e = .returned v0 ∧ Kd.R (Kd.int .i64) 3 w' w.heap.size (fun _ => True) v0 (distF n F av l) ∧ Below w.heap.size w w' := by
  have HR := Aside0.mk hr
  have hll : l.length ≤ 9223372036854775807 := hr.2.1
  clear hr
  have hnb := NB.new w n F
  have hc0 := hnb.c0
  have hal : Below w.heap.size w (w.alloc (.cells (nw n F) 58)) := (Below.refl _ _).alloc (Nat.le_refl _) _
  have HN := Aside0.mk hnb
  have HA := Aside0.mk hal
  clear hnb hal
  go_enter Try.func30, Try.ntmps30
  go_wp2_with fail
  go_step3
  have HN1 := Aside0.mk (HN.out.below HN.out.lt ((Below.refl _ (w.alloc (.cells (nw n F) 58))).alloc (Nat.le_refl _) (.cells #[.int .i64 (-1)] 3)))
  have hs1 : (w.alloc (.cells (nw n F) 58)).heap.size = w.heap.size + 1 := by simp
  have HA1 := Aside0.mk (HA.out.alloc HA.out.size (.cells #[.int .i64 (-1)] 3))
  have HC1 := Aside0.mk (show Kd.C (Kd.int .i64) ((w.alloc (.cells (nw n F) 58)).alloc (.cells #[.int .i64 (-1)] 3)) (some ⟨w.heap.size + 1, 0, none⟩) 1 [-1] from Kd.C_of_reads (d := 0) ⟨rfl, by omega, fun _ => ⟨_, rfl, fun j hj => by
    obtain rfl : j = 0 := by omega
    have hb1 := blk_new (w.alloc (.cells (nw n F) 58)) (.cells #[.int .i64 (-1)] 3)
    rw [hs1] at hb1
    exact (blk_cell hb1 0).trans rfl⟩⟩)
  have hc1 := HN1.out.c0
  clear HN HA hs1 hc0
  go_wp2_with fail
  generalize (w.alloc (.cells (nw n F) 58)).alloc (.cells #[.int .i64 (-1)] 3) = W0 at HN1 HA1 HC1 hc1 ⊢
  refine (repeat_any n h0 h6 (-1) _ 1 W0 HC1.out).mono ?_
  rintro e w1 ⟨v0, rfl, hR, hb⟩
  have hR' := Kd.R_lower hR HA1.out.size
  obtain ⟨g, cap, rfl, hbg, _⟩ := Kd.R_form hR' (by simp; omega)
  rw [List.length_replicate] at hR' ⊢
  have HB := Aside0.mk (show BI n F w.heap.size g cap w (.slice none 0 0) (List.replicate n (-1)) [] w1 from ⟨HN1.out.below HN1.out.lt hb, HA1.out.trans (hb.mono HA1.out.size), hR', Kd.Q_nil _ _ _ _ _⟩)
  clear hR hR' hb hbg HN1 HA1 HC1
  generalize hD : List.replicate n (-1 : Int) = D0 at HB
  have hP0 : PI n n D0 [] := by rw [← hD]; exact PI.start h6
  have hE0 : ([] : List Int).length + negs D0 = n := by rw [← hD, negs_rep]; simp
  have hZ0 : ∀ i, rd D0 i ≤ 0 := fun i => by rw [← hD]; simp only [rd, rdOf, List.getD_eq_getElem?_getD, List.getElem?_replicate]; split <;> simp
  go_wp2_with fail
  go_loopw [8, 21] (fun s8 s21 wr => ∃ (m : Nat) (d q : List Int), m ≤ l.length ∧ s21 = .int .i64 (m : Int) ∧ Aside0 (BI n F w.heap.size g cap w s8 d q wr) ∧ Aside0 (seedF av l D0 [] = seedF av (l.drop m) d q) ∧ Aside0 (PI n n d q) ∧ q.length + negs d = n ∧ Aside0 (∀ i, rd d i ≤ 0)) (fun _ s21 _ => ((l.length : Int) - intOf s21).toNat)
  case atStart => exact ⟨0, D0, [], by omega, rfl, HB, ⟨rfl⟩, ⟨hP0⟩, hE0, ⟨hZ0⟩⟩
  case round =>
    clear HB hP0 hE0 hZ0
    obtain ⟨m, d, q, hm, rfl, HB, HS, HP, hE, HZ⟩ := hrel
    by_cases hml : m < l.length
    · have hm1 : (m : Int) < (l.length : Int) := by omega
      have hm0 : (0 : Int) ≤ (m : Int) := by omega
      obtain ⟨ad, rfl, hc3⟩ := Kd.at_int (Kd.C_below HR.out HB.out.b) (m : Int) hm0 hm1
      simp only [Int.toNat_natCast] at hc3
      have hS := HS.out
      rw [hd_drop hml] at hS
      simp only [seedF] at hS
      obtain ⟨ht0, htn⟩ := hl _ (rd_mem hml)
      clear HS
      generalize rd l (m : Int) = t at hc3 hS ht0 htn
      obtain ⟨T, rfl⟩ : ∃ T : Nat, t = (T : Int) := ⟨t.toNat, by omega⟩
      obtain ⟨g0, f0⟩ := HB.out.get (i := T) (by omega)
      simp only [Int.toNat_natCast] at hS
      by_cases hta : (T : Int) = av
      · rw [if_pos hta] at hS
        have HS := Aside0.mk hS
        clear hS g0 f0
        subst hta
        go_wp2_with fail
        go_roundw
        case rel => exact ⟨m + 1, d, q, by omega, by go_num, HB, HS, HP, hE, HZ⟩
        case measure => simp [intOf]; omega
      rw [if_neg hta] at hS
      have hta' : ((T : Int) == av) = false := by simpa using hta
      by_cases hd0 : 0 ≤ rd d (T : Int)
      · rw [if_pos hd0] at hS
        have HS := Aside0.mk hS
        clear hS
        generalize rd d (T : Int) = dt at g0 hd0
        have hd1 : ¬ dt < 0 := by omega
        go_wp2_with fail
        go_roundw
        case rel => exact ⟨m + 1, d, q, by omega, by go_num, HB, HS, HP, hE, HZ⟩
        case measure => simp [intOf]; omega
      · rw [if_neg hd0] at hS
        have HS := Aside0.mk hS
        have hTn : T < n := by omega
        have hP2 := HP.out.put hTn (by omega) (v := 0) (by omega) (by omega)
        have hTd : T < d.length := by rw [HP.out.len]; exact hTn
        have hE2 : (q ++ [(T : Int)]).length + negs (d.set T 0) = n := by
          have := negs_set (v := 0) hTd (by simpa [rd, rdOf] using (by omega : rd d (T : Int) < 0)) (by omega)
          rw [List.length_append]; simp only [List.length_singleton]; omega
        have HZ2 : Aside0 (∀ i, rd (d.set T 0) i ≤ 0) := ⟨fun i => by rw [rd_set hTd]; split; omega; exact HZ.out i⟩
        have HP2 := Aside0.mk hP2
        have HB1 := Aside0.mk (HB.out.setD T 0)
        have HL := Aside0.mk (show (q.length + 1) * 8 ≤ 140737488355328 by omega)
        clear hS hP2
        generalize rd d (T : Int) = dt at g0 hd0
        have hd1 : dt < 0 := by omega
        go_wp2_with ((with_reducible refine gate_builtin (b := .append) (xs := #[.tmp 38, .tmp 40]) rfl ?_); at_builtin; refine Kd.Q_append (Kd.int .i64) (w0 := w) w.heap.size rfl (.tmp 38) (.tmp 40) 23 3 (.int .i64 0) 8 rfl Try.underlying23 info3 rfl (by decide) (by omega) _ q (T : Int) [.int .i64 (T : Int)] (fun k => k ≠ g) (fun _ => False) rfl (by first | rfl | (simp [Act.eval]; done) | (simp [Act.eval, go_sem]; done)) rfl (fun _ hk => hk.elim) (fun k hk => (by have := HB1.out.lt; omega)) HB1.out.qQ HB1.out.b HB1.out.b.size HL.out ?_; intro v1 w2 hq hb hg hat; have HB2 := Aside0.mk (HB1.out.app hq hb hg); clear hq hb hg hat)
        go_roundw
        case rel => exact ⟨m + 1, d.set T 0, q ++ [(T : Int)], by omega, by go_num, HB2, HS, HP2, hE2, HZ2⟩
        case measure => simp [intOf]; omega
    · obtain rfl : m = l.length := by omega
      have hc2 := HB.out.nb.c0
      obtain ⟨Aq, cq, rfl, hle⟩ := Kd.Q_slice HB.out.qQ
      go_wp2_with fail
      have hE3 : (n : Int) - (q.length : Int) = ((negs d : Nat) : Int) := by omega
      rw [hE3]
      have hdist : distF n F av l = bfsF F av n d q := by
        have h := HS.out
        rw [List.drop_eq_nil_of_le (Nat.le_refl _)] at h
        unfold distF; rw [hD, h]; rfl
      clear HS hE3 hE HZ hm hml hD hle hc2 hc1
      go_step3
      go_wp2_with fail
      go_loopg [8, 11] n (fun gg s8 s11 wr => ∃ (k : Nat) (d q : List Int), k ≤ gg ∧ s11 = .int .i64 ((negs d : Nat) : Int) ∧ Aside0 (BI n F w.heap.size g cap w s8 d q wr) ∧ Aside0 (distF n F av l = bfsF F av k d q) ∧ Aside0 (PI n k d q))
      case atStart => exact ⟨n, d, q, Nat.le_refl _, rfl, HB, ⟨hdist⟩, HP⟩
      case round =>
        clear HB HP hdist
        obtain ⟨k, d, q, hk, rfl, HB, HS, HP⟩ := hrel
        cases q with
        | nil =>
          have HS := Aside0.mk (HS.out.trans (bfsF_nil _ _))
          obtain ⟨Aq, cq, rfl, hle⟩ := Kd.Q_slice HB.out.qQ
          go_wp2_with fail
          try rw [Exit.noGoto_ret]
          go_ret
          exact ⟨_, rfl, by rw [HS.out]; exact HB.out.dR, HB.out.b⟩
        | cons x q =>
          obtain ⟨gq, oq, cq, rfl, hbq, hltq, _⟩ := Kd.Q_form HB.out.qQ (by simp)
          obtain ⟨hx0, hxn, hdx⟩ := HP.out.val x (by simp)
          obtain ⟨X, rfl⟩ : ∃ X : Nat, x = (X : Int) := ⟨x.toNat, by omega⟩
          have hXn : X < n := by omega
          have hXz : (X : Int) < 6 := by omega
          have hX0 : (0 : Int) ≤ (X : Int) := by omega
          have hbd := (HP.out.bd (X : Int)).2
          obtain ⟨k, rfl⟩ : ∃ k', k = k' + 1 := ⟨k - 1, by have := HP.out.cnt; simp at this; omega⟩
          obtain ⟨adq, eq_, hq0⟩ := Kd.at_int (Kd.Q_reads' HB.out.qQ).2.2 0 (by omega) (by simp)
          injection eq_ with eq_
          subst eq_
          have hq1 : wr.cell? ⟨gq, oq, none⟩ = some (.int .i64 (X : Int)) := by simpa [rd, rdOf, Addr.add] using hq0
          have hcq : q.length + 1 ≤ cq := (Kd.Q_reads' HB.out.qQ).2.1
          have hQd := Kd.Q_drop (k := 1) HB.out.qQ (by simp)
          have hB2 : ∀ v, v = Value.slice (if cq = 1 then some ⟨gq, oq, none⟩ else some ⟨gq, oq + 1, none⟩) q.length (cq - 1) → BI n F w.heap.size g cap w v d q wr := fun v hv => by
            subst hv
            refine ⟨HB.out.nb, HB.out.b, HB.out.dR, ?_⟩
            have e1 : (Kd.int .i64).sz = 1 := rfl
            rw [e1] at hQd
            have e2 : ((X : Int) :: q).length - 1 = q.length := by simp
            rw [e2] at hQd
            simp only [Option.map_some, Nat.mul_one, List.drop_one, List.tail_cons, Addr.add] at hQd
            simpa using hQd
          have HQ := Aside0.mk hB2
          clear hq0 hQd hB2
          have hlen : ((X : Int) :: q).length = q.length + 1 := by simp
          have hc1 : (1 : Int) ≤ (cq : Int) := by omega
          have hqz : (0 : Int) < ((q.length : Int) + 1) := by omega
          obtain ⟨RR, hRR⟩ : ∃ RR, rowF F av (X : Int) 6 0 d q = RR := ⟨_, rfl⟩
          have HS := Aside0.mk (show distF n F av l = bfsF F av k RR.1 RR.2 by rw [← hRR]; exact HS.out)
          have HP := Aside0.mk HP.out.pop
          obtain ⟨dx, hdX0⟩ : ∃ dx, rd d (X : Int) = dx := ⟨_, rfl⟩
          rw [hdX0] at hdx hbd
          go_wp2_with ((with_reducible refine gate_ (.load 55 (.tmp 58)) rfl ?_); refine load55 (X := X) rfl rfl rfl (by first | rfl | (simp [Act.eval]; done)) (by omega) HB.out.nb ?_)
          all_goals clear HB hq1 hcq hlen hc1 hqz hbq hltq
          all_goals
            go_loopg [8, 11, 60] 6 (fun gg s8 s11 s60 wr => ∃ (y : Nat) (d' q' : List Int), y ≤ 6 ∧ 6 - y ≤ gg ∧ s60 = .int .i64 (y : Int) ∧ s11 = .int .i64 ((negs d' : Nat) : Int) ∧ Aside0 (BI n F w.heap.size g cap w s8 d' q' wr) ∧ Aside0 (RR = rowF F av (X : Int) (6 - y) y d' q') ∧ Aside0 (PI n k d' q') ∧ rd d' (X : Int) = dx)
            case atStart => exact ⟨0, d, q, by omega, by omega, rfl, rfl, ⟨HQ.out _ (by first | (rw [if_pos ‹cq = 1›, ‹cq = 1›]) | (rw [if_neg ‹¬cq = 1›]))⟩, ⟨hRR.symm⟩, HP, hdX0⟩
            case round =>
              clear HP hdX0 HQ hRR
              obtain ⟨y, d', q', hy, hyg, rfl, rfl, HB, HS2, HP, hdX⟩ := hrel
              by_cases hy6 : y < 6
              · have hyz : (y : Int) < 6 := by omega
                have hy0 : (0 : Int) ≤ (y : Int) := by omega
                have hS2 := HS2.out
                obtain ⟨j, hj⟩ : ∃ j, 6 - y = j + 1 := ⟨5 - y, by omega⟩
                have hj2 : 6 - (y + 1) = j := by omega
                rw [hj] at hS2
                simp only [rowF, Int.toNat_natCast] at hS2
                rw [← hj2] at hS2
                cases hFy : F (X * 6 + y) with
                | false =>
                  rw [if_pos hFy] at hS2
                  have HFy := Aside0.mk hFy
                  have HS2 := Aside0.mk hS2
                  clear hFy hS2
                  go_wp2_with ((with_reducible refine gate_ (.index 55 (.tmp 59) (.tmp 60)) rfl ?_); refine index55 (X := X) (y := y) (F := F) rfl rfl rfl (by first | rfl | (simp [Act.eval]; done)) (by first | rfl | (simp [Act.eval]; done)) hy6 ?_; rw [HFy.out])
                  go_roundg (6 - (y + 1))
                  case measure => omega
                  case rel => exact ⟨y + 1, d', q', by omega, Nat.le_refl _, by go_num, rfl, HB, ⟨HS2.out⟩, HP, hdX⟩
                | true =>
                  rw [if_neg (by rw [hFy]; simp)] at hS2
                  have hyn : y < n := hF X y (by omega) hy6 hFy
                  have HFy := Aside0.mk hFy
                  clear hFy
                  obtain ⟨g0, f0⟩ := HB.out.get hyn
                  obtain ⟨g1, f1⟩ := HB.out.get hXn
                  rw [hdX] at g1
                  by_cases hya : (y : Int) = av
                  · rw [if_pos hya] at hS2
                    have HS2 := Aside0.mk hS2
                    clear hS2 g0 f0 g1 f1
                    have hya2 : av = (y : Int) := hya.symm
                    subst hya2
                    go_wp2_with ((with_reducible refine gate_ (.index 55 (.tmp 59) (.tmp 60)) rfl ?_); refine index55 (X := X) (y := y) (F := F) rfl rfl rfl (by first | rfl | (simp [Act.eval]; done)) (by first | rfl | (simp [Act.eval]; done)) hy6 ?_; rw [HFy.out])
                    go_roundg (6 - (y + 1))
                    case measure => omega
                    case rel => exact ⟨y + 1, d', q', by omega, Nat.le_refl _, by go_num, rfl, HB, ⟨HS2.out⟩, HP, hdX⟩
                  rw [if_neg hya] at hS2
                  have hya' : ((y : Int) == av) = false := by simpa using hya
                  by_cases hd0 : 0 ≤ rd d' (y : Int)
                  · rw [if_pos hd0] at hS2
                    have HS2 := Aside0.mk hS2
                    clear hS2
                    generalize rd d' (y : Int) = dt at g0 hd0
                    go_wp2_with ((with_reducible refine gate_ (.index 55 (.tmp 59) (.tmp 60)) rfl ?_); refine index55 (X := X) (y := y) (F := F) rfl rfl rfl (by first | rfl | (simp [Act.eval]; done)) (by first | rfl | (simp [Act.eval]; done)) hy6 ?_; rw [HFy.out])
                    go_roundg (6 - (y + 1))
                    case measure => omega
                    case rel => exact ⟨y + 1, d', q', by omega, Nat.le_refl _, by go_num, rfl, HB, ⟨HS2.out⟩, HP, hdX⟩
                  · rw [if_neg hd0, hdX] at hS2
                    have hyd : y < d'.length := by rw [HP.out.len]; exact hyn
                    have hdl : rd d' (y : Int) < 0 := by omega
                    have hP2 := HP.out.put hyn hdl (v := dx + 1) (by omega) (by omega)
                    have hng := negs_set (v := dx + 1) hyd (by simpa [rd, rdOf] using hdl) (by omega)
                    have hxy : X ≠ y := by rintro rfl; omega
                    have hdX2 : rd (d'.set y (dx + 1)) (X : Int) = dx := by rw [rd_set hyd, if_neg (by simpa using hxy)]; exact hdX
                    have hZ6 := negs_le (d'.set y (dx + 1))
                    rw [hP2.len] at hZ6
                    have hql : q'.length ≤ 7 := by have := HP.out.cnt; have := HP.out.bd (X : Int); omega
                    obtain ⟨Z, hZ⟩ : ∃ Z, negs (d'.set y (dx + 1)) = Z := ⟨_, rfl⟩
                    rw [hZ] at hng hZ6
                    rw [← hng]
                    have HB1 := Aside0.mk (HB.out.setD y (dx + 1))
                    have HS2 := Aside0.mk hS2
                    have HP2 := Aside0.mk hP2
                    have HZ := Aside0.mk hZ
                    have HL := Aside0.mk (show (q'.length + 1) * 8 ≤ 140737488355328 by omega)
                    have hdx2 : dx + 1 ≤ 7 := by omega
                    have hZz : (Z : Int) ≤ 6 := by omega
                    clear hS2 hP2 hZ hng hyd hql
                    generalize rd d' (y : Int) = dt at g0 hd0 hdl
                    by_cases hZ0 : Z = 0
                    · subst hZ0
                      have hfin : distF n F av l = d'.set y (dx + 1) := by
                        have h := HS2.out
                        rw [rowF_done HZ.out] at h
                        rw [HS.out, h]
                        exact bfsF_done HZ.out _ _
                      have HF := Aside0.mk hfin
                      clear hfin
                      go_wp2_with (first | ((with_reducible refine gate_ (.index 55 (.tmp 59) (.tmp 60)) rfl ?_); refine index55 (X := X) (y := y) (F := F) rfl rfl rfl (by first | rfl | (simp [Act.eval]; done)) (by first | rfl | (simp [Act.eval]; done)) hy6 ?_; rw [HFy.out]) | ((with_reducible refine gate_builtin (b := .append) (xs := #[.tmp 86, .tmp 88]) rfl ?_); at_builtin; refine Kd.Q_append (Kd.int .i64) (w0 := w) w.heap.size rfl (.tmp 86) (.tmp 88) 23 3 (.int .i64 0) 8 rfl Try.underlying23 info3 rfl (by decide) (by omega) _ q' (y : Int) [.int .i64 (y : Int)] (fun k => k ≠ g) (fun _ => False) rfl (by first | rfl | (simp [Act.eval]; done) | (simp [Act.eval, go_sem]; done)) rfl (fun _ hk => hk.elim) (fun k hk => (by have := HB1.out.lt; omega)) HB1.out.qQ HB1.out.b HB1.out.b.size HL.out ?_; intro v1 w2 hq hb hg hat; have HB2 := Aside0.mk (HB1.out.app hq hb hg); clear hq hb hg hat))
                      try rw [Exit.noGoto_ret]
                      go_ret
                      exact ⟨_, rfl, by rw [HF.out]; exact HB2.out.dR, HB2.out.b⟩
                    · have hZ1 : ¬ (Z : Int) = 0 := by omega
                      go_wp2_with (first | ((with_reducible refine gate_ (.index 55 (.tmp 59) (.tmp 60)) rfl ?_); refine index55 (X := X) (y := y) (F := F) rfl rfl rfl (by first | rfl | (simp [Act.eval]; done)) (by first | rfl | (simp [Act.eval]; done)) hy6 ?_; rw [HFy.out]) | ((with_reducible refine gate_builtin (b := .append) (xs := #[.tmp 86, .tmp 88]) rfl ?_); at_builtin; refine Kd.Q_append (Kd.int .i64) (w0 := w) w.heap.size rfl (.tmp 86) (.tmp 88) 23 3 (.int .i64 0) 8 rfl Try.underlying23 info3 rfl (by decide) (by omega) _ q' (y : Int) [.int .i64 (y : Int)] (fun k => k ≠ g) (fun _ => False) rfl (by first | rfl | (simp [Act.eval]; done) | (simp [Act.eval, go_sem]; done)) rfl (fun _ hk => hk.elim) (fun k hk => (by have := HB1.out.lt; omega)) HB1.out.qQ HB1.out.b HB1.out.b.size HL.out ?_; intro v1 w2 hq hb hg hat; have HB2 := Aside0.mk (HB1.out.app hq hb hg); clear hq hb hg hat))
                      go_roundg (6 - (y + 1))
                      case measure => omega
                      case rel => exact ⟨y + 1, d'.set y (dx + 1), q' ++ [(y : Int)], by omega, Nat.le_refl _, by go_num, by rw [HZ.out], HB2, ⟨HS2.out⟩, HP2, hdX2⟩
              · obtain rfl : y = 6 := by omega
                have hS2 := HS2.out
                have hS2' : RR = (d', q') := hS2
                have HS := Aside0.mk (show distF n F av l = bfsF F av k d' q' by rw [HS.out, hS2'])
                go_wp2_with fail
                go_roundg k
                case measure => omega
                case rel => exact ⟨k, d', q', Nat.le_refl _, rfl, HB, HS, HP⟩
end Go.Proofs.Ytjaodgicpnoifaa.P
