/- routing.Distances: what it answers. -/
import Derived.Test.YtjaodgicpnoifaaHp
namespace Go.Proofs.Ytjaodgicpnoifaa.P
open Go.RowKit Go.Shelf Go.Proofs.YtjaodgicpnoifaaW.PrintWords Go.Proofs.YtjaodgicpnoifaaW.PrintLast Go.Proofs.YtjaodgicpnoifaaW.PrintMore
set_option linter.unusedVariables false
set_option linter.unusedSimpArgs false

theorem rdStep_lt {n : Int} {F G : Nat → Bool} {z : List Int} (h : rdStep n F z = some G) (hn : n ≤ 6) (hF : ∀ x y, x < 6 → y < 6 → F (x * 6 + y) = true → (y : Int) < n) : ∀ x y, x < 6 → y < 6 → G (x * 6 + y) = true → (y : Int) < n := by
  unfold rdStep at h
  split at h
  · rename_i p q
    split at h
    · cases h
    · split at h
      · cases h
      · rename_i h1 h2
        split at h
        · cases h
        · rename_i h3
          split at h
          · cases h
          · injection h with h
            subst h
            have h2' : hasF n p = true := by simpa using h2
            have h3' : hasF n q = true := by simpa using h3
            simp only [hasF, Bool.and_eq_true, decide_eq_true_eq] at h2' h3'
            intro x y hx hy hG
            unfold upd at hG
            split at hG
            · rename_i e; omega
            · split at hG
              · rename_i e; omega
              · exact hF x y hx hy hG
  · cases h
theorem readR_lt {n : Int} (hn : n ≤ 6) : ∀ {l : List (List Int)} {F G : Nat → Bool}, readR n F l = some G → (∀ x y, x < 6 → y < 6 → F (x * 6 + y) = true → (y : Int) < n) → ∀ x y, x < 6 → y < 6 → G (x * 6 + y) = true → (y : Int) < n := by
  intro l
  induction l with
  | nil => intro F G h hF; simp only [readR] at h; injection h with h; subst h; exact hF
  | cons z l ih =>
    intro F G h hF
    simp only [readR] at h
    split at h
    · cases h
    · rename_i G1 h1
      exact ih h (rdStep_lt h1 hn hF)
theorem readF_ok {n : Int} {l : List (List Int)} {F : Nat → Bool} (h : readF n l = some F) : 1 ≤ n ∧ n ≤ 6 ∧ ∀ x y, x < 6 → y < 6 → F (x * 6 + y) = true → (y : Int) < n := by
  unfold readF at h
  split at h
  · cases h
  · split at h
    · cases h
    · rename_i h1 h2
      exact ⟨by omega, by omega, readR_lt (by omega) h (fun x y _ _ h => by cases h)⟩
/-- What Distances answers. -/
def distsF (n : Int) (l : List (List Int)) (t : List Int) : List Int × Int := match readF n l with
  | none => ([], 1)
  | some F => if t.all (hasF n) then (distF n.toNat F (-1) t, 0) else ([], 1)
/-- A whole network laid into a block made just before. -/
theorem init58 {ops : Array Oper} {Q : Exit → Act → World → Prop} {rest : List Oper} {o : Oper} {a : Act} {W : World} {p q : Tmp} {n m : Int} {F G : Nat → Bool} (gd : o.guard = none) (ho : o.op = .store 58 (.tmp p) (.tmp q)) (d : o.dst = none)
    (ha : a.eval (.tmp p) = .pointer (some ⟨W.heap.size, 0, none⟩)) (hv : a.eval (.tmp q) = .agg (nw m G)) (hk : wpList Try.prog ops Q rest (a.put none undef) (W.alloc (.cells (nw m G) 58))) : wpList Try.prog ops Q (o :: rest) a (W.alloc (.cells (nw n F) 58)) := by
  refine wpList_plain gd fun K hK => ?_
  have hs := run_storeVar_row (P := Try.prog) (W.alloc (.cells (nw n F) 58)) W.heap.size 58 58 (nw n F) (nw m G) (heap_alloc_new W _) (by rw [nw_size]; exact info58) (by rw [nw_size, nw_size]) (nw_one m G)
  rw [World.setRow_alloc_new] at hs
  have r : (execOp a.eval o).run Try.prog (W.alloc (.cells (nw n F) 58)) = .ok .skip (W.alloc (.cells (nw m G) 58)) := by
    unfold execOp
    simp [ho, ha, hv, Instr.storeAt, Instr.sureAddr, hs, Result.andThen]
  unfold Oper.wp
  rw [r, Oper.upon_skip, d]
  exact hK _ _ hk
/-- A network out of its block, behind a guard. -/
theorem load58g {ops : Array Oper} {Q : Exit → Act → World → Prop} {rest : List Oper} {o : Oper} {a : Act} {W : World} {N p : Tmp} {g : Nat} {n : Int} {F : Nat → Bool} (hw : Region.wanted o (yielded ops a.tmps) = true) (ho : o.op = .load 58 (.tmp p)) (d : o.dst = some N)
    (ha : a.eval (.tmp p) = .pointer (some ⟨g, 0, none⟩)) (hW : NB g n F W) (hk : wpList Try.prog ops Q rest (a.put (some N) (.agg (nw n F))) W) : wpList Try.prog ops Q (o :: rest) a W := by
  refine BigFrame.wpList_want hw fun K hK => ?_
  unfold Oper.wp
  rw [exec_nb hW ho ha, Oper.upon_value, d]
  exact hK _ _ hk
set_option maxRecDepth 100000 in
set_option maxHeartbeats 4000000 in
theorem dists_any (n : Int) (A : Option Addr) (c : Nat) (l : List (List Int)) (At : Option Addr) (ct : Nat) (t : List Int) (w : World) (hr : Kd.C (Kd.slice 3 (Kd.int .i64)) w A l.length l) (hlen : l.length ≤ 1000000) (ht : Kd.C (Kd.int .i64) w At t.length t) :
    Calls Try.prog 13 #[.int .i64 n, .slice A l.length c, .slice At t.length ct] w fun e w' => ∃ v0, e = .returned (.tuple #[v0, .int .i64 (distsF n l t).2]) ∧ Kd.R (Kd.int .i64) 3 w' w.heap.size (fun _ => True) v0 (distsF n l t).1 ∧ Below w.heap.size w w' := by
  have HT := Aside0.mk ht
  have hread := read_any n A c l w hr hlen
  clear hr ht
  obtain ⟨r1, r2, hres⟩ : ∃ r1 r2, distsF n l t = (r1, r2) := ⟨_, _, rfl⟩
  rw [hres]
  simp only
  go_enter Try.func13, Try.ntmps13
  go_wp2_with fail
  refine hread.mono ?_
  rintro e w1 ⟨⟨m, F, b, rfl, hbad, hgood⟩, hb⟩
  clear hread
  cases b with
  | false =>
    have hv : distsF n l t = ([], 1) := by unfold distsF; rw [hbad rfl]
    obtain ⟨rfl, rfl⟩ := Prod.mk.inj (hv.symm.trans hres)
    have H2 := Aside0.mk (hb.alloc hb.size (.cells (nw m F) 58))
    clear hbad hgood hv hres hb
    go_wp2_with (first
      | ((with_reducible refine gate_ (.alloc 58) rfl ?_); refine alloc58 rfl rfl rfl ?_)
      | ((with_reducible refine gate_ (.store 58 (.tmp 8) (.tmp 14)) rfl ?_); refine init58 rfl rfl rfl (by first | rfl | (simp [Act.eval]; done)) (by first | rfl | (simp [Act.eval]; done)) ?_))
    go_ret2
    exact ⟨_, rfl, Kd.R_nil _ _ _ _ _, H2.out⟩
  | true =>
    obtain ⟨rfl, hF⟩ := hgood rfl
    obtain ⟨hn1, hn6, hlt⟩ := readF_ok hF
    have hv : distsF m l t = if t.all (hasF m) then (distF m.toNat F (-1) t, 0) else ([], 1) := by unfold distsF; rw [hF]
    rw [hres] at hv
    clear hbad hgood hres hF
    have H2 := Aside0.mk (hb.alloc hb.size (.cells (nw m F) 58))
    have HN := Aside0.mk (NB.new w1 m F)
    have HT2 := Aside0.mk (Kd.C_below HT.out H2.out)
    have hcall := valid_any m F At ct t (w1.alloc (.cells (nw m F) 58)) HT2.out
    clear hb HT
    go_wp2_with (first
      | ((with_reducible refine gate_ (.alloc 58) rfl ?_); refine alloc58 rfl rfl rfl ?_)
      | ((with_reducible refine gate_ (.store 58 (.tmp 8) (.tmp 14)) rfl ?_); refine init58 rfl rfl rfl (by first | rfl | (simp [Act.eval]; done)) (by first | rfl | (simp [Act.eval]; done)) ?_)
      | ((with_reducible refine gate_ (.load 58 (.tmp 8)) rfl ?_); refine load58g (g := w1.heap.size) (n := m) (F := F) (by rfl) rfl rfl (by first | rfl | (simp [Act.eval]; done)) HN.out ?_))
    refine hcall.mono ?_
    rintro e w2 ⟨rfl, hb2⟩
    have HN2 := Aside0.mk (HN.out.below HN.out.lt hb2)
    have H3 := Aside0.mk (H2.out.trans (hb2.mono H2.out.size))
    have HT3 := Aside0.mk (Kd.C_below HT2.out hb2)
    clear hb2 hcall H2 HN HT2
    by_cases ha : t.all (hasF m) = true
    · rw [ha, if_pos rfl] at hv
      obtain ⟨rfl, rfl⟩ := Prod.mk.inj hv
      have hl : ∀ x ∈ t, 0 ≤ x ∧ x < (m.toNat : Int) := fun x hx => by
        have := List.all_eq_true.1 ha x hx
        simp only [hasF, Bool.and_eq_true, decide_eq_true_eq] at this
        omega
      have hcall := distances_any m.toNat (by omega) (by omega) F (fun x y hx hy h => by have := hlt x y hx hy h; omega) At ct t (-1) w2 HT3.out hl
      rw [show ((m.toNat : Nat) : Int) = m by omega] at hcall
      clear hl hlt hv HT3
      rw [ha]
      go_wp2_with ((with_reducible refine gate_ (.load 58 (.tmp 8)) rfl ?_); refine load58 (g := w1.heap.size) (n := m) (F := F) rfl rfl rfl (by first | rfl | (simp [Act.eval]; done)) HN2.out ?_)
      refine hcall.mono ?_
      rintro e w3 ⟨v0, rfl, hR, hb⟩
      have HR3 := Aside0.mk (Kd.R_lower hR H3.out.size)
      have H4 := Aside0.mk (H3.out.trans (hb.mono H3.out.size))
      clear hR hb hcall
      go_wp2_with fail
      go_ret2
      exact ⟨_, rfl, HR3.out, H4.out⟩
    · have ha' : t.all (hasF m) = false := by simpa using ha
      rw [ha', if_neg (by simp)] at hv
      obtain ⟨rfl, rfl⟩ := Prod.mk.inj hv
      rw [ha']
      clear hv
      go_wp2_with fail
      go_ret2
      exact ⟨_, rfl, Kd.R_nil _ _ _ _ _, H3.out⟩
end Go.Proofs.Ytjaodgicpnoifaa.P
