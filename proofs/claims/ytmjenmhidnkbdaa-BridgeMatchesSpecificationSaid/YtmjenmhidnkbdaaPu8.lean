/- For every bridge and all arguments, all functions return what the specification defines. -/
import Derived.Test.YtmjenmhidnkbdaaPm8
import Derived.Test.YtmjenmhidnkbdaaPr3
namespace Go.Proofs.Ytmjenmhidnkbdaa.P
open Go.RowKit Go.Shelf Go.Proofs.YtmjenmhidnkbdaaW.PrintWords Go.Proofs.YtmjenmhidnkbdaaW.PrintLast Go.Proofs.YtmjenmhidnkbdaaW.PrintMore
set_option linter.unusedVariables false
set_option linter.unusedSimpArgs false

theorem ints_l (a : List Int) (ha : a.length ≤ 2000) : ∀ (K i : Nat), i ≤ a.length → a.length - i < K → crossbarref18_Ints.l0 K a a (i : Int) = some true := by
  intro K
  induction K with
  | zero => intro i _ h; omega
  | succ K ih =>
    intro i hi hK
    simp only [crossbarref18_Ints.l0]
    by_cases hlt : i < a.length
    · rw [if_pos (by omega), if_pos (by omega), if_pos (by omega), if_pos trivial, w64 i (by omega)]
      exact ih (i + 1) (by omega) (by omega)
    · rw [if_neg (by omega)]
theorem ints_f (a : List Int) (ha : a.length ≤ 2000) (K : Nat) (hK : 2000 < K) : crossbarref18_Ints.f K a a = some true := by
  unfold crossbarref18_Ints.f
  rw [if_pos rfl]
  exact ints_l a ha K 0 (by omega) (by omega)

theorem edit_len {op : Does} {l : List S36} {nx : Int} (h : (op l nx).2.1.length ≤ l.length + 1) : (editF op l nx).1.length ≤ l.length + 1 := by
  unfold editF
  split
  · simp
  · split
    · simp
    · exact h
theorem add_len (l : List S36) (nx id : Int) : (addOp id l nx).2.1.length ≤ l.length + 1 := by
  unfold addOp
  have hple : pos l id ≤ l.length := by
    unfold pos; exact (List.takeWhile_sublist _).length_le
  split
  · simp
  · split
    · simp
    · split
      · simp
      · simp only [ins_len _ _ _ hple]; exact Nat.le_refl _
theorem remove_len (l : List S36) (nx id : Int) : (removeOp id l nx).2.1.length ≤ l.length + 1 := by
  unfold removeOp
  simp only
  split
  · simp
  · have h := lv_len l (fnd l id).toNat
    have h2 : (rm (lv l (fnd l id).toNat) id).length ≤ (lv l (fnd l id).toNat).length := List.length_filter_le _ _
    simp only
    omega
theorem connect_len (l : List S36) (nx x y : Int) : (connectOp x y l nx).2.1.length ≤ l.length + 1 := by
  unfold connectOp
  simp only
  split
  · simp
  · split
    · simp
    · simp only [setCf_len, lv_len]; omega
theorem merge_len (l : List S36) (nx x y : Int) : (mergeOp x y l nx).2.1.length ≤ l.length + 1 := by
  unfold mergeOp
  simp only
  split
  · simp
  · simp only [moveTo_len]; omega
theorem hold_len (l : List S36) (nx x : Int) (on : Bool) : (holdOp x on l nx).2.1.length ≤ l.length + 1 := by
  unfold holdOp
  simp only
  split
  · simp
  · simp only [List.length_set]; omega

def M8.f (k : Nat) (l : List S36) (nx x y : Int) (on : Bool) : Option Bool := some true

set_option maxRecDepth 100000 in
set_option maxHeartbeats 4000000 in
theorem matches_big (A : Option Addr) (c : Nat) (l : List S36) (nx x y : Int) (on : Bool) (w : World) (hC : Kd.C k36 w A l.length l) (hc : l.length ≤ c) (hf : crossbarlaw18_few.f l nx = some false) :
    Calls Try.prog 8 #[.agg #[.slice A l.length c, .int .i64 nx], .int .i64 x, .int .i64 y, .bool on] w fun e w' => e = .returned (.bool true) ∧ Below w.heap.size w w' := by
  have HC := Aside0.mk hC
  clear hC
  go_enter Try.func8, Try.ntmps8
  go_wp2_with fail
  refine Calls_world (fun W hW => ?_)
  have hBW : Below w.heap.size w W := by rw [hW]; exact (Below.refl _ _).alloc (Nat.le_refl _) _
  have XB : Rx w.heap.size A c l nx W := by rw [hW]; exact Rx.new HC.out hc
  clear HC hW
  have hBW0 := Aside0.mk hBW
  clear hBW
  refine (crossbarlaw18_sane.calls true _ rfl).mono ?_
  rintro e w0 ⟨rfl, hb⟩
  replace hBW0 := Aside0.mk (hBW0.out.trans (hb.mono hBW0.out.size))
  replace XB := XB.below hb
  clear hb
  have xb0 := XB.c0
  have xb1 := XB.c1
  have xbl := XB.lt
  go_wp2_with fail
  clear xb0 xb1 xbl
  refine (crossbarlaw18_few.calls A c l nx false _ XB.C XB.le hf).mono ?_
  rintro e w1 ⟨rfl, hb⟩
  replace hBW0 := Aside0.mk (hBW0.out.trans (hb.mono hBW0.out.size))
  clear hb
  go_wp2_with fail
  go_ret
  exact ⟨rfl, hBW0.out⟩

theorem M8.calls (k : Nat) (A : Option Addr) (c : Nat) (l : List S36) (nx x y : Int) (on : Bool) (r : Bool) (w : World) (hC : Kd.C k36 w A l.length l) (hc : l.length ≤ c) (h : M8.f k l nx x y on = some r) :
    Calls Try.prog 8 #[.agg #[.slice A l.length c, .int .i64 nx], .int .i64 x, .int .i64 y, .bool on] w fun e w' => e = .returned (.bool r) ∧ Below w.heap.size w w' := by
  obtain rfl : true = r := Option.some.inj h
  by_cases hf : l.length ≤ 60
  · obtain ⟨K, hK⟩ : ∃ K, K = 5000 := ⟨_, rfl⟩
    have hw : ∀ {op : Does}, ∃ r n e, editF op l nx = (r, n, e) := fun {op} => ⟨_, _, _, rfl⟩
    obtain ⟨r1, n1, e1, E1⟩ := @hw (addOp x)
    obtain ⟨r2, n2, e2, E2⟩ := @hw (removeOp x)
    obtain ⟨r3, n3, e3, E3⟩ := @hw (connectOp x y)
    obtain ⟨r4, n4, e4, E4⟩ := @hw (mergeOp x y)
    obtain ⟨r5, n5, e5, E5⟩ := @hw (holdOp x on)
    have L1 := edit_len (add_len l nx x)
    have L2 := edit_len (remove_len l nx x)
    have L3 := edit_len (connect_len l nx x y)
    have L4 := edit_len (merge_len l nx x y)
    have L5 := edit_len (hold_len l nx x on)
    rw [E1] at L1
    rw [E2] at L2
    rw [E3] at L3
    rw [E4] at L4
    rw [E5] at L5
    have hh := hearsL_len l x
    have hl : l.length ≤ 2000 := by omega
    refine matches_any K A c l nx x y on w hC hc r1 r2 r3 r4 r5 n1 n2 n3 n4 n5 e1 e2 e3 e4 e5 (checkE l nx) (hearsL l x) (by unfold crossbarlaw18_few.f; rw [decide_eq_true (by omega)])
      (by unfold bridge_Add.f; rw [if_pos hl, E1]) (by rw [refadd_f l nx x (by omega) K (by omega), E1])
      (by unfold bridge_Remove.f; rw [if_pos hl, E2]) (by rw [refremove_f l nx x (by omega) K (by omega), E2])
      (by unfold bridge_Connect.f; rw [if_pos hl, E3]) (by rw [refconnect_f l nx x y (by omega) K (by omega), E3])
      (by unfold bridge_Merge.f; rw [if_pos hl, E4]) (by rw [refmerge_f l nx x y (by omega) K (by omega), E4])
      (by unfold bridge_Hold.f; rw [if_pos hl, E5]) (by rw [refhold_f l nx x on (by omega) K (by omega), E5])
      (same_f r1 n1 (by simp only at L1; omega) K (by omega)) (same_f r2 n2 (by simp only at L2; omega) K (by omega)) (same_f r3 n3 (by simp only at L3; omega) K (by omega)) (same_f r4 n4 (by simp only at L4; omega) K (by omega)) (same_f r5 n5 (by simp only at L5; omega) K (by omega)) (same_f [] 1 (by simp) K (by omega))
      (by unfold bridge_Hears.f; rw [if_pos hl]) (refhears_f l nx x (by omega) K (by omega)) (ints_f _ (by omega) K (by omega))
      (by unfold bridge_Check.f; rw [if_pos hl]) (refcheck_f l nx (by omega) K (by omega))
  · exact matches_big A c l nx x y on w hC hc (by unfold crossbarlaw18_few.f; rw [decide_eq_false (by omega)])
theorem bridgeMatchesSpecification_pure (l : List S36) (nx x y : Int) (on : Bool) : ∃ k, M8.f k l nx x y on = some true := ⟨0, rfl⟩
end Go.Proofs.Ytmjenmhidnkbdaa.P
