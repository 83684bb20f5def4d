/- bridge.Check: a map counts the legs of each conference. -/
import Derived.Test.YtmjenmhidnkbdaaHn
import Derived.Maps.RangeWalk
import Derived.Maps.OwnOps
namespace Go.Proofs.Ytmjenmhidnkbdaa.P
open Go.RowKit Go.Shelf Go.Maps Go.Proofs.YtmjenmhidnkbdaaW.PrintWords Go.Proofs.YtmjenmhidnkbdaaW.PrintLast Go.Proofs.YtmjenmhidnkbdaaW.PrintMore
set_option linter.unusedVariables false
set_option linter.unusedSimpArgs false

/-- How many legs are in a conference. -/
def cnt (l : List S36) (c : Int) : Nat := (l.filter fun x => x.f1 == c).length
theorem cnt_len (l : List S36) (c : Int) : cnt l c ≤ l.length := List.length_filter_le _ _
theorem cnt_succ (l : List S36) (k : Nat) (x : S36) (c : Int) (hx : l[k]? = some x) : cnt (l.take (k + 1)) c = cnt (l.take k) c + (if x.f1 = c then 1 else 0) := by
  unfold cnt
  rw [List.take_add_one, hx, List.filter_append]
  by_cases h : x.f1 = c <;> simp [h]
theorem cnt_pos (l : List S36) (c : Int) (h : 0 < cnt l c) : ∃ x ∈ l, x.f1 = c := by
  unfold cnt at h
  obtain ⟨x, hx⟩ := List.exists_mem_of_length_pos h
  have := List.mem_filter.1 hx
  exact ⟨x, this.1, by simpa using this.2⟩
theorem cnt_of (l : List S36) (x : S36) (h : x ∈ l) : 0 < cnt l x.f1 := by
  unfold cnt
  exact List.length_pos_of_mem (List.mem_filter.2 ⟨h, by simp⟩)

/-- One leg is right behind a number. -/
def okLeg (nx last : Int) (x : S36) : Bool := okId x.f0 && decide (last < x.f0) && decide (0 ≤ x.f1) && decide (x.f1 < nx) && !(decide (x.f1 = 0) && x.f2)
def scan (nx : Int) : Int → List S36 → Bool
  | _, [] => true
  | last, x :: l => okLeg nx last x && scan nx x.f0 l
def lone (l : List S36) : Bool := l.any fun x => decide (0 < x.f1) && decide (cnt l x.f1 < 2)
/-- What Check answers. -/
def checkE (l : List S36) (nx : Int) : Int :=
  if nx < 1 ∨ 1099511627776 < nx then 1 else if scan nx (-1) l = false then 1 else if lone l = true then 1 else if 1024 < l.length then 2 else 0

/-- The last number of a list. -/
def lastId (l : List S36) (k : Nat) : Int := if k = 0 then -1 else (rd_T36 l ((k - 1 : Nat) : Int)).f0
theorem scan_at (nx : Int) (l : List S36) : ∀ (last : Int) (k : Nat) (x : S36), l[k]? = some x → scan nx last l = true → okLeg nx (if k = 0 then last else (rd_T36 l ((k - 1 : Nat) : Int)).f0) x = true := by
  induction l with
  | nil => intro last k x hx; simp at hx
  | cons y l ih =>
    intro last k x hx h
    simp only [scan, Bool.and_eq_true] at h
    cases k with
    | zero =>
      obtain rfl : y = x := by simpa using hx
      simpa using h.1
    | succ k =>
      have := ih y.f0 k x (by simpa using hx) h.2
      rw [if_neg (by omega)]
      have e : (rd_T36 (y :: l) ((k + 1 - 1 : Nat) : Int)).f0 = if k = 0 then y.f0 else (rd_T36 l ((k - 1 : Nat) : Int)).f0 := by
        cases k with
        | zero => simp [rd_T36]
        | succ k => simp [rd_T36]
      rw [e]
      exact this
theorem scan_false (nx : Int) (l : List S36) (k : Nat) (x : S36) (hx : l[k]? = some x) (h : okLeg nx (lastId l k) x = false) : scan nx (-1) l = false := by
  cases hs : scan nx (-1) l with
  | false => rfl
  | true =>
    have := scan_at nx l (-1) k x hx hs
    unfold lastId at h
    rw [h] at this
    cases this
theorem scan_true (nx : Int) (l : List S36) : ∀ last, (∀ (k : Nat) (x : S36), l[k]? = some x → okLeg nx (if k = 0 then last else (rd_T36 l ((k - 1 : Nat) : Int)).f0) x = true) → scan nx last l = true := by
  induction l with
  | nil => intro _ _; rfl
  | cons y l ih =>
    intro last h
    simp only [scan, Bool.and_eq_true]
    refine ⟨by simpa using h 0 y rfl, ih y.f0 fun k x hx => ?_⟩
    have := h (k + 1) x (by simpa using hx)
    rw [if_neg (by omega)] at this
    cases k with
    | zero => simpa [rd_T36] using this
    | succ k => simpa [rd_T36] using this

/-- A map that counts. -/
structure CM (D : DataW Unit) (l : List S36) : Prop where
  m : IsMap D
  at_ : ∀ c : Int, D.atKey (.int .i64 c) (.lit (.int .i64 0)) = .lit (.int .i64 (cnt l c))
  no : ∀ (c : Int), cnt l c = 0 → ∀ z, D.atKey (.int .i64 c) z = z
  hs : ∀ c : Int, Maps.has D (.int .i64 c) = decide (0 < cnt l c)
theorem CM.nil : CM (.map []) [] := ⟨isMap_empty, fun _ => rfl, fun _ _ _ => rfl, fun _ => rfl⟩
theorem CM.put {D : DataW Unit} {l : List S36} {k : Nat} {x : S36} (h : CM D (l.take k)) (hx : l[k]? = some x) :
    CM (D.put (.int .i64 x.f1) (.lit (.int .i64 ((cnt (l.take k) x.f1 : Int) + 1)))) (l.take (k + 1)) := by
  refine ⟨h.m.put _ _, fun c => ?_, fun c hc z => ?_, fun c => ?_⟩
  · rw [cnt_succ l k x c hx]
    by_cases e : x.f1 = c
    · subst e
      rw [atKey_put_same (k := .int .i64 x.f1) h.m trivial, if_pos rfl]
      simp
    · rw [atKey_put_other (fun e2 => e (by injection e2 with _ e3; exact e3.symm)), h.at_, if_neg e]
      simp
  · rw [cnt_succ l k x c hx] at hc
    have e : ¬ x.f1 = c := fun e => by rw [if_pos e] at hc; omega
    rw [if_neg e] at hc
    rw [atKey_put_other (fun e2 => e (by injection e2 with _ e3; exact e3.symm))]
    exact h.no c (by omega) z
  · rw [cnt_succ l k x c hx]
    by_cases e : x.f1 = c
    · subst e
      rw [has_put_same (k := .int .i64 x.f1) h.m trivial, if_pos rfl]
      simp
    · rw [has_put_other (fun e2 => e (by injection e2 with _ e3; exact e3.symm)), h.hs, if_neg e]
      simp

theorem key3 : Keyed Try.prog 3 := int_keyed Try.underlying3
theorem zero3 (w : World) : (zeroValue 3).run Try.prog w = .ok (.int .i64 0) w := by kernel_rfl
theorem wf_of {a : Int} (h0 : 0 ≤ a) (h1 : a ≤ 1099511627776) : (Lit.int .i64 a).wf = true := by
  simp [Lit.wf, IntKind.min, IntKind.max, IntKind.signed, IntKind.bits]
  omega

/-- What holds behind k rounds. -/
structure KI (w : World) (A : Option Addr) (c : Nat) (l : List S36) (nx : Int) (k : Nat) (wr : World) : Prop where
  box : wr.heap[w.heap.size]? = some (.cells #[.slice A l.length c, .int .i64 nx] 24 (0, 0))
  own : ∃ D, wr.ownsMap Try.prog 3 (plainElem (H := Unit) Try.prog 3) (w.heap.size + 1) k D ∧ CM D (l.take k)
  b : Below w.heap.size w wr
  ok : ∀ (j : Nat) (x : S36), j < k → l[j]? = some x → okLeg nx (lastId l j) x = true
theorem KI.start (w : World) (A : Option Addr) (c : Nat) (l : List S36) (nx : Int) : KI w A c l nx 0 ((w.alloc (.cells #[.slice A l.length c, .int .i64 nx] 24)).alloc (.map #[] 0)) := by
  have hs : (w.alloc (.cells #[.slice A l.length c, .int .i64 nx] 24)).heap.size = w.heap.size + 1 := by simp
  refine ⟨?_, ⟨.map [], ?_, CM.nil⟩, ((Below.refl _ w).alloc (Nat.le_refl _) _).alloc (by rw [hs]; omega) _, fun j x h => by omega⟩
  · exact (heap_alloc_old _ _ (by rw [hs]; omega)).trans (heap_alloc_new w _)
  · have := World.ownsMap_made (H := Unit) (w.alloc (.cells #[.slice A l.length c, .int .i64 nx] 24)) Try.prog 3 (plainElem Try.prog 3)
    rw [hs] at this
    exact this
theorem KI.alloc {w : World} {A : Option Addr} {c : Nat} {l : List S36} {nx : Int} {k : Nat} {wr : World} (h : KI w A c l nx k wr) (o : Obj) : KI w A c l nx k (wr.alloc o) := by
  have hb := blk_lt h.box
  obtain ⟨D, hD, hC⟩ := h.own
  exact ⟨(heap_alloc_old wr o hb).trans h.box, ⟨D, hD.alloc o, hC⟩, h.b.alloc (by omega) _, h.ok⟩
theorem KI.next {w : World} {A : Option Addr} {c : Nat} {l : List S36} {nx : Int} {k : Nat} {wr w1 : World} {x : S36} {D : DataW Unit} (h : KI w A c l nx k wr) (hx : l[k]? = some x) (ho : okLeg nx (lastId l k) x = true)
    (hown : w1.ownsMap Try.prog 3 (plainElem (H := Unit) Try.prog 3) (w.heap.size + 1) (k + 1) (D.put (.int .i64 x.f1) (.lit (.int .i64 ((cnt (l.take k) x.f1 : Int) + 1))))) (hg : wr.grownBy w1 (some (w.heap.size + 1))) (hC : CM D (l.take k)) :
    KI w A c l nx (k + 1) w1 := by
  refine ⟨(hg.block w.heap.size (blk_lt h.box) (by simp)).trans h.box, ⟨_, hown, hC.put hx⟩, h.b.grown hg h.b.size (fun j hj => by cases hj; omega), fun j y hj hy => ?_⟩
  by_cases e : j = k
  · subst e
    rw [hx] at hy
    injection hy with hy
    subst hy
    exact ho
  · exact h.ok j y (by omega) hy
/-- The walk over the map under way. -/
structure RI (w : World) (A : Option Addr) (c : Nat) (l : List S36) (nx : Int) (D : DataW Unit) (r : Nat) (left : Lit → Bool) (m : Nat) (wr : World) : Prop where
  rg : wr.ranges Try.prog 3 (plainElem (H := Unit) Try.prog 3) (w.heap.size + 1) r l.length D left m
  box : wr.heap[w.heap.size]? = some (.cells #[.slice A l.length c, .int .i64 nx] 24 (0, 0))
  b : Below w.heap.size w wr
  r : w.heap.size + 1 < r
  ok : ∀ x : Int, Maps.has D (.int .i64 x) = true → left (.int .i64 x) = false → ¬ (0 < x ∧ cnt l x < 2)
theorem RI.start {w : World} {A : Option Addr} {c : Nat} {l : List S36} {nx : Int} {D : DataW Unit} {wr w0 : World} (h : KI w A c l nx l.length wr)
    (hr : w0.ranges Try.prog 3 (plainElem (H := Unit) Try.prog 3) (w.heap.size + 1) wr.heap.size l.length D (Maps.has D) (Maps.size D)) (hg : wr.grownBy w0 none) : RI w A c l nx D wr.heap.size (Maps.has D) (Maps.size D) w0 := by
  obtain ⟨D', hD', _⟩ := h.own
  exact ⟨hr, (hg.block _ (blk_lt h.box) (by simp)).trans h.box, h.b.grown hg h.b.size (fun j hj => by cases hj), hD'.lt, fun x e1 e2 => by rw [e1] at e2; cases e2⟩
theorem lone_of {l : List S36} {x : Int} (h0 : 0 < x) (h1 : cnt l x < 2) (h2 : 0 < cnt l x) : lone l = true := by
  obtain ⟨y, hy, rfl⟩ := cnt_pos l x h2
  exact List.any_eq_true.2 ⟨y, hy, by simp [h0, h1]⟩
theorem lone_not {l : List S36} (h : ∀ x : Int, 0 < cnt l x → ¬ (0 < x ∧ cnt l x < 2)) : lone l = false := by
  cases hs : lone l with
  | false => rfl
  | true =>
    obtain ⟨y, hy, hb⟩ := List.any_eq_true.1 hs
    simp only [Bool.and_eq_true, decide_eq_true_eq] at hb
    exact absurd hb (h y.f1 (cnt_of l y hy))
theorem CM.val {D : DataW Unit} {l : List S36} (h : CM D l) {x c : Int} (hat : ∀ zd, D.atKey (.int .i64 x) zd = .lit (.int .i64 c)) : c = cnt l x ∧ 0 < cnt l x := by
  have h1 : ((cnt l x : Nat) : Int) = c := by
    have := h.at_ x
    rw [hat] at this
    injection this with this
    injection this with _ this
    exact this.symm
  refine ⟨h1.symm, ?_⟩
  by_cases h0 : cnt l x = 0
  · have := h.no x h0 (.lit (.int .i64 1))
    rw [hat] at this
    injection this with this
    injection this with _ this
    omega
  · omega
theorem checkE_bad {l : List S36} {nx : Int} {k : Nat} {x : S36} (hx : l[k]? = some x) (h : okLeg nx (lastId l k) x = false) : checkE l nx = 1 := by
  unfold checkE
  rw [scan_false nx l k x hx h]
  split
  · rfl
  · rfl

set_option maxRecDepth 100000 in
set_option maxHeartbeats 4000000 in
theorem check_any (A : Option Addr) (c : Nat) (l : List S36) (nx : Int) (w : World) (hr : Kd.C k36 w A l.length l) (hlen : l.length ≤ 2000) :
    Calls Try.prog 12 #[.agg #[.slice A l.length c, .int .i64 nx]] w fun e w' => e = .returned (.int .i64 (checkE l nx)) ∧ Below w.heap.size w w' := by
  have hmm := @run_makeMap Try.prog
  have HR := Aside0.mk hr
  clear hr
  by_cases h1 : nx < 1
  · have HE := Aside0.mk (show checkE l nx = 1 by simp [checkE, h1])
    go_enter Try.func12, Try.ntmps12
    go_wp2
    go_ret
    exact ⟨by rw [HE.out]; rfl, (Below.refl _ w).alloc (Nat.le_refl _) _⟩
  · by_cases h2 : 1099511627776 < nx
    · have HE := Aside0.mk (show checkE l nx = 1 by simp [checkE, h2])
      go_enter Try.func12, Try.ntmps12
      go_wp2
      go_ret
      exact ⟨by rw [HE.out]; rfl, (Below.refl _ w).alloc (Nat.le_refl _) _⟩
    · go_enter Try.func12, Try.ntmps12
      go_wp2
      have HS := Aside0.mk (KI.start w A c l nx)
      have hlast0 : lastId l 0 = -1 := rfl
      go_loopw [3, 21] (fun s3 s21 wr => ∃ k : Nat, k ≤ l.length ∧ s3 = .int .i64 (lastId l k) ∧ s21 = .int .i64 k ∧ Aside0 (KI w A c l nx k wr)) (fun _ s21 _ => l.length - (intOf s21).toNat)
      case atStart => exact ⟨0, Nat.zero_le _, rfl, rfl, HS⟩
      case round =>
        obtain ⟨k, hk, rfl, rfl, hK⟩ := hrel
        clear HS
        have kb0 : wr.cell? ⟨w.heap.size, 0, none⟩ = some (.slice A l.length c) := (blk_cell hK.out.box 0).trans rfl
        have kb1 : wr.cell? ⟨w.heap.size, 1, none⟩ = some (.int .i64 nx) := (blk_cell hK.out.box 1).trans rfl
        have hbl := blk_lt hK.out.box
        by_cases hlt : k < l.length
        · have hltz : (k : Int) < (l.length : Int) := by omega
          obtain ⟨ad, rfl, hc0, hc1, hc2⟩ := at_T36 (Kd.C_below HR.out hK.out.b) (k : Int) (by omega) (by omega)
          simp only [Int.toNat_natCast] at hc0 hc1 hc2
          have HX := Aside0.mk (rd_at l k hlt)
          generalize rd_T36 l (k : Int) = x at hc0 hc1 hc2 HX
          obtain ⟨x0, x1, x2⟩ := x
          have hla : lastId l (k + 1) = x0 := by
            unfold lastId
            rw [if_neg (by omega), Nat.add_sub_cancel]
            have := HX.out
            rw [rd_at l k hlt] at this
            injection this with this
            rw [this]
          have HLA := Aside0.mk hla
          clear hla
          by_cases g1 : okId x0 = false
          · -- no number
            have HE := Aside0.mk (checkE_bad HX.out (show okLeg nx (lastId l k) ⟨x0, x1, x2⟩ = false by simp [okLeg, g1]))
            have HK := Aside0.mk hK.out
            clear hK HX HR
            go_wp2_with (go_at_call 34; refine (inRange_any x0 _).mono ?_; rintro e w1 ⟨rfl, rfl⟩; rw [g1])
            go_ret
            exact ⟨by rw [HE.out]; rfl, HK.out.b.alloc (by have := blk_lt HK.out.box; omega) _⟩
          · have g1 : okId x0 = true := by simpa using g1
            by_cases g2 : x0 ≤ lastId l k
            · have g2' : ¬ lastId l k < x0 := by omega
              have HE := Aside0.mk (checkE_bad HX.out (show okLeg nx (lastId l k) ⟨x0, x1, x2⟩ = false by simp [okLeg, g2']))
              have HK := Aside0.mk hK.out
              clear hK HX HR
              go_wp2_with (go_at_call 34; refine (inRange_any x0 _).mono ?_; rintro e w1 ⟨rfl, rfl⟩; rw [g1])
              go_ret
              exact ⟨by rw [HE.out]; rfl, HK.out.b.alloc (by have := blk_lt HK.out.box; omega) _⟩
            · by_cases g3 : x1 < 0
              · have g3' : ¬ 0 ≤ x1 := by omega
                have HE := Aside0.mk (checkE_bad HX.out (show okLeg nx (lastId l k) ⟨x0, x1, x2⟩ = false by simp [okLeg, g3']))
                have HK := Aside0.mk hK.out
                clear hK HX HR
                go_wp2_with (go_at_call 34; refine (inRange_any x0 _).mono ?_; rintro e w1 ⟨rfl, rfl⟩; rw [g1])
                go_ret
                exact ⟨by rw [HE.out]; rfl, HK.out.b.alloc (by have := blk_lt HK.out.box; omega) _⟩
              · by_cases g4 : nx ≤ x1
                · have g4' : ¬ x1 < nx := by omega
                  have HE := Aside0.mk (checkE_bad HX.out (show okLeg nx (lastId l k) ⟨x0, x1, x2⟩ = false by simp [okLeg, g4']))
                  have HK := Aside0.mk hK.out
                  clear hK HX HR
                  go_wp2_with (go_at_call 34; refine (inRange_any x0 _).mono ?_; rintro e w1 ⟨rfl, rfl⟩; rw [g1])
                  go_ret
                  exact ⟨by rw [HE.out]; rfl, HK.out.b.alloc (by have := blk_lt HK.out.box; omega) _⟩
                · have hle4 : x1 < nx := by omega
                  by_cases g5 : x1 = 0
                  · subst g5
                    cases x2 with
                    | true =>
                      have HE := Aside0.mk (checkE_bad HX.out (show okLeg nx (lastId l k) ⟨x0, 0, true⟩ = false by simp [okLeg, g1]))
                      have HK := Aside0.mk hK.out
                      clear hK HX HR
                      go_wp2_with (go_at_call 34; refine (inRange_any x0 _).mono ?_; rintro e w1 ⟨rfl, rfl⟩; rw [g1])
                      go_ret
                      exact ⟨by rw [HE.out]; rfl, HK.out.b.alloc (by have := blk_lt HK.out.box; omega) _⟩
                    | false =>
                      have hokl : okLeg nx (lastId l k) ⟨x0, 0, false⟩ = true := by
                        simp only [okLeg, g1, Bool.true_and, Bool.and_eq_true, decide_eq_true_eq, Bool.not_eq_true']
                        exact ⟨⟨⟨by omega, by omega⟩, by omega⟩, by simp [g1]⟩
                      have HOK := Aside0.mk hokl
                      have HKA := Aside0.mk (hK.out.alloc (.cells #[.int .i64 x0, .int .i64 0, .bool false] 36))
                      obtain ⟨D, hD, hC⟩ := HKA.out.own
                      have HC := Aside0.mk hC
                      have hkey := keyOf_int_mk Try.underlying3 (wf_of (show (0:Int) ≤ 0 by omega) (show (0:Int) ≤ 1099511627776 by omega))
                      clear hokl hK hC
                      go_wp2_with (first
                        | (at_lookup; refine wpList_lookup_own_int _ rfl _ _ 55 rfl 3 3 .i64 key3 Try.underlying55 Try.underlying3 (zero3 _) (w.heap.size + 1) k D rfl hD _ _ rfl hkey ?_; intro cc hat _; obtain rfl : ((cnt (l.take k) 0 : Nat) : Int) = cc := (by rw [HC.out.at_] at hat; injection hat with hat; injection hat); have hcn := cnt_len (l.take k) 0; have hcn2 : cnt (l.take k) 0 ≤ 2000 := (by rw [List.length_take] at hcn; omega); clear hat hcn)
                        | (at_mapUpdate; refine wpList_mapUpdate_own _ rfl _ _ _ 55 rfl 3 3 key3 Try.underlying55 _ (w.heap.size + 1) k D rfl hD (by unfold maxLen; omega) _ _ _ rfl rfl hkey (.lit (.int .i64 ((cnt (l.take k) 0 : Int) + 1))) [] (plainElem_int Try.underlying3 (wf_of (by omega) (by omega))) ?_; intro w1 hown1 hgrow1)
                        | (go_at_call 34; refine (inRange_any x0 _).mono ?_; rintro e w2 ⟨rfl, rfl⟩; rw [g1]))
                      go_roundw
                      case rel =>
                        refine ⟨k + 1, by omega, by rw [HLA.out], by go_num, ⟨?_⟩⟩
                        exact HKA.out.next HX.out HOK.out hown1 hgrow1 HC.out
                      case measure => simp [intOf]; omega
                  · have g5' : (x1 == 0) = false := by simpa using g5
                    have hokl : okLeg nx (lastId l k) ⟨x0, x1, x2⟩ = true := by
                      simp only [okLeg, g1, Bool.true_and, Bool.and_eq_true, decide_eq_true_eq, Bool.not_eq_true']
                      exact ⟨⟨⟨by omega, by omega⟩, by omega⟩, by simp [g5]⟩
                    have HOK := Aside0.mk hokl
                    have HKA := Aside0.mk (hK.out.alloc (.cells #[.int .i64 x0, .int .i64 x1, .bool x2] 36))
                    obtain ⟨D, hD, hC⟩ := HKA.out.own
                    have HC := Aside0.mk hC
                    have hkey := keyOf_int_mk Try.underlying3 (wf_of (show 0 ≤ x1 by omega) (show x1 ≤ 1099511627776 by omega))
                    clear hokl hK hC
                    go_wp2_with (first
                      | (at_lookup; refine wpList_lookup_own_int _ rfl _ _ 55 rfl 3 3 .i64 key3 Try.underlying55 Try.underlying3 (zero3 _) (w.heap.size + 1) k D rfl hD _ _ rfl hkey ?_; intro cc hat _; obtain rfl : ((cnt (l.take k) x1 : Nat) : Int) = cc := (by rw [HC.out.at_] at hat; injection hat with hat; injection hat); have hcn := cnt_len (l.take k) x1; have hcn2 : cnt (l.take k) x1 ≤ 2000 := (by rw [List.length_take] at hcn; omega); clear hat hcn)
                      | (at_mapUpdate; refine wpList_mapUpdate_own _ rfl _ _ _ 55 rfl 3 3 key3 Try.underlying55 _ (w.heap.size + 1) k D rfl hD (by unfold maxLen; omega) _ _ _ rfl rfl hkey (.lit (.int .i64 ((cnt (l.take k) x1 : Int) + 1))) [] (plainElem_int Try.underlying3 (wf_of (by omega) (by omega))) ?_; intro w1 hown1 hgrow1)
                      | (go_at_call 34; refine (inRange_any x0 _).mono ?_; rintro e w2 ⟨rfl, rfl⟩; rw [g1]))
                    go_roundw
                    case rel =>
                      refine ⟨k + 1, by omega, by rw [HLA.out], by go_num, ⟨?_⟩⟩
                      exact HKA.out.next HX.out HOK.out hown1 hgrow1 HC.out
                    case measure => simp [intOf]; omega
        · obtain rfl : k = l.length := by omega
          have hltz : ¬ ((l.length : Int) < (l.length : Int)) := by omega
          obtain ⟨D, hD, hC⟩ := hK.out.own
          rw [List.take_length] at hC
          have hsc : scan nx (-1) l = true := scan_true nx l (-1) fun q x hq => by
            have := hK.out.ok q x (List.getElem?_eq_some_iff.1 hq).1 hq
            exact this
          have HSC := Aside0.mk (And.intro hsc (And.intro h1 h2))
          have HC := Aside0.mk hC
          have HK := Aside0.mk hK.out
          clear hsc hC hK HR
          go_wp2_with (first
            | (at_range; refine wpList_range_own _ rfl _ 55 rfl 3 3 key3 Try.underlying55 _ (w.heap.size + 1) l.length D rfl hD ?_; intro w0 hrg0 hg0 hs0)
            | go_in)
          have hR0 : RI w A c l nx D wr.heap.size (Maps.has D) (Maps.size D) w0 := RI.start HK.out hrg0 hg0
          clear hrg0 hg0 hs0 kb0 kb1 hbl hD
          have HR0 := Aside0.mk hR0
          clear hR0
          generalize wr.heap.size = r at *
          go_loopw [7, 8] (fun _ _ w2 => ∃ (left : Lit → Bool) (m : Nat), Aside0 (RI w A c l nx D r left m w2)) (fun _ _ w2 => w2.rangeLeft (w.heap.size + 1) r)
          case atStart => exact ⟨_, _, HR0⟩
          case round =>
            obtain ⟨left, m, hI⟩ := hrel
            clear HR0
            have hrg := hI.out.rg
            have hlen1 : decide ((1024 : Int) < (l.length : Int)) = decide (1024 < l.length) := by
              by_cases h : 1024 < l.length
              · simp [h]; omega
              · simp [h]; omega
            have kb0 : wr.cell? ⟨w.heap.size, 0, none⟩ = some (.slice A l.length c) := (blk_cell hI.out.box 0).trans rfl
            have hm0 := hrg.left_eq
            go_wp2_with (first
              | (at_next; refine wpList_next_ranges_ii _ rfl _ rfl 3 3 .i64 .i64 key3 Try.underlying3 Try.underlying3 (w.heap.size + 1) r l.length _ _ _ rfl hrg ?_ ?_)
              | go_in)
            · intro _ hl0
              have hlo : lone l = false := lone_not fun x hx => hI.out.ok x (by rw [HC.out.hs]; simpa using hx) (hl0 _)
              by_cases h4 : 1024 < l.length
              · have h4' : (1024 : Int) < (l.length : Int) := by omega
                have HE := Aside0.mk (show checkE l nx = 2 by unfold checkE; rw [if_neg (by have := HSC.out.2; omega), HSC.out.1, hlo]; simp [h4])
                clear hlen1
                go_wp2
                go_ret
                exact ⟨by rw [HE.out]; rfl, hI.out.b⟩
              · have h4' : ¬ (1024 : Int) < (l.length : Int) := by omega
                have HE := Aside0.mk (show checkE l nx = 0 by unfold checkE; rw [if_neg (by have := HSC.out.2; omega), HSC.out.1, hlo]; simp [h4])
                clear hlen1
                go_wp2
                go_ret
                exact ⟨by rw [HE.out]; rfl, hI.out.b⟩
            · intro x cc w1 m1 hwx hwc hlx hat hrg1 hlt hg1 hs1 hen
              have hI1 : RI w A c l nx D r (fun z => left z && !z.sameKey (.int .i64 x)) m1 w1 ∨ (0 < x ∧ cnt l x < 2) := by
                by_cases hb : 0 < x ∧ cnt l x < 2
                · exact .inr hb
                · refine .inl ⟨hrg1, (hg1.block _ (blk_lt hI.out.box) (by have := hI.out.r; simp; omega)).trans hI.out.box, hI.out.b.grown hg1 hI.out.b.size (fun j hj => by cases hj; have := hI.out.r; omega), hI.out.r, fun y e1 e2 => ?_⟩
                  by_cases e : left (.int .i64 y) = false
                  · exact hI.out.ok y e1 e
                  · have e3 : (Lit.int .i64 y).sameKey (.int .i64 x) = true := by
                      have e4 : left (.int .i64 y) = true := by simpa using e
                      rw [e4] at e2
                      simpa using e2
                    have := WideAt.sameKey_eq e3
                    injection this with _ this
                    subst this
                    exact hb
              have hbw : Below w.heap.size w w1 := hI.out.b.grown hg1 hI.out.b.size (fun j hj => by cases hj; have := hI.out.r; omega)
              have hm1 := hrg1.left_eq
              obtain ⟨rfl, hcp⟩ := HC.out.val hat
              have HB := Aside0.mk hbw
              have HJ := Aside0.mk hI1
              clear hI1 hbw hat hwc hrg1 hg1
              by_cases hx0 : 0 < x
              · by_cases hc2 : cnt l x < 2
                · have hc2' : ((cnt l x : Nat) : Int) < 2 := by omega
                  have HE := Aside0.mk (show checkE l nx = 1 by unfold checkE; rw [if_neg (by have := HSC.out.2; omega), HSC.out.1, lone_of hx0 hc2 hcp]; simp)
                  go_wp2
                  go_ret
                  exact ⟨by rw [HE.out]; rfl, HB.out⟩
                · have hc2' : ¬ ((cnt l x : Nat) : Int) < 2 := by omega
                  go_wp2
                  go_roundw
                  case rel => exact ⟨_, m1, ⟨HJ.out.resolve_right (fun h => hc2 h.2)⟩⟩
                  case measure => rw [hm1, hm0]; exact hlt
              · go_wp2
                go_roundw
                case rel => exact ⟨_, m1, ⟨HJ.out.resolve_right (fun h => hx0 h.1)⟩⟩
                case measure => rw [hm1, hm0]; exact hlt
end Go.Proofs.Ytmjenmhidnkbdaa.P
