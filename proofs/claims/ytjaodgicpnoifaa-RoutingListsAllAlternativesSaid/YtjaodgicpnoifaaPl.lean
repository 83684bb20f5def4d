/- Several texts in one. -/
import Derived.Test.YtjaodgicpnoifaaPn
import Derived.Test.YtjaodgicpnoifaaPf
/- Without: the links that do not touch an exchange; distances in what is left. -/
namespace Go.Proofs.Ytjaodgicpnoifaa.P
open Go.RowKit Go.Shelf Go.Proofs.YtjaodgicpnoifaaW.PrintWords Go.Proofs.YtjaodgicpnoifaaW.PrintLast Go.Proofs.YtjaodgicpnoifaaW.PrintMore
set_option linter.unusedVariables false
set_option linter.unusedSimpArgs false

/-- The links left. -/
def wout (sf : Int) (l : List (List Int)) : List (List Int) := l.filter (fun z => !decide (rd z 0 = sf) && !decide (rd z 1 = sf))
theorem wout_take (sf : Int) (l : List (List Int)) {j : Nat} (hj : j < l.length) : wout sf (l.take (j + 1)) = wout sf (l.take j) ++ (if rd l[j] 0 = sf then [] else if rd l[j] 1 = sf then [] else [l[j]]) := by
  unfold wout
  rw [List.take_add_one, List.getElem?_eq_getElem hj, List.filter_append]
  congr 1
  simp only [Option.toList_some, List.filter_cons, List.filter_nil]
  by_cases h0 : rd l[j] 0 = sf
  · simp [h0]
  · by_cases h1 : rd l[j] 1 = sf
    · simp [h0, h1]
    · simp [h0, h1]
/-- A slice as its three numbers. -/
def kSl : Kd (Option Addr × Nat × Nat) := Kd.scalar (fun p => .slice p.1 p.2.1 p.2.2) (fun _ => rfl)
/-- The slices xs read as the lists zs. -/
def Rds (w : World) (xs : List (Option Addr × Nat × Nat)) (zs : List (List Int)) : Prop := xs.length = zs.length ∧ ∀ (i : Nat) (p : Option Addr × Nat × Nat) (z : List Int), xs[i]? = some p → zs[i]? = some z → p.2.1 = z.length ∧ z.length ≤ p.2.2 ∧ Kd.C (Kd.int .i64) w p.1 z.length z
theorem Rds.snoc {w : World} {xs : List (Option Addr × Nat × Nat)} {zs : List (List Int)} (h : Rds w xs zs) {A : Option Addr} {c : Nat} {z : List Int} (hc : z.length ≤ c) (hC : Kd.C (Kd.int .i64) w A z.length z) : Rds w (xs ++ [(A, z.length, c)]) (zs ++ [z]) := by
  refine ⟨by simp [h.1], fun i p y hp hy => ?_⟩
  by_cases hi : i < xs.length
  · rw [List.getElem?_append_left hi] at hp
    rw [List.getElem?_append_left (by rw [← h.1]; exact hi)] at hy
    exact h.2 i p y hp hy
  · have hil : i < (xs ++ [(A, z.length, c)]).length := (List.getElem?_eq_some_iff.1 hp).1
    have hi2 : i = xs.length := by simp at hil; omega
    subst hi2
    rw [List.getElem?_append_right (Nat.le_refl _)] at hp
    rw [List.getElem?_append_right (by rw [h.1]; exact Nat.le_refl _), h.1] at hy
    simp at hp hy
    subst hp hy
    exact ⟨rfl, hc, hC⟩
theorem Rds.C {w W : World} {A : Option Addr} {xs : List (Option Addr × Nat × Nat)} {zs : List (List Int)} (h : Rds w xs zs) (hb : Below w.heap.size w W) (hC : kSl.C W A xs.length xs) : Kd.C (Kd.slice 3 (Kd.int .i64)) W A zs.length zs := by
  obtain ⟨h1, h2, h3⟩ := hC
  refine ⟨rfl, by rw [← h.1]; exact h2, fun hn => ?_⟩
  obtain ⟨ad, rfl, hc⟩ := h3 (by rw [h.1]; exact hn)
  refine ⟨ad, rfl, fun j z hz => ?_⟩
  have hj : j < xs.length := by rw [h.1]; exact (List.getElem?_eq_some_iff.1 hz).1
  obtain ⟨cs, e1, e2, e3⟩ := hc j _ (List.getElem?_eq_getElem hj)
  obtain ⟨a, b, c⟩ := h.2 j _ z (List.getElem?_eq_getElem hj) hz
  have e2' : cs = [.slice xs[j].1 xs[j].2.1 xs[j].2.2] := e2
  refine ⟨cs, by rw [e2']; rfl, ⟨xs[j].1, xs[j].2.2, by rw [e2', a], b, Kd.C_below c hb⟩, e3⟩

set_option maxRecDepth 100000 in
set_option maxHeartbeats 4000000 in
theorem without_any (A : Option Addr) (c : Nat) (l : List (List Int)) (sf : Int) (w : World) (hr : Kd.C (Kd.slice 3 (Kd.int .i64)) w A l.length l) (hlen : l.length ≤ 1000) (h2 : ∀ z ∈ l, z.length = 2) :
    Calls Try.prog 26 #[.slice A l.length c, .int .i64 sf] w fun e w' => ∃ A' c', e = .returned (.slice A' (wout sf l).length c') ∧ Kd.C (Kd.slice 3 (Kd.int .i64)) w' A' (wout sf l).length (wout sf l) ∧ (wout sf l).length ≤ c' ∧ Below w.heap.size w w' := by
  have HR := Aside0.mk hr
  clear hr
  go_enter Try.func26, Try.ntmps26
  go_wp2_with fail
  go_loopw [5, 6] (fun s5 s6 wr => ∃ (j : Nat) (xs : List (Option Addr × Nat × Nat)), j ≤ l.length ∧ s6 = .int .i64 (j : Int) ∧ Aside0 (kSl.R 23 wr w.heap.size (fun _ => True) s5 xs) ∧ Aside0 (Below w.heap.size w wr) ∧ Aside0 (Rds w xs (wout sf (l.take j))) ∧ xs.length ≤ 1000) (fun _ s6 _ => ((l.length : Int) - intOf s6).toNat)
  case atStart => exact ⟨0, [], by omega, rfl, ⟨Kd.R_nil _ _ _ _ _⟩, ⟨Below.refl _ _⟩, ⟨rfl, by simp⟩, by simp⟩
  case round =>
    obtain ⟨j, xs, hj, rfl, HX, HB, HD, hxl⟩ := hrel
    by_cases hjl : j < l.length
    · have hjz : (j : Int) < (l.length : Int) := by omega
      have hj0 : (0 : Int) ≤ (j : Int) := by omega
      obtain ⟨al, Az, cz, eA, y0, hlz, hCz⟩ := at_L1 HR.out (j : Int) hj0 hjz
      subst eA
      have y1 := (HB.out.cell (World.block_lt_of_cell? w _ y0)).trans y0
      clear y0
      simp only [Int.toNat_natCast] at y1
      have hrd : rd_L1 l (j : Int) = l[j] := by simp [rd_L1, hjl]
      rw [hrd] at y1 hlz hCz
      have hz2 := h2 _ (List.getElem_mem hjl)
      have htk := wout_take sf l hjl
      have hdl := HD.out.1
      have hwl : (wout sf (l.take j)).length ≤ j := by
        unfold wout
        exact Nat.le_trans (List.length_filter_le _ _) (by rw [List.length_take]; omega)
      generalize l[j] = z at y1 hlz hCz hz2 htk
      obtain ⟨az, eA, p0⟩ := Kd.at_int hCz 0 (by omega) (by omega)
      obtain ⟨az', eA', p1⟩ := Kd.at_int hCz 1 (by omega) (by omega)
      subst eA
      injection eA' with eA'
      subst eA'
      have la := World.block_lt_of_cell? w _ p0
      have q0 : wr.cell? az = some (.int .i64 (rd z 0)) := by
        have := (HB.out.cell la).trans p0
        simpa [Addr.add] using this
      have q1 : wr.cell? ⟨az.block, az.off + 1, none⟩ = some (.int .i64 (rd z 1)) := by
        have := (HB.out.cell (World.block_lt_of_cell? w _ p1)).trans p1
        simpa [Addr.add] using this
      have HC := Aside0.mk hCz
      have HLc := Aside0.mk hlz
      have HT := Aside0.mk htk
      rw [hz2] at y1
      clear p0 p1 la hCz hlz htk
      generalize hx0 : rd z 0 = x0 at q0 HT
      generalize hx1 : rd z 1 = x1 at q1 HT
      by_cases e0 : x0 = sf
      · have HD2 : Aside0 (Rds w xs (wout sf (l.take (j + 1)))) := ⟨by rw [HT.out, if_pos e0, List.append_nil]; exact HD.out⟩
        subst e0
        go_wp2_with fail
        go_roundw
        case rel => exact ⟨j + 1, xs, by omega, by go_num, HX, HB, HD2, hxl⟩
        case measure => simp [intOf]; omega
      have e0' : (x0 == sf) = false := by simpa using e0
      by_cases e1 : x1 = sf
      · have HD2 : Aside0 (Rds w xs (wout sf (l.take (j + 1)))) := ⟨by rw [HT.out, if_neg e0, if_pos e1, List.append_nil]; exact HD.out⟩
        subst e1
        go_wp2_with fail
        go_roundw
        case rel => exact ⟨j + 1, xs, by omega, by go_num, HX, HB, HD2, hxl⟩
        case measure => simp [intOf]; omega
      have e1' : (x1 == sf) = false := by simpa using e1
      have e0n : (x0 != sf) = true := by simpa using e0
      have e1n : (x1 != sf) = true := by simpa using e1
      have HD2 : Aside0 (Rds w (xs ++ [(some az, 2, cz)]) (wout sf (l.take (j + 1)))) := ⟨by
        rw [HT.out, if_neg e0, if_neg e1]
        have := HD.out.snoc HLc.out HC.out
        rw [hz2] at this
        exact this⟩
      have HL := Aside0.mk (show (xs.length + 1) * 24 ≤ 140737488355328 by omega)
      go_wp2_with ((with_reducible refine gate_builtin (b := .append) (xs := #[.tmp 31, .tmp 36]) rfl ?_); at_builtin; refine Kd.R_append kSl (w0 := w) w.heap.size rfl (.tmp 31) (.tmp 36) 22 23 (.slice none 0 0) 24 rfl Try.underlying22 info23 rfl (by decide) (by omega) _ xs (some az, 2, cz) [.slice (some az) 2 cz] (fun _ => True) (fun _ => False) rfl (by first | rfl | (simp [Act.eval]; done) | (simp [Act.eval, go_sem]; done)) rfl (fun _ hk => hk.elim) (fun _ _ => trivial) HX.out HB.out HB.out.size HL.out ?_; intro v1 w5 ho hb hg hat; have HX2 := Aside0.mk ho; have HB2 := Aside0.mk hb; clear ho hb hg hat)
      go_roundw
      case rel => exact ⟨j + 1, xs ++ [(some az, 2, cz)], by omega, by go_num, HX2, HB2, HD2, by rw [List.length_append]; simp only [List.length_singleton]; omega⟩
      case measure => simp [intOf]; omega
    · obtain rfl : j = l.length := by omega
      obtain ⟨Ax, cx, rfl, hlx, hCx⟩ := Kd.R_reads HX.out
      have hD := HD.out
      rw [List.take_of_length_le (Nat.le_refl _)] at hD
      have hC := hD.C HB.out hCx
      have HF := Aside0.mk (And.intro hC hD.1)
      have HLx := Aside0.mk hlx
      clear hC hD hCx hlx
      go_wp2_with fail
      go_ret
      exact ⟨Ax, cx, by first | rfl | (rw [← HF.out.2]; rfl), HF.out.1, by have := HF.out.2; have := HLx.out; omega, HB.out⟩

theorem wout_len (sf : Int) (l : List (List Int)) : (wout sf l).length ≤ l.length := List.length_filter_le _ _
theorem rdStep_mk {n : Int} {F : Nat → Bool} {X Y : Nat} (hX : (X : Int) < n) (hY : (Y : Int) < n) (hne : X ≠ Y) (hf : F (X * 6 + Y) = false) : rdStep n F [(X : Int), (Y : Int)] = some (upd (upd F (X * 6 + Y) true) (Y * 6 + X) true) := by
  have h1 : hasF n (X : Int) = true := by unfold hasF; simp; omega
  have h2 : hasF n (Y : Int) = true := by unfold hasF; simp; omega
  simp only [rdStep]
  rw [if_neg (by omega), if_neg (by rw [h1]; simp), if_neg (by rw [h2]; simp), if_neg (by simp only [Int.toNat_natCast]; rw [hf]; simp)]
  simp only [Int.toNat_natCast]
/-- What is left of the matrix. -/
def cutM (sf : Int) (F G : Nat → Bool) : Prop := ∀ x y, x < 6 → y < 6 → (G (x * 6 + y) = true ↔ F (x * 6 + y) = true ∧ (x : Int) ≠ sf ∧ (y : Int) ≠ sf)
theorem readR_wout {n : Int} (h6 : n ≤ 6) (sf : Int) : ∀ (l : List (List Int)) (F G F' : Nat → Bool), cutM sf F F' → readR n F l = some G → ∃ G', readR n F' (wout sf l) = some G' ∧ cutM sf G G' := by
  intro l
  induction l with
  | nil => intro F G F' hc hr; simp only [readR] at hr; injection hr with hr; subst hr; exact ⟨F', rfl, hc⟩
  | cons z l ih =>
    intro F G F' hc hr
    simp only [readR] at hr
    split at hr
    · cases hr
    · rename_i F1 h1
      obtain ⟨X, Y, rfl, hX, hY, hne, hf, hF1⟩ := rdStep_spec h1 h6
      have r0 : rd [(X : Int), (Y : Int)] 0 = (X : Int) := rfl
      have r1 : rd [(X : Int), (Y : Int)] 1 = (Y : Int) := rfl
      by_cases ht : (X : Int) = sf ∨ (Y : Int) = sf
      · have hw : wout sf ([(X : Int), (Y : Int)] :: l) = wout sf l := by
          unfold wout
          rw [List.filter_cons, if_neg]
          rw [r0, r1]
          rcases ht with e | e <;> simp [e]
        rw [hw]
        refine ih F1 G F' (fun x y hx hy => ?_) hr
        rw [hc x y hx hy, hF1]
        unfold upd
        by_cases e1 : x * 6 + y = Y * 6 + X
        · obtain ⟨rfl, rfl⟩ := idx_inj hy (by omega) e1
          rw [if_pos rfl]
          constructor
          · rintro ⟨_, a, b⟩; rcases ht with e | e <;> omega
          · rintro ⟨_, a, b⟩; rcases ht with e | e <;> omega
        · rw [if_neg e1]
          by_cases e2 : x * 6 + y = X * 6 + Y
          · obtain ⟨rfl, rfl⟩ := idx_inj hy (by omega) e2
            rw [if_pos rfl]
            constructor
            · rintro ⟨_, a, b⟩; rcases ht with e | e <;> omega
            · rintro ⟨_, a, b⟩; rcases ht with e | e <;> omega
          · rw [if_neg e2]
      · have hXs : (X : Int) ≠ sf := fun e => ht (.inl e)
        have hYs : (Y : Int) ≠ sf := fun e => ht (.inr e)
        have hw : wout sf ([(X : Int), (Y : Int)] :: l) = [(X : Int), (Y : Int)] :: wout sf l := by
          unfold wout
          rw [List.filter_cons, if_pos]
          rw [r0, r1]
          simp [hXs, hYs]
        have hf' : F' (X * 6 + Y) = false := by
          cases e : F' (X * 6 + Y) with
          | false => rfl
          | true => have := ((hc X Y (by omega) (by omega)).1 e).1; rw [hf] at this; cases this
        rw [hw]
        simp only [readR]
        rw [rdStep_mk hX hY hne hf']
        refine ih F1 G _ (fun x y hx hy => ?_) hr
        rw [hF1]
        unfold upd
        by_cases e1 : x * 6 + y = Y * 6 + X
        · obtain ⟨rfl, rfl⟩ := idx_inj hy (by omega) e1
          rw [if_pos rfl, if_pos rfl]
          exact ⟨fun _ => ⟨rfl, hYs, hXs⟩, fun _ => rfl⟩
        · rw [if_neg e1, if_neg e1]
          by_cases e2 : x * 6 + y = X * 6 + Y
          · obtain ⟨rfl, rfl⟩ := idx_inj hy (by omega) e2
            rw [if_pos rfl, if_pos rfl]
            exact ⟨fun _ => ⟨rfl, hXs, hYs⟩, fun _ => rfl⟩
          · rw [if_neg e2, if_neg e2]; exact hc x y hx hy
theorem readF_wout {n : Int} {l : List (List Int)} {F : Nat → Bool} (h : readF n l = some F) (sf : Int) : ∃ G, readF n (wout sf l) = some G ∧ cutM sf F G := by
  obtain ⟨h1, h6, _⟩ := readF_ok h
  unfold readF at h ⊢
  rw [if_neg (by omega), if_neg (by omega)] at h ⊢
  exact readR_wout h6 sf l _ _ _ (fun x y _ _ => by simp) h
/-- Distances that bar an exchange are those without its links. -/
theorem dist_cut {N : Nat} (h6 : N ≤ 6) {F G : Nat → Bool} (hF : ∀ x y, x < 6 → y < 6 → F (x * 6 + y) = true → y < N) (hG : ∀ x y, x < 6 → y < 6 → G (x * 6 + y) = true → y < N) {a : Nat} (hc : cutM (a : Int) F G) {ts tt : List Int} (hts : ∀ t ∈ ts, 0 ≤ t ∧ t < N) (htt : ∀ t ∈ tt, 0 ≤ t ∧ t < N)
    (he : ∀ y : Nat, (y : Int) ∈ tt ↔ (y : Int) ∈ ts ∧ (y : Int) ≠ (a : Int)) : distF N G (-1) tt = distF N F (a : Int) ts := by
  have hA := distF_met (av := (a : Int)) h6 hF hts
  have hB := distF_met (av := -1) h6 hG htt
  refine hB.uniq (T := Tgt (-1) tt) ⟨hA.len, hA.neg, fun y hy => ?_, fun x y hx h0 hE => ?_, fun y hy h0 => ?_⟩ hG
  · rw [hA.zero y hy]
    unfold Tgt
    rw [he y]
    exact ⟨fun h => ⟨h, by omega⟩, fun h => h.1⟩
  · have := (hc x y hE.1 hE.2.1).1 hE.2.2.1
    exact hA.step x y hx h0 ⟨hE.1, hE.2.1, this.1, this.2.2⟩
  · obtain ⟨x, hx, hE, hr⟩ := hA.back y hy h0
    have hxa : (x : Int) ≠ (a : Int) := by
      intro e
      have e2 : x = a := by omega
      subst e2
      have h1 : rd (distF N F (x : Int) ts) (x : Int) ≠ 0 := fun h => ((hA.zero x hx).1 h).2 rfl
      have h2 : ¬ 0 < rd (distF N F (x : Int) ts) (x : Int) := fun h => by
        obtain ⟨z, _, hz, _⟩ := hA.back x hx h
        exact hz.2.2.2 rfl
      omega
    exact ⟨x, hx, ⟨hE.1, hE.2.1, (hc x y hE.1 hE.2.1).2 ⟨hE.2.2.1, hxa, hE.2.2.2⟩, by omega⟩, hr⟩
end Go.Proofs.Ytjaodgicpnoifaa.P

/- What RoutingListsAllAlternatives asks of a built table, as plain Lean. -/
namespace Go.Proofs.Ytjaodgicpnoifaa.P
open Go.RowKit Go.Shelf Go.Proofs.YtjaodgicpnoifaaW.PrintWords Go.Proofs.YtjaodgicpnoifaaW.PrintLast Go.Proofs.YtjaodgicpnoifaaW.PrintMore
set_option linter.unusedVariables false
set_option linter.unusedSimpArgs false

theorem build_cases (n : Int) (l : List (List Int)) (sf : Int) (cs : List Int) : buildF n l sf cs = ([], [], 1) ∨ ∃ (N S : Nat) (F : Nat → Bool), n = (N : Int) ∧ sf = (S : Int) ∧ S < N ∧ N ≤ 6 ∧ readF (N : Int) l = some F ∧ (∀ x y, x < 6 → y < 6 → F (x * 6 + y) = true → y < N) ∧ (∀ x ∈ cs, 0 ≤ x ∧ x < (N : Int)) ∧ buildF n l sf cs = (pfx F S N, rtsF N F (S : Int) (pfx F S N) cs N, 0) := by
  cases h : readF n l with
  | none => left; unfold buildF; rw [h]
  | some F =>
    obtain ⟨h1, h6, hlt⟩ := readF_ok h
    by_cases hs : hasF n sf = false
    · left; unfold buildF; rw [h]; simp only [hs, if_true]
    by_cases hc : cs.all (hasF n) = false
    · left; unfold buildF; rw [h]; simp [hc]
    right
    replace hs : hasF n sf = true := by simpa using hs
    replace hc : cs.all (hasF n) = true := by simpa using hc
    have hs2 := hs
    simp only [hasF, Bool.and_eq_true, decide_eq_true_eq] at hs2
    obtain ⟨N, rfl⟩ : ∃ N : Nat, n = (N : Int) := ⟨n.toNat, by omega⟩
    obtain ⟨S, rfl⟩ : ∃ S : Nat, sf = (S : Int) := ⟨sf.toNat, by omega⟩
    refine ⟨N, S, F, rfl, rfl, by omega, by omega, h, fun x y hx hy hf => by have := hlt x y hx hy hf; omega, fun x hx => ?_, ?_⟩
    · have := List.all_eq_true.1 hc x hx
      simpa only [hasF, Bool.and_eq_true, decide_eq_true_eq] using this
    · unfold buildF; rw [h]; simp only [hs, hc, Int.toNat_natCast]; rfl
section
variable {N S : Nat} {F : Nat → Bool} {ps cs : List Int}
theorem others_len (S : Nat) : ∀ X : Nat, ((List.range X).filter (fun x : Nat => !decide ((x : Int) = (S : Int)))).length = if S < X then X - 1 else X := by
  intro X
  induction X with
  | zero => simp
  | succ X ih =>
    rw [List.range_succ, List.filter_append, List.length_append, ih]
    by_cases e : X = S
    · subst e; simp
    · have hd : (!decide ((X : Int) = (S : Int))) = true := by simp; omega
      rw [List.filter_cons, if_pos hd]
      simp only [List.filter_nil, List.length_singleton]
      by_cases h : S < X
      · rw [if_pos h, if_pos (by omega)]; omega
      · rw [if_neg h, if_neg (by omega)]
theorem rts_len (hS : S < N) : (rtsF N F (S : Int) ps cs N).length = N := by
  unfold rtsF
  rw [List.length_cons, List.length_map, others_len, if_pos hS]; omega
/-- The route of number i. -/
theorem rts_nth (hS : S < N) {i : Nat} (hi : i < N) : ∃ (t : Int) (ts : List Int), rd_T47 (rtsF N F (S : Int) ps cs N) (i : Int) = routeF N F (S : Int) ps t ts ∧ ((i = 0 ∧ t = -1 ∧ ts = cs) ∨ (0 < i ∧ 0 ≤ t ∧ t < (N : Int) ∧ t ≠ (S : Int) ∧ ts = [t])) := by
  have hil : i < (rtsF N F (S : Int) ps cs N).length := by rw [rts_len hS]; exact hi
  have hz := rd47_at _ i hil
  cases i with
  | zero =>
    refine ⟨-1, cs, ?_, .inl ⟨rfl, rfl, rfl⟩⟩
    unfold rtsF at hz ⊢
    simp only [List.getElem?_cons_zero, Option.some.injEq] at hz
    exact hz.symm
  | succ i =>
    generalize rd_T47 (rtsF N F (S : Int) ps cs N) ((i + 1 : Nat) : Int) = z at hz ⊢
    have hz2 : z ∈ ((List.range N).filter (fun x : Nat => !decide ((x : Int) = (S : Int)))).map (fun x : Nat => routeF N F (S : Int) ps (x : Int) [(x : Int)]) := by
      unfold rtsF at hz
      rw [List.getElem?_cons_succ] at hz
      exact List.mem_iff_getElem?.2 ⟨i, hz⟩
    obtain ⟨x, hx, rfl⟩ := List.mem_map.1 hz2
    rw [List.mem_filter, List.mem_range] at hx
    exact ⟨(x : Int), [(x : Int)], rfl, .inr ⟨by omega, by omega, by omega, by simpa using hx.2, rfl⟩⟩
theorem ch_mem {D : List Int} {c : S49} (h : c ∈ srt S49.f1 (chsF D 0 ps)) : ∃ k, ∃ h : k < ps.length, c = ⟨(k : Int), 1 + rd D ps[k], 1 + rd D ps[k]⟩ ∧ 0 ≤ rd D ps[k] := by
  obtain ⟨i, hi, e, h0⟩ := chsF_mem ((srt_perm _ _).mem_iff.1 h)
  exact ⟨i, hi, by rw [e, Nat.zero_add], h0⟩
theorem ch_has {D : List Int} {k : Nat} (hk : k < ps.length) : (k : Int) ∈ (srt S49.f1 (chsF D 0 ps)).map S49.f0 ↔ 0 ≤ rd D ps[k] := by
  rw [List.mem_map]
  constructor
  · rintro ⟨c, hc, e⟩
    obtain ⟨i, hi, e2, h0⟩ := ch_mem hc
    rw [e2] at e
    have : i = k := by simp only at e; omega
    subst this; exact h0
  · intro h0
    have := chsF_in (k := 0) hk h0
    rw [Nat.zero_add] at this
    exact ⟨_, (srt_perm _ _).mem_iff.2 this, rfl⟩
/-- Check with as many groups as there are peers. -/
theorem okChs_ofg (g : Int) : ∀ (C : List S49) (F : Nat → Bool), (∀ c ∈ C, 0 ≤ c.f0 ∧ c.f0 < g ∧ F c.f0.toNat = false ∧ 0 ≤ c.f1 ∧ c.f1 ≤ 1000 ∧ 0 ≤ c.f2 ∧ c.f2 ≤ 1000) → (C.map S49.f0).Nodup → okChs g F C = true := by
  intro C
  induction C with
  | nil => intro F _ _; rfl
  | cons c C ih =>
    intro F h hn
    rw [List.map_cons, List.nodup_cons] at hn
    obtain ⟨h0, h1, h2, h3, h4, h5, h6⟩ := h c (by simp)
    simp only [okChs, Bool.and_eq_true]
    refine ⟨?_, ih _ (fun x hx => ?_) hn.2⟩
    · unfold okCh
      simp only [Bool.and_eq_true, decide_eq_true_eq, Bool.not_eq_true']
      refine ⟨⟨⟨⟨h0, h1⟩, h2⟩, ?_⟩, ?_⟩ <;> (split <;> omega)
    · obtain ⟨g0, g1, g2, g3, g4, g5, g6⟩ := h x (List.mem_cons_of_mem _ hx)
      have hne : x.f0 ≠ c.f0 := fun e => hn.1 (List.mem_map.2 ⟨x, hx, e⟩)
      refine ⟨g0, g1, ?_, g3, g4, g5, g6⟩
      unfold upd
      rw [if_neg (by omega)]
      exact g2
theorem okRt_ofg (g : Int) : ∀ (l : List S47) (last : Int), (∀ z ∈ l, last < z.f0 ∧ z.f0 < 6 ∧ okChs g (fun _ => false) z.f1 = true) → l.Pairwise (fun a b => a.f0 < b.f0) → okRt g last l = true := by
  intro l
  induction l with
  | nil => intro last _ _; rfl
  | cons z l ih =>
    intro last h hp
    obtain ⟨h1, h2, h3⟩ := h z (by simp)
    obtain ⟨p1, p2⟩ := List.pairwise_cons.1 hp
    simp only [okRt, Bool.and_eq_true, decide_eq_true_eq]
    refine ⟨⟨⟨h1, h2⟩, h3⟩, ih z.f0 (fun x hx => ?_) p2⟩
    obtain ⟨_, g2, g3⟩ := h x (List.mem_cons_of_mem _ hx)
    exact ⟨p1 x hx, g2, g3⟩
theorem rts_chkg (h6 : N ≤ 6) (hF : ∀ x y, x < 6 → y < 6 → F (x * 6 + y) = true → y < N) (hpl : ps.length ≤ 6) (hcs : ∀ x ∈ cs, 0 ≤ x ∧ x < N) : chkF (rtsF N F (S : Int) ps cs N) (ps.length : Int) = 0 := by
  have hro : ∀ (t : Int) (ts : List Int), (∀ x ∈ ts, 0 ≤ x ∧ x < (N : Int)) → okChs (ps.length : Int) (fun _ => false) (routeF N F (S : Int) ps t ts).f1 = true := by
    intro t ts hts
    have hp := srt_perm S49.f1 (chsF (distF N F (S : Int) ts) 0 ps)
    have hb := (distF_bd (av := (S : Int)) h6 hF hts).2
    refine okChs_ofg _ _ _ (fun c hc => ?_) ((List.Perm.map S49.f0 hp).nodup_iff.2 (chsF_nodup _ _ _))
    obtain ⟨k, hk, e, h0⟩ := ch_mem hc
    have := hb ps[k]
    rw [e]
    refine ⟨?_, ?_, rfl, ?_, ?_, ?_, ?_⟩
    · show (0 : Int) ≤ (k : Int); omega
    · show (k : Int) < (ps.length : Int); omega
    · show 0 ≤ 1 + rd (distF N F (S : Int) ts) ps[k]; omega
    · show 1 + rd (distF N F (S : Int) ts) ps[k] ≤ 1000; omega
    · show 0 ≤ 1 + rd (distF N F (S : Int) ts) ps[k]; omega
    · show 1 + rd (distF N F (S : Int) ts) ps[k] ≤ 1000; omega
  unfold chkF
  rw [if_neg (by omega), if_pos]
  refine okRt_ofg _ _ _ (fun z hz => ?_) ?_
  · rcases rts_mem hz with rfl | ⟨x, hx, hne, rfl⟩
    · exact ⟨by show (-2 : Int) < -1; omega, by show (-1 : Int) < 6; omega, hro _ _ hcs⟩
    · exact ⟨by show (-2 : Int) < (x : Int); omega, by show (x : Int) < 6; omega, hro _ _ (fun y hy => by obtain rfl := List.mem_singleton.1 hy; omega)⟩
  · unfold rtsF
    refine List.pairwise_cons.2 ⟨fun z hz => ?_, ?_⟩
    · obtain ⟨x, _, rfl⟩ := List.mem_map.1 hz
      show (-1 : Int) < (x : Int); omega
    · rw [List.pairwise_map]
      refine (List.Pairwise.filter _ List.pairwise_lt_range).imp (fun {a b} h => ?_)
      show (a : Int) < (b : Int); omega
end
/-- The targets that are not the exchange itself. -/
def tfil (S : Int) (cs : List Int) : List Int := cs.filter (fun x => !decide (x = S))
theorem tfil_take (S : Int) (cs : List Int) {j : Nat} (hj : j < cs.length) : tfil S (cs.take (j + 1)) = tfil S (cs.take j) ++ (if cs[j] = S then [] else [cs[j]]) := by
  unfold tfil
  rw [List.take_add_one, List.getElem?_eq_getElem hj, List.filter_append]
  congr 1
  by_cases h0 : cs[j] = S <;> simp [h0]
theorem tfil_mem {S : Int} {cs : List Int} {y : Int} : y ∈ tfil S cs ↔ y ∈ cs ∧ y ≠ S := by
  unfold tfil; rw [List.mem_filter]; simp
end Go.Proofs.Ytjaodgicpnoifaa.P

/- RoutingListsAllAlternatives, walked. -/
namespace Go.Proofs.Ytjaodgicpnoifaa.P
open Go.RowKit Go.Shelf Go.Proofs.YtjaodgicpnoifaaW.PrintWords Go.Proofs.YtjaodgicpnoifaaW.PrintLast Go.Proofs.YtjaodgicpnoifaaW.PrintMore
set_option linter.unusedVariables false
set_option linter.unusedSimpArgs false

/-- What is read of one choice. -/
structure CH (b : Nat) (ap : Addr) (k : Nat) (ad : Addr) (P : Nat) (dv : Int) (W : World) : Prop where
  c0 : W.cell? ⟨b, 0, none⟩ = some (.int .i64 (k : Int))
  c1 : W.cell? ⟨b, 1, none⟩ = some (.int .i64 (1 + dv))
  c2 : W.cell? ⟨b, 2, none⟩ = some (.int .i64 (1 + dv))
  p : W.cell? (ap.add k) = some (.int .i64 (P : Int))
  d : W.cell? (ad.add P) = some (.int .i64 dv)
theorem CH.below {b : Nat} {ap : Addr} {k : Nat} {ad : Addr} {P : Nat} {dv : Int} {W W' : World} (h : CH b ap k ad P dv W) (hb : Below W.heap.size W W') : CH b ap k ad P dv W' :=
  have k : ∀ {p : Addr} {v : Value}, W.cell? p = some v → W'.cell? p = some v := fun {p v} e => (hb.cell (World.block_lt_of_cell? W _ e)).trans e
  ⟨k h.c0, k h.c1, k h.c2, k h.p, k h.d⟩
/-- What is read of one peer. -/
structure PD (p d : Addr) (x y : Int) (W : World) : Prop where
  p : W.cell? p = some (.int .i64 x)
  d : W.cell? d = some (.int .i64 y)
theorem PD.below {p d : Addr} {x y : Int} {W W' : World} (h : PD p d x y W) (hb : Below W.heap.size W W') : PD p d x y W' :=
  have k : ∀ {p : Addr} {v : Value}, W.cell? p = some v → W'.cell? p = some v := fun {p v} e => (hb.cell (World.block_lt_of_cell? W _ e)).trans e
  ⟨k h.p, k h.d⟩
/-- What stays while the routes are looked at. -/
structure LL (w W : World) (rest : List (List Int)) (ps cs : List Int) (rs : List S47) (Aw Ap Ac Ar : Option Addr) : Prop where
  b : Below w.heap.size w W
  l : Kd.C (Kd.slice 3 (Kd.int .i64)) W Aw rest.length rest
  p : Kd.C (Kd.int .i64) W Ap ps.length ps
  c : Kd.C (Kd.int .i64) W Ac cs.length cs
  r : Kd.C k47 W Ar rs.length rs
theorem LL.below {w W W' : World} {rest : List (List Int)} {ps cs : List Int} {rs : List S47} {Aw Ap Ac Ar : Option Addr} (h : LL w W rest ps cs rs Aw Ap Ac Ar) (hb : Below W.heap.size W W') : LL w W' rest ps cs rs Aw Ap Ac Ar :=
  ⟨h.b.trans (hb.mono h.b.size), Kd.C_below h.l hb, Kd.C_below h.p hb, Kd.C_below h.c hb, Kd.C_below h.r hb⟩
def lists6.T31 : Bool × List (List Nat × List Nat) := (true, [([], []), ([0], [0]), ([1], [1]), ([2], [2]), ([3], [3]), ([4, 3], [3, 4]), ([3], [3]), ([6, 3], [3, 6]), ([5, 7, 3], [3, 5, 7]), ([3, 8], [3, 8]), ([9, 3], [9]), ([10], [10]), ([10], [10]), ([12, 10], [10, 12]), ([11, 13, 10], [10, 11, 13]), ([14, 10], [10, 14]), ([15, 10], [10, 15]), ([10, 16], [10, 16]), ([17, 10], [17]), ([18], [18]), ([18], [18]), ([20, 18], [18, 20]), ([19, 21, 18], [18, 19, 21]), ([22, 18], [18, 22]), ([18], [18]), ([23, 24, 18], [18, 23, 24]), ([18, 25], [18, 25]), ([26, 18], [26]), ([27], [27]), ([27], [27]), ([27], [27]), ([30, 27], [27, 30]), ([29, 31, 27], [27, 29, 31]), ([32, 27], [27, 32]), ([28, 33, 27], [27, 28, 33]), ([34, 27], [27, 34]), ([27], [27]), ([36, 27], [27, 36]), ([37, 27], [27, 37]), ([35, 38, 27], [27, 35, 38]), ([27, 39], [27, 39]), ([40, 27], [40]), ([41], [41]), ([42, 41], [41, 42]), ([41], [41]), ([44, 41], [41, 44]), ([43, 45, 41], [41, 43, 45]), ([41, 46], [41, 46])])
def lists6.B31 : List Nat := [0, 1, 3, 7, 15, 31, 15, 79, 255, 511, 1023, 2047, 2047, 6143, 16383, 32767, 65535, 131071, 262143, 524287, 524287, 1572863, 4194303, 8388607, 524287, 33554431, 67108863, 134217727, 268435455, 268435455, 268435455, 1342177279, 4026531839, 8321499135, 17179869183, 34359738367, 268435455, 68987912191, 206426865663, 549755813887, 1099511627775, 2199023255551, 4398046511103, 8796093022207, 4398046511103, 21990232555519, 70368744177663, 140737488355327]
theorem lists6.tab31 : rtab .any (opsOf Try.f6 31) = lists6.T31 := by kernel_rfl
theorem lists6.bits31 : waitsOk lists6.T31.2 lists6.B31 = true := by kernel_rfl
def lists6.T37 : Bool × List (List Nat × List Nat) := (true, [([], []), ([], []), ([0, 1], [0, 1]), ([2], [2]), ([3], [3]), ([4], [4]), ([5], [5]), ([5], [5]), ([6, 7, 5], [5, 6, 7]), ([8, 5], [5, 8]), ([5], [5]), ([9, 10, 5], [5, 9, 10]), ([5, 11], [5, 11]), ([12, 5], [12]), ([13], [13]), ([13], [13]), ([14, 15, 13, 13], [13, 14, 15]), ([13], [13]), ([13], [13]), ([13], [13]), ([18, 19, 13], [13, 18, 19]), ([20, 13], [13, 20]), ([17, 21, 13], [13, 17, 21]), ([22, 13], [13, 22]), ([23, 13], [13, 23]), ([16, 24, 13], [13, 16, 24]), ([13, 25], [13, 25])])
def lists6.B37 : List Nat := [0, 0, 3, 7, 15, 31, 63, 63, 255, 511, 63, 2047, 4095, 8191, 16383, 16383, 65535, 16383, 16383, 16383, 802815, 1851391, 4079615, 8273919, 16662527, 33554431, 67108863]
theorem lists6.tab37 : rtab .any (opsOf Try.f6 37) = lists6.T37 := by kernel_rfl
theorem lists6.bits37 : waitsOk lists6.T37.2 lists6.B37 = true := by kernel_rfl
set_option maxRecDepth 100000 in
set_option maxHeartbeats 16000000 in
theorem lists_any (n : Int) (A : Option Addr) (c : Nat) (l : List (List Int)) (sf : Int) (Ac : Option Addr) (cc : Nat) (cs : List Int) (w : World) (hr : Kd.C (Kd.slice 3 (Kd.int .i64)) w A l.length l) (hlc : l.length ≤ c) (hcs : Kd.C (Kd.int .i64) w Ac cs.length cs) (hcc : cs.length ≤ cc) :
    Calls Try.prog 6 #[.int .i64 n, .slice A l.length c, .int .i64 sf, .slice Ac cs.length cc] w fun e w' => e = .returned (.bool true) ∧ Below w.heap.size w w' := by
  have HR := Aside0.mk hr
  have HC := Aside0.mk hcs
  have hcl : cs.length ≤ 9223372036854775807 := hcs.2.1
  clear hr hcs
  go_enter Try.func6, Try.ntmps6
  go_wp2_with fail
  refine (sane_any w).mono ?_
  rintro e w1 ⟨rfl, hb1⟩
  have HB1 := Aside0.mk hb1
  clear hb1
  go_wp2_with fail
  refine (crossbarref15_FewLinks.calls 82 A c l (fewLB l) w1 (Kd.C_below HR.out HB1.out) hlc (fewL_f l 82 (Nat.le_refl _))).mono ?_
  rintro e w2 ⟨rfl, hb2⟩
  have HB2 := Aside0.mk (HB1.out.trans (hb2.below.mono HB1.out.size))
  clear hb2 HB1
  by_cases hf : fewLB l = true
  case neg =>
    have hf' : fewLB l = false := by simpa using hf
    rw [hf']
    go_wp2_with fail
    go_ret
    exact ⟨rfl, HB2.out⟩
  rw [hf]
  have hl40 := fewL_len hf
  clear hf
  by_cases h40 : 40 < cs.length
  · have h40z : (40 : Int) < (cs.length : Int) := by omega
    go_wp2_with fail
    go_ret
    exact ⟨rfl, HB2.out⟩
  have h40z : ¬ (40 : Int) < (cs.length : Int) := by omega
  have hcall := build_any n A c l sf Ac cc cs w2 (Kd.C_below HR.out HB2.out) (by omega) (Kd.C_below HC.out HB2.out)
  go_wp2_with fail
  refine hcall.mono ?_
  rintro e w3 ⟨v0, v1, rfl, hRp, hRr, hb⟩
  have HB3 := Aside0.mk (HB2.out.trans (hb.mono HB2.out.size))
  obtain ⟨Ap, cp, rfl, hlp, hCp⟩ := Kd.R_reads hRp
  obtain ⟨Ar, cr, rfl, hlr, hCr⟩ := Kd.S_reads hRr
  clear hb hcall HB2 hRp hRr
  rcases build_cases n l sf cs with hd | ⟨N, S, F, rfl, rfl, hSN, h6, hF, hFn, hcv, hd⟩
  · rw [hd]
    simp only [List.length_nil]
    go_wp2_with fail
    go_ret
    exact ⟨rfl, HB3.out⟩
  rw [hd] at hCp hlp hCr hlr ⊢
  simp only at hCp hlp hCr hlr ⊢
  have hpm : ∀ p ∈ pfx F S N, 0 ≤ p ∧ p < (N : Int) := fun p hp => pfx_mem hp
  have hpl := pfx_len F S N
  generalize pfx F S N = ps at hCp hlp hCr hlr hd hpm hpl
  have hrl := rts_len (F := F) (ps := ps) (cs := cs) hSN
  have hnth := fun (i : Nat) (hi : i < N) => rts_nth (F := F) (ps := ps) (cs := cs) hSN hi
  have hchk := rts_chkg (S := S) h6 hFn (ps := ps) (by omega) hcv
  generalize rtsF N F (S : Int) ps cs N = rs at hCr hlr hrl hnth hchk hd
  rw [hrl] at hCr hlr
  clear hd
  have hok := (readF_RM hF).ok
  obtain ⟨G, hG, hcutm⟩ := readF_wout hF (S : Int)
  have hGn : ∀ x y, x < 6 → y < 6 → G (x * 6 + y) = true → y < N := fun x y hx hy h => hFn x y hx hy ((hcutm x y hx hy).1 h).1
  have hwl := wout_len (S : Int) l
  have hcall := without_any A c l (S : Int) w3 (Kd.C_below HR.out HB3.out) (by omega) (fun z hz => by obtain ⟨X, Y, rfl, _⟩ := hok z hz; rfl)
  rw [hrl]
  go_wp2_with fail
  refine hcall.mono ?_
  rintro e w4 ⟨Aw, cw, rfl, hCw, hlw, hb⟩
  have HL4 : Aside0 (LL w w4 (wout (S : Int) l) ps cs rs Aw Ap Ac Ar) := ⟨⟨HB3.out.trans (hb.mono HB3.out.size), hCw, Kd.C_below hCp hb, Kd.C_below (Kd.C_below HC.out HB3.out) hb, by rw [hrl]; exact Kd.C_below hCr hb⟩⟩
  clear hcall hb hCw hCp hCr HB3 HC HR hok
  generalize wout (S : Int) l = rest at HL4 hG hwl hlw ⊢
  have hN6 : (N : Int) ≤ 6 := by omega
  have hcall := check_any Ar cr rs (ps.length : Int) w4 HL4.out.r (by omega) (fun z hz => by
    obtain ⟨i, hi, rfl⟩ := List.getElem_of_mem hz
    obtain ⟨t, ts, e, _⟩ := hnth i (by omega)
    have h1 := rd47_at rs i hi
    rw [List.getElem?_eq_getElem hi] at h1
    rw [Option.some.inj h1, e]
    unfold routeF
    rw [srt_len]
    have := chsF_len (distF N F (S : Int) ts) ps 0
    omega)
  rw [hchk, hrl] at hcall
  go_wp2_with fail
  refine hcall.mono ?_
  rintro e w5 ⟨rfl, hb⟩
  have HL5 := Aside0.mk (HL4.out.below hb)
  clear hcall hb HL4 hchk
  go_wp2_with fail
  go_loopw [14] (fun s14 wr => ∃ i : Nat, i ≤ N ∧ s14 = .int .i64 (i : Int) ∧ Aside0 (LL w wr rest ps cs rs Aw Ap Ac Ar)) (fun s14 _ => ((N : Int) - intOf s14).toNat)
  case atStart => exact ⟨0, by omega, rfl, HL5⟩
  case round =>
    clear HL5
    obtain ⟨i, hi, rfl, HL⟩ := hrel
    by_cases hil : i < N
    · have hiz : (i : Int) < (N : Int) := by omega
      have hi0 : (0 : Int) ≤ (i : Int) := by omega
      obtain ⟨t, ts, hz, hts⟩ := hnth i hil
      have htv : ∀ x ∈ ts, 0 ≤ x ∧ x < (N : Int) := by
        rcases hts with ⟨_, _, rfl⟩ | ⟨_, h0, h1, _, rfl⟩
        · exact hcv
        · intro x hx; obtain rfl := List.mem_singleton.1 hx; exact ⟨h0, h1⟩
      obtain ⟨ar, A1, c1, eA, x0, x1, hl1, hC1⟩ := at_T47 HL.out.r (i : Int) hi0 (by rw [hrl]; exact hiz)
      subst eA
      simp only [Int.toNat_natCast] at x0 x1
      rw [hz] at x0 x1 hl1 hC1
      have hf0 : (routeF N F (S : Int) ps t ts).f0 = t := rfl
      rw [hf0] at x0
      have HX1 := Aside0.mk x1
      have HC1 := Aside0.mk (And.intro hl1 hC1)
      clear x1 hl1 hC1
      go_upto_if 78 with (fail)
      obtain ⟨w0, rfl⟩ : ∃ x : World, x = wr := ⟨wr, rfl⟩
      have hal := (Below.refl w0.heap.size w0).alloc (Nat.le_refl _) (.cells #[.int .i64 t] 3)
      have HT1 := Aside0.mk (C_one w0 t)
      have HB0 := Aside0.mk hal
      clear x0 hal
      generalize w0.alloc (.cells #[.int .i64 t] 3) = Wn at HT1 HB0 ⊢
      go_cut [15] (fun s15 wc => ∃ (At : Option Addr) (ct : Nat) (tt : List Int), s15 = .slice At tt.length ct ∧ Aside0 (Kd.C (Kd.int .i64) wc At tt.length tt) ∧ Aside0 (tt.length ≤ ct) ∧ Aside0 (Below w0.heap.size w0 wc) ∧ Aside0 ((∀ x ∈ tt, 0 ≤ x ∧ x < (N : Int)) ∧ ∀ y : Nat, (y : Int) ∈ tt ↔ (y : Int) ∈ ts ∧ (y : Int) ≠ (S : Int)))
      case first =>
        rcases hts with ⟨e1, e2, e3⟩ | ⟨e1, h0, h1, hne, e3⟩
        · have hie : ((i : Int) == 0) = true := by simp [e1]
          clear e1 e2
          go_wp2_with fail
          clear hie; rename ((i : Int) == 0) = true => hie; clear hie
          go_loopw [15, 16] (fun s15 s16 wq => ∃ j : Nat, j ≤ cs.length ∧ s16 = .int .i64 (j : Int) ∧ Aside0 (Kd.R (Kd.int .i64) 3 wq w0.heap.size (fun _ => True) s15 (tfil (S : Int) (cs.take j))) ∧ Aside0 (Below w0.heap.size w0 wq)) (fun _ s16 _ => ((cs.length : Int) - intOf s16).toNat)
          case atStart => exact ⟨0, by omega, rfl, ⟨Kd.R_nil _ _ _ _ _⟩, HB0⟩
          case round =>
            clear HB0 HT1
            obtain ⟨j, hj, rfl, HX, HBq⟩ := hrel
            have HLq := Aside0.mk (HL.out.below HBq.out)
            by_cases hjl : j < cs.length
            · have hjz : (j : Int) < (cs.length : Int) := by omega
              have hj0 : (0 : Int) ≤ (j : Int) := by omega
              obtain ⟨ac, eac, hcj⟩ := Kd.at_int HLq.out.c (j : Int) hj0 hjz
              subst eac
              simp only [Int.toNat_natCast] at hcj
              have htk := tfil_take (S : Int) cs hjl
              rw [rd_get hjl] at hcj
              have hfl : (tfil (S : Int) (cs.take j)).length ≤ 40 := Nat.le_trans (List.length_filter_le _ _) (by rw [List.length_take]; omega)
              generalize cs[j] = x at hcj htk
              by_cases hxs : x = (S : Int)
              · rw [if_pos hxs, List.append_nil] at htk
                have HK := Aside0.mk htk
                clear htk
                subst hxs
                go_wp2_with fail
                go_roundw
                case rel => exact ⟨j + 1, by omega, by go_num, by rw [HK.out]; exact HX, HBq⟩
                case measure => simp [intOf]; omega
              · rw [if_neg hxs] at htk
                have HK := Aside0.mk htk
                have hxs1 : (x == (S : Int)) = false := by simpa using hxs
                have hxs2 : (x != (S : Int)) = true := by simpa using hxs
                have HLe := Aside0.mk (show ((tfil (S : Int) (cs.take j)).length + 1) * 8 ≤ 140737488355328 by omega)
                clear htk hfl
                go_wp2_with ((with_reducible refine gate_builtin (b := .append) (xs := #[.tmp 91, .tmp 96]) rfl ?_); at_builtin; refine Kd.R_append (Kd.int .i64) (w0 := w0) w0.heap.size rfl (.tmp 91) (.tmp 96) 23 3 (.int .i64 0) 8 rfl Try.underlying23 info3 rfl (by decide) (by omega) _ (tfil (S : Int) (cs.take j)) x [.int .i64 x] (fun _ => True) (fun _ => False) rfl (by first | rfl | (simp [Act.eval]; done) | (simp [Act.eval, go_sem]; done)) rfl (fun _ hk => hk.elim) (fun _ _ => trivial) HX.out HBq.out HBq.out.size HLe.out ?_; intro v1 w7 ho hb hg hat; rw [← HK.out] at ho; have HX2 := Aside0.mk ho; have HB2 := Aside0.mk hb; clear ho hb hg hat)
                go_roundw
                case rel => exact ⟨j + 1, by omega, by go_num, HX2, HB2⟩
                case measure => simp [intOf]; omega
            · obtain rfl : j = cs.length := by omega
              rw [List.take_of_length_le (Nat.le_refl _)] at HX
              obtain ⟨Ax, cx, rfl, hlx, hCx⟩ := Kd.R_reads HX.out
              have HCx := Aside0.mk hCx
              have HLx := Aside0.mk hlx
              clear hCx hlx
              go_wp2_with fail
              go_meet
              case rel => exact ⟨_, _, tfil (S : Int) cs, rfl, HCx, HLx, HBq, ⟨fun x hx => hcv x (tfil_mem.1 hx).1, fun y => by rw [tfil_mem, e3]⟩⟩
        · have hie : ((i : Int) == 0) = false := by simp; omega
          go_wp2_with fail
          go_meet
          case rel => exact ⟨_, _, [t], rfl, HT1, ⟨Nat.le_refl _⟩, HB0, ⟨by rw [← e3]; exact htv, fun y => by rw [e3]; simp only [List.mem_singleton]; constructor; intro e; exact ⟨e, by rw [e]; exact hne⟩; intro e; exact e.1⟩⟩
      case rest =>
        clear HT1 HB0
        obtain ⟨At, ct, tt, rfl, HT, HTc, HBw, HTV⟩ := hcut
        have HL3 := Aside0.mk (HL.out.below HBw.out)
        have hcall := dists_any (N : Int) Aw cw rest At ct tt wc HL3.out.l (by omega) HT.out
        have hdd : distsF (N : Int) rest tt = (distF N F (S : Int) ts, 0) := by
          have hall : tt.all (hasF (N : Int)) = true := List.all_eq_true.2 (fun x hx => by have := HTV.out.1 x hx; unfold hasF; simp; omega)
          unfold distsF
          rw [hG]
          simp only [hall, if_true, Int.toNat_natCast]
          rw [dist_cut h6 hFn hGn hcutm htv HTV.out.1 HTV.out.2]
        have hDl := (distF_bd (av := (S : Int)) h6 hFn htv).1
        have hDb := (distF_bd (av := (S : Int)) h6 hFn htv).2
        have hCm := fun c (h : c ∈ (routeF N F (S : Int) ps t ts).f1) => ch_mem (D := distF N F (S : Int) ts) (ps := ps) h
        have hCh := fun k (hk : k < ps.length) => ch_has (D := distF N F (S : Int) ts) (ps := ps) hk
        have hCl : (routeF N F (S : Int) ps t ts).f1.length ≤ 6 := by
          unfold routeF; rw [srt_len]; have := chsF_len (distF N F (S : Int) ts) ps 0; omega
        have hCe : (routeF N F (S : Int) ps t ts).f1 = srt S49.f1 (chsF (distF N F (S : Int) ts) 0 ps) := rfl
        rw [hdd] at hcall
        rw [← hCe] at hCh
        generalize (routeF N F (S : Int) ps t ts).f1 = C at HX1 HC1 hCm hCh hCl
        generalize distF N F (S : Int) ts = D at hcall hDl hDb hCm hCh
        clear hdd hCe
        go_wp2_with fail
        refine hcall.mono ?_
        rintro e w6 ⟨v2, rfl, hRd, hb⟩
        obtain ⟨Ad, cd, hv, hld, hCd⟩ := Kd.R_reads hRd
        simp only [hDl] at hv hld hCd
        subst hv
        have HB6 := Aside0.mk (HBw.out.trans (hb.mono HBw.out.size))
        have HCd := Aside0.mk hCd
        have HL6 := Aside0.mk (HL3.out.below hb)
        have HX6 := Aside0.mk ((HB6.out.cell (World.block_lt_of_cell? w0 _ HX1.out)).trans HX1.out)
        have HC6 := Aside0.mk (Kd.C_below HC1.out.2 HB6.out)
        obtain ⟨ad, ead, hd0⟩ := Kd.at_int hCd 0 (by omega) (by omega)
        subst ead
        clear hd0 hcall hRd hb hCd hld HTV HL3 HX1 HC1 HBw HT HTc
        go_wp2_with fail
        go_loopw [19, 20] (fun s19 s20 wq => ∃ m : Nat, m ≤ C.length ∧ s20 = .int .i64 (m : Int) ∧ Aside0 (Kd.R (Kd.int .i64) 3 wq w6.heap.size (fun _ => True) s19 ((C.take m).map S49.f0)) ∧ Aside0 (Below w6.heap.size w6 wq)) (fun _ s20 _ => ((C.length : Int) - intOf s20).toNat)
        case atStart => exact ⟨0, by omega, rfl, ⟨Kd.R_nil _ _ _ _ _⟩, ⟨Below.refl _ _⟩⟩
        case round =>
          obtain ⟨m, hm, rfl, HX, HBq⟩ := hrel
          have hxq := (HBq.out.cell (World.block_lt_of_cell? w6 _ HX6.out)).trans HX6.out
          have HLq := Aside0.mk (HL6.out.below HBq.out)
          by_cases hml : m < C.length
          · have hmz : (m : Int) < (C.length : Int) := by omega
            have hm0 : (0 : Int) ≤ (m : Int) := by omega
            obtain ⟨aq, eaq, y0, y1, y2⟩ := at_T49 (Kd.C_below HC6.out HBq.out) (m : Int) hm0 hmz
            subst eaq
            simp only [Int.toNat_natCast] at y0 y1 y2
            rw [rd49_get hml] at y0 y1 y2
            obtain ⟨k, hk, hce, hk0⟩ := hCm _ (List.getElem_mem hml)
            have htk : (C.take (m + 1)).map S49.f0 = (C.take m).map S49.f0 ++ [(k : Int)] := by
              rw [List.take_add_one, List.getElem?_eq_getElem hml, List.map_append]
              simp [hce]
            rw [hce] at y0 y1 y2
            simp only at y0 y1 y2
            obtain ⟨hp0, hp1⟩ := hpm _ (List.getElem_mem hk)
            obtain ⟨P, hP⟩ : ∃ P : Nat, ps[k] = (P : Int) := ⟨ps[k].toNat, by omega⟩
            obtain ⟨ap, eap, hpk⟩ := Kd.at_int HLq.out.p (k : Int) (by omega) (by omega)
            subst eap
            simp only [Int.toNat_natCast] at hpk
            rw [rd_get hk, hP] at hpk
            rw [hP] at hk0 hp0 hp1 y1 y2
            obtain ⟨ad', ea, hdv⟩ := Kd.at_int (Kd.C_below HCd.out HBq.out) (P : Int) hp0 hp1
            injection ea with ea
            subst ea
            simp only [Int.toNat_natCast] at hdv
            obtain ⟨_, hd7⟩ := hDb (P : Int)
            generalize rd D (P : Int) = dv at hdv hk0 hd7 y1 y2
            have hkz : (k : Int) < (ps.length : Int) := by omega
            have hkz0 : (0 : Int) ≤ (k : Int) := by omega
            have HK := Aside0.mk htk
            have HLe := Aside0.mk (show (((C.take m).map S49.f0).length + 1) * 8 ≤ 140737488355328 by rw [List.length_map, List.length_take]; omega)
            have hnb := blk_new wr (.cells #[.int .i64 (k : Int), .int .i64 (1 + dv), .int .i64 (1 + dv)] 49)
            have hal := (Below.refl wr.heap.size wr).alloc (Nat.le_refl _) (.cells #[.int .i64 (k : Int), .int .i64 (1 + dv), .int .i64 (1 + dv)] 49)
            have HH := Aside0.mk (CH.mk ((blk_cell hnb 0).trans rfl) ((blk_cell hnb 1).trans rfl) ((blk_cell hnb 2).trans rfl) ((hal.cell (World.block_lt_of_cell? wr _ hpk)).trans hpk) ((hal.cell (World.block_lt_of_cell? wr _ hdv)).trans hdv) : CH wr.heap.size ap k ad P dv (wr.alloc (.cells #[.int .i64 (k : Int), .int .i64 (1 + dv), .int .i64 (1 + dv)] 49)))
            have HXa := Aside0.mk (Kd.R_alloc HX.out (.cells #[.int .i64 (k : Int), .int .i64 (1 + dv), .int .i64 (1 + dv)] 49))
            have HBa := Aside0.mk (HBq.out.alloc HBq.out.size (.cells #[.int .i64 (k : Int), .int .i64 (1 + dv), .int .i64 (1 + dv)] 49))
            clear htk hnb hal hpk hdv hce
            go_wp2_with fail
            refine start_ (n := 48) (S := fun w' => CH wr.heap.size ap k ad P dv w') (ds := []) #[false, false, false, false, false, false, false, false, false, false, false, false, false, false, false, false, false, false, false, false, false, false, false, false, false, false, false, false, false, false, false, false, false, false, false, false, false, false, false, false, false, false, false, false, false, false, false, false] (by kernel_rfl) rfl rfl (HH.out.below ((Below.refl _ _).drew)) (fun hHeld => ?_)
            refine with_tabW lists6.tab31 lists6.bits31 (fun HT_ HW_ => ?_)
            replace HH := Aside0.mk (HH.out.below ((Below.refl _ _).drew))
            replace HXa := Aside0.mk (Kd.R_drew HXa.out)
            replace HBa := Aside0.mk HBa.out.drew
            refine pure_ (i := 0) (N := some 131) (v := ?_) (a' := ?_) #[true, false, false, false, false, false, false, false, false, false, false, false, false, false, false, false, false, false, false, false, false, false, false, false, false, false, false, false, false, false, false, false, false, false, false, false, false, false, false, false, false, false, false, false, false, false, false, false] rfl rfl (any_of HT_.out (by kernel_rfl)) (fun _ _ _ h => h) (Or.inl ⟨by rfl, ?_⟩) ?_ ?_
            rotate_left
            · intro w'
              go_simp
              with_reducible rfl
            rotate_left
            · simp only [Act.put, List.setIfInBounds_toArray, List.set_cons_zero, List.set_cons_succ, i64_w, i32_w]
              rfl
            refine take_ (i := 1) (N := some 132) (v := ?_) (a' := ?_) #[true, true, false, false, false, false, false, false, false, false, false, false, false, false, false, false, false, false, false, false, false, false, false, false, false, false, false, false, false, false, false, false, false, false, false, false, false, false, false, false, false, false, false, false, false, false, false, false] rfl rfl (take_ofW HT_.out HW_.out (by kernel_rfl)) (fun _ _ _ h => h) (Or.inl ⟨by rfl, ?_⟩) hHeld ?_ ?_
            rotate_left
            · rintro w' ⟨s0, s1, s2, s3, s4⟩
              go_simp
              with_reducible rfl
            rotate_left
            · simp only [Act.put, List.setIfInBounds_toArray, List.set_cons_zero, List.set_cons_succ, i64_w, i32_w]
              rfl
            refine pure_ (i := 2) (N := some 133) (v := .bool false) (a' := ?_) #[true, true, true, false, false, false, false, false, false, false, false, false, false, false, false, false, false, false, false, false, false, false, false, false, false, false, false, false, false, false, false, false, false, false, false, false, false, false, false, false, false, false, false, false, false, false, false, false] rfl rfl (any_of HT_.out (by kernel_rfl)) (fun _ _ _ h => h) (Or.inl ⟨by rfl, ?_⟩) ?_ ?_
            · intro w'
              have hx : ¬ (k : Int) < 0 := by omega
              go_simp
              all_goals first | (with_reducible rfl) | (simp [hx]; done) | (simp; omega)
            rotate_left
            · simp only [Act.put, List.setIfInBounds_toArray, List.set_cons_zero, List.set_cons_succ, i64_w, i32_w]
              rfl
            refine pure_ (i := 3) (N := some 134) (v := ?_) (a' := ?_) #[true, true, true, true, false, false, false, false, false, false, false, false, false, false, false, false, false, false, false, false, false, false, false, false, false, false, false, false, false, false, false, false, false, false, false, false, false, false, false, false, false, false, false, false, false, false, false, false] rfl rfl (any_of HT_.out (by kernel_rfl)) (fun _ _ _ h => h) (Or.inl ⟨by rfl, ?_⟩) ?_ ?_
            rotate_left
            · intro w'
              go_simp
              with_reducible rfl
            rotate_left
            · simp only [Act.put, List.setIfInBounds_toArray, List.set_cons_zero, List.set_cons_succ, i64_w, i32_w]
              rfl
            refine pure_ (i := 4) (N := some 135) (v := ?_) (a' := ?_) #[true, true, true, true, true, false, false, false, false, false, false, false, false, false, false, false, false, false, false, false, false, false, false, false, false, false, false, false, false, false, false, false, false, false, false, false, false, false, false, false, false, false, false, false, false, false, false, false] rfl rfl (any_of HT_.out (by kernel_rfl)) (fun _ _ _ h => h) (Or.inl ⟨by rfl, ?_⟩) ?_ ?_
            rotate_left
            · intro w'
              go_simp
              with_reducible rfl
            rotate_left
            · simp only [Act.put, List.setIfInBounds_toArray, List.set_cons_zero, List.set_cons_succ, i64_w, i32_w]
              rfl
            refine pure_ (i := 6) (N := some 137) (v := ?_) (a' := ?_) #[true, true, true, true, true, false, true, false, false, false, false, false, false, false, false, false, false, false, false, false, false, false, false, false, false, false, false, false, false, false, false, false, false, false, false, false, false, false, false, false, false, false, false, false, false, false, false, false] rfl rfl (any_of HT_.out (by kernel_rfl)) (fun _ _ _ h => h) (Or.inl ⟨by rfl, ?_⟩) ?_ ?_
            rotate_left
            · intro w'
              go_simp
              with_reducible rfl
            rotate_left
            · simp only [Act.put, List.setIfInBounds_toArray, List.set_cons_zero, List.set_cons_succ, i64_w, i32_w]
              rfl
            refine pure_ (i := 7) (N := some 138) (v := ?_) (a' := ?_) #[true, true, true, true, true, false, true, true, false, false, false, false, false, false, false, false, false, false, false, false, false, false, false, false, false, false, false, false, false, false, false, false, false, false, false, false, false, false, false, false, false, false, false, false, false, false, false, false] rfl rfl (any_of HT_.out (by kernel_rfl)) (fun _ _ _ h => h) (Or.inl ⟨by rfl, ?_⟩) ?_ ?_
            rotate_left
            · intro w'
              go_simp
              with_reducible rfl
            rotate_left
            · simp only [Act.put, List.setIfInBounds_toArray, List.set_cons_zero, List.set_cons_succ, i64_w, i32_w]
              rfl
            refine take_ (i := 5) (N := some 136) (v := ?_) (a' := ?_) #[true, true, true, true, true, true, true, true, false, false, false, false, false, false, false, false, false, false, false, false, false, false, false, false, false, false, false, false, false, false, false, false, false, false, false, false, false, false, false, false, false, false, false, false, false, false, false, false] rfl rfl (take_ofW HT_.out HW_.out (by kernel_rfl)) (fun _ _ _ h => h) (Or.inl ⟨by rfl, ?_⟩) hHeld ?_ ?_
            rotate_left
            · rintro w' ⟨s0, s1, s2, s3, s4⟩
              go_simp
              with_reducible rfl
            rotate_left
            · simp only [Act.put, List.setIfInBounds_toArray, List.set_cons_zero, List.set_cons_succ, i64_w, i32_w]
              rfl
            refine pure_ (i := 8) (N := some 139) (v := .bool false) (a' := ?_) #[true, true, true, true, true, true, true, true, true, false, false, false, false, false, false, false, false, false, false, false, false, false, false, false, false, false, false, false, false, false, false, false, false, false, false, false, false, false, false, false, false, false, false, false, false, false, false, false] rfl rfl (any_of HT_.out (by kernel_rfl)) (fun _ _ _ h => h) (Or.inl ⟨by rfl, ?_⟩) ?_ ?_
            · intro w'
              have hx : ¬ (ps.length : Int) ≤ (k : Int) := by omega
              go_simp
              all_goals first | (with_reducible rfl) | (simp [hx]; done) | (simp; omega)
            rotate_left
            · simp only [Act.put, List.setIfInBounds_toArray, List.set_cons_zero, List.set_cons_succ, i64_w, i32_w]
              rfl
            refine pure_ (i := 9) (N := some 140) (v := ?_) (a' := ?_) #[true, true, true, true, true, true, true, true, true, true, false, false, false, false, false, false, false, false, false, false, false, false, false, false, false, false, false, false, false, false, false, false, false, false, false, false, false, false, false, false, false, false, false, false, false, false, false, false] rfl rfl (any_of HT_.out (by kernel_rfl)) (fun _ _ _ h => h) (Or.inl ⟨by rfl, ?_⟩) ?_ ?_
            rotate_left
            · intro w'
              go_simp
              with_reducible rfl
            rotate_left
            · simp only [Act.put, List.setIfInBounds_toArray, List.set_cons_zero, List.set_cons_succ, i64_w, i32_w]
              rfl
            refine pure_ (i := 10) (N := some 141) (v := ?_) (a' := ?_) #[true, true, true, true, true, true, true, true, true, true, true, false, false, false, false, false, false, false, false, false, false, false, false, false, false, false, false, false, false, false, false, false, false, false, false, false, false, false, false, false, false, false, false, false, false, false, false, false] rfl rfl (any_of HT_.out (by kernel_rfl)) (fun _ _ _ h => h) (Or.inl ⟨by rfl, ?_⟩) ?_ ?_
            rotate_left
            · intro w'
              go_simp
              with_reducible rfl
            rotate_left
            · simp only [Act.put, List.setIfInBounds_toArray, List.set_cons_zero, List.set_cons_succ, i64_w, i32_w]
              rfl
            refine pure_ (i := 11) (N := some 142) (v := ?_) (a' := ?_) #[true, true, true, true, true, true, true, true, true, true, true, true, false, false, false, false, false, false, false, false, false, false, false, false, false, false, false, false, false, false, false, false, false, false, false, false, false, false, false, false, false, false, false, false, false, false, false, false] rfl rfl (any_of HT_.out (by kernel_rfl)) (fun _ _ _ h => h) (Or.inl ⟨by rfl, ?_⟩) ?_ ?_
            rotate_left
            · intro w'
              go_simp
              with_reducible rfl
            rotate_left
            · simp only [Act.put, List.setIfInBounds_toArray, List.set_cons_zero, List.set_cons_succ, i64_w, i32_w]
              rfl
            refine pure_ (i := 12) (N := some 143) (v := ?_) (a' := ?_) #[true, true, true, true, true, true, true, true, true, true, true, true, true, false, false, false, false, false, false, false, false, false, false, false, false, false, false, false, false, false, false, false, false, false, false, false, false, false, false, false, false, false, false, false, false, false, false, false] rfl rfl (any_of HT_.out (by kernel_rfl)) (fun _ _ _ h => h) (Or.inl ⟨by rfl, ?_⟩) ?_ ?_
            rotate_left
            · intro w'
              go_simp
              with_reducible rfl
            rotate_left
            · simp only [Act.put, List.setIfInBounds_toArray, List.set_cons_zero, List.set_cons_succ, i64_w, i32_w]
              rfl
            refine take_ (i := 13) (N := some 144) (v := ?_) (a' := ?_) #[true, true, true, true, true, true, true, true, true, true, true, true, true, true, false, false, false, false, false, false, false, false, false, false, false, false, false, false, false, false, false, false, false, false, false, false, false, false, false, false, false, false, false, false, false, false, false, false] rfl rfl (take_ofW HT_.out HW_.out (by kernel_rfl)) (fun _ _ _ h => h) (Or.inl ⟨by rfl, ?_⟩) hHeld ?_ ?_
            rotate_left
            · rintro w' ⟨s0, s1, s2, s3, s4⟩
              go_simp
              with_reducible rfl
            rotate_left
            · simp only [Act.put, List.setIfInBounds_toArray, List.set_cons_zero, List.set_cons_succ, i64_w, i32_w]
              rfl
            refine pure_ (i := 14) (N := some 145) (v := ?_) (a' := ?_) #[true, true, true, true, true, true, true, true, true, true, true, true, true, true, true, false, false, false, false, false, false, false, false, false, false, false, false, false, false, false, false, false, false, false, false, false, false, false, false, false, false, false, false, false, false, false, false, false] rfl rfl (any_of HT_.out (by kernel_rfl)) (fun _ _ _ h => h) (Or.inl ⟨by rfl, ?_⟩) ?_ ?_
            rotate_left
            · intro w'
              go_simp
              with_reducible rfl
            rotate_left
            · simp only [Act.put, List.setIfInBounds_toArray, List.set_cons_zero, List.set_cons_succ, i64_w, i32_w]
              rfl
            refine take_ (i := 15) (N := some 146) (v := ?_) (a' := ?_) #[true, true, true, true, true, true, true, true, true, true, true, true, true, true, true, true, false, false, false, false, false, false, false, false, false, false, false, false, false, false, false, false, false, false, false, false, false, false, false, false, false, false, false, false, false, false, false, false] rfl rfl (take_ofW HT_.out HW_.out (by kernel_rfl)) (fun _ _ _ h => h) (Or.inl ⟨by rfl, ?_⟩) hHeld ?_ ?_
            rotate_left
            · rintro w' ⟨s0, s1, s2, s3, s4⟩
              go_simp
              with_reducible rfl
            rotate_left
            · simp only [Act.put, List.setIfInBounds_toArray, List.set_cons_zero, List.set_cons_succ, i64_w, i32_w]
              rfl
            refine pure_ (i := 16) (N := some 147) (v := .bool false) (a' := ?_) #[true, true, true, true, true, true, true, true, true, true, true, true, true, true, true, true, true, false, false, false, false, false, false, false, false, false, false, false, false, false, false, false, false, false, false, false, false, false, false, false, false, false, false, false, false, false, false, false] rfl rfl (any_of HT_.out (by kernel_rfl)) (fun _ _ _ h => h) (Or.inl ⟨by rfl, ?_⟩) ?_ ?_
            · intro w'
              have hx : ¬ (P : Int) < 0 := by omega
              go_simp
              all_goals first | (with_reducible rfl) | (simp [hx]; done) | (simp; omega)
            rotate_left
            · simp only [Act.put, List.setIfInBounds_toArray, List.set_cons_zero, List.set_cons_succ, i64_w, i32_w]
              rfl
            refine pure_ (i := 17) (N := some 148) (v := ?_) (a' := ?_) #[true, true, true, true, true, true, true, true, true, true, true, true, true, true, true, true, true, true, false, false, false, false, false, false, false, false, false, false, false, false, false, false, false, false, false, false, false, false, false, false, false, false, false, false, false, false, false, false] rfl rfl (any_of HT_.out (by kernel_rfl)) (fun _ _ _ h => h) (Or.inl ⟨by rfl, ?_⟩) ?_ ?_
            rotate_left
            · intro w'
              go_simp
              with_reducible rfl
            rotate_left
            · simp only [Act.put, List.setIfInBounds_toArray, List.set_cons_zero, List.set_cons_succ, i64_w, i32_w]
              rfl
            refine pure_ (i := 18) (N := some 149) (v := ?_) (a' := ?_) #[true, true, true, true, true, true, true, true, true, true, true, true, true, true, true, true, true, true, true, false, false, false, false, false, false, false, false, false, false, false, false, false, false, false, false, false, false, false, false, false, false, false, false, false, false, false, false, false] rfl rfl (any_of HT_.out (by kernel_rfl)) (fun _ _ _ h => h) (Or.inl ⟨by rfl, ?_⟩) ?_ ?_
            rotate_left
            · intro w'
              go_simp
              with_reducible rfl
            rotate_left
            · simp only [Act.put, List.setIfInBounds_toArray, List.set_cons_zero, List.set_cons_succ, i64_w, i32_w]
              rfl
            refine pure_ (i := 19) (N := some 150) (v := ?_) (a' := ?_) #[true, true, true, true, true, true, true, true, true, true, true, true, true, true, true, true, true, true, true, true, false, false, false, false, false, false, false, false, false, false, false, false, false, false, false, false, false, false, false, false, false, false, false, false, false, false, false, false] rfl rfl (any_of HT_.out (by kernel_rfl)) (fun _ _ _ h => h) (Or.inl ⟨by rfl, ?_⟩) ?_ ?_
            rotate_left
            · intro w'
              go_simp
              with_reducible rfl
            rotate_left
            · simp only [Act.put, List.setIfInBounds_toArray, List.set_cons_zero, List.set_cons_succ, i64_w, i32_w]
              rfl
            refine pure_ (i := 20) (N := some 151) (v := ?_) (a' := ?_) #[true, true, true, true, true, true, true, true, true, true, true, true, true, true, true, true, true, true, true, true, true, false, false, false, false, false, false, false, false, false, false, false, false, false, false, false, false, false, false, false, false, false, false, false, false, false, false, false] rfl rfl (any_of HT_.out (by kernel_rfl)) (fun _ _ _ h => h) (Or.inl ⟨by rfl, ?_⟩) ?_ ?_
            rotate_left
            · intro w'
              go_simp
              with_reducible rfl
            rotate_left
            · simp only [Act.put, List.setIfInBounds_toArray, List.set_cons_zero, List.set_cons_succ, i64_w, i32_w]
              rfl
            refine pure_ (i := 24) (N := some 155) (v := ?_) (a' := ?_) #[true, true, true, true, true, true, true, true, true, true, true, true, true, true, true, true, true, true, true, true, true, false, false, false, true, false, false, false, false, false, false, false, false, false, false, false, false, false, false, false, false, false, false, false, false, false, false, false] rfl rfl (any_of HT_.out (by kernel_rfl)) (fun _ _ _ h => h) (Or.inl ⟨by rfl, ?_⟩) ?_ ?_
            rotate_left
            · intro w'
              go_simp
              with_reducible rfl
            rotate_left
            · simp only [Act.put, List.setIfInBounds_toArray, List.set_cons_zero, List.set_cons_succ, i64_w, i32_w]
              rfl
            refine take_ (i := 21) (N := some 152) (v := ?_) (a' := ?_) #[true, true, true, true, true, true, true, true, true, true, true, true, true, true, true, true, true, true, true, true, true, true, false, false, true, false, false, false, false, false, false, false, false, false, false, false, false, false, false, false, false, false, false, false, false, false, false, false] rfl rfl (take_ofW HT_.out HW_.out (by kernel_rfl)) (fun _ _ _ h => h) (Or.inl ⟨by rfl, ?_⟩) hHeld ?_ ?_
            rotate_left
            · rintro w' ⟨s0, s1, s2, s3, s4⟩
              go_simp
              with_reducible rfl
            rotate_left
            · simp only [Act.put, List.setIfInBounds_toArray, List.set_cons_zero, List.set_cons_succ, i64_w, i32_w]
              rfl
            refine pure_ (i := 22) (N := some 153) (v := ?_) (a' := ?_) #[true, true, true, true, true, true, true, true, true, true, true, true, true, true, true, true, true, true, true, true, true, true, true, false, true, false, false, false, false, false, false, false, false, false, false, false, false, false, false, false, false, false, false, false, false, false, false, false] rfl rfl (any_of HT_.out (by kernel_rfl)) (fun _ _ _ h => h) (Or.inl ⟨by rfl, ?_⟩) ?_ ?_
            rotate_left
            · intro w'
              go_simp
              with_reducible rfl
            rotate_left
            · simp only [Act.put, List.setIfInBounds_toArray, List.set_cons_zero, List.set_cons_succ, i64_w, i32_w]
              rfl
            refine take_ (i := 23) (N := some 154) (v := ?_) (a' := ?_) #[true, true, true, true, true, true, true, true, true, true, true, true, true, true, true, true, true, true, true, true, true, true, true, true, true, false, false, false, false, false, false, false, false, false, false, false, false, false, false, false, false, false, false, false, false, false, false, false] rfl rfl (take_ofW HT_.out HW_.out (by kernel_rfl)) (fun _ _ _ h => h) (Or.inl ⟨by rfl, ?_⟩) hHeld ?_ ?_
            rotate_left
            · rintro w' ⟨s0, s1, s2, s3, s4⟩
              go_simp
              with_reducible rfl
            rotate_left
            · simp only [Act.put, List.setIfInBounds_toArray, List.set_cons_zero, List.set_cons_succ, i64_w, i32_w]
              rfl
            refine pure_ (i := 25) (N := some 156) (v := .bool false) (a' := ?_) #[true, true, true, true, true, true, true, true, true, true, true, true, true, true, true, true, true, true, true, true, true, true, true, true, true, true, false, false, false, false, false, false, false, false, false, false, false, false, false, false, false, false, false, false, false, false, false, false] rfl rfl (any_of HT_.out (by kernel_rfl)) (fun _ _ _ h => h) (Or.inl ⟨by rfl, ?_⟩) ?_ ?_
            · intro w'
              have hx : ¬ (N : Int) ≤ (P : Int) := by omega
              go_simp
              all_goals first | (with_reducible rfl) | (simp [hx]; done) | (simp; omega)
            rotate_left
            · simp only [Act.put, List.setIfInBounds_toArray, List.set_cons_zero, List.set_cons_succ, i64_w, i32_w]
              rfl
            refine pure_ (i := 26) (N := some 157) (v := ?_) (a' := ?_) #[true, true, true, true, true, true, true, true, true, true, true, true, true, true, true, true, true, true, true, true, true, true, true, true, true, true, true, false, false, false, false, false, false, false, false, false, false, false, false, false, false, false, false, false, false, false, false, false] rfl rfl (any_of HT_.out (by kernel_rfl)) (fun _ _ _ h => h) (Or.inl ⟨by rfl, ?_⟩) ?_ ?_
            rotate_left
            · intro w'
              go_simp
              with_reducible rfl
            rotate_left
            · simp only [Act.put, List.setIfInBounds_toArray, List.set_cons_zero, List.set_cons_succ, i64_w, i32_w]
              rfl
            refine pure_ (i := 27) (N := some 158) (v := ?_) (a' := ?_) #[true, true, true, true, true, true, true, true, true, true, true, true, true, true, true, true, true, true, true, true, true, true, true, true, true, true, true, true, false, false, false, false, false, false, false, false, false, false, false, false, false, false, false, false, false, false, false, false] rfl rfl (any_of HT_.out (by kernel_rfl)) (fun _ _ _ h => h) (Or.inl ⟨by rfl, ?_⟩) ?_ ?_
            rotate_left
            · intro w'
              go_simp
              with_reducible rfl
            rotate_left
            · simp only [Act.put, List.setIfInBounds_toArray, List.set_cons_zero, List.set_cons_succ, i64_w, i32_w]
              rfl
            refine pure_ (i := 28) (N := some 159) (v := ?_) (a' := ?_) #[true, true, true, true, true, true, true, true, true, true, true, true, true, true, true, true, true, true, true, true, true, true, true, true, true, true, true, true, true, false, false, false, false, false, false, false, false, false, false, false, false, false, false, false, false, false, false, false] rfl rfl (any_of HT_.out (by kernel_rfl)) (fun _ _ _ h => h) (Or.inl ⟨by rfl, ?_⟩) ?_ ?_
            rotate_left
            · intro w'
              go_simp
              with_reducible rfl
            rotate_left
            · simp only [Act.put, List.setIfInBounds_toArray, List.set_cons_zero, List.set_cons_succ, i64_w, i32_w]
              rfl
            refine pure_ (i := 29) (N := some 160) (v := ?_) (a' := ?_) #[true, true, true, true, true, true, true, true, true, true, true, true, true, true, true, true, true, true, true, true, true, true, true, true, true, true, true, true, true, true, false, false, false, false, false, false, false, false, false, false, false, false, false, false, false, false, false, false] rfl rfl (any_of HT_.out (by kernel_rfl)) (fun _ _ _ h => h) (Or.inl ⟨by rfl, ?_⟩) ?_ ?_
            rotate_left
            · intro w'
              go_simp
              with_reducible rfl
            rotate_left
            · simp only [Act.put, List.setIfInBounds_toArray, List.set_cons_zero, List.set_cons_succ, i64_w, i32_w]
              rfl
            refine pure_ (i := 30) (N := some 161) (v := ?_) (a' := ?_) #[true, true, true, true, true, true, true, true, true, true, true, true, true, true, true, true, true, true, true, true, true, true, true, true, true, true, true, true, true, true, true, false, false, false, false, false, false, false, false, false, false, false, false, false, false, false, false, false] rfl rfl (any_of HT_.out (by kernel_rfl)) (fun _ _ _ h => h) (Or.inl ⟨by rfl, ?_⟩) ?_ ?_
            rotate_left
            · intro w'
              go_simp
              with_reducible rfl
            rotate_left
            · simp only [Act.put, List.setIfInBounds_toArray, List.set_cons_zero, List.set_cons_succ, i64_w, i32_w]
              rfl
            refine pure_ (i := 36) (N := some 167) (v := ?_) (a' := ?_) #[true, true, true, true, true, true, true, true, true, true, true, true, true, true, true, true, true, true, true, true, true, true, true, true, true, true, true, true, true, true, true, false, false, false, false, false, true, false, false, false, false, false, false, false, false, false, false, false] rfl rfl (any_of HT_.out (by kernel_rfl)) (fun _ _ _ h => h) (Or.inl ⟨by rfl, ?_⟩) ?_ ?_
            rotate_left
            · intro w'
              go_simp
              with_reducible rfl
            rotate_left
            · simp only [Act.put, List.setIfInBounds_toArray, List.set_cons_zero, List.set_cons_succ, i64_w, i32_w]
              rfl
            refine take_ (i := 31) (N := some 162) (v := ?_) (a' := ?_) #[true, true, true, true, true, true, true, true, true, true, true, true, true, true, true, true, true, true, true, true, true, true, true, true, true, true, true, true, true, true, true, true, false, false, false, false, true, false, false, false, false, false, false, false, false, false, false, false] rfl rfl (take_ofW HT_.out HW_.out (by kernel_rfl)) (fun _ _ _ h => h) (Or.inl ⟨by rfl, ?_⟩) hHeld ?_ ?_
            rotate_left
            · rintro w' ⟨s0, s1, s2, s3, s4⟩
              go_simp
              with_reducible rfl
            rotate_left
            · simp only [Act.put, List.setIfInBounds_toArray, List.set_cons_zero, List.set_cons_succ, i64_w, i32_w]
              rfl
            refine pure_ (i := 32) (N := some 163) (v := ?_) (a' := ?_) #[true, true, true, true, true, true, true, true, true, true, true, true, true, true, true, true, true, true, true, true, true, true, true, true, true, true, true, true, true, true, true, true, true, false, false, false, true, false, false, false, false, false, false, false, false, false, false, false] rfl rfl (any_of HT_.out (by kernel_rfl)) (fun _ _ _ h => h) (Or.inl ⟨by rfl, ?_⟩) ?_ ?_
            rotate_left
            · intro w'
              go_simp
              with_reducible rfl
            rotate_left
            · simp only [Act.put, List.setIfInBounds_toArray, List.set_cons_zero, List.set_cons_succ, i64_w, i32_w]
              rfl
            refine take_ (i := 33) (N := some 164) (v := ?_) (a' := ?_) #[true, true, true, true, true, true, true, true, true, true, true, true, true, true, true, true, true, true, true, true, true, true, true, true, true, true, true, true, true, true, true, true, true, true, false, false, true, false, false, false, false, false, false, false, false, false, false, false] rfl rfl (take_ofW HT_.out HW_.out (by kernel_rfl)) (fun _ _ _ h => h) (Or.inl ⟨by rfl, ?_⟩) hHeld ?_ ?_
            rotate_left
            · rintro w' ⟨s0, s1, s2, s3, s4⟩
              go_simp
              with_reducible rfl
            rotate_left
            · simp only [Act.put, List.setIfInBounds_toArray, List.set_cons_zero, List.set_cons_succ, i64_w, i32_w]
              rfl
            refine pure_ (i := 34) (N := some 165) (v := ?_) (a' := ?_) #[true, true, true, true, true, true, true, true, true, true, true, true, true, true, true, true, true, true, true, true, true, true, true, true, true, true, true, true, true, true, true, true, true, true, true, false, true, false, false, false, false, false, false, false, false, false, false, false] rfl rfl (any_of HT_.out (by kernel_rfl)) (fun _ _ _ h => h) (Or.inl ⟨by rfl, ?_⟩) ?_ ?_
            rotate_left
            · intro w'
              go_simp
              with_reducible rfl
            rotate_left
            · simp only [Act.put, List.setIfInBounds_toArray, List.set_cons_zero, List.set_cons_succ, i64_w, i32_w]
              rfl
            refine take_ (i := 35) (N := some 166) (v := ?_) (a' := ?_) #[true, true, true, true, true, true, true, true, true, true, true, true, true, true, true, true, true, true, true, true, true, true, true, true, true, true, true, true, true, true, true, true, true, true, true, true, true, false, false, false, false, false, false, false, false, false, false, false] rfl rfl (take_ofW HT_.out HW_.out (by kernel_rfl)) (fun _ _ _ h => h) (Or.inl ⟨by rfl, ?_⟩) hHeld ?_ ?_
            rotate_left
            · rintro w' ⟨s0, s1, s2, s3, s4⟩
              go_simp
              with_reducible rfl
            rotate_left
            · simp only [Act.put, List.setIfInBounds_toArray, List.set_cons_zero, List.set_cons_succ, i64_w, i32_w]
              rfl
            refine take_ (i := 37) (N := some 168) (v := ?_) (a' := ?_) #[true, true, true, true, true, true, true, true, true, true, true, true, true, true, true, true, true, true, true, true, true, true, true, true, true, true, true, true, true, true, true, true, true, true, true, true, true, true, false, false, false, false, false, false, false, false, false, false] rfl rfl (take_ofW HT_.out HW_.out (by kernel_rfl)) (fun _ _ _ h => h) (Or.inl ⟨by rfl, ?_⟩) hHeld ?_ ?_
            rotate_left
            · rintro w' ⟨s0, s1, s2, s3, s4⟩
              go_simp
              with_reducible rfl
            rotate_left
            · simp only [Act.put, List.setIfInBounds_toArray, List.set_cons_zero, List.set_cons_succ, i64_w, i32_w]
              rfl
            refine pure_ (i := 38) (N := some 169) (v := .int .i64 dv) (a' := ?_) #[true, true, true, true, true, true, true, true, true, true, true, true, true, true, true, true, true, true, true, true, true, true, true, true, true, true, true, true, true, true, true, true, true, true, true, true, true, true, true, false, false, false, false, false, false, false, false, false] rfl rfl (any_of HT_.out (by kernel_rfl)) (fun _ _ _ h => h) (Or.inl ⟨by rfl, ?_⟩) ?_ ?_
            · intro w'
              have hw : RowKit.wrap64 (1 + dv - 1) = dv := by unfold RowKit.wrap64; omega
              go_simp
              all_goals first | (with_reducible rfl) | (rw [IntWalk.i64_left]; exact hw) | (simp [hw]; done)
            rotate_left
            · simp only [Act.put, List.setIfInBounds_toArray, List.set_cons_zero, List.set_cons_succ, i64_w, i32_w]
              rfl
            refine pure_ (i := 39) (N := some 170) (v := .bool false) (a' := ?_) #[true, true, true, true, true, true, true, true, true, true, true, true, true, true, true, true, true, true, true, true, true, true, true, true, true, true, true, true, true, true, true, true, true, true, true, true, true, true, true, true, false, false, false, false, false, false, false, false] rfl rfl (any_of HT_.out (by kernel_rfl)) (fun _ _ _ h => h) (Or.inl ⟨by rfl, ?_⟩) ?_ ?_
            · intro w'
              go_simp
              all_goals first | (with_reducible rfl) | (simp; done) | (simp; omega)
            rotate_left
            · simp only [Act.put, List.setIfInBounds_toArray, List.set_cons_zero, List.set_cons_succ, i64_w, i32_w]
              rfl
            refine pure_ (i := 40) (N := some 171) (v := ?_) (a' := ?_) #[true, true, true, true, true, true, true, true, true, true, true, true, true, true, true, true, true, true, true, true, true, true, true, true, true, true, true, true, true, true, true, true, true, true, true, true, true, true, true, true, true, false, false, false, false, false, false, false] rfl rfl (any_of HT_.out (by kernel_rfl)) (fun _ _ _ h => h) (Or.inl ⟨by rfl, ?_⟩) ?_ ?_
            rotate_left
            · intro w'
              go_simp
              with_reducible rfl
            rotate_left
            · simp only [Act.put, List.setIfInBounds_toArray, List.set_cons_zero, List.set_cons_succ, i64_w, i32_w]
              rfl
            refine pure_ (i := 41) (N := some 172) (v := ?_) (a' := ?_) #[true, true, true, true, true, true, true, true, true, true, true, true, true, true, true, true, true, true, true, true, true, true, true, true, true, true, true, true, true, true, true, true, true, true, true, true, true, true, true, true, true, true, false, false, false, false, false, false] rfl rfl (any_of HT_.out (by kernel_rfl)) (fun _ _ _ h => h) (Or.inl ⟨by rfl, ?_⟩) ?_ ?_
            rotate_left
            · intro w'
              go_simp
              with_reducible rfl
            rotate_left
            · simp only [Act.put, List.setIfInBounds_toArray, List.set_cons_zero, List.set_cons_succ, i64_w, i32_w]
              rfl
            refine pure_ (i := 42) (N := some 173) (v := ?_) (a' := ?_) #[true, true, true, true, true, true, true, true, true, true, true, true, true, true, true, true, true, true, true, true, true, true, true, true, true, true, true, true, true, true, true, true, true, true, true, true, true, true, true, true, true, true, true, false, false, false, false, false] rfl rfl (any_of HT_.out (by kernel_rfl)) (fun _ _ _ h => h) (Or.inl ⟨by rfl, ?_⟩) ?_ ?_
            rotate_left
            · intro w'
              go_simp
              with_reducible rfl
            rotate_left
            · simp only [Act.put, List.setIfInBounds_toArray, List.set_cons_zero, List.set_cons_succ, i64_w, i32_w]
              rfl
            refine pure_ (i := 44) (N := some 175) (v := ?_) (a' := ?_) #[true, true, true, true, true, true, true, true, true, true, true, true, true, true, true, true, true, true, true, true, true, true, true, true, true, true, true, true, true, true, true, true, true, true, true, true, true, true, true, true, true, true, true, false, true, false, false, false] rfl rfl (any_of HT_.out (by kernel_rfl)) (fun _ _ _ h => h) (Or.inl ⟨by rfl, ?_⟩) ?_ ?_
            rotate_left
            · intro w'
              go_simp
              with_reducible rfl
            rotate_left
            · simp only [Act.put, List.setIfInBounds_toArray, List.set_cons_zero, List.set_cons_succ, i64_w, i32_w]
              rfl
            refine take_ (i := 43) (N := some 174) (v := ?_) (a' := ?_) #[true, true, true, true, true, true, true, true, true, true, true, true, true, true, true, true, true, true, true, true, true, true, true, true, true, true, true, true, true, true, true, true, true, true, true, true, true, true, true, true, true, true, true, true, true, false, false, false] rfl rfl (take_ofW HT_.out HW_.out (by kernel_rfl)) (fun _ _ _ h => h) (Or.inl ⟨by rfl, ?_⟩) hHeld ?_ ?_
            rotate_left
            · rintro w' ⟨s0, s1, s2, s3, s4⟩
              go_simp
              with_reducible rfl
            rotate_left
            · simp only [Act.put, List.setIfInBounds_toArray, List.set_cons_zero, List.set_cons_succ, i64_w, i32_w]
              rfl
            refine take_ (i := 45) (N := some 176) (v := ?_) (a' := ?_) #[true, true, true, true, true, true, true, true, true, true, true, true, true, true, true, true, true, true, true, true, true, true, true, true, true, true, true, true, true, true, true, true, true, true, true, true, true, true, true, true, true, true, true, true, true, true, false, false] rfl rfl (take_ofW HT_.out HW_.out (by kernel_rfl)) (fun _ _ _ h => h) (Or.inl ⟨by rfl, ?_⟩) hHeld ?_ ?_
            rotate_left
            · rintro w' ⟨s0, s1, s2, s3, s4⟩
              go_simp
              with_reducible rfl
            rotate_left
            · simp only [Act.put, List.setIfInBounds_toArray, List.set_cons_zero, List.set_cons_succ, i64_w, i32_w]
              rfl
            refine pure_ (i := 46) (N := some 177) (v := .bool false) (a' := ?_) #[true, true, true, true, true, true, true, true, true, true, true, true, true, true, true, true, true, true, true, true, true, true, true, true, true, true, true, true, true, true, true, true, true, true, true, true, true, true, true, true, true, true, true, true, true, true, true, false] rfl rfl (any_of HT_.out (by kernel_rfl)) (fun _ _ _ h => h) (Or.inl ⟨by rfl, ?_⟩) ?_ ?_
            · intro w'
              go_simp
              all_goals first | (with_reducible rfl) | (simp; done) | (simp; omega)
            rotate_left
            · simp only [Act.put, List.setIfInBounds_toArray, List.set_cons_zero, List.set_cons_succ, i64_w, i32_w]
              rfl
            refine pure_ (i := 47) (N := some 178) (v := ?_) (a' := ?_) #[true, true, true, true, true, true, true, true, true, true, true, true, true, true, true, true, true, true, true, true, true, true, true, true, true, true, true, true, true, true, true, true, true, true, true, true, true, true, true, true, true, true, true, true, true, true, true, true] rfl rfl (any_of HT_.out (by kernel_rfl)) (fun _ _ _ h => h) (Or.inl ⟨by rfl, ?_⟩) ?_ ?_
            rotate_left
            · intro w'
              go_simp
              with_reducible rfl
            rotate_left
            · simp only [Act.put, List.setIfInBounds_toArray, List.set_cons_zero, List.set_cons_succ, i64_w, i32_w]
              rfl
            refine done_ (done_of HT_.out (by kernel_rfl)) ?_
            have hg0 := HH.out.c0
            go_wp2_with ((with_reducible refine gate_builtin (b := .append) (xs := #[.tmp 179, .tmp 182]) rfl ?_); at_builtin; refine Kd.R_append (Kd.int .i64) (w0 := w6) w6.heap.size rfl (.tmp 179) (.tmp 182) 23 3 (.int .i64 0) 8 rfl Try.underlying23 info3 rfl (by decide) (by omega) _ ((C.take m).map S49.f0) (k : Int) [.int .i64 (k : Int)] (fun _ => True) (fun _ => False) rfl (by first | rfl | (simp [Act.eval]; done) | (simp [Act.eval, go_sem]; done)) rfl (fun _ hk => hk.elim) (fun _ _ => trivial) HXa.out HBa.out HBa.out.size HLe.out ?_; intro v1 w8 ho hb hg hat; rw [← HK.out] at ho; have HX2 := Aside0.mk ho; have HB2 := Aside0.mk hb; clear ho hb hg hat)
            go_roundw
            case rel => exact ⟨m + 1, by omega, by go_num, HX2, HB2⟩
            case measure => simp [intOf]; omega
          · obtain rfl : m = C.length := by omega
            rw [List.take_of_length_le (Nat.le_refl _)] at HX
            obtain ⟨Ag, cg, rfl, hlg, hCg⟩ := Kd.R_reads HX.out
            have hgl : (C.map S49.f0).length ≤ 6 := by rw [List.length_map]; exact hCl
            generalize C.map S49.f0 = gs at hlg hCg HX hCh hgl
            have HCg := Aside0.mk hCg
            clear hCg
            obtain ⟨w9, rfl⟩ : ∃ x : World, x = wr := ⟨wr, rfl⟩
            go_wp2_with fail
            go_loopw [22] (fun s22 wq => ∃ g : Nat, g ≤ ps.length ∧ s22 = .int .i64 (g : Int) ∧ Aside0 (Below w9.heap.size w9 wq)) (fun s22 _ => ((ps.length : Int) - intOf s22).toNat)
            case atStart => exact ⟨0, by omega, rfl, ⟨Below.refl _ _⟩⟩
            case round =>
              obtain ⟨g, hg, rfl, HBr⟩ := hrel
              have HLr := Aside0.mk (HLq.out.below HBr.out)
              by_cases hgl2 : g < ps.length
              · have hgz : (g : Int) < (ps.length : Int) := by omega
                have hg0 : (0 : Int) ≤ (g : Int) := by omega
                obtain ⟨hp0, hp1⟩ := hpm _ (List.getElem_mem hgl2)
                obtain ⟨P, hP⟩ : ∃ P : Nat, ps[g] = (P : Int) := ⟨ps[g].toNat, by omega⟩
                obtain ⟨ap, eap, hpk⟩ := Kd.at_int HLr.out.p (g : Int) hg0 hgz
                subst eap
                simp only [Int.toNat_natCast] at hpk
                rw [rd_get hgl2, hP] at hpk
                rw [hP] at hp0 hp1
                obtain ⟨ad', ea, hdv⟩ := Kd.at_int (Kd.C_below HCd.out (HBq.out.trans (HBr.out.mono HBq.out.size))) (P : Int) hp0 hp1
                injection ea with ea
                subst ea
                simp only [Int.toNat_natCast] at hdv
                have hhas : decide ((g : Int) ∈ gs) = decide (0 ≤ rd D (P : Int)) := by
                  rw [decide_eq_decide]
                  have := hCh g hgl2
                  rw [hP] at this
                  exact this
                generalize rd D (P : Int) = dv at hdv hhas
                have HH := Aside0.mk (PD.mk hpk hdv : PD (ap.add g) (ad.add P) (P : Int) dv wr)
                clear hpk hdv
                go_wp2_with fail
                refine start_ (n := 27) (S := fun w' => PD (ap.add g) (ad.add P) (P : Int) dv w') (ds := []) #[false, false, false, false, false, false, false, false, false, false, false, false, false, false, false, false, false, false, false, false, false, false, false, false, false, false, false] (by kernel_rfl) rfl rfl (HH.out.below ((Below.refl _ _).drew)) (fun hHeld => ?_)
                refine with_tabW lists6.tab37 lists6.bits37 (fun HT_ HW_ => ?_)
                replace HH := Aside0.mk (HH.out.below ((Below.refl _ wr).drew))
                replace HBr := Aside0.mk HBr.out.drew
                generalize wr.drew = W1 at HH HBr hHeld ⊢
                refine pure_ (i := 0) (N := some 190) (v := ?_) (a' := ?_) #[true, false, false, false, false, false, false, false, false, false, false, false, false, false, false, false, false, false, false, false, false, false, false, false, false, false, false] rfl rfl (any_of HT_.out (by kernel_rfl)) (fun _ _ _ h => h) (Or.inl ⟨by rfl, ?_⟩) ?_ ?_
                rotate_left
                · intro w'
                  go_simp
                  with_reducible rfl
                rotate_left
                · simp only [Act.put, List.setIfInBounds_toArray, List.set_cons_zero, List.set_cons_succ, i64_w, i32_w]
                  rfl
                refine pure_ (i := 1) (N := some 191) (v := ?_) (a' := ?_) #[true, true, false, false, false, false, false, false, false, false, false, false, false, false, false, false, false, false, false, false, false, false, false, false, false, false, false] rfl rfl (any_of HT_.out (by kernel_rfl)) (fun _ _ _ h => h) (Or.inl ⟨by rfl, ?_⟩) ?_ ?_
                rotate_left
                · intro w'
                  go_simp
                  with_reducible rfl
                rotate_left
                · simp only [Act.put, List.setIfInBounds_toArray, List.set_cons_zero, List.set_cons_succ, i64_w, i32_w]
                  rfl
                refine pure_ (i := 2) (N := some 192) (v := ?_) (a' := ?_) #[true, true, true, false, false, false, false, false, false, false, false, false, false, false, false, false, false, false, false, false, false, false, false, false, false, false, false] rfl rfl (any_of HT_.out (by kernel_rfl)) (fun _ _ _ h => h) (Or.inl ⟨by rfl, ?_⟩) ?_ ?_
                rotate_left
                · intro w'
                  go_simp
                  with_reducible rfl
                rotate_left
                · simp only [Act.put, List.setIfInBounds_toArray, List.set_cons_zero, List.set_cons_succ, i64_w, i32_w]
                  rfl
                refine take_ (i := 3) (N := some 193) (v := ?_) (a' := ?_) #[true, true, true, true, false, false, false, false, false, false, false, false, false, false, false, false, false, false, false, false, false, false, false, false, false, false, false] rfl rfl (take_ofW HT_.out HW_.out (by kernel_rfl)) (fun _ _ _ h => h) (Or.inl ⟨by rfl, ?_⟩) hHeld ?_ ?_
                rotate_left
                · rintro w' ⟨s0, s1⟩
                  go_simp
                  with_reducible rfl
                rotate_left
                · simp only [Act.put, List.setIfInBounds_toArray, List.set_cons_zero, List.set_cons_succ, i64_w, i32_w]
                  rfl
                refine pure_ (i := 4) (N := some 194) (v := .bool false) (a' := ?_) #[true, true, true, true, true, false, false, false, false, false, false, false, false, false, false, false, false, false, false, false, false, false, false, false, false, false, false] rfl rfl (any_of HT_.out (by kernel_rfl)) (fun _ _ _ h => h) (Or.inl ⟨by rfl, ?_⟩) ?_ ?_
                · intro w'
                  have hx : ¬ (P : Int) < 0 := by omega
                  go_simp
                  all_goals first | (with_reducible rfl) | (simp [hx]; done) | (simp; omega)
                rotate_left
                · simp only [Act.put, List.setIfInBounds_toArray, List.set_cons_zero, List.set_cons_succ, i64_w, i32_w]
                  rfl
                refine pure_ (i := 5) (N := some 195) (v := ?_) (a' := ?_) #[true, true, true, true, true, true, false, false, false, false, false, false, false, false, false, false, false, false, false, false, false, false, false, false, false, false, false] rfl rfl (any_of HT_.out (by kernel_rfl)) (fun _ _ _ h => h) (Or.inl ⟨by rfl, ?_⟩) ?_ ?_
                rotate_left
                · intro w'
                  go_simp
                  with_reducible rfl
                rotate_left
                · simp only [Act.put, List.setIfInBounds_toArray, List.set_cons_zero, List.set_cons_succ, i64_w, i32_w]
                  rfl
                refine pure_ (i := 6) (N := some 196) (v := ?_) (a' := ?_) #[true, true, true, true, true, true, true, false, false, false, false, false, false, false, false, false, false, false, false, false, false, false, false, false, false, false, false] rfl rfl (any_of HT_.out (by kernel_rfl)) (fun _ _ _ h => h) (Or.inl ⟨by rfl, ?_⟩) ?_ ?_
                rotate_left
                · intro w'
                  go_simp
                  with_reducible rfl
                rotate_left
                · simp only [Act.put, List.setIfInBounds_toArray, List.set_cons_zero, List.set_cons_succ, i64_w, i32_w]
                  rfl
                refine pure_ (i := 7) (N := some 197) (v := ?_) (a' := ?_) #[true, true, true, true, true, true, true, true, false, false, false, false, false, false, false, false, false, false, false, false, false, false, false, false, false, false, false] rfl rfl (any_of HT_.out (by kernel_rfl)) (fun _ _ _ h => h) (Or.inl ⟨by rfl, ?_⟩) ?_ ?_
                rotate_left
                · intro w'
                  go_simp
                  with_reducible rfl
                rotate_left
                · simp only [Act.put, List.setIfInBounds_toArray, List.set_cons_zero, List.set_cons_succ, i64_w, i32_w]
                  rfl
                refine pure_ (i := 8) (N := some 198) (v := ?_) (a' := ?_) #[true, true, true, true, true, true, true, true, true, false, false, false, false, false, false, false, false, false, false, false, false, false, false, false, false, false, false] rfl rfl (any_of HT_.out (by kernel_rfl)) (fun _ _ _ h => h) (Or.inl ⟨by rfl, ?_⟩) ?_ ?_
                rotate_left
                · intro w'
                  go_simp
                  with_reducible rfl
                rotate_left
                · simp only [Act.put, List.setIfInBounds_toArray, List.set_cons_zero, List.set_cons_succ, i64_w, i32_w]
                  rfl
                refine pure_ (i := 10) (N := some 200) (v := ?_) (a' := ?_) #[true, true, true, true, true, true, true, true, true, false, true, false, false, false, false, false, false, false, false, false, false, false, false, false, false, false, false] rfl rfl (any_of HT_.out (by kernel_rfl)) (fun _ _ _ h => h) (Or.inl ⟨by rfl, ?_⟩) ?_ ?_
                rotate_left
                · intro w'
                  go_simp
                  with_reducible rfl
                rotate_left
                · simp only [Act.put, List.setIfInBounds_toArray, List.set_cons_zero, List.set_cons_succ, i64_w, i32_w]
                  rfl
                refine take_ (i := 9) (N := some 199) (v := ?_) (a' := ?_) #[true, true, true, true, true, true, true, true, true, true, true, false, false, false, false, false, false, false, false, false, false, false, false, false, false, false, false] rfl rfl (take_ofW HT_.out HW_.out (by kernel_rfl)) (fun _ _ _ h => h) (Or.inl ⟨by rfl, ?_⟩) hHeld ?_ ?_
                rotate_left
                · rintro w' ⟨s0, s1⟩
                  go_simp
                  with_reducible rfl
                rotate_left
                · simp only [Act.put, List.setIfInBounds_toArray, List.set_cons_zero, List.set_cons_succ, i64_w, i32_w]
                  rfl
                refine pure_ (i := 11) (N := some 201) (v := .bool false) (a' := ?_) #[true, true, true, true, true, true, true, true, true, true, true, true, false, false, false, false, false, false, false, false, false, false, false, false, false, false, false] rfl rfl (any_of HT_.out (by kernel_rfl)) (fun _ _ _ h => h) (Or.inl ⟨by rfl, ?_⟩) ?_ ?_
                · intro w'
                  have hx : ¬ (N : Int) ≤ (P : Int) := by omega
                  go_simp
                  all_goals first | (with_reducible rfl) | (simp [hx]; done) | (simp; omega)
                rotate_left
                · simp only [Act.put, List.setIfInBounds_toArray, List.set_cons_zero, List.set_cons_succ, i64_w, i32_w]
                  rfl
                refine pure_ (i := 12) (N := some 202) (v := ?_) (a' := ?_) #[true, true, true, true, true, true, true, true, true, true, true, true, true, false, false, false, false, false, false, false, false, false, false, false, false, false, false] rfl rfl (any_of HT_.out (by kernel_rfl)) (fun _ _ _ h => h) (Or.inl ⟨by rfl, ?_⟩) ?_ ?_
                rotate_left
                · intro w'
                  go_simp
                  with_reducible rfl
                rotate_left
                · simp only [Act.put, List.setIfInBounds_toArray, List.set_cons_zero, List.set_cons_succ, i64_w, i32_w]
                  rfl
                refine pure_ (i := 13) (N := some 203) (v := ?_) (a' := ?_) #[true, true, true, true, true, true, true, true, true, true, true, true, true, true, false, false, false, false, false, false, false, false, false, false, false, false, false] rfl rfl (any_of HT_.out (by kernel_rfl)) (fun _ _ _ h => h) (Or.inl ⟨by rfl, ?_⟩) ?_ ?_
                rotate_left
                · intro w'
                  go_simp
                  with_reducible rfl
                rotate_left
                · simp only [Act.put, List.setIfInBounds_toArray, List.set_cons_zero, List.set_cons_succ, i64_w, i32_w]
                  rfl
                refine pure_ (i := 14) (N := some 204) (v := ?_) (a' := ?_) #[true, true, true, true, true, true, true, true, true, true, true, true, true, true, true, false, false, false, false, false, false, false, false, false, false, false, false] rfl rfl (any_of HT_.out (by kernel_rfl)) (fun _ _ _ h => h) (Or.inl ⟨by rfl, ?_⟩) ?_ ?_
                rotate_left
                · intro w'
                  go_simp
                  with_reducible rfl
                rotate_left
                · simp only [Act.put, List.setIfInBounds_toArray, List.set_cons_zero, List.set_cons_succ, i64_w, i32_w]
                  rfl
                refine pure_ (i := 15) (N := some 205) (v := ?_) (a' := ?_) #[true, true, true, true, true, true, true, true, true, true, true, true, true, true, true, true, false, false, false, false, false, false, false, false, false, false, false] rfl rfl (any_of HT_.out (by kernel_rfl)) (fun _ _ _ h => h) (Or.inl ⟨by rfl, ?_⟩) ?_ ?_
                rotate_left
                · intro w'
                  go_simp
                  with_reducible rfl
                rotate_left
                · simp only [Act.put, List.setIfInBounds_toArray, List.set_cons_zero, List.set_cons_succ, i64_w, i32_w]
                  rfl
                refine pure_ (i := 17) (N := some 207) (v := ?_) (a' := ?_) #[true, true, true, true, true, true, true, true, true, true, true, true, true, true, true, true, false, true, false, false, false, false, false, false, false, false, false] rfl rfl (any_of HT_.out (by kernel_rfl)) (fun _ _ _ h => h) (Or.inl ⟨by rfl, ?_⟩) ?_ ?_
                rotate_left
                · intro w'
                  go_simp
                  with_reducible rfl
                rotate_left
                · simp only [Act.put, List.setIfInBounds_toArray, List.set_cons_zero, List.set_cons_succ, i64_w, i32_w]
                  rfl
                refine pure_ (i := 18) (N := some 208) (v := ?_) (a' := ?_) #[true, true, true, true, true, true, true, true, true, true, true, true, true, true, true, true, false, true, true, false, false, false, false, false, false, false, false] rfl rfl (any_of HT_.out (by kernel_rfl)) (fun _ _ _ h => h) (Or.inl ⟨by rfl, ?_⟩) ?_ ?_
                rotate_left
                · intro w'
                  go_simp
                  with_reducible rfl
                rotate_left
                · simp only [Act.put, List.setIfInBounds_toArray, List.set_cons_zero, List.set_cons_succ, i64_w, i32_w]
                  rfl
                refine pure_ (i := 19) (N := some 209) (v := ?_) (a' := ?_) #[true, true, true, true, true, true, true, true, true, true, true, true, true, true, true, true, false, true, true, true, false, false, false, false, false, false, false] rfl rfl (any_of HT_.out (by kernel_rfl)) (fun _ _ _ h => h) (Or.inl ⟨by rfl, ?_⟩) ?_ ?_
                rotate_left
                · intro w'
                  go_simp
                  with_reducible rfl
                rotate_left
                · simp only [Act.put, List.setIfInBounds_toArray, List.set_cons_zero, List.set_cons_succ, i64_w, i32_w]
                  rfl
                refine pure_ (i := 20) (N := some 210) (v := ?_) (a' := ?_) #[true, true, true, true, true, true, true, true, true, true, true, true, true, true, true, true, false, true, true, true, true, false, false, false, false, false, false] rfl rfl (any_of HT_.out (by kernel_rfl)) (fun _ _ _ h => h) (Or.inl ⟨by rfl, ?_⟩) ?_ ?_
                rotate_left
                · intro w'
                  go_simp
                  with_reducible rfl
                rotate_left
                · simp only [Act.put, List.setIfInBounds_toArray, List.set_cons_zero, List.set_cons_succ, i64_w, i32_w]
                  rfl
                refine take_ (i := 21) (N := some 211) (v := ?_) (a' := ?_) #[true, true, true, true, true, true, true, true, true, true, true, true, true, true, true, true, false, true, true, true, true, true, false, false, false, false, false] rfl rfl (take_ofW HT_.out HW_.out (by kernel_rfl)) (fun _ _ _ h => h) (Or.inl ⟨by rfl, ?_⟩) hHeld ?_ ?_
                rotate_left
                · rintro w' ⟨s0, s1⟩
                  go_simp
                  with_reducible rfl
                rotate_left
                · simp only [Act.put, List.setIfInBounds_toArray, List.set_cons_zero, List.set_cons_succ, i64_w, i32_w]
                  rfl
                refine pure_ (i := 22) (N := some 212) (v := ?_) (a' := ?_) #[true, true, true, true, true, true, true, true, true, true, true, true, true, true, true, true, false, true, true, true, true, true, true, false, false, false, false] rfl rfl (any_of HT_.out (by kernel_rfl)) (fun _ _ _ h => h) (Or.inl ⟨by rfl, ?_⟩) ?_ ?_
                rotate_left
                · intro w'
                  go_simp
                  with_reducible rfl
                rotate_left
                · simp only [Act.put, List.setIfInBounds_toArray, List.set_cons_zero, List.set_cons_succ, i64_w, i32_w]
                  rfl
                refine take_ (i := 23) (N := some 213) (v := ?_) (a' := ?_) #[true, true, true, true, true, true, true, true, true, true, true, true, true, true, true, true, false, true, true, true, true, true, true, true, false, false, false] rfl rfl (take_ofW HT_.out HW_.out (by kernel_rfl)) (fun _ _ _ h => h) (Or.inl ⟨by rfl, ?_⟩) hHeld ?_ ?_
                rotate_left
                · rintro w' ⟨s0, s1⟩
                  go_simp
                  with_reducible rfl
                rotate_left
                · simp only [Act.put, List.setIfInBounds_toArray, List.set_cons_zero, List.set_cons_succ, i64_w, i32_w]
                  rfl
                refine pure_ (i := 24) (N := some 214) (v := ?_) (a' := ?_) #[true, true, true, true, true, true, true, true, true, true, true, true, true, true, true, true, false, true, true, true, true, true, true, true, true, false, false] rfl rfl (any_of HT_.out (by kernel_rfl)) (fun _ _ _ h => h) (Or.inl ⟨by rfl, ?_⟩) ?_ ?_
                rotate_left
                · intro w'
                  go_simp
                  with_reducible rfl
                rotate_left
                · simp only [Act.put, List.setIfInBounds_toArray, List.set_cons_zero, List.set_cons_succ, i64_w, i32_w]
                  rfl
                refine one_ (i := 16) (N := some 206) #[true, true, true, true, true, true, true, true, true, true, true, true, true, true, true, true, true, true, true, true, true, true, true, true, true, false, false] rfl rfl (one_of HT_.out (by kernel_rfl)) (by decide) (fun K hK => ?_)
                refine goes_ Try.func27 (by kernel_rfl) rfl #[.slice Ag gs.length cg, .int .i64 (g : Int)] (by rfl) rfl rfl (by (try simp only [List.map_toArray, List.map_cons, List.map_nil]); first | done | rfl) ?_
                have hcall := crossbarlaw15_has.calls (gs.length + 1) Ag cg gs (g : Int) (decide ((g : Int) ∈ gs)) W1 (Kd.C_below HCg.out HBr.out) hlg (has_f (g : Int) gs (by omega) _ (by omega))
                refine hcall.mono ?_
                rintro e W2 ⟨rfl, hb⟩
                refine ⟨_, rfl, ?_⟩
                replace HH := Aside0.mk (HH.out.below hb.below)
                replace HBr := Aside0.mk (HBr.out.trans (hb.below.mono HBr.out.size))
                clear hb hcall
                refine hK.out _ _ HH.out (fun hHeld => ?_)
                rw [hhas]
                clear hK K
                refine norm_ (a' := ?_) ?_ ?_
                rotate_left
                · show Act.put _ (some 206) _ = _
                  simp only [Act.put, List.setIfInBounds_toArray, List.set_cons_zero, List.set_cons_succ, i64_w, i32_w]
                  rfl
                refine pure_ (i := 25) (N := some 215) (v := .bool false) (a' := ?_) #[true, true, true, true, true, true, true, true, true, true, true, true, true, true, true, true, true, true, true, true, true, true, true, true, true, true, false] rfl rfl (any_of HT_.out (by kernel_rfl)) (fun _ _ _ h => h) (Or.inl ⟨by rfl, ?_⟩) ?_ ?_
                · intro w'
                  go_simp
                  all_goals first | (with_reducible rfl) | (by_cases h0 : 0 ≤ dv <;> simp [h0]; done)
                rotate_left
                · simp only [Act.put, List.setIfInBounds_toArray, List.set_cons_zero, List.set_cons_succ, i64_w, i32_w]
                  rfl
                refine pure_ (i := 26) (N := some 216) (v := ?_) (a' := ?_) #[true, true, true, true, true, true, true, true, true, true, true, true, true, true, true, true, true, true, true, true, true, true, true, true, true, true, true] rfl rfl (any_of HT_.out (by kernel_rfl)) (fun _ _ _ h => h) (Or.inl ⟨by rfl, ?_⟩) ?_ ?_
                rotate_left
                · intro w'
                  go_simp
                  with_reducible rfl
                rotate_left
                · simp only [Act.put, List.setIfInBounds_toArray, List.set_cons_zero, List.set_cons_succ, i64_w, i32_w]
                  rfl
                refine done_ (done_of HT_.out (by kernel_rfl)) ?_
                go_wp2_with fail
                go_roundw
                case rel => exact ⟨g + 1, by omega, by go_num, HBr⟩
                case measure => simp [intOf]; omega
              · obtain rfl : g = ps.length := by omega
                go_wp2_with fail
                go_roundw
                case rel => exact ⟨i + 1, by omega, by go_num, HLr⟩
                case measure => simp [intOf]; omega
    · obtain rfl : N = i := by omega
      go_wp2_with fail
      go_ret
      exact ⟨rfl, HL.out.b⟩
end Go.Proofs.Ytjaodgicpnoifaa.P
