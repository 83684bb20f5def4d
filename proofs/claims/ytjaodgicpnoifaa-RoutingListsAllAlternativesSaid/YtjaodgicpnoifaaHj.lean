/- routing.Select: what it answers. -/
import Derived.Test.YtjaodgicpnoifaaHi
namespace Go.Proofs.Ytjaodgicpnoifaa.P
open Go.RowKit Go.Shelf Go.Lib Go.Sort Go.Proofs.YtjaodgicpnoifaaW.PrintWords Go.Proofs.YtjaodgicpnoifaaW.PrintLast Go.Proofs.YtjaodgicpnoifaaW.PrintMore
set_option linter.unusedVariables false
set_option linter.unusedSimpArgs false

/-- The first usable group. -/
def pick1 (u : List Bool) : List Int → Int × Int
  | [] => (0, 150)
  | g :: gs => if g < (u.length : Int) ∧ u.getD g.toNat false = true then (g, 0) else pick1 u gs
/-- What Select answers. -/
def selF (l : List S47) (t s hops : Int) (u : List Bool) : Int × Int :=
  if askF l t s ≠ 0 then (0, askF l t s) else if hops < 0 then (0, 1) else if 8 ≤ hops then (0, 151) else
    if (ordF l t s).2 ≠ 0 then (0, (ordF l t s).2) else pick1 u (ordF l t s).1

theorem swp_mem {d : Array S49} {i j : Nat} (hi : i < d.size) (hj : j < d.size) {x : S49} (h : x ∈ Sort.swp d i j) : x ∈ d := by
  have e1 : d[i]! = d[i] := getElem!_pos d i hi
  have e2 : d[j]! = d[j] := getElem!_pos d j hj
  unfold Sort.swp at h
  rcases Array.mem_or_eq_of_mem_setIfInBounds h with h | h
  · rcases Array.mem_or_eq_of_mem_setIfInBounds h with h | h
    · exact h
    · rw [h, e2]; exact Array.getElem_mem hj
  · rw [h, e1]; exact Array.getElem_mem hi
theorem ins_mem1 (lt : S49 → S49 → Bool) (a : Nat) : ∀ (j : Nat) (d : Array S49), j < d.size → ∀ x ∈ Sort.insInner lt a j d, x ∈ d := by
  intro j
  induction j with
  | zero => intro d _ x h; exact h
  | succ j ih =>
    intro d hj x h
    simp only [Sort.insInner] at h
    split at h
    · exact swp_mem hj (by omega) (ih _ (by simp [Sort.swp]; omega) x h)
    · exact h
theorem ins_mem2 (lt : S49 → S49 → Bool) (a b : Nat) : ∀ (n i : Nat) (d : Array S49), n = b - i → b ≤ d.size → ∀ x ∈ Sort.insOuter lt a b i d, x ∈ d := by
  intro n
  induction n with
  | zero => intro i d h hb x hx; rw [Sort.insOuter, if_neg (by omega)] at hx; exact hx
  | succ n ih =>
    intro i d h hb x hx
    rw [Sort.insOuter, if_pos (by omega)] at hx
    exact ins_mem1 lt a i d (by omega) x (ih (i + 1) _ (by omega) (by rw [ins_size1]; exact hb) x hx)
theorem srt_mem {key : S49 → Int} {l : List S49} {x : S49} (h : x ∈ srt key l) : x ∈ l := by
  unfold srt Sort.insertionSort at h
  rw [Array.mem_toList_iff] at h
  have := ins_mem2 (ltOf (cf key)) 0 l.length _ (0 + 1) l.toArray rfl (by simp) x h
  simpa using this
theorem okChs_ge {g : Int} : ∀ (l : List S49) (F : Nat → Bool), okChs g F l = true → ∀ x ∈ l, 0 ≤ x.f0 := by
  intro l
  induction l with
  | nil => intro _ _ x hx; simp at hx
  | cons c l ih =>
    intro F h x hx
    simp only [okChs, Bool.and_eq_true] at h
    rcases List.mem_cons.1 hx with rfl | hx
    · have hc := h.1
      unfold okCh at hc
      simp only [Bool.and_eq_true, decide_eq_true_eq] at hc
      exact hc.1.1.1.1
    · exact ih _ h.2 x hx
theorem ord_ge {l : List S47} {t s : Int} : ∀ g ∈ (ordF l t s).1, 0 ≤ g := by
  intro g hg
  unfold ordF at hg
  split at hg
  · simp at hg
  · rename_i h0
    split at hg
    · simp at hg
    · rename_i h1
      obtain ⟨x, hx, rfl⟩ := List.mem_map.1 hg
      have hx2 := srt_mem hx
      have hlt := ridx_lt t l
      have h0' : askF l t s = 0 := by simpa using h0
      have hc : chkF l 6 = 0 := by
        unfold askF at h0'
        split at h0'
        · contradiction
        · rename_i h; simpa using h
      unfold chkF at hc
      split at hc
      · cases hc
      · split at hc
        · rename_i h2
          have hm : rd_T47 l (ridx t l) ∈ l := by
            obtain ⟨i, hi⟩ : ∃ i : Nat, ridx t l = (i : Int) := ⟨(ridx t l).toNat, by omega⟩
            rw [hi] at hlt ⊢
            exact List.mem_iff_getElem?.2 ⟨i, rd47_at l i (by omega)⟩
          exact okChs_ge _ _ (okRt_mem l _ h2 _ hm) x hx2
        · cases hc

set_option maxRecDepth 100000 in
set_option maxHeartbeats 8000000 in
theorem select_any (A : Option Addr) (c : Nat) (l : List S47) (t s hops : Int) (Au : Option Addr) (cu : Nat) (u : List Bool) (w : World) (hr : Kd.C k47 w A l.length l) (hu : Kd.C Kd.bool w Au u.length u) (hlen : l.length ≤ 1000000) (hcl : ∀ z ∈ l, z.f1.length ≤ 1000000) :
    Calls Try.prog 23 #[.slice A l.length c, .int .i64 t, .int .i64 s, .int .i64 hops, .slice Au u.length cu] w fun e w' => e = .returned (.tuple #[.int .i64 (selF l t s hops u).1, .int .i64 (selF l t s hops u).2]) ∧ Below w.heap.size w w' := by
  have HR := Aside0.mk hr
  have HU := Aside0.mk hu
  have hask := asked_any A c l t s w hr hlen hcl
  clear hr hu
  obtain ⟨r1, r2, hsel⟩ : ∃ r1 r2, selF l t s hops u = (r1, r2) := ⟨_, _, rfl⟩
  rw [hsel]
  simp only
  go_enter Try.func23, Try.ntmps23
  go_wp2_with fail
  refine hask.mono ?_
  rintro e W1 ⟨rfl, hb⟩
  have H1 := Aside0.mk hb
  clear hb hask
  by_cases ha : askF l t s = 0
  · rw [ha]
    by_cases h1 : hops < 0
    · have hv : selF l t s hops u = (0, 1) := by unfold selF; rw [if_neg (by rw [ha]; simp), if_pos h1]
      obtain ⟨rfl, rfl⟩ := Prod.mk.inj (hv.symm.trans hsel)
      go_wp2_with fail
      go_ret2
      exact ⟨rfl, H1.out⟩
    by_cases h2 : 8 ≤ hops
    · have hv : selF l t s hops u = (0, 151) := by unfold selF; rw [if_neg (by rw [ha]; simp), if_neg h1, if_pos h2]
      obtain ⟨rfl, rfl⟩ := Prod.mk.inj (hv.symm.trans hsel)
      go_wp2_with fail
      go_ret2
      exact ⟨rfl, H1.out⟩
    have hge := ord_ge (l := l) (t := t) (s := s)
    have hv0 : selF l t s hops u = if (ordF l t s).2 ≠ 0 then (0, (ordF l t s).2) else pick1 u (ordF l t s).1 := by unfold selF; rw [if_neg (by rw [ha]; simp), if_neg h1, if_neg h2]
    obtain ⟨gs, er, hord⟩ : ∃ gs er, ordF l t s = (gs, er) := ⟨_, _, rfl⟩
    rw [hord] at hge hv0
    simp only at hge hv0
    rw [hsel] at hv0
    go_wp2_with fail
    refine (order_any A c l t s W1 (Kd.C_below HR.out H1.out) hlen hcl gs er hord).mono ?_
    rintro e W2 ⟨v2, rfl, hR, hb⟩
    obtain ⟨A2, c2, rfl, hle2, hC2⟩ := Kd.R_reads hR
    have H2 := Aside0.mk (H1.out.trans (hb.mono H1.out.size))
    have HC2 := Aside0.mk hC2
    clear hR hb hC2 H1 hle2 hsel ha
    by_cases he : er = 0
    · subst he
      rw [if_neg (by simp)] at hv0
      go_wp2_with fail
      go_loopw [41] (fun s41 wr => ∃ (m : Nat), m ≤ gs.length ∧ s41 = .int .i64 (m : Int) ∧ wr = W2 ∧ pick1 u gs = pick1 u (gs.drop m)) (fun s41 _ => ((gs.length : Int) - intOf s41).toNat)
      case atStart => exact ⟨0, by omega, rfl, rfl, rfl⟩
      case round =>
        obtain ⟨m, hm, rfl, rfl, hP⟩ := hrel
        by_cases hml : m < gs.length
        · have hm1 : (m : Int) < (gs.length : Int) := by omega
          have hm0 : (0 : Int) ≤ (m : Int) := by omega
          have hgl : gs.length ≤ 9223372036854775807 := HC2.out.2.1
          obtain ⟨ad2, eA2, y0⟩ := Kd.at_int HC2.out (m : Int) hm0 hm1
          subst eA2
          simp only [Int.toNat_natCast] at y0
          have hd : gs.drop m = rd gs (m : Int) :: gs.drop (m + 1) := by
            rw [List.drop_eq_getElem_cons hml]; simp [rd, hml]
          have hg0 : 0 ≤ rd gs (m : Int) := hge _ (by
            have : rd gs (m : Int) = gs[m] := by simp [rd, hml]
            rw [this]; exact List.getElem_mem hml)
          rw [hd] at hP
          simp only [pick1] at hP
          generalize rd gs (m : Int) = g at *
          by_cases hgu : g < (u.length : Int)
          · obtain ⟨ad3, eA3, z0⟩ := Kd.at_bool (Kd.C_below HU.out H2.out) g hg0 hgu
            subst eA3
            cases hb : u.getD g.toNat false with
            | true =>
              have z0' : wr.cell? (ad3.add g.toNat) = some (.bool true) := by rw [← hb]; exact z0
              clear z0
              rw [if_pos ⟨hgu, hb⟩] at hP
              obtain ⟨rfl, rfl⟩ := Prod.mk.inj (hv0.trans hP)
              go_wp2_with fail
              go_ret2
              exact ⟨rfl, H2.out⟩
            | false =>
              have z0' : wr.cell? (ad3.add g.toNat) = some (.bool false) := by rw [← hb]; exact z0
              clear z0
              rw [if_neg (by rintro ⟨_, h⟩; rw [hb] at h; cases h)] at hP
              go_wp2_with fail
              go_roundw
              case rel => exact ⟨m + 1, by omega, by go_num, by first | rfl | trivial, hP⟩
              case measure => simp [intOf]; omega
          · rw [if_neg (by rintro ⟨h, _⟩; exact hgu h)] at hP
            go_wp2_with fail
            go_roundw
            case rel => exact ⟨m + 1, by omega, by go_num, by first | rfl | trivial, hP⟩
            case measure => simp [intOf]; omega
        · have hm1 : ¬ (m : Int) < (gs.length : Int) := by omega
          rw [List.drop_eq_nil_of_le (by omega)] at hP
          obtain ⟨rfl, rfl⟩ := Prod.mk.inj (hv0.trans hP)
          go_wp2_with fail
          go_ret2
          exact ⟨rfl, H2.out⟩
    · rw [if_pos he] at hv0
      obtain ⟨rfl, rfl⟩ := Prod.mk.inj hv0
      have he' : (r2 == 0) = false := by simpa using he
      go_wp2_with fail
      go_ret2
      exact ⟨rfl, H2.out⟩
  · have hv : selF l t s hops u = (0, askF l t s) := by unfold selF; rw [if_pos ha]
    obtain ⟨rfl, hr2⟩ := Prod.mk.inj (hv.symm.trans hsel)
    rw [hr2] at ha ⊢
    have ha' : (r2 == 0) = false := by simpa using ha
    clear hr2 hv hsel
    go_wp2_with fail
    go_ret2
    exact ⟨rfl, H1.out⟩
end Go.Proofs.Ytjaodgicpnoifaa.P
