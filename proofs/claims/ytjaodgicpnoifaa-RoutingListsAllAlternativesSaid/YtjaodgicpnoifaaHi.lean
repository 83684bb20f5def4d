/- routing.Order: what it answers. -/
import Derived.Test.YtjaodgicpnoifaaHh
namespace Go.Proofs.Ytjaodgicpnoifaa.P
open Go.RowKit Go.Shelf Go.Lib Go.Sort Go.Proofs.YtjaodgicpnoifaaW.PrintWords Go.Proofs.YtjaodgicpnoifaaW.PrintLast Go.Proofs.YtjaodgicpnoifaaW.PrintMore
set_option linter.unusedVariables false
set_option linter.unusedSimpArgs false

def isDay (s : Int) : Bool := decide (28800 ≤ s) && decide (s < 72000)
/-- What Order answers. -/
def ordF (l : List S47) (t s : Int) : List Int × Int :=
  if askF l t s ≠ 0 then ([], askF l t s) else if ridx t l < 0 then ([], 150) else ((srt (price (isDay s)) (rd_T47 l (ridx t l)).f1).map S49.f0, 0)
theorem ridx_lt (t : Int) (l : List S47) : ridx t l < l.length := by
  induction l with
  | nil => simp [ridx]
  | cons x l ih => simp only [ridx, List.length_cons]; split <;> (try split) <;> omega
theorem ask_len {l : List S47} {t s : Int} (h : askF l t s = 0) : ∀ z ∈ l, z.f1.length ≤ 6 := by
  unfold askF at h
  split at h
  · contradiction
  · rename_i h1; exact chk_len (by simpa using h1)

/-- Order's own blocks: the target, the cost's function. -/
structure OI (w : World) (t : Int) (W : World) : Prop where
  c : W.cell? ⟨w.heap.size, 0, none⟩ = some (.int .i64 t)
  b : Below w.heap.size w W
theorem OI.below {w W W' : World} {t : Int} (h : OI w t W) (hb : Below W.heap.size W W') : OI w t W' :=
  ⟨(hb.cell (World.block_lt_of_cell? W _ h.c)).trans h.c, h.b.trans (hb.mono h.b.size)⟩
theorem OI.start (w : World) (t : Int) : OI w t (w.alloc (.cells #[.int .i64 t] 3)) := ⟨(blk_cell (blk_new w _) 0).trans rfl, (Below.refl _ _).alloc (Nat.le_refl _) _⟩

theorem Own3.form'' {w : World} {base : Nat} {A : Option Addr} {c : Nat} {l : List S49} (h : Own3 w base A c l) {g : Nat} (e : A = some ⟨g, 0, none⟩) : base ≤ g ∧ g < w.heap.size := by
  subst e
  obtain ⟨cur, hc⟩ := h.blk
  refine ⟨?_, blk_lt hc⟩
  rcases h.2 with ⟨e, _⟩ | ⟨g', cap, cur', e, hb, _⟩
  · cases e
  · simp only [Value.slice.injEq, Option.some.injEq, Addr.mk.injEq] at e
    obtain ⟨⟨rfl, _⟩, _⟩ := e
    exact hb
set_option maxRecDepth 100000 in
set_option maxHeartbeats 8000000 in
theorem order_any (A : Option Addr) (c : Nat) (l : List S47) (t s : Int) (w : World) (hr : Kd.C k47 w A l.length l) (hlen : l.length ≤ 1000000) (hcl : ∀ z ∈ l, z.f1.length ≤ 1000000) (r1 : List Int) (r2 : Int) (h : ordF l t s = (r1, r2)) :
    Calls Try.prog 21 #[.slice A l.length c, .int .i64 t, .int .i64 s] w fun e w' => ∃ v0_ : Value, e = .returned (.tuple #[v0_, .int .i64 r2]) ∧ Kd.R (Kd.int .i64) 3 w' w.heap.size (fun _ => True) v0_ r1 ∧ Below w.heap.size w w' := by
  have HR := Aside0.mk hr
  have HS := Aside0.mk (OI.start w t)
  clear hr
  go_enter Try.func21, Try.ntmps21
  go_wp2_with fail
  generalize w.alloc (.cells #[.int .i64 t] 3) = W0 at HS ⊢
  refine (asked_any A c l t s W0 (Kd.C_below HR.out HS.out.b) hlen hcl).mono ?_
  rintro e W1 ⟨rfl, hb⟩
  have H1 := Aside0.mk (HS.out.below hb)
  clear hb HS
  by_cases ha : askF l t s = 0
  · rw [ha]
    have k0 := H1.out.c
    have klt := World.block_lt_of_cell? W1 _ H1.out.c
    go_wp2_with fail
    refine (rfind_any t w.heap.size A c l W1 (Kd.C_below HR.out H1.out.b) klt k0).mono ?_
    rintro e W2 ⟨rfl, hb⟩
    have H2 := Aside0.mk (H1.out.below hb)
    clear hb H1 k0 klt
    by_cases hn : ridx t l < 0
    · have hv : ordF l t s = ([], 150) := by unfold ordF; rw [if_neg (by rw [ha]; simp), if_pos hn]
      rw [hv] at h
      obtain ⟨rfl, rfl⟩ := Prod.mk.inj h
      go_wp2_with fail
      go_ret2
      exact ⟨_, rfl, Kd.R_nil _ _ _ _ _, H2.out.b⟩
    · have hlt := ridx_lt t l
      obtain ⟨i, hi⟩ : ∃ i : Nat, ridx t l = (i : Int) := ⟨(ridx t l).toNat, by omega⟩
      have hv : ordF l t s = ((srt (price (isDay s)) (rd_T47 l (i : Int)).f1).map S49.f0, 0) := by unfold ordF; rw [if_neg (by rw [ha]; simp), if_neg hn, hi]
      rw [hi] at hn hlt ⊢
      rw [hv] at h
      obtain ⟨hr1, rfl⟩ := Prod.mk.inj h
      clear h
      have hil : i < l.length := by omega
      have h6 : (rd_T47 l (i : Int)).f1.length ≤ 6 := ask_len ha _ (List.mem_iff_getElem?.2 ⟨i, rd47_at l i hil⟩)
      clear hv hi ha
      obtain ⟨ad, A1, c1, eA, x0, x1, hle1, hC1⟩ := at_T47 (Kd.C_below HR.out H2.out.b) (i : Int) (by omega) hlt
      subst eA
      simp only [Int.toNat_natCast] at x0 x1
      generalize (rd_T47 l (i : Int)).f1 = L at *
      generalize (rd_T47 l (i : Int)).f0 = tt at *
      have HC1 := Aside0.mk hC1
      clear hC1
      have hlow : w.heap.size ≤ W2.heap.size := H2.out.b.size
      by_cases hd1 : 28800 ≤ s
      · by_cases hd2 : s < 72000
        · have hday : isDay s = true := by unfold isDay; simp [hd1, hd2]
          rw [hday] at hr1
          have hq1 : (W2.alloc (.cells #[.nilFunc] 76)).cell? ⟨W2.heap.size, 0, none⟩ = some .nilFunc := (blk_cell (blk_new W2 _) 0).trans rfl
          have hq2 : (W2.alloc (.cells #[.nilFunc] 76)).frozen? ⟨W2.heap.size, 0, none⟩ = false := blk_frozen (blk_new W2 _) 0
          have hq5 : (store ⟨W2.heap.size, 0, none⟩ (.func (.func 44) #[] #[])).run Try.prog (W2.alloc (.cells #[.nilFunc] 76)) = .ok () ((W2.alloc (.cells #[.nilFunc] 76)).setCell ⟨W2.heap.size, 0, none⟩ (.func (.func 44) #[] #[])) := by
            rw [run_store _ _ _ _ _ rfl, hq1, hq2]; rfl
          have hq7 := blk_new W2 (.cells #[.func (.func 44) #[] #[]] 76)
          have hq8 : (store ⟨W2.heap.size, 0, none⟩ (.func (.func 45) #[] #[])).run Try.prog (W2.alloc (.cells #[.func (.func 44) #[] #[]] 76)) = .ok () ((W2.alloc (.cells #[.func (.func 44) #[] #[]] 76)).setCell ⟨W2.heap.size, 0, none⟩ (.func (.func 45) #[] #[])) := by
            rw [run_store _ _ _ _ _ rfl, (blk_cell hq7 0).trans rfl, blk_frozen hq7 0]; rfl
          have hq9 := blk_new W2 (.cells #[.func (.func 45) #[] #[]] 76)
          have xl1 := World.block_lt_of_cell? W2 _ x1
          have xn1 := (World.cell?_alloc_lt W2 (.cells #[.func (.func 44) #[] #[]] 76) _ xl1).trans x1
          have xd1 := (World.cell?_alloc_lt W2 (.cells #[.func (.func 45) #[] #[]] 76) _ xl1).trans x1
          go_wp2_with fail
          refine Calls_world (fun W3 hW => ?_)
          have hal : Below W2.heap.size W2 W3 := by rw [hW]; first | exact ((Below.refl _ _).alloc (Nat.le_refl _) _) | exact (((Below.refl _ _).alloc (Nat.le_refl _) _).setCell (p := ⟨W2.heap.size, 0, none⟩) (Nat.le_refl _) _) | exact (((Below.refl _ _).alloc (Nat.le_refl _) _).setCell (p := ⟨W2.heap.size, 0, none⟩) (Nat.le_refl _) _).setCell (p := ⟨W2.heap.size, 0, none⟩) (Nat.le_refl _) _
          have hc10 : W3.cell? ⟨W2.heap.size, 0, none⟩ = some (.func (.func (costF true)) #[] #[]) := by rw [hW]; first | exact (blk_cell hq7 0).trans rfl | exact (blk_cell hq9 0).trans rfl
          have H3 := Aside0.mk (H2.out.below hal)
          have HC3 := Aside0.mk (Kd.C_below HC1.out hal)
          clear hW hal HC1 H2 x0 x1 hq1 hq2 hq5 hq7 hq8 hq9 xl1 xn1 xd1
          have hb10 : w.heap.size ≤ W2.heap.size := by have := H3.out.b; exact hlow
          generalize W2.heap.size = b10 at hc10 hb10 ⊢
          clear hlow
          refine (clone_any A1 c1 L W3 HC3.out (by omega)).mono ?_
          rintro e W4 ⟨A4, c4, rfl, hO, hb⟩
          have hc4 := (hb.cell (World.block_lt_of_cell? W3 _ hc10)).trans hc10
          have H4 := Aside0.mk (H3.out.below hb)
          have HO := Aside0.mk hO
          have hb3 := World.block_lt_of_cell? W3 _ hc10
          have hW34 := H3.out.b.size
          clear hb hO HC3 hc10 H3
          go_wp2_with fail
          refine (sortStable_any (price true) 47 #[.pointer (some ⟨b10, 0, none⟩)] W3.heap.size A4 c4 L W4 (enters_of Try.func47 (by kernel_rfl) rfl) (fun g eg => cmpLays_order true b10 g L.length W4 (fun e => by have := HO.out.form'' eg; have : b10 < W3.heap.size := hb3; omega) (by exact (HO.out.form'' eg).2) hc4) HO.out (by omega)).mono ?_
          rintro e W5 ⟨rfl, hS⟩
          have H5 := Aside0.mk (hS.below H4.out.b (fun g e => Nat.le_trans hW34 (HO.out.form'' e).1) H4.out.b.size)
          have hlen5 : (srt (price true) L).length = L.length := srt_len _ _
          have HC5 := Aside0.mk hS.C
          clear hS hc4 H4 HO hb3 hW34 hb10 HR
          generalize hSS : srt (price true) L = S at HC5 hlen5
          go_wp2_with fail
          go_loopw [12, 44] (fun s12 s44 wr => ∃ (m : Nat), m ≤ L.length ∧ s44 = .int .i64 (m : Int) ∧ Aside0 (Kd.R (Kd.int .i64) 3 wr W5.heap.size (fun _ => True) s12 ((S.take m).map S49.f0) ∧ Below W5.heap.size W5 wr)) (fun _ s44 _ => ((L.length : Int) - intOf s44).toNat)
          case atStart => exact ⟨0, by omega, rfl, ⟨Kd.R_nil _ _ _ _ _, Below.refl _ _⟩⟩
          case round =>
            obtain ⟨m, hm, rfl, HM⟩ := hrel
            by_cases hml : m < L.length
            · have hm1 : (m : Int) < (L.length : Int) := by omega
              have hm0 : (0 : Int) ≤ (m : Int) := by omega
              obtain ⟨ad2, eA2, y0, y1, y2⟩ := at_T49 (Kd.C_below HC5.out HM.out.2) (m : Int) hm0 (by omega)
              subst eA2
              simp only [Int.toNat_natCast] at y0 y1 y2
              have htake : (S.take (m + 1)).map S49.f0 = (S.take m).map S49.f0 ++ [(rd_T49 S (m : Int)).f0] := by
                rw [List.take_add_one, rd49_at S m (by omega)]; simp
              generalize rd_T49 S (m : Int) = z at *
              have hal : Below W5.heap.size W5 (wr.alloc (.cells #[.int .i64 z.f0, .int .i64 z.f1, .int .i64 z.f2] 49)) := HM.out.2.alloc HM.out.2.size _
              have HA := Aside0.mk (And.intro (Kd.R_alloc HM.out.1 (.cells #[.int .i64 z.f0, .int .i64 z.f1, .int .i64 z.f2] 49)) hal)
              have hxl : (((S.take m).map S49.f0).length + 1) * 8 ≤ 140737488355328 := by rw [List.length_map, List.length_take]; omega
              have HT := Aside0.mk htake
              clear hal htake
              go_wp2_with ((with_reducible refine gate_builtin (b := .append) (xs := #[.tmp 48, .tmp 51]) rfl ?_); at_builtin; refine Kd.R_append (Kd.int .i64) (w0 := W5) W5.heap.size rfl (.tmp 48) (.tmp 51) 23 3 (.int .i64 0) 8 rfl Try.underlying23 info3 rfl (by decide) (by omega) _ ((S.take m).map S49.f0) z.f0 [.int .i64 z.f0] (fun _ => True) (fun _ => False) rfl (by first | rfl | (simp [Act.eval]; done) | (simp [Act.eval, go_sem]; done)) rfl (fun _ hk => hk.elim) (fun _ _ => trivial) HA.out.1 HA.out.2 HA.out.2.size hxl ?_; intro v1 w1 ho hb hg hat; rw [← HT.out] at ho; have HM2 := Aside0.mk (And.intro ho hb); clear ho hb hg hat)
              go_roundw
              case rel => exact ⟨m + 1, by omega, by go_num, HM2⟩
              case measure => simp [intOf]; omega
            · have hm1 : ¬ (m : Int) < (L.length : Int) := by omega
              obtain rfl : m = L.length := by omega
              rw [List.take_of_length_le (by omega)] at HM
              go_wp2_with fail
              go_ret2
              exact ⟨_, rfl, by rw [← hr1, hSS]; exact Kd.R_lower HM.out.1 H5.out.size, H5.out.trans (HM.out.2.mono H5.out.size)⟩
        · have hday : isDay s = false := by unfold isDay; simp [hd2]
          rw [hday] at hr1
          have hq1 : (W2.alloc (.cells #[.nilFunc] 76)).cell? ⟨W2.heap.size, 0, none⟩ = some .nilFunc := (blk_cell (blk_new W2 _) 0).trans rfl
          have hq2 : (W2.alloc (.cells #[.nilFunc] 76)).frozen? ⟨W2.heap.size, 0, none⟩ = false := blk_frozen (blk_new W2 _) 0
          have hq5 : (store ⟨W2.heap.size, 0, none⟩ (.func (.func 44) #[] #[])).run Try.prog (W2.alloc (.cells #[.nilFunc] 76)) = .ok () ((W2.alloc (.cells #[.nilFunc] 76)).setCell ⟨W2.heap.size, 0, none⟩ (.func (.func 44) #[] #[])) := by
            rw [run_store _ _ _ _ _ rfl, hq1, hq2]; rfl
          have hq7 := blk_new W2 (.cells #[.func (.func 44) #[] #[]] 76)
          have hq8 : (store ⟨W2.heap.size, 0, none⟩ (.func (.func 45) #[] #[])).run Try.prog (W2.alloc (.cells #[.func (.func 44) #[] #[]] 76)) = .ok () ((W2.alloc (.cells #[.func (.func 44) #[] #[]] 76)).setCell ⟨W2.heap.size, 0, none⟩ (.func (.func 45) #[] #[])) := by
            rw [run_store _ _ _ _ _ rfl, (blk_cell hq7 0).trans rfl, blk_frozen hq7 0]; rfl
          have hq9 := blk_new W2 (.cells #[.func (.func 45) #[] #[]] 76)
          have xl1 := World.block_lt_of_cell? W2 _ x1
          have xn1 := (World.cell?_alloc_lt W2 (.cells #[.func (.func 44) #[] #[]] 76) _ xl1).trans x1
          have xd1 := (World.cell?_alloc_lt W2 (.cells #[.func (.func 45) #[] #[]] 76) _ xl1).trans x1
          go_wp2_with fail
          refine Calls_world (fun W3 hW => ?_)
          have hal : Below W2.heap.size W2 W3 := by rw [hW]; first | exact ((Below.refl _ _).alloc (Nat.le_refl _) _) | exact (((Below.refl _ _).alloc (Nat.le_refl _) _).setCell (p := ⟨W2.heap.size, 0, none⟩) (Nat.le_refl _) _) | exact (((Below.refl _ _).alloc (Nat.le_refl _) _).setCell (p := ⟨W2.heap.size, 0, none⟩) (Nat.le_refl _) _).setCell (p := ⟨W2.heap.size, 0, none⟩) (Nat.le_refl _) _
          have hc10 : W3.cell? ⟨W2.heap.size, 0, none⟩ = some (.func (.func (costF false)) #[] #[]) := by rw [hW]; first | exact (blk_cell hq7 0).trans rfl | exact (blk_cell hq9 0).trans rfl
          have H3 := Aside0.mk (H2.out.below hal)
          have HC3 := Aside0.mk (Kd.C_below HC1.out hal)
          clear hW hal HC1 H2 x0 x1 hq1 hq2 hq5 hq7 hq8 hq9 xl1 xn1 xd1
          have hb10 : w.heap.size ≤ W2.heap.size := by have := H3.out.b; exact hlow
          generalize W2.heap.size = b10 at hc10 hb10 ⊢
          clear hlow
          refine (clone_any A1 c1 L W3 HC3.out (by omega)).mono ?_
          rintro e W4 ⟨A4, c4, rfl, hO, hb⟩
          have hc4 := (hb.cell (World.block_lt_of_cell? W3 _ hc10)).trans hc10
          have H4 := Aside0.mk (H3.out.below hb)
          have HO := Aside0.mk hO
          have hb3 := World.block_lt_of_cell? W3 _ hc10
          have hW34 := H3.out.b.size
          clear hb hO HC3 hc10 H3
          go_wp2_with fail
          refine (sortStable_any (price false) 47 #[.pointer (some ⟨b10, 0, none⟩)] W3.heap.size A4 c4 L W4 (enters_of Try.func47 (by kernel_rfl) rfl) (fun g eg => cmpLays_order false b10 g L.length W4 (fun e => by have := HO.out.form'' eg; have : b10 < W3.heap.size := hb3; omega) (by exact (HO.out.form'' eg).2) hc4) HO.out (by omega)).mono ?_
          rintro e W5 ⟨rfl, hS⟩
          have H5 := Aside0.mk (hS.below H4.out.b (fun g e => Nat.le_trans hW34 (HO.out.form'' e).1) H4.out.b.size)
          have hlen5 : (srt (price false) L).length = L.length := srt_len _ _
          have HC5 := Aside0.mk hS.C
          clear hS hc4 H4 HO hb3 hW34 hb10 HR
          generalize hSS : srt (price false) L = S at HC5 hlen5
          go_wp2_with fail
          go_loopw [12, 44] (fun s12 s44 wr => ∃ (m : Nat), m ≤ L.length ∧ s44 = .int .i64 (m : Int) ∧ Aside0 (Kd.R (Kd.int .i64) 3 wr W5.heap.size (fun _ => True) s12 ((S.take m).map S49.f0) ∧ Below W5.heap.size W5 wr)) (fun _ s44 _ => ((L.length : Int) - intOf s44).toNat)
          case atStart => exact ⟨0, by omega, rfl, ⟨Kd.R_nil _ _ _ _ _, Below.refl _ _⟩⟩
          case round =>
            obtain ⟨m, hm, rfl, HM⟩ := hrel
            by_cases hml : m < L.length
            · have hm1 : (m : Int) < (L.length : Int) := by omega
              have hm0 : (0 : Int) ≤ (m : Int) := by omega
              obtain ⟨ad2, eA2, y0, y1, y2⟩ := at_T49 (Kd.C_below HC5.out HM.out.2) (m : Int) hm0 (by omega)
              subst eA2
              simp only [Int.toNat_natCast] at y0 y1 y2
              have htake : (S.take (m + 1)).map S49.f0 = (S.take m).map S49.f0 ++ [(rd_T49 S (m : Int)).f0] := by
                rw [List.take_add_one, rd49_at S m (by omega)]; simp
              generalize rd_T49 S (m : Int) = z at *
              have hal : Below W5.heap.size W5 (wr.alloc (.cells #[.int .i64 z.f0, .int .i64 z.f1, .int .i64 z.f2] 49)) := HM.out.2.alloc HM.out.2.size _
              have HA := Aside0.mk (And.intro (Kd.R_alloc HM.out.1 (.cells #[.int .i64 z.f0, .int .i64 z.f1, .int .i64 z.f2] 49)) hal)
              have hxl : (((S.take m).map S49.f0).length + 1) * 8 ≤ 140737488355328 := by rw [List.length_map, List.length_take]; omega
              have HT := Aside0.mk htake
              clear hal htake
              go_wp2_with ((with_reducible refine gate_builtin (b := .append) (xs := #[.tmp 48, .tmp 51]) rfl ?_); at_builtin; refine Kd.R_append (Kd.int .i64) (w0 := W5) W5.heap.size rfl (.tmp 48) (.tmp 51) 23 3 (.int .i64 0) 8 rfl Try.underlying23 info3 rfl (by decide) (by omega) _ ((S.take m).map S49.f0) z.f0 [.int .i64 z.f0] (fun _ => True) (fun _ => False) rfl (by first | rfl | (simp [Act.eval]; done) | (simp [Act.eval, go_sem]; done)) rfl (fun _ hk => hk.elim) (fun _ _ => trivial) HA.out.1 HA.out.2 HA.out.2.size hxl ?_; intro v1 w1 ho hb hg hat; rw [← HT.out] at ho; have HM2 := Aside0.mk (And.intro ho hb); clear ho hb hg hat)
              go_roundw
              case rel => exact ⟨m + 1, by omega, by go_num, HM2⟩
              case measure => simp [intOf]; omega
            · have hm1 : ¬ (m : Int) < (L.length : Int) := by omega
              obtain rfl : m = L.length := by omega
              rw [List.take_of_length_le (by omega)] at HM
              go_wp2_with fail
              go_ret2
              exact ⟨_, rfl, by rw [← hr1, hSS]; exact Kd.R_lower HM.out.1 H5.out.size, H5.out.trans (HM.out.2.mono H5.out.size)⟩
      · have hday : isDay s = false := by unfold isDay; simp [hd1]
        rw [hday] at hr1
        have hq1 : (W2.alloc (.cells #[.nilFunc] 76)).cell? ⟨W2.heap.size, 0, none⟩ = some .nilFunc := (blk_cell (blk_new W2 _) 0).trans rfl
        have hq2 : (W2.alloc (.cells #[.nilFunc] 76)).frozen? ⟨W2.heap.size, 0, none⟩ = false := blk_frozen (blk_new W2 _) 0
        have hq5 : (store ⟨W2.heap.size, 0, none⟩ (.func (.func 44) #[] #[])).run Try.prog (W2.alloc (.cells #[.nilFunc] 76)) = .ok () ((W2.alloc (.cells #[.nilFunc] 76)).setCell ⟨W2.heap.size, 0, none⟩ (.func (.func 44) #[] #[])) := by
          rw [run_store _ _ _ _ _ rfl, hq1, hq2]; rfl
        have hq7 := blk_new W2 (.cells #[.func (.func 44) #[] #[]] 76)
        have hq8 : (store ⟨W2.heap.size, 0, none⟩ (.func (.func 45) #[] #[])).run Try.prog (W2.alloc (.cells #[.func (.func 44) #[] #[]] 76)) = .ok () ((W2.alloc (.cells #[.func (.func 44) #[] #[]] 76)).setCell ⟨W2.heap.size, 0, none⟩ (.func (.func 45) #[] #[])) := by
          rw [run_store _ _ _ _ _ rfl, (blk_cell hq7 0).trans rfl, blk_frozen hq7 0]; rfl
        have hq9 := blk_new W2 (.cells #[.func (.func 45) #[] #[]] 76)
        have xl1 := World.block_lt_of_cell? W2 _ x1
        have xn1 := (World.cell?_alloc_lt W2 (.cells #[.func (.func 44) #[] #[]] 76) _ xl1).trans x1
        have xd1 := (World.cell?_alloc_lt W2 (.cells #[.func (.func 45) #[] #[]] 76) _ xl1).trans x1
        go_wp2_with fail
        refine Calls_world (fun W3 hW => ?_)
        have hal : Below W2.heap.size W2 W3 := by rw [hW]; first | exact ((Below.refl _ _).alloc (Nat.le_refl _) _) | exact (((Below.refl _ _).alloc (Nat.le_refl _) _).setCell (p := ⟨W2.heap.size, 0, none⟩) (Nat.le_refl _) _) | exact (((Below.refl _ _).alloc (Nat.le_refl _) _).setCell (p := ⟨W2.heap.size, 0, none⟩) (Nat.le_refl _) _).setCell (p := ⟨W2.heap.size, 0, none⟩) (Nat.le_refl _) _
        have hc10 : W3.cell? ⟨W2.heap.size, 0, none⟩ = some (.func (.func (costF false)) #[] #[]) := by rw [hW]; first | exact (blk_cell hq7 0).trans rfl | exact (blk_cell hq9 0).trans rfl
        have H3 := Aside0.mk (H2.out.below hal)
        have HC3 := Aside0.mk (Kd.C_below HC1.out hal)
        clear hW hal HC1 H2 x0 x1 hq1 hq2 hq5 hq7 hq8 hq9 xl1 xn1 xd1
        have hb10 : w.heap.size ≤ W2.heap.size := by have := H3.out.b; exact hlow
        generalize W2.heap.size = b10 at hc10 hb10 ⊢
        clear hlow
        refine (clone_any A1 c1 L W3 HC3.out (by omega)).mono ?_
        rintro e W4 ⟨A4, c4, rfl, hO, hb⟩
        have hc4 := (hb.cell (World.block_lt_of_cell? W3 _ hc10)).trans hc10
        have H4 := Aside0.mk (H3.out.below hb)
        have HO := Aside0.mk hO
        have hb3 := World.block_lt_of_cell? W3 _ hc10
        have hW34 := H3.out.b.size
        clear hb hO HC3 hc10 H3
        go_wp2_with fail
        refine (sortStable_any (price false) 47 #[.pointer (some ⟨b10, 0, none⟩)] W3.heap.size A4 c4 L W4 (enters_of Try.func47 (by kernel_rfl) rfl) (fun g eg => cmpLays_order false b10 g L.length W4 (fun e => by have := HO.out.form'' eg; have : b10 < W3.heap.size := hb3; omega) (by exact (HO.out.form'' eg).2) hc4) HO.out (by omega)).mono ?_
        rintro e W5 ⟨rfl, hS⟩
        have H5 := Aside0.mk (hS.below H4.out.b (fun g e => Nat.le_trans hW34 (HO.out.form'' e).1) H4.out.b.size)
        have hlen5 : (srt (price false) L).length = L.length := srt_len _ _
        have HC5 := Aside0.mk hS.C
        clear hS hc4 H4 HO hb3 hW34 hb10 HR
        generalize hSS : srt (price false) L = S at HC5 hlen5
        go_wp2_with fail
        go_loopw [12, 44] (fun s12 s44 wr => ∃ (m : Nat), m ≤ L.length ∧ s44 = .int .i64 (m : Int) ∧ Aside0 (Kd.R (Kd.int .i64) 3 wr W5.heap.size (fun _ => True) s12 ((S.take m).map S49.f0) ∧ Below W5.heap.size W5 wr)) (fun _ s44 _ => ((L.length : Int) - intOf s44).toNat)
        case atStart => exact ⟨0, by omega, rfl, ⟨Kd.R_nil _ _ _ _ _, Below.refl _ _⟩⟩
        case round =>
          obtain ⟨m, hm, rfl, HM⟩ := hrel
          by_cases hml : m < L.length
          · have hm1 : (m : Int) < (L.length : Int) := by omega
            have hm0 : (0 : Int) ≤ (m : Int) := by omega
            obtain ⟨ad2, eA2, y0, y1, y2⟩ := at_T49 (Kd.C_below HC5.out HM.out.2) (m : Int) hm0 (by omega)
            subst eA2
            simp only [Int.toNat_natCast] at y0 y1 y2
            have htake : (S.take (m + 1)).map S49.f0 = (S.take m).map S49.f0 ++ [(rd_T49 S (m : Int)).f0] := by
              rw [List.take_add_one, rd49_at S m (by omega)]; simp
            generalize rd_T49 S (m : Int) = z at *
            have hal : Below W5.heap.size W5 (wr.alloc (.cells #[.int .i64 z.f0, .int .i64 z.f1, .int .i64 z.f2] 49)) := HM.out.2.alloc HM.out.2.size _
            have HA := Aside0.mk (And.intro (Kd.R_alloc HM.out.1 (.cells #[.int .i64 z.f0, .int .i64 z.f1, .int .i64 z.f2] 49)) hal)
            have hxl : (((S.take m).map S49.f0).length + 1) * 8 ≤ 140737488355328 := by rw [List.length_map, List.length_take]; omega
            have HT := Aside0.mk htake
            clear hal htake
            go_wp2_with ((with_reducible refine gate_builtin (b := .append) (xs := #[.tmp 48, .tmp 51]) rfl ?_); at_builtin; refine Kd.R_append (Kd.int .i64) (w0 := W5) W5.heap.size rfl (.tmp 48) (.tmp 51) 23 3 (.int .i64 0) 8 rfl Try.underlying23 info3 rfl (by decide) (by omega) _ ((S.take m).map S49.f0) z.f0 [.int .i64 z.f0] (fun _ => True) (fun _ => False) rfl (by first | rfl | (simp [Act.eval]; done) | (simp [Act.eval, go_sem]; done)) rfl (fun _ hk => hk.elim) (fun _ _ => trivial) HA.out.1 HA.out.2 HA.out.2.size hxl ?_; intro v1 w1 ho hb hg hat; rw [← HT.out] at ho; have HM2 := Aside0.mk (And.intro ho hb); clear ho hb hg hat)
            go_roundw
            case rel => exact ⟨m + 1, by omega, by go_num, HM2⟩
            case measure => simp [intOf]; omega
          · have hm1 : ¬ (m : Int) < (L.length : Int) := by omega
            obtain rfl : m = L.length := by omega
            rw [List.take_of_length_le (by omega)] at HM
            go_wp2_with fail
            go_ret2
            exact ⟨_, rfl, by rw [← hr1, hSS]; exact Kd.R_lower HM.out.1 H5.out.size, H5.out.trans (HM.out.2.mono H5.out.size)⟩
  · have hv : ordF l t s = ([], askF l t s) := by unfold ordF; rw [if_pos ha]
    rw [hv] at h
    obtain ⟨rfl, hr2⟩ := Prod.mk.inj h
    clear h hv
    rw [hr2] at ha ⊢
    have ha' : (r2 == 0) = false := by simpa using ha
    clear hr2
    go_wp2_with fail
    go_ret2
    exact ⟨_, rfl, Kd.R_nil _ _ _ _ _, H1.out.b⟩
end Go.Proofs.Ytjaodgicpnoifaa.P
