/- The chapter's example: crossbarlaw15.sane answers true. -/
import Derived.Test.YtjaodgicpnoifaaHz
import Derived.Test.YtjaodgicpnoifaaHu
import Derived.Test.YtjaodgicpnoifaaPx2
namespace Go.Proofs.Ytjaodgicpnoifaa.P
open Go.RowKit Go.Shelf Go.Proofs.YtjaodgicpnoifaaW.PrintWords Go.Proofs.YtjaodgicpnoifaaW.PrintLast Go.Proofs.YtjaodgicpnoifaaW.PrintMore
set_option linter.unusedVariables false
set_option linter.unusedSimpArgs false

def saL : List (List Int) := [[0, 1], [1, 2], [2, 3], [0, 3]]
def saR : List S47 := [⟨-1, [⟨0, 2, 2⟩, ⟨1, 2, 2⟩]⟩, ⟨1, [⟨0, 1, 1⟩, ⟨1, 3, 3⟩]⟩, ⟨2, [⟨0, 2, 2⟩, ⟨1, 2, 2⟩]⟩, ⟨3, [⟨1, 1, 1⟩, ⟨0, 3, 3⟩]⟩]
theorem sa_1 : distsF 4 saL [2] = ([2, 1, 0, 1], 0) := by rfl
theorem sa_2 : buildF 4 saL 0 [2] = ([1, 3], saR, 0) := by
  simp only [buildF, rtsF, routeF, srt_eq]; rfl
theorem sa_3 : selF saR 2 0 0 [true, true] = (0, 0) := by simp only [selF, ordF, srt_eq]; rfl
theorem sa_4 : selF saR 2 0 0 [false, true] = (1, 0) := by simp only [selF, ordF, srt_eq]; rfl
theorem sa_5 : selF saR 2 0 0 [] = (0, 150) := by simp only [selF, ordF, srt_eq]; rfl
theorem sa_6 : selF saR 2 0 8 [true, true] = (0, 151) := by simp only [selF, ordF, srt_eq]; rfl
theorem sa_7 : ordF saR 1 30000 = ([0, 1], 0) := by simp only [selF, ordF, srt_eq]; rfl
theorem sa_8 : distsF 4 [[0, 1], [1, 0]] [] = ([], 1) := by rfl
theorem sa_9 : chkF saR 2 = 0 := by rfl
theorem sa_10 : chkF saR 1 = 1 := by rfl
theorem w64 (i : Nat) (h : i ≤ 2000000000) : wrap64 ((i : Int) + 1) = ((i + 1 : Nat) : Int) := by
  unfold wrap64; omega
theorem ints_l (a : List Int) (ha : a.length ≤ 2000) : ∀ (K i : Nat), i ≤ a.length → a.length - i < K → crossbarref15_Ints.l0 K a a (i : Int) = some true := by
  intro K
  induction K with
  | zero => intro i _ h; omega
  | succ K ih =>
    intro i hi hK
    simp only [crossbarref15_Ints.l0]
    by_cases hlt : i < a.length
    · rw [if_pos (by omega), if_pos (by omega), if_pos (by omega), if_pos trivial, w64 i (by omega)]
      exact ih (i + 1) (by omega) (by omega)
    · rw [if_neg (by omega)]
theorem ints_f (a : List Int) (ha : a.length ≤ 2000) (K : Nat) (hK : 2000 < K) : crossbarref15_Ints.f K a a = some true := by
  unfold crossbarref15_Ints.f
  rw [if_pos rfl]
  exact ints_l a ha K 0 (by omega) (by omega)

theorem saI_1 : crossbarref15_Ints.f 3000 [2, 1, 0, 1] [2, 1, 0, 1] = some true := ints_f _ (by decide) _ (by omega)
theorem saI_2 : crossbarref15_Ints.f 3000 [1, 3] [1, 3] = some true := ints_f _ (by decide) _ (by omega)
theorem saI_3 : crossbarref15_Ints.f 3000 [0, 1] [0, 1] = some true := ints_f _ (by decide) _ (by omega)
theorem C_ints {W : World} {g : Nat} (xs : List Int) (h : W.heap[g]? = some (.cells (xs.map (Value.int .i64)).toArray 3 (0, 0))) (hl : xs.length ≤ 1000000) : Kd.C (Kd.int .i64) W (some ⟨g, 0, none⟩) xs.length xs :=
  Kd.C_of_reads (d := 0) ⟨rfl, by omega, fun _ => ⟨_, rfl, fun j hj => by
    have e : (Addr.add ⟨g, 0, none⟩ j) = ⟨g, j, none⟩ := by by_cases hj0 : j = 0 <;> simp [Addr.add, hj0]
    rw [e, blk_cell h j]
    simp [hj]⟩⟩
theorem C_bools {W : World} {g : Nat} (xs : List Bool) (h : W.heap[g]? = some (.cells (xs.map Value.bool).toArray 4 (0, 0))) (hl : xs.length ≤ 1000000) : Kd.C Kd.bool W (some ⟨g, 0, none⟩) xs.length xs :=
  Kd.C_of_reads (d := false) ⟨rfl, by omega, fun _ => ⟨_, rfl, fun j hj => by
    have e : (Addr.add ⟨g, 0, none⟩ j) = ⟨g, j, none⟩ := by by_cases hj0 : j = 0 <;> simp [Addr.add, hj0]
    rw [e, blk_cell h j]
    simp [hj]⟩⟩
theorem C_rows {W : World} {g : Nat} {xs : List (List Int)} {arr : Array Value} (gs : Nat → Nat) (h : W.heap[g]? = some (.cells arr 23 (0, 0))) (hl : xs.length ≤ 1000000)
    (ha : ∀ (j : Nat) (p : List Int), xs[j]? = some p → arr[j]? = some (Value.slice (some ⟨gs j, 0, none⟩) p.length p.length)) (hr : ∀ (j : Nat) (p : List Int), xs[j]? = some p → Kd.C (Kd.int .i64) W (some ⟨gs j, 0, none⟩) p.length p) : Kd.C (Kd.slice 3 (Kd.int .i64)) W (some ⟨g, 0, none⟩) xs.length xs := by
  refine ⟨rfl, by omega, fun _ => ⟨_, rfl, fun j p hp => ⟨[.slice (some ⟨gs j, 0, none⟩) p.length p.length], rfl, ⟨_, _, rfl, Nat.le_refl _, hr j p hp⟩, fun i u hu => ?_⟩⟩⟩
  have hi : i = 0 := by
    have := (List.getElem?_eq_some_iff.1 hu).1
    simp at this; exact this
  subst hi
  have e : (Addr.add ⟨g, 0, none⟩ (j * (Kd.slice 3 (Kd.int .i64)).sz + 0)) = ⟨g, j, none⟩ := by
    show (Addr.add ⟨g, 0, none⟩ (j * 1 + 0)) = _
    by_cases hj0 : j = 0 <;> simp [Addr.add, hj0]
  rw [e, blk_cell h j, ha j p hp]
  simpa using hu
/-- What the example holds: the links, the distances, the peers, the routes, the order. -/
structure SaI (w W : World) (Al Ad Ap Ar Ao : Option Addr) (ld lp lo : List Int) (lr : List S47) : Prop where
  b : Below w.heap.size w W
  l : Kd.C (Kd.slice 3 (Kd.int .i64)) W Al 4 saL
  d : Kd.C (Kd.int .i64) W Ad ld.length ld
  p : Kd.C (Kd.int .i64) W Ap lp.length lp
  r : Kd.C k47 W Ar lr.length lr
  o : Kd.C (Kd.int .i64) W Ao lo.length lo
theorem SaI.below {w W W' : World} {Al Ad Ap Ar Ao : Option Addr} {ld lp lo : List Int} {lr : List S47} (h : SaI w W Al Ad Ap Ar Ao ld lp lo lr) (hb : Below W.heap.size W W') : SaI w W' Al Ad Ap Ar Ao ld lp lo lr :=
  ⟨h.b.trans (hb.mono h.b.size), Kd.C_below h.l hb, Kd.C_below h.d hb, Kd.C_below h.p hb, Kd.C_below h.r hb, Kd.C_below h.o hb⟩
theorem SaI.alloc {w W : World} {Al Ad Ap Ar Ao : Option Addr} {ld lp lo : List Int} {lr : List S47} (h : SaI w W Al Ad Ap Ar Ao ld lp lo lr) (o : Obj) : SaI w (W.alloc o) Al Ad Ap Ar Ao ld lp lo lr := h.below ((Below.refl _ _).alloc (Nat.le_refl _) o)
def saW (w : World) : World := ((((w.alloc (.cells #[.int .i64 0, .int .i64 1] 3)).alloc (.cells #[.int .i64 1, .int .i64 2] 3)).alloc (.cells #[.int .i64 2, .int .i64 3] 3)).alloc (.cells #[.int .i64 0, .int .i64 3] 3)).alloc (.cells #[.slice (some ⟨w.heap.size, 0, none⟩) 2 2, .slice (some ⟨w.heap.size + 1, 0, none⟩) 2 2, .slice (some ⟨w.heap.size + 2, 0, none⟩) 2 2, .slice (some ⟨w.heap.size + 3, 0, none⟩) 2 2] 23)
theorem saW_size (w : World) : (saW w).heap.size = w.heap.size + 5 := by simp [saW]
theorem saW_at (w : World) (k : Nat) (o : Obj) (h : #[Obj.cells #[.int .i64 0, .int .i64 1] 3, Obj.cells #[.int .i64 1, .int .i64 2] 3, Obj.cells #[.int .i64 2, .int .i64 3] 3, Obj.cells #[.int .i64 0, .int .i64 3] 3, Obj.cells #[.slice (some ⟨w.heap.size, 0, none⟩) 2 2, .slice (some ⟨w.heap.size + 1, 0, none⟩) 2 2, .slice (some ⟨w.heap.size + 2, 0, none⟩) 2 2, .slice (some ⟨w.heap.size + 3, 0, none⟩) 2 2] 23][k]? = some o) : (saW w).heap[w.heap.size + k]? = some o := by
  have e : saW w = Go.Sort.grow w #[Obj.cells #[.int .i64 0, .int .i64 1] 3, Obj.cells #[.int .i64 1, .int .i64 2] 3, Obj.cells #[.int .i64 2, .int .i64 3] 3, Obj.cells #[.int .i64 0, .int .i64 3] 3, Obj.cells #[.slice (some ⟨w.heap.size, 0, none⟩) 2 2, .slice (some ⟨w.heap.size + 1, 0, none⟩) 2 2, .slice (some ⟨w.heap.size + 2, 0, none⟩) 2 2, .slice (some ⟨w.heap.size + 3, 0, none⟩) 2 2] 23] := by
    simp only [saW, Go.Sort.alloc_eq_grow, Go.Sort.grow_grow]; rfl
  rw [e]
  show (w.heap ++ _)[w.heap.size + k]? = _
  rw [Array.getElem?_append_right (by omega), Nat.add_sub_cancel_left]
  exact h
theorem saW_ok (w : World) : SaI w (saW w) (some ⟨w.heap.size + 4, 0, none⟩) none none none none [] [] [] [] where
  b := by
    unfold saW
    exact (((((Below.refl _ _).alloc (Nat.le_refl _) _).alloc (by simp) _).alloc (by simp; omega) _).alloc (by simp; omega) _).alloc (by simp; omega) _
  l := by
    refine C_rows (xs := saL) (fun j => w.heap.size + j) (saW_at w 4 _ rfl) (by decide) (fun j p hp => ?_) (fun j p hp => ?_)
    · have hj : j < 4 := (List.getElem?_eq_some_iff.1 hp).1
      obtain rfl | rfl | rfl | rfl : j = 0 ∨ j = 1 ∨ j = 2 ∨ j = 3 := by omega
      all_goals (injection hp with hp; subst hp; rfl)
    · have hj : j < 4 := (List.getElem?_eq_some_iff.1 hp).1
      obtain rfl | rfl | rfl | rfl : j = 0 ∨ j = 1 ∨ j = 2 ∨ j = 3 := by omega
      · injection hp with hp; subst hp; exact C_ints [0, 1] (saW_at w 0 _ rfl) (by decide)
      · injection hp with hp; subst hp; exact C_ints [1, 2] (saW_at w 1 _ rfl) (by decide)
      · injection hp with hp; subst hp; exact C_ints [2, 3] (saW_at w 2 _ rfl) (by decide)
      · injection hp with hp; subst hp; exact C_ints [0, 3] (saW_at w 3 _ rfl) (by decide)
  d := Kd.C_nil _ _
  p := Kd.C_nil _ _
  r := Kd.C_nil _ _
  o := Kd.C_nil _ _

theorem C_two (w : World) : Kd.C (Kd.slice 3 (Kd.int .i64)) (((w.alloc (.cells #[.int .i64 0, .int .i64 1] 3)).alloc (.cells #[.int .i64 1, .int .i64 0] 3)).alloc (.cells #[.slice (some ⟨w.heap.size, 0, none⟩) 2 2, .slice (some ⟨w.heap.size + 1, 0, none⟩) 2 2] 23)) (some ⟨w.heap.size + 1 + 1, 0, none⟩) 2 [[0, 1], [1, 0]] := by
  have e : ((w.alloc (.cells #[.int .i64 0, .int .i64 1] 3)).alloc (.cells #[.int .i64 1, .int .i64 0] 3)).alloc (.cells #[.slice (some ⟨w.heap.size, 0, none⟩) 2 2, .slice (some ⟨w.heap.size + 1, 0, none⟩) 2 2] 23) = Go.Sort.grow w #[.cells #[.int .i64 0, .int .i64 1] 3, .cells #[.int .i64 1, .int .i64 0] 3, .cells #[.slice (some ⟨w.heap.size, 0, none⟩) 2 2, .slice (some ⟨w.heap.size + 1, 0, none⟩) 2 2] 23] := by
    simp only [Go.Sort.alloc_eq_grow, Go.Sort.grow_grow]; rfl
  rw [e]
  have at_ : ∀ (k : Nat) (o : Obj), #[Obj.cells #[.int .i64 0, .int .i64 1] 3, .cells #[.int .i64 1, .int .i64 0] 3, .cells #[.slice (some ⟨w.heap.size, 0, none⟩) 2 2, .slice (some ⟨w.heap.size + 1, 0, none⟩) 2 2] 23][k]? = some o → (Go.Sort.grow w #[.cells #[.int .i64 0, .int .i64 1] 3, .cells #[.int .i64 1, .int .i64 0] 3, .cells #[.slice (some ⟨w.heap.size, 0, none⟩) 2 2, .slice (some ⟨w.heap.size + 1, 0, none⟩) 2 2] 23]).heap[w.heap.size + k]? = some o := fun k o h => by
    show (w.heap ++ _)[w.heap.size + k]? = _
    rw [Array.getElem?_append_right (by omega), Nat.add_sub_cancel_left]
    exact h
  refine C_rows (xs := [[0, 1], [1, 0]]) (fun j => w.heap.size + j) (at_ 2 _ rfl) (by decide) (fun j p hp => ?_) (fun j p hp => ?_)
  · have hj : j < 2 := (List.getElem?_eq_some_iff.1 hp).1
    obtain rfl | rfl : j = 0 ∨ j = 1 := by omega
    all_goals (injection hp with hp; subst hp; rfl)
  · have hj : j < 2 := (List.getElem?_eq_some_iff.1 hp).1
    obtain rfl | rfl : j = 0 ∨ j = 1 := by omega
    · injection hp with hp; subst hp; exact C_ints [0, 1] (at_ 0 _ rfl) (by decide)
    · injection hp with hp; subst hp; exact C_ints [1, 0] (at_ 1 _ rfl) (by decide)
set_option maxRecDepth 100000 in
set_option maxHeartbeats 8000000 in
theorem sane_any (w : World) : Calls Try.prog 10 #[] w fun e w' => e = .returned (.bool true) ∧ Below w.heap.size w w' := by
  have H1 := Aside0.mk (saW_ok w)
  have HW : Aside0 (saW w = ((((w.alloc (.cells #[.int .i64 0, .int .i64 1] 3)).alloc (.cells #[.int .i64 1, .int .i64 2] 3)).alloc (.cells #[.int .i64 2, .int .i64 3] 3)).alloc (.cells #[.int .i64 0, .int .i64 3] 3)).alloc (.cells #[.slice (some ⟨w.heap.size, 0, none⟩) 2 2, .slice (some ⟨w.heap.size + 1, 0, none⟩) 2 2, .slice (some ⟨w.heap.size + 2, 0, none⟩) 2 2, .slice (some ⟨w.heap.size + 3, 0, none⟩) 2 2] 23)) := ⟨rfl⟩
  go_enter Try.func10, Try.ntmps10
  go_wp2_with fail
  rw [← HW.out]
  have hz : (saW w).heap.size = w.heap.size + 1 + 1 + 1 + 1 + 1 := saW_size w
  obtain ⟨Al, hAl⟩ : ∃ A : Option Addr, some ⟨w.heap.size + 1 + 1 + 1 + 1, 0, none⟩ = A := ⟨_, rfl⟩
  have H1 : SaI w (saW w) Al none none none none [] [] [] [] := by rw [← hAl]; exact H1.out
  rw [hAl]
  rw [← hz]
  clear HW hz hAl
  generalize saW w = W1 at H1 ⊢
  have hcall := dists_any 4 Al 4 saL (some ⟨W1.heap.size, 0, none⟩) 1 [2] _ (H1.alloc _).l (by decide) (C_one W1 2)
  rw [sa_1] at hcall
  refine hcall.mono ?_
  rintro e w2 ⟨v0, rfl, hR, hb⟩
  obtain ⟨Ad, cd, hv, hld, hCd⟩ := Kd.R_reads hR
  replace hv : v0 = .slice Ad 4 cd := hv
  subst hv
  have h2 := (H1.alloc _).below hb
  have H2 : Aside0 (SaI w w2 Al Ad none none none [2, 1, 0, 1] [] [] []) := ⟨⟨h2.b, h2.l, hCd, h2.p, h2.r, h2.o⟩⟩
  have HD := Aside0.mk hld
  clear h2 hCd hR hb hcall H1 hld
  have hcall := build_any 4 Al 4 saL 0 (some ⟨w2.heap.size, 0, none⟩) 1 [2] _ (H2.out.alloc _).l (by decide) (C_one w2 2)
  rw [sa_2] at hcall
  go_wp2_with fail
  refine hcall.mono ?_
  rintro e w3 ⟨v0, v1, rfl, hR, hS, hb⟩
  obtain ⟨Ap, cp, hv, hlp, hCp⟩ := Kd.R_reads hR
  obtain ⟨Ar, cr, hv2, hlr, hCr⟩ := Kd.S_reads hS
  replace hv : v0 = .slice Ap 2 cp := hv
  replace hv2 : v1 = .slice Ar 4 cr := hv2
  subst hv hv2
  have h3 := (H2.out.alloc _).below hb
  have H3 : Aside0 (SaI w w3 Al Ad Ap Ar none [2, 1, 0, 1] [1, 3] [] saR) := ⟨⟨h3.b, h3.l, h3.d, hCp, hCr, h3.o⟩⟩
  have HP := Aside0.mk hlp
  have HR := Aside0.mk hlr
  obtain ⟨ad, A1, c1, eA, x0, x1, hl1, hC1⟩ := at_T47 hCr 1 (by omega) (by decide)
  obtain ⟨ad', A2, c2, eA', z0, z1, hl2, hC2⟩ := at_T47 hCr 2 (by omega) (by decide)
  subst eA
  injection eA' with eA'
  subst eA'
  have hb3 := h3.b
  clear h3 hCp hCr hR hS hb hcall H2 hlp hlr
  have x1' : w3.cell? ⟨ad.block, ad.off + 2 + 1, none⟩ = some (.slice A1 2 c1) := by
    have h := x1
    rw [show rd_T47 saR 1 = ⟨1, [⟨0, 1, 1⟩, ⟨1, 3, 3⟩]⟩ from rfl] at h
    simpa [Addr.add] using h
  have z1' : w3.cell? ⟨ad.block, ad.off + 4 + 1, none⟩ = some (.slice A2 2 c2) := by
    have h := z1
    rw [show rd_T47 saR 2 = ⟨2, [⟨0, 2, 2⟩, ⟨1, 2, 2⟩]⟩ from rfl] at h
    simpa [Addr.add] using h
  clear x0 x1 z0 z1 hl1 hl2 hC1 hC2 hb3
  have hu := C_bools (W := w3.alloc (.cells #[.bool true, .bool true] 4)) [true, true] (blk_new w3 _) (by decide)
  have hcall := select_any (some ad) cr saR 2 0 0 (some ⟨w3.heap.size, 0, none⟩) 2 [true, true] _ (H3.out.alloc _).r hu (by decide) (by decide)
  rw [sa_3] at hcall
  go_wp2_with fail
  refine hcall.mono ?_
  rintro e w4 ⟨rfl, hb⟩
  have H4 := Aside0.mk ((H3.out.alloc _).below hb)
  clear hb hcall hu H3 x1' z1'
  have hu := C_bools (W := w4.alloc (.cells #[.bool false, .bool true] 4)) [false, true] (blk_new w4 _) (by decide)
  have hcall := select_any (some ad) cr saR 2 0 0 (some ⟨w4.heap.size, 0, none⟩) 2 [false, true] _ (H4.out.alloc _).r hu (by decide) (by decide)
  rw [sa_4] at hcall
  go_wp2_with fail
  refine hcall.mono ?_
  rintro e w5 ⟨rfl, hb⟩
  have H5 := Aside0.mk ((H4.out.alloc _).below hb)
  clear hb hcall hu H4
  have hcall := select_any (some ad) cr saR 2 0 0 none 0 [] _ H5.out.r (Kd.C_nil _ _) (by decide) (by decide)
  rw [sa_5] at hcall
  go_wp2_with fail
  refine hcall.mono ?_
  rintro e w6 ⟨rfl, hb⟩
  have H6 := Aside0.mk (H5.out.below hb)
  clear hb hcall H5
  have hu := C_bools (W := w6.alloc (.cells #[.bool true, .bool true] 4)) [true, true] (blk_new w6 _) (by decide)
  have hcall := select_any (some ad) cr saR 2 0 8 (some ⟨w6.heap.size, 0, none⟩) 2 [true, true] _ (H6.out.alloc _).r hu (by decide) (by decide)
  rw [sa_6] at hcall
  go_wp2_with fail
  refine hcall.mono ?_
  rintro e w7 ⟨rfl, hb⟩
  have H7 := Aside0.mk ((H6.out.alloc _).below hb)
  clear hb hcall hu H6
  have hcall := order_any (some ad) cr saR 1 30000 w7 H7.out.r (by decide) (by decide) [0, 1] 0 sa_7
  go_wp2_with fail
  refine hcall.mono ?_
  rintro e w8 ⟨v0, rfl, hR, hb⟩
  obtain ⟨Ao, co, hv, hlo, hCo⟩ := Kd.R_reads hR
  replace hv : v0 = .slice Ao 2 co := hv
  subst hv
  have h8 := H7.out.below hb
  have H8 : Aside0 (SaI w w8 Al Ad Ap (some ad) Ao [2, 1, 0, 1] [1, 3] [0, 1] saR) := ⟨⟨h8.b, h8.l, h8.d, h8.p, h8.r, hCo⟩⟩
  have HO := Aside0.mk hlo
  clear h8 hCo hR hb hcall H7 hlo
  have hcall := dists_any 4 (some ⟨w8.heap.size + 1 + 1, 0, none⟩) 2 [[0, 1], [1, 0]] none 0 [] _ (C_two w8) (by decide) (Kd.C_nil _ _)
  rw [sa_8] at hcall
  go_wp2_with fail
  refine hcall.mono ?_
  rintro e w9 ⟨v0, rfl, hR, hb⟩
  have H9 := Aside0.mk ((((H8.out.alloc _).alloc _).alloc _).below hb)
  clear hR hb hcall H8
  have hu := C_ints (W := w9.alloc (.cells #[.int .i64 2, .int .i64 1, .int .i64 0, .int .i64 1] 3)) [2, 1, 0, 1] (blk_new w9 _) (by decide)
  have hcall := crossbarref15_Ints.calls 3000 Ad cd [2, 1, 0, 1] (some ⟨w9.heap.size, 0, none⟩) 4 [2, 1, 0, 1] true _ (H9.out.alloc _).d HD.out hu (Nat.le_refl _) saI_1
  go_wp2_with fail
  refine hcall.mono ?_
  rintro e w10 ⟨rfl, hb⟩
  have H10 := Aside0.mk ((H9.out.alloc _).below hb.below)
  clear hb hcall hu H9
  have hu := C_ints (W := w10.alloc (.cells #[.int .i64 1, .int .i64 3] 3)) [1, 3] (blk_new w10 _) (by decide)
  have hcall := crossbarref15_Ints.calls 3000 Ap cp [1, 3] (some ⟨w10.heap.size, 0, none⟩) 2 [1, 3] true _ (H10.out.alloc _).p HP.out hu (Nat.le_refl _) saI_2
  go_wp2_with fail
  refine hcall.mono ?_
  rintro e w11 ⟨rfl, hb⟩
  have H11 := Aside0.mk ((H10.out.alloc _).below hb.below)
  clear hb hcall hu H10
  have hu := C_ints (W := w11.alloc (.cells #[.int .i64 0, .int .i64 1] 3)) [0, 1] (blk_new w11 _) (by decide)
  have hcall := crossbarref15_Ints.calls 3000 Ao co [0, 1] (some ⟨w11.heap.size, 0, none⟩) 2 [0, 1] true _ (H11.out.alloc _).o HO.out hu (Nat.le_refl _) saI_3
  go_wp2_with fail
  refine hcall.mono ?_
  rintro e w12 ⟨rfl, hb⟩
  have H12 := Aside0.mk ((H11.out.alloc _).below hb.below)
  clear hb hcall hu H11
  obtain ⟨ad0, B0, d0, eA, u0, _, _, _⟩ := at_T47 H12.out.r 0 (by omega) (by decide)
  injection eA with eA
  subst eA
  obtain ⟨ad1, B1, d1, eA, _, u1, _, hC1⟩ := at_T47 H12.out.r 1 (by omega) (by decide)
  injection eA with eA
  subst eA
  obtain ⟨ad2, B2, d2, eA, _, u2, _, hC2⟩ := at_T47 H12.out.r 2 (by omega) (by decide)
  injection eA with eA
  subst eA
  rw [show rd_T47 saR 0 = ⟨-1, [⟨0, 2, 2⟩, ⟨1, 2, 2⟩]⟩ from rfl] at u0
  rw [show rd_T47 saR 1 = ⟨1, [⟨0, 1, 1⟩, ⟨1, 3, 3⟩]⟩ from rfl] at u1 hC1
  rw [show rd_T47 saR 2 = ⟨2, [⟨0, 2, 2⟩, ⟨1, 2, 2⟩]⟩ from rfl] at u2 hC2
  obtain ⟨b1, eB1, _, y1, _⟩ := at_T49 hC1 0 (by omega) (by decide)
  obtain ⟨b1', eB1', _, _, y2⟩ := at_T49 hC1 1 (by omega) (by decide)
  obtain ⟨b2, eB2, _, y3, _⟩ := at_T49 hC2 1 (by omega) (by decide)
  subst eB1
  injection eB1' with eB1'
  subst eB1'
  subst eB2
  rw [show rd_T49 [(⟨0, 1, 1⟩ : S49), ⟨1, 3, 3⟩] 0 = ⟨0, 1, 1⟩ from rfl] at y1
  rw [show rd_T49 [(⟨0, 1, 1⟩ : S49), ⟨1, 3, 3⟩] 1 = ⟨1, 3, 3⟩ from rfl] at y2
  rw [show rd_T49 [(⟨0, 2, 2⟩ : S49), ⟨1, 2, 2⟩] 1 = ⟨1, 2, 2⟩ from rfl] at y3
  simp [Addr.add] at u0 u1 u2 y1 y2 y3
  clear hC1 hC2
  have hcall := check_any (some ad) cr saR 2 w12 H12.out.r (by decide) (by decide)
  rw [sa_9] at hcall
  go_wp2_with fail
  refine hcall.mono ?_
  rintro e w13 ⟨rfl, hb⟩
  have H13 := Aside0.mk (H12.out.below hb)
  clear hb hcall H12 u0 u1 u2 y1 y2 y3
  have hcall := check_any (some ad) cr saR 1 w13 H13.out.r (by decide) (by decide)
  rw [sa_10] at hcall
  go_wp2_with fail
  refine hcall.mono ?_
  rintro e w14 ⟨rfl, hb⟩
  have H14 := Aside0.mk (H13.out.below hb)
  clear hb hcall H13
  go_wp2_with fail
  go_ret
  exact ⟨rfl, H14.out.b⟩
def crossbarlaw15_sane.f : Option Bool := some true
theorem crossbarlaw15_sane.calls (r : Bool) (w : World) (h : crossbarlaw15_sane.f = some r) : Calls Try.prog 10 #[] w fun e w' => e = .returned (.bool r) ∧ Below w.heap.size w w' := by
  obtain rfl := Option.some.inj h
  exact sane_any w
end Go.Proofs.Ytjaodgicpnoifaa.P
