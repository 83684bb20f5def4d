/- slices.SortStableFunc at choices: the shelf's insertion sort, laid at this program. -/
import Derived.Test.YtjaodgicpnoifaaHe
import Derived.Shelf.SlSortCmp.InsertionK
namespace Go.Proofs.Ytjaodgicpnoifaa.P
open Go.RowKit Go.Shelf Go.Lib Go.Sort Go.Proofs.YtjaodgicpnoifaaW.PrintWords Go.Proofs.YtjaodgicpnoifaaW.PrintLast Go.Proofs.YtjaodgicpnoifaaW.PrintMore
set_option linter.unusedVariables false
set_option linter.unusedSimpArgs false

def ren : Ren := ⟨fun x => if x = 20 then 61 else x, fun x => if x = 22 then 45 else if x = 24 then 49 else if x = 25 then 68 else x, fun x => x⟩
theorem insLays : SlLaysF0.n20 Try.prog ren where
  mixed := by kernel_rfl
  f20 := ⟨"slices.insertionSortCmpFunc[crossbar/api.Choice]", by decide, by kernel_rfl⟩
  t0 := by kernel_rfl
  a0 := fun w => by kernel_rfl
  z0 := fun w => by kernel_rfl
  v0 := fun w => by kernel_rfl
  t3 := by kernel_rfl
  a3 := fun w => by kernel_rfl
  z3 := fun w => by kernel_rfl
  v3 := fun w => by kernel_rfl
  t4 := by kernel_rfl
  a4 := fun w => by kernel_rfl
  z4 := fun w => by kernel_rfl
  v4 := fun w => by kernel_rfl
  t22 := by kernel_rfl
  a22 := fun w => by kernel_rfl
  z22 := fun w => by kernel_rfl
  v22 := fun w => by kernel_rfl
  t25 := by kernel_rfl
  a25 := fun w => by kernel_rfl
  z25 := fun w => by kernel_rfl
  v25 := fun w => by kernel_rfl
theorem agg49 (w : World) : (isAgg 49).run Try.prog w = .ok true w := by kernel_rfl
theorem size49 (w : World) : (Go.sizeOf 49).run Try.prog w = .ok 3 w := by kernel_rfl

instance : Inhabited S49 := ⟨z49⟩
/-- The comparison of two choices. -/
def cf (key : S49 → Int) (x y : S49) : Int := cmpI (key x) (key y)
/-- The choices by cost. -/
def srt (key : S49 → Int) (l : List S49) : List S49 := (Sort.insertionSort (ltOf (cf key)) l.toArray 0 l.length).toList

theorem flatK_at (l : List S49) {t : Nat} (h : t < l.length * 3) : (flatK legC 3 l.toArray)[t]? = (flat l)[t]? := by
  have hk : t / 3 < l.length := by omega
  have hx : l[t / 3]? = some l[t / 3] := List.getElem?_eq_getElem hk
  have h2 := flat_get l (t / 3) (t % 3) _ hx (Nat.mod_lt _ (by omega))
  rw [show t / 3 * 3 + t % 3 = t by omega] at h2
  rw [h2]
  have hsz : t < (flatK legC 3 l.toArray).size := by simp; exact h
  have h3 := get_flatK legC 3 l.toArray t (by simpa using h)
  rw [Array.getElem?_eq_getElem hsz, ← getElem!_pos (flatK legC 3 l.toArray) t hsz, h3]
  have h4 : l.toArray[t / 3]! = l[t / 3] := by rw [getElem!_pos l.toArray (t / 3) (by simpa using hk)]; simp
  rw [h4]
  have h5 : t % 3 < (legC l[t / 3]).length := by rw [legC_len]; exact Nat.mod_lt _ (by omega)
  rw [List.getElem?_eq_getElem h5, getElem!_pos (legC l[t / 3]) (t % 3) h5]
theorem holds_own {w : World} {base g c : Nat} {l : List S49} (h : Own3 w base (some ⟨g, 0, none⟩) c l) : HoldsK legC 3 w g 0 l.toArray := by
  intro j hj
  have hj3 : j < l.length * 3 := by simpa using hj
  have hf := flatK_at l hj3
  have hfl : j < (flat l).length := by rw [flat_len]; exact hj3
  rw [List.getElem?_eq_getElem hfl, Array.getElem?_eq_getElem hj] at hf
  have h1 := h.cells (g := g) rfl j _ (List.getElem?_eq_getElem hfl)
  have e : (⟨g, 0, none⟩ : Addr).add j = ⟨g, j, none⟩ := by unfold Addr.add; split <;> simp_all
  rw [e] at h1
  refine ⟨?_, by rw [Nat.zero_add]; exact h.free j⟩
  rw [Nat.zero_add, h1, getElem!_pos (flatK legC 3 l.toArray) j hj]
  injection hf with hf
  rw [hf]; rfl
theorem C_holds {w : World} {g n : Nat} {l : List S49} (h : HoldsK legC 3 w g 0 l.toArray) (hn : l.length = n) (hlen : n ≤ 1000000) : Kd.C k49 w (some ⟨g, 0, none⟩) n l := by
  refine ⟨hn.symm ▸ rfl, by omega, fun _ => ⟨_, rfl, fun j p hp => ⟨legC p, rfl, k49_mk w p, fun i u hu => ?_⟩⟩⟩
  have hj := (List.getElem?_eq_some_iff.1 hp).1
  have hi : i < 3 := by
    have := (List.getElem?_eq_some_iff.1 hu).1
    rwa [legC_len] at this
  have hlt : j * 3 + i < (flatK legC 3 l.toArray).size := by simp; omega
  have h1 := (h (j * 3 + i) hlt).1
  have h2 := flatK_at l (t := j * 3 + i) (by omega)
  rw [flat_get l j i p hp hi, hu, Array.getElem?_eq_getElem hlt] at h2
  injection h2 with h2
  rw [getElem!_pos (flatK legC 3 l.toArray) (j * 3 + i) hlt, h2, Nat.zero_add] at h1
  have e : (⟨g, 0, none⟩ : Addr).add (j * k49.sz + i) = ⟨g, j * 3 + i, none⟩ := by
    show (⟨g, 0, none⟩ : Addr).add (j * 3 + i) = _
    unfold Addr.add; split <;> simp_all
  rw [e]; exact h1

theorem cmpLays_order (day : Bool) (b10 blk size : Nat) (w : World) (hne : b10 ≠ blk) (hblk : blk < w.heap.size) (hc : w.cell? ⟨b10, 0, none⟩ = some (.func (.func (costF day)) #[] #[])) :
    CmpLays Try.prog 47 #[.pointer (some ⟨b10, 0, none⟩)] legC 3 (cf (price day)) blk 0 size w := by
  intro m os dk hs x y
  have hlt := World.block_lt_of_cell? w _ hc
  have hcell : (sortWorldK legC 3 w blk 0 m dk os).cell? ⟨b10, 0, none⟩ = some (.func (.func (costF day)) #[] #[]) := by
    unfold sortWorldK
    rw [cell?_grow _ _ _ (by rw [size_putRowK]; exact hlt), cell?_putRowK_other _ _ _ _ _ _ _ (by exact hne)]
    exact hc
  refine (orderCmp_any day b10 x y _ hcell).mono ?_
  rintro e w' ⟨rfl, q, os', rfl⟩
  exact ⟨rfl, q, os', rfl⟩
theorem cmpLays_day (blk size : Nat) (w : World) : CmpLays Try.prog 36 #[] legC 3 (cf S49.f1) blk 0 size w := by
  intro m os dk hs x y
  refine (dayCmp_any x y _).mono ?_
  rintro e w' ⟨rfl, q, os', rfl⟩
  exact ⟨rfl, q, os', rfl⟩

theorem ins_size1 (lt : S49 → S49 → Bool) (a : Nat) : ∀ (j : Nat) (d : Array S49), (Sort.insInner lt a j d).size = d.size := by
  intro j
  induction j with
  | zero => intro d; rfl
  | succ j ih =>
    intro d
    simp only [Sort.insInner]
    split
    · rw [ih]; simp [Sort.swp]
    · rfl
theorem ins_size2 (lt : S49 → S49 → Bool) (a b : Nat) : ∀ (n i : Nat) (d : Array S49), n = b - i → (Sort.insOuter lt a b i d).size = d.size := by
  intro n
  induction n with
  | zero => intro i d h; rw [Sort.insOuter, if_neg (by omega)]
  | succ n ih => intro i d h; rw [Sort.insOuter, if_pos (by omega), ih (i + 1) _ (by omega), ins_size1]
/-- What a sort leaves: the row laid anew, nothing else of before turned. -/
structure Srt (w : World) (g : Nat) (l' : List S49) (W : World) : Prop where
  h : HoldsK legC 3 W g 0 l'.toArray
  b : ∀ (cur : Array Value) (t : TypeId), w.heap[g]? = some (.cells cur t (0, 0)) → ∃ cur' : Array Value, W.heap[g]? = some (.cells cur' t (0, 0)) ∧ cur'.size = cur.size
  g : w.grownBy W (some g)
theorem srt_of {w : World} {g m : Nat} {l : List S49} {os : Array Obj} {key : S49 → Int} (hH : HoldsK legC 3 w g 0 l.toArray) (hg : g < w.heap.size) :
    Srt w g (srt key l) (sortWorldK legC 3 w g 0 m (Sort.insertionSort (ltOf (cf key)) l.toArray 0 l.length) os) := by
  have hs : (Sort.insertionSort (ltOf (cf key)) l.toArray 0 l.length).size = l.toArray.size := ins_size2 _ _ _ _ _ _ rfl
  refine ⟨?_, ?_, ?_⟩
  · unfold srt
    rw [Array.toArray_toList]
    exact holdsK_sortWorldK_c legC 3 w g 0 l.toArray _ m os hH hg hs
  · intro cur t hc
    refine ⟨Sort.putCells id 0 (flatK legC 3 (Sort.insertionSort (ltOf (cf key)) l.toArray 0 l.length)) cur, ?_, by simp [Sort.putCells]⟩
    unfold sortWorldK putRowK putRow mapBlock
    show ((Array.modify w.heap g _) ++ os)[g]? = _
    rw [Array.getElem?_append_left (by rw [Array.size_modify]; exact hg), Array.getElem?_modify, if_pos rfl, hc]
    rfl
  · refine ⟨rfl, rfl, rfl, ?_, fun i hi hne => ?_⟩
    · unfold sortWorldK; rw [size_grow, size_putRowK]; exact Nat.le_add_right _ _
    · have hne2 : i ≠ g := by simpa using hne
      unfold sortWorldK putRowK putRow mapBlock
      show ((Array.modify _ _ _) ++ os)[i]? = _
      rw [Array.getElem?_append_left (by rw [Array.size_modify]; exact hi), Array.getElem?_modify, if_neg (fun e => hne2 e.symm)]
      rfl

set_option maxRecDepth 100000 in
set_option maxHeartbeats 2000000 in
theorem stable_any (key : S49 → Int) (f : Nat) (cb : Array Value) (g c : Nat) (l : List S49) (w : World) (eg : ∀ args w, (callFunc f args).run Try.prog w = .ok (.enter f args) w) (hcmp : CmpLays Try.prog f cb legC 3 (cf key) g 0 l.length w)
    (hH : HoldsK legC 3 w g 0 l.toArray) (hg : g < w.heap.size) (h20 : l.length < 20) :
    Calls Try.prog 56 #[.slice (some ⟨g, 0, none⟩) l.length c, .int .i64 (l.length : Int), .func (.func f) #[] cb] w fun e w' => e = .returned (.tuple #[]) ∧ Srt w g (srt key l) w' := by
  have hsz : l.toArray.size = l.length := by simp
  have hins := AnyQ.insertionSortCmpFunc insLays 3 agg49 size49 legC legC_len (fun x v hv => by simp [legC] at hv; rcases hv with rfl | rfl | rfl <;> rfl) (cf key) f cb g 0 c 0 l.length l.toArray w eg (by rw [hsz]; exact hcmp) hH hg (Nat.zero_le _) (by rw [hsz]; exact Nat.le_refl _) (by rw [hsz]; omega)
  rw [hsz] at hins
  change Calls Try.prog 61 _ w _ at hins
  simp only [Int.natCast_zero] at hins
  have HI := Aside0.mk hins
  have HH := Aside0.mk (And.intro hH hg)
  clear hins hH hg hcmp eg
  have n1 : ¬ (20 : Int) ≤ (l.length : Int) := by omega
  have n2 : ¬ (20 : Int) < (l.length : Int) := by omega
  go_enter Try.func56, Try.ntmps56
  go_wp2_with fail
  go_loopw [7, 8] (fun s7 s8 wr => s7 = .int .i64 0 ∧ s8 = .int .i64 20 ∧ wr = w) (fun _ _ _ => 0)
  case atStart => exact ⟨rfl, rfl, rfl⟩
  case round =>
    obtain ⟨rfl, rfl, rfl⟩ := hrel
    go_wp2_with fail
    refine HI.out.mono ?_
    rintro e w1 ⟨rfl, m, os, rfl⟩
    have HS := Aside0.mk (srt_of (m := m) (os := os) (key := key) HH.out.1 HH.out.2)
    clear HI
    go_wp2_with fail
    generalize sortWorldK legC 3 wr g 0 m (Sort.insertionSort (ltOf (cf key)) l.toArray 0 l.length) os = w1 at HS ⊢
    go_loopw [6] (fun s6 wq => s6 = .int .i64 20 ∧ wq = w1) (fun _ _ => 0)
    case atStart => exact ⟨rfl, rfl⟩
    case round =>
      obtain ⟨rfl, rfl⟩ := hrel
      go_wp2_with fail
      exact ⟨rfl, _, by simp [results, Try.results56, go_sem], rfl, HS.out⟩
end Go.Proofs.Ytjaodgicpnoifaa.P
