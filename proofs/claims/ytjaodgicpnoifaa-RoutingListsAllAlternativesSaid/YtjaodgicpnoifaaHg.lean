/- slices.SortStableFunc at choices. -/
import Derived.Test.YtjaodgicpnoifaaHf
namespace Go.Proofs.Ytjaodgicpnoifaa.P
open Go.RowKit Go.Shelf Go.Lib Go.Sort Go.Proofs.YtjaodgicpnoifaaW.PrintWords Go.Proofs.YtjaodgicpnoifaaW.PrintLast Go.Proofs.YtjaodgicpnoifaaW.PrintMore
set_option linter.unusedVariables false
set_option linter.unusedSimpArgs false

theorem ins_none (A : Option Addr) (c : Nat) (v : Value) (w : World) : Calls Try.prog 61 #[.slice A 0 c, .int .i64 0, .int .i64 0, v] w fun e w' => e = .returned (.tuple #[]) ∧ w = w' := by
  go_enter Try.func61, Try.ntmps61
  go_wp2_with fail
  go_loopw [8] (fun s8 wr => s8 = .int .i64 1 ∧ wr = w) (fun _ _ => 0)
  case atStart => exact ⟨rfl, rfl⟩
  case round =>
    obtain ⟨rfl, rfl⟩ := hrel
    go_wp2_with fail
    exact ⟨rfl, _, by simp [results, Try.results61, go_sem], rfl, rfl⟩
set_option maxHeartbeats 2000000 in
theorem stable_none (A : Option Addr) (c : Nat) (v : Value) (w : World) : Calls Try.prog 56 #[.slice A 0 c, .int .i64 0, v] w fun e w' => e = .returned (.tuple #[]) ∧ w = w' := by
  go_enter Try.func56, Try.ntmps56
  go_wp2_with fail
  go_loopw [7, 8] (fun s7 s8 wr => s7 = .int .i64 0 ∧ s8 = .int .i64 20 ∧ wr = w) (fun _ _ _ => 0)
  case atStart => exact ⟨rfl, rfl, rfl⟩
  case round =>
    obtain ⟨rfl, rfl, rfl⟩ := hrel
    go_wp2_with fail
    refine (ins_none A c v wr).mono ?_
    rintro e w1 ⟨rfl, rfl⟩
    go_wp2_with fail
    go_loopw [6] (fun s6 wq => s6 = .int .i64 20 ∧ wq = wr) (fun _ _ => 0)
    case atStart => exact ⟨rfl, rfl⟩
    case round =>
      obtain ⟨rfl, rfl⟩ := hrel
      go_wp2_with fail
      exact ⟨rfl, _, by simp [results, Try.results56, go_sem], rfl, rfl⟩

/-- A row of the call's own, sorted: its own still. -/
theorem own_srt {w W : World} {base g c : Nat} {m l' : List S49} (hO : Own3 w base (some ⟨g, 0, none⟩) c m) (hm : m.length = l'.length) (hS : Srt w g l' W) (h0 : l'.length ≠ 0) : Own3 W base (some ⟨g, 0, none⟩) c l' := by
  unfold Own3 at hO ⊢
  obtain ⟨h1, h2⟩ := hO
  refine ⟨flat_len l', ?_⟩
  rcases h2 with ⟨e, hz⟩ | ⟨g', cap, cur, e, hb, hh, hnc, hcm, hcs, ht⟩
  · omega
  · simp only [Value.slice.injEq, Option.some.injEq, Addr.mk.injEq] at e
    obtain ⟨⟨rfl, _⟩, _, rfl⟩ := e
    obtain ⟨cur', hh', hs'⟩ := hS.b cur 49 hh
    refine .inr ⟨g, c, cur', rfl, hb, hh', by omega, hcm, by rw [hs', hcs], ?_⟩
    refine List.ext_getElem? fun k => ?_
    by_cases hk : k < l'.length * 3
    · rw [List.getElem?_take, if_pos hk]
      have hsz : k < (flatK legC 3 l'.toArray).size := by simp; omega
      have h5 := (hS.h k hsz).1
      have h6 := flatK_at l' hk
      rw [Array.getElem?_eq_getElem hsz] at h6
      rw [getElem!_pos _ k hsz, Nat.zero_add, cell_of_row W g k cur' 49 (0, 0) hh'] at h5
      rw [← h6, Array.getElem?_toList]
      exact h5
    · rw [List.getElem?_eq_none (by rw [List.length_take]; omega), List.getElem?_eq_none (by rw [flat_len]; omega)]

/-- What SortStableFunc leaves of a row of the call's own: the same list sorted, the rest as it was. -/
structure Sd (w : World) (A : Option Addr) (c : Nat) (l' : List S49) (W : World) : Prop where
  C : Kd.C k49 W A l'.length l'
  g : ∀ i, i < w.heap.size → (∀ g, A = some ⟨g, 0, none⟩ → i ≠ g) → W.heap[i]? = w.heap[i]?
  os : W.os = w.os
  tape : W.tape = w.tape
  output : W.output = w.output
  size : w.heap.size ≤ W.heap.size
  O : ∀ (base : Nat) (l : List S49), l.length = l'.length → Own3 w base A c l → Own3 W base A c l'
theorem Sd.below {w W w0 : World} {A : Option Addr} {c base : Nat} {l' : List S49} (h : Sd w A c l' W) (hb : Below base w0 w) (hA : ∀ g, A = some ⟨g, 0, none⟩ → base ≤ g) (hs : base ≤ w.heap.size) : Below base w0 W :=
  ⟨h.os.trans hb.os, h.tape.trans hb.tape, h.output.trans hb.output, Nat.le_trans hb.size h.size, fun i hi => (h.g i (by have := hb.size; omega) (fun g e e2 => by have := hA g e; omega)).trans (hb.block i hi)⟩
theorem srt_len (key : S49 → Int) (l : List S49) : (srt key l).length = l.length := by
  unfold srt
  rw [Array.length_toList]
  have := ins_size2 (ltOf (cf key)) 0 l.length _ (0 + 1) l.toArray rfl
  unfold Sort.insertionSort
  rw [this]; simp
theorem srt_nil (key : S49 → Int) : srt key [] = [] := by
  have := srt_len key []
  exact List.length_eq_zero_iff.1 (by rw [this]; rfl)

set_option maxHeartbeats 2000000 in
theorem sortStable_any (key : S49 → Int) (f : Nat) (cb : Array Value) (base : Nat) (A : Option Addr) (c : Nat) (l : List S49) (w : World) (eg : ∀ args w, (callFunc f args).run Try.prog w = .ok (.enter f args) w) (hcmp : ∀ g, A = some ⟨g, 0, none⟩ → CmpLays Try.prog f cb legC 3 (cf key) g 0 l.length w)
    (hO : Own3 w base A c l) (h20 : l.length < 20) :
    Calls Try.prog 35 #[.slice A l.length c, .func (.func f) #[] cb] w fun e w' => e = .returned (.tuple #[]) ∧ Sd w A c (srt key l) w' := by
  by_cases hl : l.length = 0
  · have hnil : l = [] := List.length_eq_zero_iff.1 hl
    subst hnil
    have h := stable_none A c (.func (.func f) #[] cb) w
    have hC := hO.C
    clear hcmp hO eg
    have HC : Aside0 (Kd.C k49 w A (srt key []).length (srt key [])) := ⟨by rw [srt_nil]; exact hC⟩
    clear hC
    show Calls Try.prog 35 #[.slice A 0 c, .func (.func f) #[] cb] w _
    go_enter Try.func35, Try.ntmps35
    go_wp2_with fail
    refine h.mono ?_
    rintro e w1 ⟨rfl, rfl⟩
    go_wp2_with fail
    exact ⟨rfl, _, results_none rfl _ _ _, rfl, ⟨HC.out, fun _ _ _ => rfl, rfl, rfl, rfl, Nat.le_refl _, fun base l hl hO => by
      have h0 : l = [] := List.length_eq_zero_iff.1 (by rw [hl, srt_nil]; rfl)
      subst h0
      rw [srt_nil]; exact hO⟩⟩
  · obtain ⟨g, rfl, hbg, hgw⟩ := hO.form (by omega)
    have hH := holds_own hO
    have hst := stable_any key f cb g c l w eg (hcmp g rfl) hH hgw h20
    clear hcmp hO eg hH
    go_enter Try.func35, Try.ntmps35
    go_wp2_with fail
    refine hst.mono ?_
    rintro e w1 ⟨rfl, hS⟩
    have HS : Aside0 (Sd w (some ⟨g, 0, none⟩) c (srt key l) w1) := ⟨C_holds hS.h rfl (by rw [srt_len]; omega), fun i hi hne => hS.g.block i hi (by have := hne g rfl; simpa using this), hS.g.os, hS.g.tape, hS.g.output, hS.g.size, fun base m hm hO => own_srt hO hm hS (by rw [srt_len]; omega)⟩
    clear hS hst
    go_wp2_with fail
    exact ⟨rfl, _, results_none rfl _ _ _, rfl, HS.out⟩
end Go.Proofs.Ytjaodgicpnoifaa.P
