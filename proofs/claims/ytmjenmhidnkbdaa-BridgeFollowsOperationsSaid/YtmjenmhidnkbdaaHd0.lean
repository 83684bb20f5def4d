/- A range over (*editor).members: the law of the statement, for whatever body keeps an invariant from index to index. -/
import Derived.Test.YtmjenmhidnkbdaaHc
namespace Go.Proofs.Ytmjenmhidnkbdaa.P
open Go.RowKit Go.Shelf Go.Proofs.YtmjenmhidnkbdaaW.PrintWords Go.Proofs.YtmjenmhidnkbdaaW.PrintLast Go.Proofs.YtmjenmhidnkbdaaW.PrintMore
set_option linter.unusedVariables false
set_option linter.unusedSimpArgs false

theorem members_any (B : Nat) (conf : Int) (w : World) :
    Calls Try.prog 38 #[.pointer (some ⟨B, 0, none⟩), .int .i64 conf] w fun e w' =>
      e = .returned (.func (.func 52) #[] #[.pointer (some ⟨w.heap.size, 0, none⟩), .pointer (some ⟨w.heap.size + 1, 0, none⟩)]) ∧
      (w.alloc (.cells #[.pointer (some ⟨B, 0, none⟩)] 61)).alloc (.cells #[.int .i64 conf] 3) = w' := by
  go_enter Try.func38, Try.ntmps38
  go_wp2
  go_ret
  exact ⟨rfl, rfl⟩

/-- How a round's body may be left here: off its end. -/
def memPost (I : Nat → World → Prop) (i : Nat) (W : World) : Exit → Act → World → Prop
  | .normal, _, W' => KeepsOthers W W' ∧ I (i + 1) W'
  | _, _, _ => False

theorem wpIn_members {m : Nat} {g : Operand} {ps : Array Tmp} {assign body : Code} {Q : Exit → Act → World → Prop} {a : Act} {w : World}
    (b1 b2 B : Nat) (A : Option Addr) (n c : Nat) (conf : Int) (cf : Nat → Int) (hn : n ≤ 9223372036854775807)
    (hg : a.eval g = .func (.func 52) #[] #[.pointer (some ⟨b1, 0, none⟩), .pointer (some ⟨b2, 0, none⟩)]) (hps : ps.size = 1)
    (I : Nat → World → Prop) (hI : OwnFrom w.heap.size I) (hread : ∀ i W, I i W → MemRead b1 b2 B A n c conf cf i W) (hdraw : ∀ i W, I i W → I i W.drew)
    (hskip : ∀ i W, I i W → i < n → cf i ≠ conf → I (i + 1) W) (h0 : I 0 w) (a₁ : Addr → Act)
    (hassign : ∀ (l : Nat) (ad : Addr) (W : World) (K : Act → World → Prop), K (a₁ ad) W →
      assign.wpIn (Fence.wide.inRound l) (m - 1 - 1) Try.prog (Exit.then K (fun _ _ _ => False)) { tmps := (ps.zip #[.pointer (some ad)]).foldl (fun t (p, v) => t.setIfInBounds p v) a.tmps, defers := [] } W)
    (hbody : ∀ (l i : Nat) (ad : Addr) (W : World), I i W → i < n → cf i = conf → A = some ad →
      body.wpIn (Fence.wide.inRound l) (m - 1 - 1) Try.prog (memPost I i W) (a₁ (ad.add (i * 3))) W)
    (hdone : ∀ (D : Nat) (W : World), w.heap.size ≤ D → I n W → W.heap[D]? = some (.deferred (some [])) → Q .normal { a with defers := { target := .collected D, args := #[] } :: a.defers } W) :
    (Code.rangeFunc g ps assign body).wpIn Fence.wide m Try.prog Q a w := by
  refine wpIn_rangeFunc ?_
  intro fn hfn
  have hro : Fence.wide.round = none := rfl
  rw [hro]
  obtain ⟨rec, hrec⟩ : ∃ rec : LoopState → Option Code → Loop, rec = fun st pe => { state := st, pending := pe, fn, tmps := a.tmps, params := ps, assign, body, defers := w.heap.size } := ⟨_, rfl⟩
  obtain ⟨W1, hW1⟩ : ∃ W1, (w.alloc (.deferred (some []))).alloc (.loop (rec .ready none)) = W1 := ⟨_, rfl⟩
  have hL1 : W1.heap[w.heap.size + 1]? = some (.loop (rec .ready none)) := by
    rw [← hW1]; have := World.alloc_heap_new (w.alloc (.deferred (some []))) (.loop (rec .ready none)); rwa [World.size_alloc] at this
  have hK1 : W1.heap[w.heap.size]? = some (.deferred (some [])) := by
    rw [← hW1]; exact (Below.heap_alloc _ _ _ (by simp)).trans (World.alloc_heap_new w _)
  have hI1 : I 0 W1 := by rw [← hW1]; exact hI.alloc _ (hI.alloc _ h0)
  have eg := enters_of Try.func52 (by kernel_rfl) rfl
  refine ⟨w.heap.size + 1, [{ target := .collected w.heap.size, args := #[] }], W1,
    { target := .fn (.func 52) #[.pointer (some ⟨b1, 0, none⟩), .pointer (some ⟨b2, 0, none⟩)], args := #[.func (.yield (w.heap.size + 1)) #[] #[]] }, W1, 52,
    #[.func (.yield (w.heap.size + 1)) #[] #[]] ++ #[.pointer (some ⟨b1, 0, none⟩), .pointer (some ⟨b2, 0, none⟩)], W1, ?_, ?_, ?_, ?_, fun h => absurd h (by simp [Fence.wide]), ?_⟩
  · rw [← hW1, hrec]; exact run_enterLoop_outer _ _ _ _ _
  · simp only [resolve, hg]
    simp [go_sem]
  · intro f' hf'; trivial
  · simp [invoke, go_sem, eg]
  · refine (members1_any (m - 1) (w.heap.size + 1) b1 b2 B A n c conf cf hn
      (fun i W => I i W ∧ W.heap[w.heap.size + 1]? = some (.loop (rec .ready none)) ∧ W.heap[w.heap.size]? = some (.deferred (some [])))
      (fun i W h => hread i W h.1) (fun i W h => ⟨hdraw i W h.1, h.2⟩) (fun i W h h1 h2 => ⟨hskip i W h.1 h1 h2, h.2⟩) ?_ W1 ⟨hI1, hL1, hK1⟩).mono ?_
    · rintro i W ad ⟨hi, hl, hk⟩ hin hcf hA
      have hlt : w.heap.size + 1 < W.heap.size := (Array.getElem?_eq_some_iff.1 hl).1
      have hy := run_yield (P := Try.prog) (args := #[.pointer (some (ad.add (i * 3)))]) hl (by rw [hrec]; exact hps.symm)
      rw [hrec] at hy
      refine ⟨fn, _, assign, body, hy, roundIn_of_wpIn hfn (hassign _ _ W _ ⟨_, run_beginRound hl (by rw [hrec]), ?_⟩)⟩
      have hl2 : (W.putObj (w.heap.size + 1) (.loop { rec .ready none with state := .busy })).heap[w.heap.size + 1]? = some (.loop { rec .ready none with state := .busy }) := World.putObj_heap_same hlt
      have hk2 : (W.putObj (w.heap.size + 1) (.loop { rec .ready none with state := .busy })).heap[w.heap.size]? = some (.deferred (some [])) := (World.putObj_heap_other (by omega)).trans hk
      refine wpIn_mono (hbody _ i ad _ (hI.putObj _ hi (by omega) hl rfl) hin hcf hA) ?_
      rintro e a3 W3 hp
      cases e with
      | normal =>
        obtain ⟨hk3, hi3⟩ := hp
        have hl3 := hk3.same _ _ hl2 rfl
        have hr := run_endRound (P := Try.prog) none hl3
        rw [hrec] at hr hl3 ⊢
        exact ⟨_, _, hr, rfl, hI.putObj _ hi3 (by omega) hl3 rfl, World.putObj_heap_same (Array.getElem?_eq_some_iff.1 hl3).1, (World.putObj_heap_other (by omega)).trans (hk3.same _ _ hk2 rfl)⟩
      | ret => exact hp.elim
      | exit id => exact hp.elim
      | goto t => exact hp.elim
      | panic ch => exact hp.elim
      | outgrown => exact hp.elim
    · rintro e W2 ⟨⟨v, rfl⟩, hi, hl, hk⟩
      exact ⟨none, _, by have := run_endLoop (P := Try.prog) hl (by rw [hrec]; simp); rw [hrec] at this; exact this, hdone _ _ (Nat.le_refl _) (hI.putObj _ hi (by omega) hl rfl) ((World.putObj_heap_other (by omega)).trans hk)⟩
end Go.Proofs.Ytmjenmhidnkbdaa.P
