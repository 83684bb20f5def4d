/- routing.asked; how many choices a right route has. -/
import Derived.Test.YtjaodgicpnoifaaHg
namespace Go.Proofs.Ytjaodgicpnoifaa.P
open Go.RowKit Go.Shelf Go.Lib Go.Sort Go.Proofs.YtjaodgicpnoifaaW.PrintWords Go.Proofs.YtjaodgicpnoifaaW.PrintLast Go.Proofs.YtjaodgicpnoifaaW.PrintMore
set_option linter.unusedVariables false
set_option linter.unusedSimpArgs false

def askF (l : List S47) (t s : Int) : Int := if chkF l 6 ≠ 0 then chkF l 6 else if t < -1 ∨ 6 ≤ t ∨ s < 0 ∨ 86400 ≤ s then 1 else 0
theorem chk_01 (l : List S47) (g : Int) : chkF l g = 0 ∨ chkF l g = 1 := by
  unfold chkF; split
  · exact .inr rfl
  · split
    · exact .inl rfl
    · exact .inr rfl

set_option maxRecDepth 100000 in
set_option maxHeartbeats 2000000 in
theorem asked_any (A : Option Addr) (c : Nat) (l : List S47) (t s : Int) (w : World) (hr : Kd.C k47 w A l.length l) (hlen : l.length ≤ 1000000) (hcl : ∀ z ∈ l, z.f1.length ≤ 1000000) :
    Calls Try.prog 41 #[.slice A l.length c, .int .i64 t, .int .i64 s] w fun e w' => e = .returned (.int .i64 (askF l t s)) ∧ Below w.heap.size w w' := by
  have hck := check_any A c l 6 w hr hlen hcl
  clear hr
  rcases chk_01 l 6 with h | h
  · rw [h] at hck
    have hv : askF l t s = if t < -1 ∨ 6 ≤ t ∨ s < 0 ∨ 86400 ≤ s then 1 else 0 := by unfold askF; rw [h, if_neg (by decide)]
    by_cases h1 : t < -1
    · rw [if_pos (.inl h1)] at hv
      go_enter Try.func41, Try.ntmps41
      go_wp2_with (go_at_call 19; refine hck.mono ?_; rintro e w1 ⟨rfl, hb⟩)
      go_ret
      exact ⟨by first | rfl | (rw [hv]; rfl), hb⟩
    by_cases h2 : 6 ≤ t
    · rw [if_pos (.inr (.inl h2))] at hv
      go_enter Try.func41, Try.ntmps41
      go_wp2_with (go_at_call 19; refine hck.mono ?_; rintro e w1 ⟨rfl, hb⟩)
      go_ret
      exact ⟨by first | rfl | (rw [hv]; rfl), hb⟩
    by_cases h3 : s < 0
    · rw [if_pos (.inr (.inr (.inl h3)))] at hv
      go_enter Try.func41, Try.ntmps41
      go_wp2_with (go_at_call 19; refine hck.mono ?_; rintro e w1 ⟨rfl, hb⟩)
      go_ret
      exact ⟨by first | rfl | (rw [hv]; rfl), hb⟩
    by_cases h4 : 86400 ≤ s
    · rw [if_pos (.inr (.inr (.inr h4)))] at hv
      go_enter Try.func41, Try.ntmps41
      go_wp2_with (go_at_call 19; refine hck.mono ?_; rintro e w1 ⟨rfl, hb⟩)
      go_ret
      exact ⟨by first | rfl | (rw [hv]; rfl), hb⟩
    · rw [if_neg (by rintro (h | h | h | h) <;> contradiction)] at hv
      go_enter Try.func41, Try.ntmps41
      go_wp2_with (go_at_call 19; refine hck.mono ?_; rintro e w1 ⟨rfl, hb⟩)
      go_ret
      exact ⟨by first | rfl | (rw [hv]; rfl), hb⟩
  · rw [h] at hck
    have hv : askF l t s = 1 := by unfold askF; rw [h, if_pos (by decide)]
    go_enter Try.func41, Try.ntmps41
    go_wp2_with (go_at_call 19; refine hck.mono ?_; rintro e w1 ⟨rfl, hb⟩)
    go_ret
    exact ⟨by first | rfl | (rw [hv]; rfl), hb⟩

/-- The groups that are still free. -/
def free (F : Nat → Bool) : Nat := ((List.range 6).filter fun i => !F i).length
theorem free_upd (F : Nat → Bool) {i : Nat} (hi : i < 6) (h : F i = false) : free (upd F i true) + 1 = free F := by
  unfold free upd
  match i, hi with
  | 0, _ => simp [List.range, List.range.loop, List.filter, h]
  | 1, _ => simp [List.range, List.range.loop, List.filter, h]; (repeat' split) <;> simp
  | 2, _ => simp [List.range, List.range.loop, List.filter, h]; (repeat' split) <;> simp
  | 3, _ => simp [List.range, List.range.loop, List.filter, h]; (repeat' split) <;> simp
  | 4, _ => simp [List.range, List.range.loop, List.filter, h]; (repeat' split) <;> simp
  | 5, _ => simp [List.range, List.range.loop, List.filter, h]; (repeat' split) <;> simp
theorem okChs_len {g : Int} (hg : g ≤ 6) : ∀ (l : List S49) (F : Nat → Bool), okChs g F l = true → l.length ≤ free F := by
  intro l
  induction l with
  | nil => intro F _; simp
  | cons c l ih =>
    intro F h
    simp only [okChs, Bool.and_eq_true] at h
    have h2 := ih _ h.2
    have hc := h.1
    unfold okCh at hc
    simp only [Bool.and_eq_true, decide_eq_true_eq, Bool.not_eq_true'] at hc
    have := free_upd F (i := c.f0.toNat) (by omega) hc.1.1.2
    simp only [List.length_cons]; omega
theorem free_le (F : Nat → Bool) : free F ≤ 6 := by
  unfold free
  refine Nat.le_trans (List.length_filter_le _ _) ?_
  rw [List.length_range]; exact Nat.le_refl _
theorem okRt_mem {g : Int} : ∀ (l : List S47) (last : Int), okRt g last l = true → ∀ z ∈ l, okChs g (fun _ => false) z.f1 = true := by
  intro l
  induction l with
  | nil => intro _ _ z hz; simp at hz
  | cons r l ih =>
    intro last h z hz
    simp only [okRt, Bool.and_eq_true] at h
    rcases List.mem_cons.1 hz with rfl | hz
    · exact h.1.2
    · exact ih _ h.2 z hz
theorem chk_len {l : List S47} {g : Int} (h : chkF l g = 0) : ∀ z ∈ l, z.f1.length ≤ 6 := by
  unfold chkF at h
  split at h
  · cases h
  · split at h
    · rename_i h1 h2
      intro z hz
      exact Nat.le_trans (okChs_len (by omega) _ _ (okRt_mem l _ h2 z hz)) (free_le _)
    · cases h
end Go.Proofs.Ytjaodgicpnoifaa.P
