/- Lists of legs and the cells of a row of the call's own: what a store into an element leaves; from and to the print's words. -/
import Derived.Test.YtjaodgicpnoifaaHa
import Derived.Maps.Own
import Derived.BigRegionIn
import Derived.LoopIn
import Derived.LoopNIn
import Derived.OwnWalkIn
import Derived.WalkKit
namespace Go.Proofs.Ytjaodgicpnoifaa.P
open Go.RowKit Go.Shelf Go.Proofs.YtjaodgicpnoifaaW.PrintWords Go.Proofs.YtjaodgicpnoifaaW.PrintLast Go.Proofs.YtjaodgicpnoifaaW.PrintMore
set_option linter.unusedVariables false
set_option linter.unusedSimpArgs false

def legC (x : S49) : List Value := [.int .i64 x.f0, .int .i64 x.f1, .int .i64 x.f2]
def flat (l : List S49) : List Value := l.flatMap legC
theorem legC_len (x : S49) : (legC x).length = 3 := rfl
theorem flat_len (l : List S49) : (flat l).length = l.length * 3 := by
  induction l with
  | nil => rfl
  | cons x l ih => simp only [flat, List.flatMap_cons, List.length_append, List.length_cons, legC_len] at ih ⊢; omega
theorem flat_cons (x : S49) (l : List S49) : flat (x :: l) = legC x ++ flat l := by simp [flat]
theorem flat_append (l m : List S49) : flat (l ++ m) = flat l ++ flat m := by simp [flat]
theorem flat_one (x : S49) : flat [x] = legC x := by simp [flat]
theorem flat_get (l : List S49) (i j : Nat) (x : S49) (hx : l[i]? = some x) (hj : j < 3) : (flat l)[i * 3 + j]? = (legC x)[j]? := by
  induction l generalizing i with
  | nil => simp at hx
  | cons y l ih =>
    rw [flat_cons]
    cases i with
    | zero =>
      obtain rfl : y = x := by simpa using hx
      rw [List.getElem?_append_left (by rw [legC_len]; omega)]
      congr 1; omega
    | succ i =>
      rw [List.getElem?_append_right (by rw [legC_len]; omega), legC_len, show (i + 1) * 3 + j - 3 = i * 3 + j from by omega]
      exact ih i (by simpa using hx)
theorem flat_set (l : List S49) (i j : Nat) (x y : S49) (u : Value) (hx : l[i]? = some x) (hj : j < 3) (hy : (legC x).set j u = legC y) : (flat l).set (i * 3 + j) u = flat (l.set i y) := by
  induction l generalizing i with
  | nil => simp at hx
  | cons z l ih =>
    rw [flat_cons]
    cases i with
    | zero =>
      obtain rfl : z = x := by simpa using hx
      rw [List.set_append_left _ _ (by rw [legC_len]; omega)]
      simp only [List.set_cons_zero, flat_cons, Nat.zero_mul, Nat.zero_add, hy]
    | succ i =>
      rw [List.set_append_right _ _ (by rw [legC_len]; omega), legC_len, show (i + 1) * 3 + j - 3 = i * 3 + j from by omega]
      simp only [List.set_cons_succ, flat_cons]
      rw [ih i (by simpa using hx)]

/-- A row of legs of the call's own. -/
def Own3 (w : World) (base : Nat) (A : Option Addr) (c : Nat) (l : List S49) : Prop := w.ownsRow base 49 3 (.slice A l.length c) l.length (flat l)

theorem chunk (l : List S49) (i : Nat) (x : S49) (hx : l[i]? = some x) : ((flat l).drop (i * 3)).take 3 = legC x := by
  induction l generalizing i with
  | nil => simp at hx
  | cons y l ih =>
    rw [flat_cons]
    cases i with
    | zero =>
      obtain rfl : y = x := by simpa using hx
      simp [legC]
    | succ i =>
      rw [show (i + 1) * 3 = 3 + i * 3 from by omega, ← List.drop_drop]
      have : (legC y ++ flat l).drop 3 = flat l := by simp [legC]
      rw [this]
      exact ih i (by simpa using hx)

theorem reps_flat (w : World) (base : Nat) (ok : Nat → Prop) (l : List S49) : Reps (k49.M w base ok) 3 l (flat l) :=
  ⟨flat_len l, fun j p hp => by rw [chunk l j p hp]; exact k49_mkM w base ok p⟩

section
variable {w w' : World} {base : Nat} {A : Option Addr} {c : Nat} {l : List S49}

theorem Own3.R (h : Own3 w base A c l) : Kd.R k49 49 w base (fun _ => True) (.slice A l.length c) l :=
  ⟨fun _ _ => trivial, _, h, reps_flat w base _ l⟩
theorem Own3.C (h : Own3 w base A c l) : Kd.C k49 w A l.length l := by
  obtain ⟨A', c', e, _, hc⟩ := Kd.R_reads h.R
  simp only [Value.slice.injEq] at e
  obtain ⟨rfl, _, rfl⟩ := e
  exact hc
theorem own3_of_R {v : Value} (h : Kd.R k49 49 w base (fun _ => True) v l) : ∃ A c, v = .slice A l.length c ∧ l.length ≤ c ∧ Own3 w base A c l := by
  obtain ⟨A, c, rfl, hl, _⟩ := Kd.R_reads h
  refine ⟨A, c, rfl, hl, ?_⟩
  obtain ⟨_, inner, ho, hr⟩ := h
  have : inner = flat l := by
    have h1 := hr.1
    refine List.ext_getElem? fun k => ?_
    by_cases hk : k / 3 < l.length
    · have hx : l[k / 3]? = some l[k / 3] := List.getElem?_eq_getElem hk
      have h2 : (inner.drop (k / 3 * 3)).take 3 = [.int .i64 (l[k / 3]).f0, .int .i64 (l[k / 3]).f1, .int .i64 (l[k / 3]).f2] := k49_openM (hr.2 _ _ hx)
      have h3 : ((inner.drop (k / 3 * 3)).take 3)[k % 3]? = inner[k]? := by
        rw [List.getElem?_take, if_pos (Nat.mod_lt _ (by omega)), List.getElem?_drop]
        congr 1; omega
      rw [← h3, h2, show flat l = flat l from rfl]
      have h4 := flat_get l (k / 3) (k % 3) _ hx (Nat.mod_lt _ (by omega))
      rw [show k / 3 * 3 + k % 3 = k from by omega] at h4
      rw [h4]; rfl
    · have e1 : inner.length ≤ k := by rw [h1]; show l.length * 3 ≤ k; omega
      have e2 : (flat l).length ≤ k := by rw [flat_len]; omega
      rw [List.getElem?_eq_none e1, List.getElem?_eq_none e2]
  rw [this] at ho
  exact ho

theorem Own3.form (h : Own3 w base A c l) (hn : 0 < l.length) : ∃ g, A = some ⟨g, 0, none⟩ ∧ base ≤ g ∧ g < w.heap.size := by
  obtain ⟨g, cap, e, hb, hg⟩ := World.ownsRow.form (w := w) (base := base) h hn
  simp only [Value.slice.injEq] at e
  exact ⟨g, e.1, hb, hg⟩
theorem Own3.le (h : Own3 w base A c l) : l.length ≤ c := own_le h
theorem Own3.blk {g : Nat} {l : List S49} (h : Own3 w base (some ⟨g, 0, none⟩) c l) : ∃ cur, w.heap[g]? = some (.cells cur 49 (0, 0)) := by
  obtain ⟨cells, hc⟩ := own_typed h g (by simp [Value.ownBlock])
  exact ⟨cells, hc⟩
theorem Own3.ne {g B t : Nat} {l : List S49} {cs : Array Value} (h : Own3 w base (some ⟨g, 0, none⟩) c l) (hB : w.heap[B]? = some (.cells cs t (0, 0))) (ht : t ≠ 49) : B ≠ g := by
  obtain ⟨cur, hg⟩ := h.blk
  exact blk_ne hB hg ht
theorem Own3.other {row : Option Nat} (h : Own3 w base A c l) (hg : w.grownBy w' row) (hne : ∀ g, A = some ⟨g, 0, none⟩ → some g ≠ row) : Own3 w' base A c l := by
  refine h.kept hg ?_
  rcases h.2 with ⟨e, _⟩ | ⟨g, cap, cur, e, _⟩
  · simp only [Value.slice.injEq] at e
    obtain ⟨rfl, _, rfl⟩ := e
    exact .inl rfl
  · simp only [Value.slice.injEq] at e
    obtain ⟨rfl, _, rfl⟩ := e
    exact .inr (hne g rfl)
theorem Own3.below (h : Own3 w base A c l) (hb : Below w.heap.size w w') : Own3 w' base A c l := pw_own_below h hb
theorem Own3.lower {base' : Nat} (h : Own3 w base A c l) (hb : base' ≤ base) : Own3 w base' A c l := own_weaken h hb
end

theorem addr_leg (g i : Nat) : (⟨g, 0, none⟩ : Addr).add (i * 3) = ⟨g, i * 3, none⟩ := by
  unfold Addr.add
  split <;> simp_all

section
variable {w : World} {base g c : Nat} {l : List S49}
theorem Own3.cell {i j : Nat} {x : S49} {u : Value} (h : Own3 w base (some ⟨g, 0, none⟩) c l) (hx : l[i]? = some x) (hj : (legC x)[j]? = some u) : w.cell? ⟨g, i * 3 + j, none⟩ = some u := by
  have hj3 : j < 3 := by
    have := (List.getElem?_eq_some_iff.1 hj).1
    rwa [legC_len] at this
  have h1 := h.cells (g := g) rfl (i * 3 + j) u (by rw [flat_get l i j x hx hj3]; exact hj)
  have e : (⟨g, 0, none⟩ : Addr).add (i * 3 + j) = ⟨g, i * 3 + j, none⟩ := by unfold Addr.add; split <;> simp_all
  rw [e] at h1
  exact h1
theorem Own3.free (h : Own3 w base (some ⟨g, 0, none⟩) c l) (k : Nat) : w.frozen? ⟨g, k, none⟩ = false := World.ownsRow.frozenAt (n := l.length) (cap := c) h k
theorem Own3.put {i j : Nat} {x y : S49} {u : Value} (h : Own3 w base (some ⟨g, 0, none⟩) c l) (hx : l[i]? = some x) (hj : j < 3) (hy : (legC x).set j u = legC y) :
    Own3 (w.setCell ⟨g, i * 3 + j, none⟩ u) base (some ⟨g, 0, none⟩) c (l.set i y) ∧ w.grownBy (w.setCell ⟨g, i * 3 + j, none⟩ u) (some g) := by
  obtain ⟨h1, h2⟩ := World.ownsRow.stored (n := l.length) (cap := c) h (i * 3 + j) u
  refine ⟨?_, h2⟩
  rw [flat_set l i j x y u hx hj hy] at h1
  unfold Own3
  rw [List.length_set]
  exact h1
end
end Go.Proofs.Ytjaodgicpnoifaa.P
