/- Tables, links and lists that come in, opened. -/
import Derived.Test.YtjaodgicpnoifaaHa
import Derived.Test.YtjaodgicpnoifaaRows
import Derived.Deep.Slices
import Derived.Deep.Fields
import Derived.Deep.Strs
import Derived.Lib.SmallJoins
import Derived.ChangeSame
import Derived.ProofKit
import Derived.OpenShut
import Derived.ChangeOld
import Derived.SizedLaws
namespace Go.Proofs.Ytjaodgicpnoifaa.P
open Go.ChangeShapes Go.WideShapes Go.ChangeAt Go.Joins Go.Deep
open Go.RowKit Go.Proofs.YtjaodgicpnoifaaW.PrintWords Go.Proofs.YtjaodgicpnoifaaW.PrintLast Go.Proofs.YtjaodgicpnoifaaW.PrintMore
set_option linter.unusedVariables false
set_option linter.unusedSimpArgs false

theorem laidOut : laidOutB Try.prog = true := by kernel_rfl
theorem ownK : ownKnob Try.prog.godebug = none := by kernel_rfl
section
variable {H : Type} {enc : TypeId × Value → H} {W : World}
/-- A slice of whatever can be opened. -/
theorem open_kd {α : Type} (d : Kd α) (z0 : α) {t e : TypeId} (hu : Try.prog.underlying t = some (.slice e)) (hc : Try.prog.cellsOf e = d.sz)
    (helem : ∀ {n : Nat} {cs : List Value} {x : DataW H × List MemPlace}, DataW.trod enc Try.prog W 0 (fun _ => true) true n e cs = some x → ∃ z : α, d.K W z cs)
    {n : Nat} {v : Value} {x : DataW H × List MemPlace} (h : DataW.trod enc Try.prog W 0 (fun _ => true) true n t [v] = some x) :
    ∃ (A : Option Addr) (c : Nat) (l : List α), v = .slice A l.length c ∧ l.length ≤ c ∧ Kd.C d W A l.length l := by
  rcases open_slice hu h with ⟨hcs, _⟩ | ⟨a, len, cap, m, n', D, Pl, hcs, _, hl, hm, hmm, hx, hi⟩
  · simp only [List.cons.injEq, and_true] at hcs
    subst hcs
    exact ⟨none, 0, [], rfl, Nat.le_refl _, Kd.C_nil _ _⟩
  · simp only [List.cons.injEq, and_true] at hcs
    subst hcs
    have hmc : m = cap := by rw [hmm]; rfl
    have hz : ∀ i, i < len → ∃ (z : α) (c : List Value), c.length = d.sz ∧ d.K W z c ∧ (∀ j u, c[j]? = some u → W.cell? (a.add (i * d.sz + j)) = some u) := by
      intro i hil
      obtain ⟨cs', hcs', ht'⟩ := hi i (by omega)
      obtain ⟨z, hK⟩ := helem ht'
      obtain ⟨_, hcl, hat⟩ := World.cells?_some hcs'
      have hlen := d.K_len hK
      refine ⟨z, cs', hlen, hK, fun j u hj => ?_⟩
      have hj3 : j < d.sz := by
        have := (List.getElem?_eq_some_iff.1 hj).1
        omega
      have := hat j (by rw [hc]; exact hj3)
      rw [hj, Go.Deep.add_add, hc] at this
      exact this
    have hzz : ∀ i, ∃ z : α, i < len → ∃ c : List Value, c.length = d.sz ∧ d.K W z c ∧ (∀ j u, c[j]? = some u → W.cell? (a.add (i * d.sz + j)) = some u) := fun i => by
      by_cases hil : i < len
      · obtain ⟨z, hz⟩ := hz i hil
        exact ⟨z, fun _ => hz⟩
      · exact ⟨z0, fun h => absurd h hil⟩
    obtain ⟨f, hf⟩ := Classical.axiomOfChoice hzz
    refine ⟨some a, cap, (List.range len).map f, by simp, by simpa using hl, ?_⟩
    refine ⟨rfl, by simp; unfold maxLen at hm; omega, fun _ => ⟨a, rfl, fun j p hp => ?_⟩⟩
    have hjl : j < len := by
      have := (List.getElem?_eq_some_iff.1 hp).1
      simpa using this
    have : p = f j := by
      rw [List.getElem?_map, List.getElem?_range hjl] at hp
      simpa using hp.symm
    subst this
    obtain ⟨c, h1, h2, h3⟩ := hf j hjl
    exact ⟨c, h1, h2, h3⟩
theorem open_choice {n : Nat} {cs : List Value} {x : DataW H × List MemPlace} (h : DataW.trod enc Try.prog W 0 (fun _ => true) true n 49 cs = some x) : ∃ z : S49, k49.K W z cs := by
  obtain ⟨y0, y1, y2, m, rfl, hl, h0, h1, h2⟩ := Go.Deep.trod_struct3 Try.underlying49 h
  have hl3 : cs.length = 3 := hl
  match cs, hl3 with
  | [c0, c1, c2], _ =>
    obtain ⟨a, ea, _, wa⟩ := DataW.trod_int Try.underlying3 h0
    obtain ⟨b, eb, _, wb⟩ := DataW.trod_int Try.underlying3 h1
    obtain ⟨c, ec, _, wc⟩ := DataW.trod_int Try.underlying3 h2
    have k3 : Try.prog.cellsOf 3 = 1 := by kernel_rfl
    simp only [k3, List.drop_zero, List.drop_succ_cons, List.take_succ_cons, List.take_zero, List.cons.injEq, and_true] at ea eb ec
    subst ea eb ec
    exact ⟨⟨a, b, c⟩, k49_mk W ⟨a, b, c⟩⟩
theorem open_choices {n : Nat} {v : Value} {x : DataW H × List MemPlace} (h : DataW.trod enc Try.prog W 0 (fun _ => true) true n 45 [v] = some x) :
    ∃ (A : Option Addr) (c : Nat) (l : List S49), v = .slice A l.length c ∧ l.length ≤ c ∧ Kd.C k49 W A l.length l :=
  open_kd k49 z49 Try.underlying45 (by kernel_rfl) open_choice h
theorem open_route {n : Nat} {cs : List Value} {x : DataW H × List MemPlace} (h : DataW.trod enc Try.prog W 0 (fun _ => true) true n 47 cs = some x) : ∃ z : S47, k47.K W z cs := by
  obtain ⟨y0, y1, m, rfl, hl, h0, h1⟩ := trod_struct2 Try.underlying47 h
  have hl3 : cs.length = 2 := hl
  match cs, hl3 with
  | [c0, c1], _ =>
    obtain ⟨a, ea, _, wa⟩ := DataW.trod_int Try.underlying3 h0
    have k3 : Try.prog.cellsOf 3 = 1 := by kernel_rfl
    have k45 : Try.prog.cellsOf 45 = 1 := by kernel_rfl
    simp only [k3, k45, List.drop_zero, List.drop_succ_cons, List.take_succ_cons, List.take_zero, List.cons.injEq, and_true] at ea h1
    subst ea
    obtain ⟨A, c, l, rfl, hle, hC⟩ := open_choices h1
    exact ⟨⟨a, l⟩, k47_mk W ⟨a, l⟩ hle hC⟩
theorem open_intK {n : Nat} {cs : List Value} {x : DataW H × List MemPlace} (h : DataW.trod enc Try.prog W 0 (fun _ => true) true n 3 cs = some x) : ∃ z : Int, (Kd.int .i64).K W z cs := by
  obtain ⟨a, ea, _, wa⟩ := DataW.trod_int Try.underlying3 h
  exact ⟨a, ea⟩
theorem open_boolK {n : Nat} {cs : List Value} {x : DataW H × List MemPlace} (h : DataW.trod enc Try.prog W 0 (fun _ => true) true n 4 cs = some x) : ∃ z : Bool, Kd.bool.K W z cs := by
  obtain ⟨a, ea, _⟩ := DataW.trod_bool Try.underlying4 h
  exact ⟨a, ea⟩
theorem open_rowK {n : Nat} {cs : List Value} {x : DataW H × List MemPlace} (h : DataW.trod enc Try.prog W 0 (fun _ => true) true n 23 cs = some x) : ∃ z : List Int, (Kd.slice 3 (Kd.int .i64)).K W z cs := by
  have hl : cs.length = 1 := by
    rcases open_slice Try.underlying23 h with ⟨hcs, _⟩ | ⟨a, len, cap, m, n', D, Pl, hcs, _⟩
    · rw [hcs]; rfl
    · rw [hcs]; rfl
  match cs, hl with
  | [c0], _ =>
    obtain ⟨A, c, l, rfl, hle, hC⟩ := open_kd (Kd.int .i64) 0 Try.underlying23 (by kernel_rfl) open_intK h
    exact ⟨l, ⟨A, c, rfl, hle, hC⟩⟩
section
variable {H : Type} {enc : TypeId × Value → H} {W : World} {b0 : Nat} {v : Value} {d : DataW H} {p : List MemPlace}
theorem open_R (hv : Value.okWide Try.prog W .any b0 24 v) (h : DataW.Trod enc Try.prog W 0 (fun _ => true) true 24 v d p) : ∃ (A : Option Addr) (c : Nat) (l : List S47), v = .slice A l.length c ∧ l.length ≤ c ∧ Kd.C k47 W A l.length l := by
  obtain ⟨a, len, cap, rfl⟩ := okWide_slice Try.underlying24 hv
  obtain ⟨n, hn⟩ := h
  exact open_kd k47 z47 Try.underlying24 (by kernel_rfl) open_route hn
theorem open_L (hv : Value.okWide Try.prog W .any b0 22 v) (h : DataW.Trod enc Try.prog W 0 (fun _ => true) true 22 v d p) : ∃ (A : Option Addr) (c : Nat) (l : List (List Int)), v = .slice A l.length c ∧ l.length ≤ c ∧ Kd.C (Kd.slice 3 (Kd.int .i64)) W A l.length l := by
  obtain ⟨a, len, cap, rfl⟩ := okWide_slice Try.underlying22 hv
  obtain ⟨n, hn⟩ := h
  exact open_kd (Kd.slice 3 (Kd.int .i64)) [] Try.underlying22 (by kernel_rfl) open_rowK hn
theorem open_I (hv : Value.okWide Try.prog W .any b0 23 v) (h : DataW.Trod enc Try.prog W 0 (fun _ => true) true 23 v d p) : ∃ (A : Option Addr) (c : Nat) (l : List Int), v = .slice A l.length c ∧ l.length ≤ c ∧ Kd.C (Kd.int .i64) W A l.length l := by
  obtain ⟨a, len, cap, rfl⟩ := okWide_slice Try.underlying23 hv
  obtain ⟨n, hn⟩ := h
  exact open_kd (Kd.int .i64) 0 Try.underlying23 (by kernel_rfl) open_intK hn
theorem open_B (hv : Value.okWide Try.prog W .any b0 37 v) (h : DataW.Trod enc Try.prog W 0 (fun _ => true) true 37 v d p) : ∃ (A : Option Addr) (c : Nat) (l : List Bool), v = .slice A l.length c ∧ l.length ≤ c ∧ Kd.C Kd.bool W A l.length l := by
  obtain ⟨a, len, cap, rfl⟩ := okWide_slice Try.underlying37 hv
  obtain ⟨n, hn⟩ := h
  exact open_kd Kd.bool false Try.underlying37 (by kernel_rfl) open_boolK hn
end
end
end Go.Proofs.Ytjaodgicpnoifaa.P
