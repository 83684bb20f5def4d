/- A script of operations that comes in, opened: a list of triples of numbers. -/
import Derived.Test.YtmjenmhidnkbdaaRw
namespace Go.Proofs.Ytmjenmhidnkbdaa.P
open Go.ChangeShapes Go.WideShapes Go.ChangeAt Go.Joins Go.Deep
open Go.RowKit Go.Shelf Go.Proofs.YtmjenmhidnkbdaaW.PrintWords Go.Proofs.YtmjenmhidnkbdaaW.PrintLast Go.Proofs.YtmjenmhidnkbdaaW.PrintMore
set_option linter.unusedVariables false
set_option linter.unusedSimpArgs false

structure S51 where
  f0 : Int
  f1 : Int
  f2 : Int
def z51 : S51 := ⟨0, 0, 0⟩
def k51 : Kd S51 := Kd.iso (Kd.pair (Kd.int .i64) (Kd.pair (Kd.int .i64) (Kd.int .i64))) (fun x : S51 => (x.f0, x.f1, x.f2))
theorem k51_open {w : World} {x : S51} {cs : List Value} (h : k51.K w x cs) : cs = [.int .i64 x.f0, .int .i64 x.f1, .int .i64 x.f2] := by
  obtain ⟨_, _, rfl, rfl, ⟨_, _, rfl, rfl, rfl⟩⟩ := h
  exact rfl
theorem k51_mk (w : World) (x : S51) : k51.K w x [.int .i64 x.f0, .int .i64 x.f1, .int .i64 x.f2] := ⟨[.int .i64 x.f0], [.int .i64 x.f1, .int .i64 x.f2], rfl, rfl, ⟨[.int .i64 x.f1], [.int .i64 x.f2], rfl, rfl, rfl⟩⟩
def rd_T51 (xs : List S51) (i : Int) : S51 := xs.getD i.toNat z51
theorem at_T51 {w : World} {A : Option Addr} {n : Nat} {xs : List S51} (h : Kd.C k51 w A n xs) (i : Int) (h0 : 0 ≤ i) (h1 : i < n) : ∃ ad , A = some ad ∧ w.cell? (ad.add (i.toNat * 3)) = some (.int .i64 (rd_T51 xs i).f0) ∧ w.cell? ⟨(ad.add (i.toNat * 3)).block, (ad.add (i.toNat * 3)).off + 1, none⟩ = some (.int .i64 (rd_T51 xs i).f1) ∧ w.cell? ⟨(ad.add (i.toNat * 3)).block, (ad.add (i.toNat * 3)).off + 2, none⟩ = some (.int .i64 (rd_T51 xs i).f2) := by
  obtain ⟨ad, c, e, _, hK, hc0⟩ := Kd.C_get h z51 i h0 h1
  have hc : ∀ j u, c[j]? = some u → w.cell? (ad.add (i.toNat * 3 + j)) = some u := hc0
  obtain rfl := k51_open hK
  exact ⟨ad, e, hc 0 _ rfl, by rw [← add_field _ _ 1 (by omega)]; exact hc 1 _ rfl, by rw [← add_field _ _ 2 (by omega)]; exact hc 2 _ rfl⟩

def opC (x : S51) : List Value := [.int .i64 x.f0, .int .i64 x.f1, .int .i64 x.f2]
section
variable {H : Type} {enc : TypeId × Value → H} {W : World}
theorem open_op {n : Nat} {cs : List Value} {x : DataW H × List MemPlace} (h : DataW.trod enc Try.prog W 0 (fun _ => true) true n 51 cs = some x) : ∃ z : S51, cs = opC z := by
  obtain ⟨y0, y1, y2, m, rfl, hl, h0, h1, h2⟩ := Go.Deep.trod_struct3 Try.underlying51 h
  have hl3 : cs.length = 3 := hl
  match cs, hl3 with
  | [c0, c1, c2], _ =>
    obtain ⟨a, ea, _, wa⟩ := DataW.trod_int Try.underlying3 h0
    obtain ⟨b, eb, _, wb⟩ := DataW.trod_int Try.underlying3 h1
    obtain ⟨c, ec, _, wc⟩ := DataW.trod_int Try.underlying3 h2
    have k3 : Try.prog.cellsOf 3 = 1 := by kernel_rfl
    simp only [k3, List.drop_zero, List.drop_succ_cons, List.take_succ_cons, List.take_zero, List.cons.injEq, and_true] at ea eb ec
    subst ea eb ec
    exact ⟨⟨a, b, c⟩, rfl⟩
theorem open_ops {n : Nat} {v : Value} {x : DataW H × List MemPlace} (h : DataW.trod enc Try.prog W 0 (fun _ => true) true n 44 [v] = some x) :
    ∃ (A : Option Addr) (c : Nat) (l : List S51), v = .slice A l.length c ∧ l.length ≤ c ∧ Kd.C k51 W A l.length l := by
  rcases open_slice Try.underlying44 h with ⟨hcs, _⟩ | ⟨a, len, cap, m, n', D, Pl, hcs, _, hl, hm, hmm, hx, hi⟩
  · simp only [List.cons.injEq, and_true] at hcs
    subst hcs
    exact ⟨none, 0, [], rfl, Nat.le_refl _, ⟨rfl, by simp, fun h => by simp at h⟩⟩
  · simp only [List.cons.injEq, and_true] at hcs
    subst hcs
    have hmc : m = cap := by rw [hmm]; rfl
    have k51c : Try.prog.cellsOf 51 = 3 := by kernel_rfl
    have hz : ∀ i, i < len → ∃ z : S51, (∀ j u, (opC z)[j]? = some u → W.cell? (a.add (i * 3 + j)) = some u) := by
      intro i hil
      obtain ⟨cs', hc, ht'⟩ := hi i (by omega)
      obtain ⟨z, rfl⟩ := open_op ht'
      obtain ⟨_, hcl, hat⟩ := World.cells?_some hc
      refine ⟨z, fun j u hj => ?_⟩
      have hj3 : j < 3 := by
        have := (List.getElem?_eq_some_iff.1 hj).1
        exact this
      have := hat j (by rw [k51c]; exact hj3)
      rw [hj, Go.Deep.add_add, k51c] at this
      exact this
    have hzz : ∀ i, ∃ z : S51, i < len → (∀ j u, (opC z)[j]? = some u → W.cell? (a.add (i * 3 + j)) = some u) := fun i => by
      by_cases hil : i < len
      · obtain ⟨z, hz⟩ := hz i hil
        exact ⟨z, fun _ => hz⟩
      · exact ⟨z51, fun h => absurd h hil⟩
    obtain ⟨f, hf⟩ := Classical.axiomOfChoice hzz
    refine ⟨some a, cap, (List.range len).map f, by simp, by simpa using hl, ?_⟩
    refine ⟨rfl, by simp; unfold maxLen at hm; omega, fun _ => ⟨a, rfl, fun j p hp => ?_⟩⟩
    have hjl : j < len := by
      have := (List.getElem?_eq_some_iff.1 hp).1
      simpa using this
    have : p = f j := by
      rw [List.getElem?_map, List.getElem?_range hjl] at hp
      simpa using hp.symm
    subst this
    exact ⟨opC (f j), rfl, k51_mk W (f j), hf j hjl⟩
end
theorem and_small (x : Int) (m : Nat) (hm : m < 1099511627776) : 0 ≤ Go.bits .and .i64 x (m : Int) ∧ Go.bits .and .i64 x (m : Int) ≤ (m : Int) := by
  have h : Go.bits .and .i64 x (m : Int) = ((((BitVec.ofInt 64 x).toNat &&& m : Nat)) : Int) := by
    have hm2 : m % 2 ^ 64 = m := Nat.mod_eq_of_lt (by omega)
    have e : (BitVec.ofInt 64 (m : Int)).toNat = m := by rw [BitVec.ofInt_natCast, BitVec.toNat_ofNat, hm2]
    have hle : (BitVec.ofInt 64 x).toNat &&& m ≤ m := Nat.and_le_right
    show IntKind.i64.wrap (((BitVec.ofInt 64 x &&& BitVec.ofInt 64 (m : Int)).toNat : Nat) : Int) = _
    rw [BitVec.toNat_and, e, IntKind.wrap_i64]
    omega
  rw [h]
  have hle : (BitVec.ofInt 64 x).toNat &&& m ≤ m := Nat.and_le_right
  omega
end Go.Proofs.Ytmjenmhidnkbdaa.P
