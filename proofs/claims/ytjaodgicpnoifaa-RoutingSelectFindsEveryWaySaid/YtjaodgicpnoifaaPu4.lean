/- RoutingSelectFindsEveryWay as plain Lean. -/
import Derived.Test.YtjaodgicpnoifaaPt
import Derived.Test.YtjaodgicpnoifaaPx4
namespace Go.Proofs.Ytjaodgicpnoifaa.P
open Go.RowKit Go.Shelf Go.Proofs.YtjaodgicpnoifaaW.PrintWords Go.Proofs.YtjaodgicpnoifaaW.PrintLast Go.Proofs.YtjaodgicpnoifaaW.PrintMore
set_option linter.unusedVariables false
set_option linter.unusedSimpArgs false

theorem and_small (x : Int) (m : Nat) (hm : m < 1099511627776) : 0 ≤ Go.bits .and .i64 x (m : Int) ∧ Go.bits .and .i64 x (m : Int) ≤ (m : Int) := by
  have h : Go.bits .and .i64 x (m : Int) = ((((BitVec.ofInt 64 x).toNat &&& m : Nat)) : Int) := by
    have hm2 : m % 2 ^ 64 = m := Nat.mod_eq_of_lt (by omega)
    have e : (BitVec.ofInt 64 (m : Int)).toNat = m := by rw [BitVec.ofInt_natCast, BitVec.toNat_ofNat, hm2]
    have hle : (BitVec.ofInt 64 x).toNat &&& m ≤ m := Nat.and_le_right
    show IntKind.i64.wrap (((BitVec.ofInt 64 x &&& BitVec.ofInt 64 (m : Int)).toNat : Nat) : Int) = _
    rw [BitVec.toNat_and, e, IntKind.wrap_i64]
    omega
  rw [h]
  have hle : (BitVec.ofInt 64 x).toNat &&& m ≤ m := Nat.and_le_right
  omega
/-- A group that can be used. -/
def usb (u : List Bool) (g : Int) : Bool := decide (g < (u.length : Int)) && u.getD g.toNat false
/-- The first usable group; -1: none. -/
def pickU (u : List Bool) : List Int → Int
  | [] => -1
  | g :: gs => if usb u g = true then g else pickU u gs
theorem pick_eq (u : List Bool) : ∀ (gs : List Int), (∀ g ∈ gs, 0 ≤ g) → pick1 u gs = if pickU u gs < 0 then (0, 150) else (pickU u gs, 0) := by
  intro gs
  induction gs with
  | nil => intro _; rfl
  | cons g gs ih =>
    intro h
    have h0 := h g (by simp)
    have ih := ih (fun x hx => h x (List.mem_cons_of_mem _ hx))
    simp only [pick1]
    by_cases hu : usb u g = true
    · have hu2 := hu
      unfold usb at hu2
      simp only [Bool.and_eq_true, decide_eq_true_eq] at hu2
      have e : pickU u (g :: gs) = g := by simp only [pickU]; rw [if_pos hu]
      rw [if_pos hu2, e, if_neg (by omega)]
    · have hu2 := hu
      unfold usb at hu2
      simp only [Bool.and_eq_true, decide_eq_true_eq] at hu2
      have e : pickU u (g :: gs) = pickU u gs := by simp only [pickU]; rw [if_neg hu]
      rw [if_neg hu2, e]
      exact ih
theorem pickU_ne (u : List Bool) : ∀ (gs : List Int), (∀ g ∈ gs, 0 ≤ g) → 0 ≤ pickU u gs → usb u (pickU u gs) = true := by
  intro gs
  induction gs with
  | nil => intro _ h; simp [pickU] at h
  | cons g gs ih =>
    intro h h1
    simp only [pickU] at h1 ⊢
    split
    · assumption
    · rename_i hu
      rw [if_neg hu] at h1
      exact ih (fun x hx => h x (List.mem_cons_of_mem _ hx)) h1
theorem usb_set (u : List Bool) (i : Nat) (hi : i < u.length) (g : Int) (hg : 0 ≤ g) : usb (u.set i true) g = (usb u g || decide (g = (i : Int))) := by
  unfold usb
  rw [List.length_set, List.getD_eq_getElem?_getD, List.getD_eq_getElem?_getD]
  by_cases e : g = (i : Int)
  · subst e
    rw [Int.toNat_natCast, List.getElem?_set_self hi]
    simp [hi]
  · rw [List.getElem?_set_ne (by omega)]
    simp [e]
theorem pick_more (u : List Bool) (i : Nat) (hi : i < u.length) : ∀ (gs : List Int), (∀ g ∈ gs, 0 ≤ g) → 0 ≤ pickU u gs → pickU (u.set i true) gs = pickU u gs ∨ pickU (u.set i true) gs = (i : Int) := by
  intro gs
  induction gs with
  | nil => intro _ _; exact .inl rfl
  | cons g gs ih =>
    intro h h1
    have h0 := h g (by simp)
    simp only [pickU] at h1 ⊢
    rw [usb_set u i hi g h0]
    by_cases hu : usb u g = true
    · rw [hu, Bool.true_or, if_pos rfl, if_pos rfl]; exact .inl rfl
    · rw [if_neg hu] at h1
      have hu' : usb u g = false := by simpa using hu
      rw [hu', Bool.false_or]
      by_cases e : g = (i : Int)
      · rw [if_pos (by simpa using e)]; exact .inr e
      · rw [if_neg (by simpa using e), if_neg (by simp)]
        exact ih (fun x hx => h x (List.mem_cons_of_mem _ hx)) h1
/-- The end of the statement, once the first usable group is known. -/
theorem sel_run (l : List S47) (t s hops : Int) (u : List Bool) (k : Int) (gs : List Int) (a b : Int) (hg : ∀ g ∈ gs, 0 ≤ g) (hgl : gs.length ≤ 20) (hfin : ∀ K, crossbarlaw15_RoutingSelectFindsEveryWay.l0 (K + 1) l t s hops u k gs a b (pickU u gs) (-1) = some true) :
    ∀ (i K : Nat), i ≤ gs.length → i + 1 ≤ K → crossbarlaw15_RoutingSelectFindsEveryWay.l0 K l t s hops u k gs a b (pickU u (gs.drop i)) ((i : Int) - 1) = some true := by
  intro i
  induction i with
  | zero =>
    intro K hi hK
    obtain ⟨K, rfl⟩ : ∃ k, K = k + 1 := ⟨K - 1, by omega⟩
    exact hfin K
  | succ i ih =>
    intro K hi hK
    obtain ⟨K, rfl⟩ : ∃ k, K = k + 1 := ⟨K - 1, by omega⟩
    have hil : i < gs.length := by omega
    have h0 := hg _ (List.getElem_mem hil)
    have e1 : ((i + 1 : Nat) : Int) - 1 = (i : Int) := by omega
    have e2 : wrap64 ((i : Int) - 1) = (i : Int) - 1 := by unfold wrap64; omega
    have ih := ih K (by omega) (by omega)
    rw [e1]
    simp only [crossbarlaw15_RoutingSelectFindsEveryWay.l0]
    rw [if_pos (by omega), if_pos (by omega), if_pos (by omega), rd_get hil, e2]
    rw [List.drop_eq_getElem_cons hil] at ih
    simp only [pickU] at ih
    rw [if_pos (by omega)]
    by_cases hu : usb u gs[i] = true
    · rw [if_pos hu] at ih
      unfold usb at hu
      simp only [Bool.and_eq_true, decide_eq_true_eq] at hu
      rw [if_pos hu.1, if_pos h0, if_pos (by exact hu.2)]
      exact ih
    · rw [if_neg hu] at ih
      unfold usb at hu
      simp only [Bool.and_eq_true, decide_eq_true_eq, not_and] at hu
      by_cases hlt : gs[i] < (u.length : Int)
      · rw [if_pos hlt, if_pos h0, if_neg (by exact hu hlt)]
        exact ih
      · rw [if_neg hlt]
        exact ih
theorem ord_nil {l : List S47} {t s : Int} (h : (ordF l t s).2 ≠ 0) : (ordF l t s).1 = [] := by
  unfold ordF at h ⊢
  split
  · rfl
  · split
    · rfl
    · rename_i h1 h2
      rw [if_neg h1, if_neg h2] at h
      exact absurd rfl h
theorem ord_ask {l : List S47} {t s : Int} (h : (ordF l t s).2 = 0) : askF l t s = 0 := by
  unfold ordF at h
  split at h
  · rename_i h1; exact absurd h h1
  · rename_i h1; simpa using h1
theorem sel_bad {l : List S47} {t s hops : Int} {u : List Bool} (h : (ordF l t s).2 ≠ 0) : (selF l t s hops u).2 ≠ 0 := by
  unfold selF
  by_cases h1 : askF l t s ≠ 0
  · rw [if_pos h1]; exact h1
  · rw [if_neg h1]
    split
    · simp
    · split
      · simp
      · first | exact h | (rw [if_pos h]; exact h)
theorem sel_good {l : List S47} {t s hops : Int} {u : List Bool} (h : (ordF l t s).2 = 0) (h0 : 0 ≤ hops) (h8 : hops < 8) : selF l t s hops u = if pickU u (ordF l t s).1 < 0 then (0, 150) else (pickU u (ordF l t s).1, 0) := by
  unfold selF
  rw [if_neg (by rw [ord_ask h]; simp), if_neg (by omega), if_neg (by omega), if_neg (by rw [h]; simp)]
  exact pick_eq u _ ord_ge
theorem ord_len {l : List S47} {t s : Int} (h : ∀ z ∈ l, z.f1.length ≤ 20) : (ordF l t s).1.length ≤ 20 := by
  unfold ordF
  split
  · simp
  · split
    · simp
    · rename_i h1 h2
      rw [List.length_map, srt_len]
      obtain ⟨n, hn⟩ : ∃ n : Nat, ridx t l = (n : Int) := ⟨(ridx t l).toNat, by omega⟩
      rw [hn]
      exact h _ (List.mem_iff_getElem?.2 ⟨n, rd47_at l n (ridx_at t l n hn).1⟩)
theorem routingSelectFindsEveryWay_pure (l : List S47) (t s hops : Int) (u : List Bool) (k : Int) : ∃ K, crossbarlaw15_RoutingSelectFindsEveryWay.f K l t s hops u k = some true := by
  refine ⟨3000, ?_⟩
  unfold crossbarlaw15_RoutingSelectFindsEveryWay.f
  rw [sane_f, Option.bind_some, if_pos rfl, few_f l 3000 (by omega), Option.bind_some]
  have hj : ∀ K, crossbarlaw15_RoutingSelectFindsEveryWay.j0 (K + 1) l t s hops u k true = some true := fun K => by
    simp only [crossbarlaw15_RoutingSelectFindsEveryWay.j0]; rfl
  by_cases hf : fewB l = true
  · rw [if_pos hf]
    obtain ⟨hl, hc, hok⟩ := few_tab hf
    by_cases hu : (u.length : Int) > 100
    · rw [if_pos hu]; exact hj 2999
    rw [if_neg hu]
    by_cases hh : hops < 0
    · rw [decide_eq_true hh]; exact hj 2999
    rw [decide_eq_false hh]
    simp only [crossbarlaw15_RoutingSelectFindsEveryWay.j0]
    rw [if_neg (by simp)]
    have hsel : ∀ v, routing_Select.f l t s hops v = some (selF l t s hops v) := fun v => by unfold routing_Select.f; rw [if_pos hok]
    unfold routing_Order.f
    rw [if_pos hok, hsel, Option.bind_some, Option.bind_some]
    by_cases he : (ordF l t s).2 = 0
    · rw [if_pos he]
      have hg := ord_ge (l := l) (t := t) (s := s)
      have hgl := ord_len (t := t) (s := s) hc
      have e2 : wrap64 (((ordF l t s).1.length : Int) - 1) = ((ordF l t s).1.length : Int) - 1 := by unfold wrap64; omega
      rw [e2]
      have hfin : ∀ K, crossbarlaw15_RoutingSelectFindsEveryWay.l0 (K + 1) l t s hops u k (ordF l t s).1 (selF l t s hops u).1 (selF l t s hops u).2 (pickU u (ordF l t s).1) (-1) = some true := by
        intro K
        simp only [crossbarlaw15_RoutingSelectFindsEveryWay.l0]
        rw [if_neg (by omega)]
        by_cases h8 : hops ≥ 8
        · rw [if_pos h8]
          have hs : selF l t s hops u = (0, 151) := by
            unfold selF; rw [if_neg (by rw [ord_ask he]; simp), if_neg hh, if_pos h8]
          rw [hs]; rfl
        rw [if_neg h8]
        have hs := fun v => sel_good (u := v) he (by omega : 0 ≤ hops) (by omega : hops < 8)
        by_cases hp : pickU u (ordF l t s).1 < 0
        · rw [if_pos hp, hs u, if_pos hp]; rfl
        rw [if_neg hp]
        have hus := pickU_ne u _ hg (by omega)
        have hul : 0 < u.length := by
          unfold usb at hus
          simp only [Bool.and_eq_true, decide_eq_true_eq] at hus
          omega
        obtain ⟨b0, b1⟩ := and_small k 65535 (by omega)
        have b0' : 0 ≤ Go.bits .and .i64 k 65535 := b0
        have m0 : 0 ≤ Int.tmod (Go.bits .and .i64 k 65535) (u.length : Int) := by rw [Int.tmod_eq_emod_of_nonneg b0']; exact Int.emod_nonneg _ (by omega)
        have m1 : Int.tmod (Go.bits .and .i64 k 65535) (u.length : Int) < (u.length : Int) := by rw [Int.tmod_eq_emod_of_nonneg b0']; exact Int.emod_lt_of_pos _ (by omega)
        simp only [Option.bind_some, List.nil_append]
        rw [if_pos (by simp; omega), if_neg (by omega), if_pos m0, if_pos m1, hsel, Option.bind_some]
        obtain ⟨i, hi⟩ : ∃ i : Nat, Int.tmod (Go.bits .and .i64 k 65535) (u.length : Int) = (i : Int) := ⟨(Int.tmod (Go.bits .and .i64 k 65535) (u.length : Int)).toNat, by omega⟩
        rw [hi] at m0 m1 ⊢
        rw [Int.toNat_natCast, hs u, if_neg hp, hs (u.set i true)]
        have hmore := pick_more u i (by omega) _ hg (by omega)
        have hp2 : ¬ pickU (u.set i true) (ordF l t s).1 < 0 := by rcases hmore with e | e <;> rw [e] <;> omega
        rw [if_neg hp2]
        simp only [if_true]
        rcases hmore with e | e
        · rw [if_pos e]
        · rw [e]
          split
          · rfl
          · simp
      have := sel_run l t s hops u k _ _ _ hg hgl hfin (ordF l t s).1.length 2999 (Nat.le_refl _) (by omega)
      rw [List.drop_eq_nil_of_le (Nat.le_refl _)] at this
      exact this
    · rw [if_neg he, ord_nil he, if_pos (by simp)]
      congr 1
      have := sel_bad (hops := hops) (u := u) he
      simpa using this
  · rw [if_neg hf]; exact hj 2999
end Go.Proofs.Ytjaodgicpnoifaa.P
