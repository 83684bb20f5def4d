/- RoutingOrderIsSorted as plain Lean. -/
import Derived.Test.YtjaodgicpnoifaaPs
import Derived.Test.YtjaodgicpnoifaaPx3
namespace Go.Proofs.Ytjaodgicpnoifaa.P
open Go.RowKit Go.Shelf Go.Proofs.YtjaodgicpnoifaaW.PrintWords Go.Proofs.YtjaodgicpnoifaaW.PrintLast Go.Proofs.YtjaodgicpnoifaaW.PrintMore
set_option linter.unusedVariables false
set_option linter.unusedSimpArgs false

theorem has_l0 (y : Int) (xs : List Int) (hx : xs.length ≤ 2000) : ∀ (K i : Nat), i ≤ xs.length → xs.length - i < K → crossbarlaw15_has.l0 K xs y (i : Int) = some (decide (y ∈ xs.drop i)) := by
  intro K
  induction K with
  | zero => intro i _ h; omega
  | succ K ih =>
    intro i hi hK
    simp only [crossbarlaw15_has.l0]
    by_cases h : i < xs.length
    · rw [if_pos (by omega), if_pos (by omega), List.drop_eq_getElem_cons h]
      have hr : rd xs (i : Int) = xs[i] := by simp [rd, h]
      rw [hr]
      by_cases e : xs[i] = y
      · rw [if_pos e]; simp [e]
      · rw [if_neg e, w64 i (by omega), ih (i + 1) (by omega) (by omega)]
        have hn : ¬ y = xs[i] := fun e2 => e e2.symm
        congr 1
        refine decide_eq_decide.2 ?_
        rw [List.mem_cons]
        exact ⟨.inr, fun h2 => h2.resolve_left hn⟩
    · rw [if_neg (by omega), List.drop_eq_nil_of_le (by omega)]
      simp
theorem has_f (y : Int) (xs : List Int) (hx : xs.length ≤ 2000) (K : Nat) (hK : xs.length < K) : crossbarlaw15_has.f K xs y = some (decide (y ∈ xs)) := by
  unfold crossbarlaw15_has.f
  have := has_l0 y xs hx K 0 (by omega) (by omega)
  simpa using this
/-- Small tables. -/
def fewB (l : List S47) : Bool := (l.take 20).all (fun z => decide (z.f1.length ≤ 20)) && decide (l.length ≤ 20)
theorem few_l0 (l : List S47) : ∀ (K i : Nat), i ≤ 20 → i ≤ l.length → 2 * (20 - i) + 2 ≤ K → (∀ z ∈ l.take i, z.f1.length ≤ 20) → crossbarref15_Few.l0 K l (i : Int) = some (fewB l) := by
  intro K
  induction K using Nat.strongRecOn with
  | ind K ih =>
  intro i hi hil hK hz
  obtain ⟨K, rfl⟩ : ∃ k, K = k + 2 := ⟨K - 2, by omega⟩
  simp only [crossbarref15_Few.l0]
  by_cases h : i < l.length
  · rw [if_pos (by omega)]
    simp only [crossbarref15_Few.j1]
    by_cases h20 : i < 20
    · rw [if_pos (by simp; omega), if_pos (by omega), if_pos (by omega)]
      have hrd : rd_T47 l (i : Int) = l[i] := by simp [rd_T47, h]
      rw [hrd]
      by_cases hlen : l[i].f1.length > 20
      · rw [if_pos (by omega)]
        have : fewB l = false := by
          unfold fewB
          have hm : l[i] ∈ l.take 20 := by
            rw [List.mem_take_iff_getElem]
            exact ⟨i, by omega, rfl⟩
          have : (l.take 20).all (fun z => decide (z.f1.length ≤ 20)) = false := by
            rw [List.all_eq_false]
            exact ⟨l[i], hm, by simp; omega⟩
          rw [this]; rfl
        rw [this]
      · rw [if_neg (by omega), w64 i (by omega)]
        refine ih K (by omega) (i + 1) (by omega) (by omega) (by omega) (fun z hz' => ?_)
        rw [List.take_add_one, List.getElem?_eq_getElem h] at hz'
        rcases List.mem_append.1 hz' with h1 | h1
        · exact hz z h1
        · obtain rfl : z = l[i] := by simpa using h1
          omega
    · rw [if_neg (by simp; omega)]
      have h20' : i = 20 := by omega
      subst h20'
      congr 1
      unfold fewB
      have : (l.take 20).all (fun z => decide (z.f1.length ≤ 20)) = true := List.all_eq_true.2 (fun z hz' => by simpa using hz z hz')
      rw [this]
      simp; omega
  · rw [if_neg (by omega)]
    simp only [crossbarref15_Few.j1]
    rw [if_neg (by simp)]
    congr 1
    unfold fewB
    have e : l.take 20 = l.take i := by rw [List.take_of_length_le (by omega), List.take_of_length_le (by omega)]
    have : (l.take 20).all (fun z => decide (z.f1.length ≤ 20)) = true := List.all_eq_true.2 (fun z hz' => by rw [e] at hz'; simpa using hz z hz')
    rw [this]
    simp; omega
theorem few_f (l : List S47) (K : Nat) (hK : 42 ≤ K) : crossbarref15_Few.f K l = some (fewB l) := few_l0 l K 0 (by omega) (by omega) (by omega) (by simp)
theorem few_tab {l : List S47} (h : fewB l = true) : l.length ≤ 20 ∧ (∀ z ∈ l, z.f1.length ≤ 20) ∧ okTab l = true := by
  unfold fewB at h
  simp only [Bool.and_eq_true, decide_eq_true_eq, List.all_eq_true] at h
  obtain ⟨h1, h2⟩ := h
  rw [List.take_of_length_le h2] at h1
  refine ⟨h2, h1, ?_⟩
  unfold okTab
  simp only [Bool.and_eq_true, decide_eq_true_eq, List.all_eq_true]
  exact ⟨by omega, fun z hz => by have := h1 z hz; omega⟩
theorem sane_f : crossbarlaw15_sane.f = some true := rfl

/-- The cost of the last choice with this group. -/
def scan (day : Bool) (g : Int) : List S49 → Int → Int
  | [], f => f
  | c :: l, f => scan day g l (if c.f0 = g then price day c else f)
theorem scan_none (day : Bool) (g : Int) : ∀ (l : List S49) (f : Int), (∀ c ∈ l, c.f0 ≠ g) → scan day g l f = f := by
  intro l
  induction l with
  | nil => intro f _; rfl
  | cons c l ih =>
    intro f h
    simp only [scan]
    rw [if_neg (h c (by simp))]
    exact ih f (fun x hx => h x (List.mem_cons_of_mem _ hx))
theorem scan_one (day : Bool) : ∀ (l : List S49) (z : S49) (f : Int), (l.map S49.f0).Nodup → z ∈ l → scan day z.f0 l f = price day z := by
  intro l
  induction l with
  | nil => intro z f _ h; simp at h
  | cons c l ih =>
    intro z f hn hz
    rw [List.map_cons, List.nodup_cons] at hn
    simp only [scan]
    rcases List.mem_cons.1 hz with rfl | hz
    · rw [if_pos rfl]
      exact scan_none day _ l _ (fun x hx e => hn.1 (List.mem_map.2 ⟨x, hx, e⟩))
    · exact ih z _ hn.2 hz
theorem rd49_get {l : List S49} {m : Nat} (h : m < l.length) : rd_T49 l (m : Int) = l[m] := by simp [rd_T49, h]
theorem rd_get {l : List Int} {m : Nat} (h : m < l.length) : rd l (m : Int) = l[m] := by simp [rd, h]
theorem l2_run (l : List S47) (gs : List Int) (day : Bool) (i : Nat) (hi : i < l.length) (C : List S49) (hC : (rd_T47 l (i : Int)).f1 = C) (hC2 : C.length ≤ 20) (hg : gs.length ≤ 20) (last : Int) (k : Nat) (hk : k < gs.length) (hnot : gs[k] ∉ gs.take k) :
    ∀ (d K m : Nat) (f : Int), d = C.length - m → m ≤ C.length → 2 * (C.length - m) + 40 ≤ K → last ≤ scan day gs[k] (C.drop m) f →
      crossbarlaw15_RoutingOrderIsSorted.l2 K l gs day (i : Int) last (k : Int) f (m : Int) = crossbarlaw15_RoutingOrderIsSorted.l1 (K - 2 * (C.length - m) - 1) l gs day (i : Int) (scan day gs[k] (C.drop m) f) ((k + 1 : Nat) : Int) := by
  intro d
  induction d with
  | zero =>
    intro K m f hd hm hK hl
    obtain ⟨K, rfl⟩ : ∃ k, K = k + 1 := ⟨K - 1, by omega⟩
    have hm2 : m = C.length := by omega
    subst hm2
    rw [List.drop_eq_nil_of_le (Nat.le_refl _)] at hl ⊢
    simp only [scan] at hl ⊢
    simp only [crossbarlaw15_RoutingOrderIsSorted.l2, hC]
    rw [if_pos (by omega), if_pos (by omega), if_neg (by omega), if_neg (by omega), if_pos (by omega), if_pos (by omega), if_pos (by omega), rd_get hk, Int.toNat_natCast,
      has_f gs[k] (gs.take k) (by rw [List.length_take]; omega) K (by rw [List.length_take]; omega)]
    simp only [Option.bind_some]
    rw [if_neg (by simpa using hnot), w64 k (by omega)]
    congr 1
    omega
  | succ d ih =>
    intro K m f hd hm hK hl
    obtain ⟨K, rfl⟩ : ∃ k, K = k + 2 := ⟨K - 2, by omega⟩
    have hml : m < C.length := by omega
    rw [List.drop_eq_getElem_cons hml] at hl ⊢
    simp only [scan] at hl ⊢
    simp only [crossbarlaw15_RoutingOrderIsSorted.l2, hC]
    rw [if_pos (by omega), if_pos (by omega), if_pos (by omega), if_pos (by omega), if_pos (by omega), if_pos (by omega), rd_get hk, rd49_get hml]
    have fin : ∀ f', f' = (if C[m].f0 = gs[k] then price day C[m] else f) → crossbarlaw15_RoutingOrderIsSorted.l2 K l gs day (i : Int) last (k : Int) f' (wrap64 ((m : Int) + 1)) = crossbarlaw15_RoutingOrderIsSorted.l1 (K + 2 - 2 * (C.length - m) - 1) l gs day (i : Int) (scan day gs[k] (C.drop (m + 1)) (if C[m].f0 = gs[k] then price day C[m] else f)) ((k + 1 : Nat) : Int) := by
      intro f' hf'
      subst hf'
      rw [w64 m (by omega), ih K (m + 1) _ (by omega) (by omega) (by omega) hl]
      congr 1
      omega
    by_cases he : C[m].f0 = gs[k]
    · rw [if_pos he]
      simp only [crossbarlaw15_RoutingOrderIsSorted.j4]
      rw [rd_get hk]
      cases day with
      | true =>
        rw [if_pos rfl, if_pos (by omega), if_pos (by omega), if_pos he, if_pos rfl]
        exact fin _ (by rw [if_pos he]; rfl)
      | false =>
        rw [if_neg (by simp), if_pos (by omega), if_pos (by omega), if_pos he, if_neg (by simp)]
        exact fin _ (by rw [if_pos he]; rfl)
    · rw [if_neg he]
      simp only [crossbarlaw15_RoutingOrderIsSorted.j4]
      rw [rd_get hk, if_neg (by simp), if_pos (by omega), if_pos (by omega), if_neg he]
      exact fin _ (by rw [if_neg he])
theorem l1_run (l : List S47) (day : Bool) (i : Nat) (hi : i < l.length) (C S : List S49) (hC : (rd_T47 l (i : Int)).f1 = C) (hC2 : C.length ≤ 20) (hp : S.Perm C) (hs : S.Pairwise (fun a b => price day a ≤ price day b)) (hn : (C.map S49.f0).Nodup) :
    ∀ (d K k : Nat) (last : Int), d = S.length - k → k ≤ S.length → 42 * (S.length - k) + 100 ≤ K → (∀ (h : k < S.length), last ≤ price day S[k]) → crossbarlaw15_RoutingOrderIsSorted.l1 K l (S.map S49.f0) day (i : Int) last (k : Int) = some true := by
  have hlen : S.length = C.length := hp.length_eq
  have hnS : (S.map S49.f0).Nodup := (List.Perm.map S49.f0 hp).nodup_iff.2 hn
  intro d
  induction d with
  | zero =>
    intro K k last hd hk hK _
    obtain ⟨K, rfl⟩ : ∃ k, K = k + 1 := ⟨K - 1, by omega⟩
    simp only [crossbarlaw15_RoutingOrderIsSorted.l1]
    rw [if_neg (by simp; omega)]
  | succ d ih =>
    intro K k last hd hk hK hl
    obtain ⟨K, rfl⟩ : ∃ k, K = k + 1 := ⟨K - 1, by omega⟩
    have hkl : k < S.length := by omega
    have hkm : k < (S.map S49.f0).length := by simpa using hkl
    simp only [crossbarlaw15_RoutingOrderIsSorted.l1]
    rw [if_pos (by simp; omega)]
    have hg : (S.map S49.f0)[k] = S[k].f0 := by simp
    have hsc : scan day (S.map S49.f0)[k] (C.drop 0) (-1) = price day S[k] := by
      rw [hg, List.drop_zero]
      exact scan_one day C S[k] (-1) hn (hp.mem_iff.1 (List.getElem_mem hkl))
    have hnot : (S.map S49.f0)[k] ∉ (S.map S49.f0).take k := by
      intro hm
      obtain ⟨j, hj, e⟩ := List.mem_take_iff_getElem.1 hm
      have hjk : j < k := by omega
      have := (List.nodup_iff_pairwise_ne.1 hnS)
      rw [List.pairwise_iff_getElem] at this
      exact this j k (by omega) hkm hjk e
    have h2 := l2_run l (S.map S49.f0) day i hi C hC hC2 (by simp; omega) last k hkm hnot _ K 0 (-1) rfl (by omega) (by omega) (by rw [hsc]; exact hl hkl)
    rw [show ((0 : Nat) : Int) = 0 from rfl] at h2
    rw [h2, hsc]
    refine ih _ (k + 1) _ (by omega) (by omega) (by omega) (fun h => ?_)
    rw [List.pairwise_iff_getElem] at hs
    exact hs k (k + 1) hkl h (by omega)
theorem ridx_at (t : Int) : ∀ (l : List S47) (n : Nat), ridx t l = (n : Int) → n < l.length ∧ (∀ (j : Nat) (x : S47), j < n → l[j]? = some x → x.f0 ≠ t) ∧ ∀ x, l[n]? = some x → x.f0 = t := by
  intro l
  induction l with
  | nil => intro n h; simp only [ridx] at h; omega
  | cons x l ih =>
    intro n h
    simp only [ridx] at h
    by_cases e : (x.f0 == t) = true
    · rw [if_pos e] at h
      obtain rfl : n = 0 := by omega
      refine ⟨by simp, fun j _ hj => by omega, fun y hy => ?_⟩
      have : x = y := by simpa using hy
      subst this
      simpa using e
    · rw [if_neg e] at h
      by_cases h2 : ridx t l < 0
      · rw [if_pos h2] at h; omega
      · rw [if_neg h2] at h
        obtain ⟨m, rfl⟩ : ∃ m, n = m + 1 := ⟨n - 1, by omega⟩
        obtain ⟨h3, h4, h5⟩ := ih m (by omega)
        refine ⟨by simpa using h3, fun j y hj hy => ?_, fun y hy => h5 y (by simpa using hy)⟩
        cases j with
        | zero =>
          have : x = y := by simpa using hy
          subst this
          simpa using e
        | succ j => exact h4 j y (by omega) (by simpa using hy)
theorem l0_run (l : List S47) (t : Int) (gs : List Int) (day : Bool) (n : Nat) (hn : ridx t l = (n : Int)) (hl : l.length ≤ 20) (hgs : gs.length = (rd_T47 l (n : Int)).f1.length) (hrun : ∀ K, 1000 ≤ K → crossbarlaw15_RoutingOrderIsSorted.l1 K l gs day (n : Int) 0 0 = some true) :
    ∀ (d K i : Nat), d = n - i → i ≤ n → (n - i) + 1001 ≤ K → crossbarlaw15_RoutingOrderIsSorted.l0 K l t gs day (i : Int) = some true := by
  obtain ⟨h1, h2, h3⟩ := ridx_at t l n hn
  intro d
  induction d with
  | zero =>
    intro K i hd hi hK
    obtain ⟨K, rfl⟩ : ∃ k, K = k + 1 := ⟨K - 1, by omega⟩
    have : i = n := by omega
    subst this
    simp only [crossbarlaw15_RoutingOrderIsSorted.l0]
    have hx : (rd_T47 l (i : Int)).f0 = t := h3 _ (rd47_at l i h1)
    rw [if_pos (by omega), if_pos (by omega), if_pos hx, if_pos (by omega)]
    exact hrun K (by omega)
  | succ d ih =>
    intro K i hd hi hK
    obtain ⟨K, rfl⟩ : ∃ k, K = k + 1 := ⟨K - 1, by omega⟩
    simp only [crossbarlaw15_RoutingOrderIsSorted.l0]
    have hx : (rd_T47 l (i : Int)).f0 ≠ t := h2 i _ (by omega) (rd47_at l i (by omega))
    rw [if_pos (by omega), if_pos (by omega), if_neg hx, w64 i (by omega)]
    exact ih K (i + 1) (by omega) (by omega) (by omega)
theorem price_pos (day : Bool) (x : S49) (a : 0 ≤ x.f1) (b : 0 ≤ x.f2) : 0 ≤ price day x := by
  unfold price; split <;> assumption
theorem routingOrderIsSorted_pure (l : List S47) (t s : Int) : ∃ k, crossbarlaw15_RoutingOrderIsSorted.f k l t s = some true := by
  refine ⟨3000, ?_⟩
  unfold crossbarlaw15_RoutingOrderIsSorted.f
  rw [sane_f, Option.bind_some, if_pos rfl, few_f l 3000 (by omega), Option.bind_some]
  by_cases hf : fewB l = true
  · rw [if_pos hf]
    obtain ⟨hl, hc, hok⟩ := few_tab hf
    unfold routing_Order.f
    rw [if_pos hok, Option.bind_some]
    by_cases he : (ordF l t s).2 = 0
    · rw [if_pos he]
      have hday : (if s ≥ 28800 then crossbarlaw15_RoutingOrderIsSorted.j0 3000 l t (ordF l t s).1 (decide (s < 72000)) else crossbarlaw15_RoutingOrderIsSorted.j0 3000 l t (ordF l t s).1 false) = crossbarlaw15_RoutingOrderIsSorted.j0 3000 l t (ordF l t s).1 (isDay s) := by
        unfold isDay
        by_cases h : 28800 ≤ s
        · rw [if_pos h]; simp [h]
        · rw [if_neg h]; simp [h]
      rw [hday]
      unfold ordF at he ⊢
      by_cases h0 : askF l t s ≠ 0
      · rw [if_pos h0] at he; exact absurd he h0
      rw [if_neg h0] at he ⊢
      by_cases h1 : ridx t l < 0
      · rw [if_pos h1] at he; simp at he
      rw [if_neg h1]
      have h0' : askF l t s = 0 := by simpa using h0
      have hchk : chkF l 6 = 0 := by
        unfold askF at h0'
        split at h0'
        · contradiction
        · rename_i h; simpa using h
      obtain ⟨n, hn⟩ : ∃ n : Nat, ridx t l = (n : Int) := ⟨(ridx t l).toNat, by omega⟩
      rw [hn]
      have hnl := (ridx_at t l n hn).1
      have hmem : rd_T47 l (n : Int) ∈ l := List.mem_iff_getElem?.2 ⟨n, rd47_at l n hnl⟩
      obtain ⟨hnd, hall⟩ := chk_ok hchk hmem
      have hC2 := hc _ hmem
      have hp := srt_perm (price (isDay s)) (rd_T47 l (n : Int)).f1
      have hs := srt_sorted (price (isDay s)) (rd_T47 l (n : Int)).f1
      simp only [crossbarlaw15_RoutingOrderIsSorted.j0]
      refine l0_run l t _ (isDay s) n hn hl (by rw [List.length_map, srt_len]) (fun K hK => ?_) _ 2999 0 rfl (by omega) (by omega)
      have := l1_run l (isDay s) n hnl _ _ rfl hC2 hp hs hnd _ K 0 0 rfl (by omega) (by rw [srt_len]; omega) (fun h => ?_)
      · exact this
      · obtain ⟨_, _, a, b, _⟩ := hall _ (hp.mem_iff.1 (List.getElem_mem h))
        exact price_pos _ _ a b
    · rw [if_neg he]
      have : (ordF l t s).1 = [] := by
        unfold ordF at he ⊢
        split
        · rfl
        · split
          · rfl
          · rename_i h1 h2
            rw [if_neg h1, if_neg h2] at he
            exact absurd rfl he
      rw [this]; rfl
  · rw [if_neg hf]
end Go.Proofs.Ytjaodgicpnoifaa.P
