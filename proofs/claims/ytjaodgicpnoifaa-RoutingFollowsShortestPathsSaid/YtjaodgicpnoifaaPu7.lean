/- Several texts in one. -/
import Derived.Test.YtjaodgicpnoifaaPo
import Derived.Test.YtjaodgicpnoifaaPt
import Derived.Test.YtjaodgicpnoifaaPx0
import Derived.Test.YtjaodgicpnoifaaPx16
/- A built table lets through; the first choice lies on a shortest way. -/
namespace Go.Proofs.Ytjaodgicpnoifaa.P
open Go.RowKit Go.Shelf Go.Proofs.YtjaodgicpnoifaaW.PrintWords Go.Proofs.YtjaodgicpnoifaaW.PrintLast Go.Proofs.YtjaodgicpnoifaaW.PrintMore
set_option linter.unusedVariables false
set_option linter.unusedSimpArgs false

theorem chsF_mem {D : List Int} : ∀ {ps : List Int} {k : Nat} {c : S49}, c ∈ chsF D k ps → ∃ i, ∃ h : i < ps.length, c = ⟨((k + i : Nat) : Int), 1 + rd D ps[i], 1 + rd D ps[i]⟩ ∧ 0 ≤ rd D ps[i] := by
  intro ps
  induction ps with
  | nil => intro k c h; simp [chsF] at h
  | cons p ps ih =>
    intro k c h
    simp only [chsF] at h
    have tail : c ∈ chsF D (k + 1) ps → ∃ i, ∃ h : i < (p :: ps).length, c = ⟨((k + i : Nat) : Int), 1 + rd D (p :: ps)[i], 1 + rd D (p :: ps)[i]⟩ ∧ 0 ≤ rd D (p :: ps)[i] := fun h => by
      obtain ⟨i, hi, e, h0⟩ := ih h
      exact ⟨i + 1, by simpa using hi, by simp only [List.getElem_cons_succ]; rw [e, show k + 1 + i = k + (i + 1) by omega], by simpa using h0⟩
    split at h
    · rename_i hp
      rcases List.mem_cons.1 h with rfl | h
      · exact ⟨0, by simp, rfl, hp⟩
      · exact tail h
    · exact tail h
theorem chsF_in {D : List Int} : ∀ {ps : List Int} {k i : Nat} (h : i < ps.length), 0 ≤ rd D ps[i] → (⟨((k + i : Nat) : Int), 1 + rd D ps[i], 1 + rd D ps[i]⟩ : S49) ∈ chsF D k ps := by
  intro ps
  induction ps with
  | nil => intro k i h; simp at h
  | cons p ps ih =>
    intro k i h h0
    simp only [chsF]
    cases i with
    | zero =>
      simp only [List.getElem_cons_zero] at h0 ⊢
      rw [if_pos h0]
      exact List.mem_cons.2 (.inl rfl)
    | succ i =>
      simp only [List.getElem_cons_succ] at h0 ⊢
      have := ih (k := k + 1) (i := i) (by simpa using h) h0
      rw [show k + 1 + i = k + (i + 1) by omega] at this
      split
      · exact List.mem_cons_of_mem _ this
      · exact this
theorem chsF_inc (D : List Int) : ∀ (ps : List Int) (k : Nat), (chsF D k ps).Pairwise (fun a b => a.f0 < b.f0) := by
  intro ps
  induction ps with
  | nil => intro k; exact List.Pairwise.nil
  | cons p ps ih =>
    intro k
    simp only [chsF]
    split
    · refine List.pairwise_cons.2 ⟨fun c hc => ?_, ih (k + 1)⟩
      obtain ⟨i, hi, e, _⟩ := chsF_mem hc
      rw [e]; show (k : Int) < ((k + 1 + i : Nat) : Int); omega
    · exact ih (k + 1)
theorem chsF_nodup (D : List Int) (ps : List Int) (k : Nat) : ((chsF D k ps).map S49.f0).Nodup := by
  rw [List.nodup_iff_pairwise_ne, List.pairwise_map]
  exact (chsF_inc D ps k).imp (fun h => by omega)
/-- A choice that Check lets in (up to six groups). -/
theorem okCh6 {F : Nat → Bool} {c : S49} (h0 : 0 ≤ c.f0) (h1 : c.f0 < 6) (hF : F c.f0.toNat = false) (a : 0 ≤ c.f1) (b : c.f1 ≤ 1000) (a' : 0 ≤ c.f2) (b' : c.f2 ≤ 1000) : okCh 6 F c = true := by
  unfold okCh
  simp only [Bool.and_eq_true, decide_eq_true_eq, Bool.not_eq_true']
  refine ⟨⟨⟨⟨h0, h1⟩, hF⟩, ?_⟩, ?_⟩ <;> (split <;> omega)
theorem okChs_of : ∀ (C : List S49) (F : Nat → Bool), (∀ c ∈ C, 0 ≤ c.f0 ∧ c.f0 < 6 ∧ F c.f0.toNat = false ∧ 0 ≤ c.f1 ∧ c.f1 ≤ 1000 ∧ 0 ≤ c.f2 ∧ c.f2 ≤ 1000) → (C.map S49.f0).Nodup → okChs 6 F C = true := by
  intro C
  induction C with
  | nil => intro F _ _; rfl
  | cons c C ih =>
    intro F h hn
    rw [List.map_cons, List.nodup_cons] at hn
    obtain ⟨h0, h1, h2, h3, h4, h5, h6⟩ := h c (by simp)
    simp only [okChs, Bool.and_eq_true]
    refine ⟨okCh6 h0 h1 h2 h3 h4 h5 h6, ih _ (fun x hx => ?_) hn.2⟩
    obtain ⟨g0, g1, g2, g3, g4, g5, g6⟩ := h x (List.mem_cons_of_mem _ hx)
    have hne : x.f0 ≠ c.f0 := fun e => hn.1 (List.mem_map.2 ⟨x, hx, e⟩)
    refine ⟨g0, g1, ?_, g3, g4, g5, g6⟩
    unfold upd
    rw [if_neg (by omega)]
    exact g2
theorem okRt_of : ∀ (l : List S47) (last : Int), (∀ z ∈ l, last < z.f0 ∧ z.f0 < 6 ∧ okChs 6 (fun _ => false) z.f1 = true) → l.Pairwise (fun a b => a.f0 < b.f0) → okRt 6 last l = true := by
  intro l
  induction l with
  | nil => intro last _ _; rfl
  | cons z l ih =>
    intro last h hp
    obtain ⟨h1, h2, h3⟩ := h z (by simp)
    obtain ⟨p1, p2⟩ := List.pairwise_cons.1 hp
    simp only [okRt, Bool.and_eq_true, decide_eq_true_eq]
    refine ⟨⟨⟨h1, h2⟩, h3⟩, ih z.f0 (fun x hx => ?_) p2⟩
    obtain ⟨_, g2, g3⟩ := h x (List.mem_cons_of_mem _ hx)
    exact ⟨p1 x hx, g2, g3⟩
section
variable {N : Nat} {F : Nat → Bool} {sf : Int} {ps cs : List Int}
theorem rts_mem {X : Nat} {z : S47} (h : z ∈ rtsF N F sf ps cs X) : z = routeF N F sf ps (-1) cs ∨ ∃ x : Nat, x < X ∧ (x : Int) ≠ sf ∧ z = routeF N F sf ps (x : Int) [(x : Int)] := by
  unfold rtsF at h
  rcases List.mem_cons.1 h with h | h
  · exact .inl h
  · obtain ⟨x, hx, e⟩ := List.mem_map.1 h
    rw [List.mem_filter, List.mem_range] at hx
    exact .inr ⟨x, hx.1, by simpa using hx.2, e.symm⟩
theorem rts_in {X x : Nat} (hx : x < X) (hne : (x : Int) ≠ sf) : routeF N F sf ps (x : Int) [(x : Int)] ∈ rtsF N F sf ps cs X := by
  unfold rtsF
  refine List.mem_cons_of_mem _ (List.mem_map.2 ⟨x, ?_, rfl⟩)
  rw [List.mem_filter, List.mem_range]
  exact ⟨hx, by simpa using hne⟩
/-- Bounded distances make choices that Check lets in. -/
theorem route_ok (h6 : N ≤ 6) (hF : ∀ x y, x < 6 → y < 6 → F (x * 6 + y) = true → y < N) (hpl : ps.length ≤ 6) (t : Int) (ts : List Int) (hts : ∀ x ∈ ts, 0 ≤ x ∧ x < N) : okChs 6 (fun _ => false) (routeF N F sf ps t ts).f1 = true := by
  have hp := srt_perm S49.f1 (chsF (distF N F sf ts) 0 ps)
  have hb := (distF_bd (av := sf) h6 hF hts).2
  refine okChs_of _ _ (fun c hc => ?_) ((List.Perm.map S49.f0 hp).nodup_iff.2 (chsF_nodup _ _ _))
  obtain ⟨i, hi, e, h0⟩ := chsF_mem (hp.mem_iff.1 hc)
  have := hb ps[i]
  rw [e]
  refine ⟨?_, ?_, rfl, ?_, ?_, ?_, ?_⟩
  · show (0 : Int) ≤ ((0 + i : Nat) : Int); omega
  · show ((0 + i : Nat) : Int) < 6; omega
  · show 0 ≤ 1 + rd (distF N F sf ts) ps[i]; omega
  · show 1 + rd (distF N F sf ts) ps[i] ≤ 1000; omega
  · show 0 ≤ 1 + rd (distF N F sf ts) ps[i]; omega
  · show 1 + rd (distF N F sf ts) ps[i] ≤ 1000; omega
theorem rts_chk (h6 : N ≤ 6) (hF : ∀ x y, x < 6 → y < 6 → F (x * 6 + y) = true → y < N) (hpl : ps.length ≤ 6) (hcs : ∀ x ∈ cs, 0 ≤ x ∧ x < N) : chkF (rtsF N F sf ps cs N) 6 = 0 := by
  unfold chkF
  rw [if_neg (by omega), if_pos]
  refine okRt_of _ _ (fun z hz => ?_) ?_
  · rcases rts_mem hz with rfl | ⟨x, hx, hne, rfl⟩
    · exact ⟨by show (-2 : Int) < -1; omega, by show (-1 : Int) < 6; omega, route_ok h6 hF hpl _ _ hcs⟩
    · exact ⟨by show (-2 : Int) < (x : Int); omega, by show (x : Int) < 6; omega, route_ok h6 hF hpl _ _ (fun y hy => by obtain rfl := List.mem_singleton.1 hy; omega)⟩
  · unfold rtsF
    refine List.pairwise_cons.2 ⟨fun z hz => ?_, ?_⟩
    · obtain ⟨x, _, rfl⟩ := List.mem_map.1 hz
      show (-1 : Int) < (x : Int); omega
    · rw [List.pairwise_map]
      refine (List.Pairwise.filter _ List.pairwise_lt_range).imp (fun {a b} h => ?_)
      show (a : Int) < (b : Int); omega
theorem rts_tab (hN : N ≤ 6) (hpl : ps.length ≤ 6) : okTab (rtsF N F sf ps cs N) = true := by
  unfold okTab
  simp only [Bool.and_eq_true, decide_eq_true_eq, List.all_eq_true]
  refine ⟨by have := rtsF_len N F sf ps cs N; omega, fun z hz => ?_⟩
  have hl : ∀ t ts, (routeF N F sf ps t ts).f1.length ≤ 6 := fun t ts => by
    unfold routeF; rw [srt_len]; have := chsF_len (distF N F sf ts) ps 0; omega
  rcases rts_mem hz with rfl | ⟨x, hx, hne, rfl⟩
  · have := hl (-1) cs; omega
  · have := hl (x : Int) [(x : Int)]; omega
/-- Which route a target has. -/
theorem rts_at {t : Int} {ts : List Int} (ht : (t = -1 ∧ ts = cs) ∨ (∃ x : Nat, x < N ∧ (x : Int) ≠ sf ∧ t = (x : Int) ∧ ts = [(x : Int)])) : ∃ n : Nat, ridx t (rtsF N F sf ps cs N) = (n : Int) ∧ rd_T47 (rtsF N F sf ps cs N) (n : Int) = routeF N F sf ps t ts := by
  have hin : routeF N F sf ps t ts ∈ rtsF N F sf ps cs N := by
    rcases ht with ⟨rfl, rfl⟩ | ⟨x, hx, hne, rfl, rfl⟩
    · exact List.mem_cons.2 (.inl rfl)
    · exact rts_in hx hne
  have hpos : ¬ ridx t (rtsF N F sf ps cs N) < 0 := by
    have hall : ∀ (m : List S47), ridx t m < 0 → ∀ x ∈ m, x.f0 ≠ t := by
      intro m
      induction m with
      | nil => intro _ x hx; simp at hx
      | cons y m ihm =>
        intro hm x hx
        simp only [ridx] at hm
        split at hm
        · omega
        · rename_i hy
          have hy' : y.f0 ≠ t := by simpa using hy
          split at hm
          · rename_i h2
            rcases List.mem_cons.1 hx with rfl | hx
            · exact hy'
            · exact ihm h2 x hx
          · omega
    exact fun h => hall _ h _ hin rfl
  obtain ⟨n, hn⟩ : ∃ n : Nat, ridx t (rtsF N F sf ps cs N) = (n : Int) := ⟨(ridx t (rtsF N F sf ps cs N)).toNat, by omega⟩
  obtain ⟨a, _, c⟩ := ridx_at t _ n hn
  have hz := rd47_at _ n a
  have hf := c _ hz
  refine ⟨n, hn, ?_⟩
  rcases rts_mem (List.mem_iff_getElem?.2 ⟨n, hz⟩) with e | ⟨x, hx, hne, e⟩
  · rw [e] at hf ⊢
    have hf' : (-1 : Int) = t := hf
    rcases ht with ⟨rfl, rfl⟩ | ⟨y, _, _, rfl, rfl⟩
    · rfl
    · omega
  · rw [e] at hf ⊢
    have hf' : (x : Int) = t := hf
    rcases ht with ⟨rfl, rfl⟩ | ⟨y, _, _, rfl, rfl⟩
    · omega
    · rw [hf']
end
theorem pick_all (k : Nat) : ∀ (gs : List Int), (∀ g ∈ gs, 0 ≤ g ∧ g < (k : Int)) → pick1 (List.replicate k true) gs = match gs with | [] => (0, 150) | g :: _ => (g, 0) := by
  intro gs h
  cases gs with
  | nil => rfl
  | cons g gs =>
    obtain ⟨h0, h1⟩ := h g (by simp)
    simp only [pick1]
    rw [if_pos ⟨by simpa using h1, by simp [List.getD_eq_getElem?_getD, List.getElem?_replicate, show g.toNat < k by omega]⟩]
/-- What Select answers in a built table when every group can be used. -/
theorem sel_built {N : Nat} {F : Nat → Bool} {sf : Int} {ps cs : List Int} (h6 : N ≤ 6) (hF : ∀ x y, x < 6 → y < 6 → F (x * 6 + y) = true → y < N) (hpl : ps.length ≤ 6) (hcs : ∀ x ∈ cs, 0 ≤ x ∧ x < N) {t : Int} {ts : List Int}
    (ht : (t = -1 ∧ ts = cs) ∨ (∃ x : Nat, x < N ∧ (x : Int) ≠ sf ∧ t = (x : Int) ∧ ts = [(x : Int)])) {s : Int} (hs0 : 0 ≤ s) (hs1 : s < 86400) :
    ((∀ i (h : i < ps.length), rd (distF N F sf ts) ps[i] < 0) → selF (rtsF N F sf ps cs N) t s 0 (List.replicate ps.length true) = (0, 150)) ∧
    ((∃ i, ∃ h : i < ps.length, 0 ≤ rd (distF N F sf ts) ps[i]) → ∃ i, ∃ h : i < ps.length, selF (rtsF N F sf ps cs N) t s 0 (List.replicate ps.length true) = ((i : Int), 0) ∧ 0 ≤ rd (distF N F sf ts) ps[i] ∧ ∀ j (hj : j < ps.length), 0 ≤ rd (distF N F sf ts) ps[j] → rd (distF N F sf ts) ps[i] ≤ rd (distF N F sf ts) ps[j]) := by
  have hchk := rts_chk (sf := sf) (ps := ps) h6 hF hpl hcs
  have hask : askF (rtsF N F sf ps cs N) t s = 0 := by
    unfold askF
    rw [if_neg (by rw [hchk]; simp), if_neg]
    rcases ht with ⟨rfl, _⟩ | ⟨x, _, _, rfl, _⟩ <;> omega
  obtain ⟨n, hn, hr⟩ := rts_at (F := F) (ps := ps) ht
  obtain ⟨D, hD⟩ : ∃ D, distF N F sf ts = D := ⟨_, rfl⟩
  have hf1 : (rd_T47 (rtsF N F sf ps cs N) (n : Int)).f1 = srt S49.f1 (chsF D 0 ps) := by rw [hr, ← hD]; rfl
  have hord : ordF (rtsF N F sf ps cs N) t s = ((srt (price (isDay s)) (srt S49.f1 (chsF D 0 ps))).map S49.f0, 0) := by
    unfold ordF
    rw [if_neg (by rw [hask]; simp), hn, if_neg (by omega), hf1]
  rw [hD]
  obtain ⟨S, hS⟩ : ∃ S, srt (price (isDay s)) (srt S49.f1 (chsF D 0 ps)) = S := ⟨_, rfl⟩
  have hp : S.Perm (chsF D 0 ps) := by rw [← hS]; exact (srt_perm _ _).trans (srt_perm _ _)
  have hso : S.Pairwise (fun a b => price (isDay s) a ≤ price (isDay s) b) := by rw [← hS]; exact srt_sorted _ _
  rw [hS] at hord
  have hgs : ∀ g ∈ S.map S49.f0, 0 ≤ g ∧ g < (ps.length : Int) := by
    intro g hg
    obtain ⟨c, hc, rfl⟩ := List.mem_map.1 hg
    obtain ⟨i, hi, e, _⟩ := chsF_mem (hp.mem_iff.1 hc)
    rw [e]
    show (0 : Int) ≤ ((0 + i : Nat) : Int) ∧ ((0 + i : Nat) : Int) < (ps.length : Int)
    omega
  have hsel : selF (rtsF N F sf ps cs N) t s 0 (List.replicate ps.length true) = pick1 (List.replicate ps.length true) (S.map S49.f0) := by
    unfold selF
    rw [if_neg (by rw [hask]; simp), if_neg (by omega), if_neg (by omega), if_neg (by rw [hord]; simp), hord]
  rw [hsel, pick_all _ _ hgs]
  refine ⟨fun h => ?_, fun h => ?_⟩
  · have : S = [] := by
      rcases List.eq_nil_or_concat S with e | ⟨L, c, e⟩
      · exact e
      · have hc : c ∈ S := by rw [e]; simp
        obtain ⟨i, hi, _, h0⟩ := chsF_mem (hp.mem_iff.1 hc)
        have := h i hi
        omega
    rw [this]; rfl
  · obtain ⟨i, hi, h0⟩ := h
    have hm := hp.mem_iff.2 (chsF_in (k := 0) hi h0)
    cases hSc : S with
    | nil => rw [hSc] at hm; simp at hm
    | cons c S' =>
      have hc : c ∈ S := by rw [hSc]; simp
      obtain ⟨k, hk, e, hk0⟩ := chsF_mem (hp.mem_iff.1 hc)
      refine ⟨k, hk, by simp [e], hk0, fun j hj hj0 => ?_⟩
      have hmj := hp.mem_iff.2 (chsF_in (k := 0) hj hj0)
      rw [hSc] at hso hmj
      obtain ⟨o1, _⟩ := List.pairwise_cons.1 hso
      have hpr : ∀ x : Nat, ∀ v : Int, price (isDay s) (⟨(x : Int), 1 + v, 1 + v⟩ : S49) = 1 + v := fun x v => by unfold price; split <;> rfl
      rcases List.mem_cons.1 hmj with e2 | hmj
      · rw [e] at e2
        have := congrArg S49.f1 e2
        simp only at this
        omega
      · have := o1 _ hmj
        rw [e, hpr, hpr] at this
        omega
end Go.Proofs.Ytjaodgicpnoifaa.P

/- Printed functions with enough fuel. -/
namespace Go.Proofs.Ytjaodgicpnoifaa.P
open Go.RowKit Go.Proofs.YtjaodgicpnoifaaW.PrintWords Go.Proofs.YtjaodgicpnoifaaW.PrintLast Go.Proofs.YtjaodgicpnoifaaW.PrintMore
set_option linter.unusedVariables false
set_option linter.unusedSimpArgs false

/-- With enough fuel it answers r. -/
def Ev {α : Type} (f : Nat → Option α) (r : α) : Prop := ∃ K0, ∀ K, K0 ≤ K → f K = some r
section
variable {α β : Type} {f g : Nat → Option α} {r : α}
theorem Ev.step (hf : Ev f r) (h : ∀ K, g (K + 1) = f K) : Ev g r := by
  obtain ⟨K0, h0⟩ := hf
  refine ⟨K0 + 1, fun K hK => ?_⟩
  obtain ⟨K, rfl⟩ : ∃ k, K = k + 1 := ⟨K - 1, by omega⟩
  rw [h]; exact h0 K (by omega)
theorem Ev.now (h : ∀ K, g (K + 1) = some r) : Ev g r := ⟨1, fun K hK => by
  obtain ⟨K, rfl⟩ : ∃ k, K = k + 1 := ⟨K - 1, by omega⟩
  exact h K⟩
theorem Ev.const (h : ∀ K, g K = some r) : Ev g r := ⟨0, fun K _ => h K⟩
theorem Ev.same (hf : Ev f r) (h : ∀ K, g K = f K) : Ev g r := by
  obtain ⟨K0, h0⟩ := hf
  exact ⟨K0, fun K hK => by rw [h]; exact h0 K hK⟩
theorem Ev.bind {e : Nat → Option β} {b : β} {h : Nat → β → Option α} (he : Ev e b) (hh : Ev (fun K => h K b) r) (hg : ∀ K, g K = (e K).bind (h K)) : Ev g r := by
  obtain ⟨K0, h0⟩ := he
  obtain ⟨K1, h1⟩ := hh
  refine ⟨max K0 K1, fun K hK => ?_⟩
  rw [hg, h0 K (by omega), Option.bind_some]
  exact h1 K (by omega)
theorem Ev.ex (h : Ev f r) : ∃ K, f K = some r := by
  obtain ⟨K0, h0⟩ := h
  exact ⟨K0, h0 K0 (Nat.le_refl _)⟩
end

end Go.Proofs.Ytjaodgicpnoifaa.P

/- RoutingFollowsShortestPaths as plain Lean. -/
namespace Go.Proofs.Ytjaodgicpnoifaa.P
open Go.RowKit Go.Shelf Go.Proofs.YtjaodgicpnoifaaW.PrintWords Go.Proofs.YtjaodgicpnoifaaW.PrintLast Go.Proofs.YtjaodgicpnoifaaW.PrintMore
set_option linter.unusedVariables false
set_option linter.unusedSimpArgs false

theorem every_ev (n : Nat) (hn : n ≤ 1000) : Ev (fun K => crossbarlaw15_every.f K (n : Int)) (List.replicate n true) := by
  have go : ∀ (d i : Nat), d = n - i → i ≤ n → Ev (fun K => crossbarlaw15_every.l0 K (n : Int) (List.replicate i true) (i : Int)) (List.replicate n true) := by
    intro d
    induction d with
    | zero =>
      intro i hd hi
      obtain rfl : i = n := by omega
      refine Ev.now (fun K => ?_)
      simp only [crossbarlaw15_every.l0]
      rw [if_neg (by omega)]
    | succ d ih =>
      intro i hd hi
      refine (ih (i + 1) (by omega) (by omega)).step (fun K => ?_)
      simp only [crossbarlaw15_every.l0]
      rw [if_pos (by omega), if_pos (by rw [List.length_replicate]; omega), w64 i (by omega), List.replicate_succ']
  exact go n 0 rfl (by omega)
theorem mem_pfx {F : Nat → Bool} {S X x : Nat} : (x : Int) ∈ pfx F S X ↔ x < X ∧ F (S * 6 + x) = true := by
  unfold pfx
  rw [List.mem_map]
  constructor
  · rintro ⟨y, hy, e⟩
    rw [List.mem_filter, List.mem_range] at hy
    have : y = x := by omega
    subst this
    exact hy
  · rintro ⟨h1, h2⟩
    exact ⟨x, by rw [List.mem_filter, List.mem_range]; exact ⟨h1, h2⟩, rfl⟩
section
variable {N : Nat} {F : Nat → Bool} {ts : List Int}
/-- A way that bars an exchange is a way. -/
theorem Way.free {av : Int} {k x y : Nat} (h : Way F av k x y) : Way F (-1) k x y := by
  induction h with
  | nil => exact .nil _
  | snoc _ he ih => exact .snoc ih ⟨he.1, he.2.1, he.2.2.1, by omega⟩
variable (h6 : N ≤ 6) (hF : ∀ x y, x < 6 → y < 6 → F (x * 6 + y) = true → y < N) (hs : ∀ x y, x < 6 → y < 6 → F (x * 6 + y) = true → F (y * 6 + x) = true) (hts : ∀ t ∈ ts, 0 ≤ t ∧ t < N)
include h6 hF hts
theorem near_le {a y : Nat} (hy : y < N) (h0 : 0 ≤ rd (distF N F (a : Int) ts) (y : Int)) : 0 ≤ rd (distF N F (-1) ts) (y : Int) ∧ rd (distF N F (-1) ts) (y : Int) ≤ rd (distF N F (a : Int) ts) (y : Int) := by
  have hM := distF_met (av := -1) h6 hF hts
  have hA := distF_met (av := (a : Int)) h6 hF hts
  obtain ⟨k, hk⟩ : ∃ k : Nat, rd (distF N F (a : Int) ts) (y : Int) = k := ⟨(rd (distF N F (a : Int) ts) (y : Int)).toNat, by omega⟩
  obtain ⟨x, hx, hT, hw⟩ := hA.way k y hy hk
  obtain ⟨_, e, f⟩ := hM.le hF hw.free ⟨hT.1, by omega⟩ hx
  exact ⟨e, by omega⟩
theorem near_ge {a : Nat} : ∀ (j y : Nat), y < N → rd (distF N F (-1) ts) (y : Int) = j → (rd (distF N F (-1) ts) (a : Int) < 0 ∨ (j : Int) < rd (distF N F (-1) ts) (a : Int)) → 0 ≤ rd (distF N F (a : Int) ts) (y : Int) ∧ rd (distF N F (a : Int) ts) (y : Int) ≤ j := by
  have hM := distF_met (av := -1) h6 hF hts
  have hA := distF_met (av := (a : Int)) h6 hF hts
  have way : ∀ (j y : Nat), y < N → rd (distF N F (-1) ts) (y : Int) = j → (rd (distF N F (-1) ts) (a : Int) < 0 ∨ (j : Int) < rd (distF N F (-1) ts) (a : Int)) → ∃ x, x < N ∧ Tgt (a : Int) ts x ∧ Way F (a : Int) j x y := by
    intro j
    induction j with
    | zero =>
      intro y hy hd ha
      refine ⟨y, hy, ⟨((hM.zero y hy).1 hd).1, fun e => ?_⟩, .nil y⟩
      rw [e] at hd; omega
    | succ j ih =>
      intro y hy hd ha
      obtain ⟨x, hx, he, hr⟩ := hM.back y hy (by omega)
      obtain ⟨t, ht, hT, hw⟩ := ih x hx (by omega) (by omega)
      refine ⟨t, ht, hT, .snoc hw ⟨he.1, he.2.1, he.2.2.1, fun e => ?_⟩⟩
      rw [e] at hd; omega
  intro j y hy hd ha
  obtain ⟨x, hx, hT, hw⟩ := way j y hy hd ha
  obtain ⟨_, e, f⟩ := hA.le hF hw hT hx
  exact ⟨e, f⟩
include hs
/-- No neighbour leads on where the exchange itself is out of reach. -/
theorem near_none {a : Nat} (ha : a < N) (h : rd (distF N F (-1) ts) (a : Int) < 0) {p : Nat} (hp : p < N) (hl : F (a * 6 + p) = true) : rd (distF N F (a : Int) ts) (p : Int) < 0 := by
  have hM := distF_met (av := -1) h6 hF hts
  by_cases h0 : rd (distF N F (a : Int) ts) (p : Int) < 0
  · exact h0
  · obtain ⟨e, _⟩ := near_le (a := a) h6 hF hts hp (by omega)
    have := (hM.step p a hp e ⟨by omega, by omega, hs _ _ (by omega) (by omega) hl, by omega⟩).1
    omega
/-- A neighbour lies one nearer; the nearest neighbours are those. -/
theorem near_some {a k : Nat} (ha : a < N) (h : rd (distF N F (-1) ts) (a : Int) = ((k + 1 : Nat) : Int)) : (∃ p, p < N ∧ F (a * 6 + p) = true ∧ rd (distF N F (a : Int) ts) (p : Int) = k) ∧
    ∀ p, p < N → F (a * 6 + p) = true → 0 ≤ rd (distF N F (a : Int) ts) (p : Int) → (k : Int) ≤ rd (distF N F (a : Int) ts) (p : Int) ∧ (rd (distF N F (a : Int) ts) (p : Int) = k → rd (distF N F (-1) ts) (p : Int) = k) := by
  have hM := distF_met (av := -1) h6 hF hts
  have low : ∀ p, p < N → F (a * 6 + p) = true → 0 ≤ rd (distF N F (a : Int) ts) (p : Int) → (k : Int) ≤ rd (distF N F (a : Int) ts) (p : Int) ∧ (rd (distF N F (a : Int) ts) (p : Int) = k → rd (distF N F (-1) ts) (p : Int) = k) := by
    intro p hp hl h0
    obtain ⟨e, f⟩ := near_le h6 hF hts hp h0
    have := (hM.step p a hp e ⟨by omega, by omega, hs _ _ (by omega) (by omega) hl, by omega⟩).2
    exact ⟨by omega, fun g => by omega⟩
  refine ⟨?_, low⟩
  obtain ⟨p, hp, he, hr⟩ := hM.back a ha (by omega)
  have hl := hs _ _ he.1 he.2.1 he.2.2.1
  obtain ⟨e, f⟩ := near_ge h6 hF hts k p hp (by omega) (.inr (by rw [h]; omega))
  have := (low p hp hl e).1
  exact ⟨p, hp, hl, by omega⟩
end
theorem build_ok {N : Nat} {F : Nat → Bool} {l : List (List Int)} {cs : List Int} (hF : readF (N : Int) l = some F) (hcs : ∀ t ∈ cs, 0 ≤ t ∧ t < N) {a : Nat} (ha : a < N) : buildF (N : Int) l (a : Int) cs = (pfx F a N, rtsF N F (a : Int) (pfx F a N) cs N, 0) := by
  have h1 : hasF (N : Int) (a : Int) = true := by unfold hasF; simp; omega
  have h2 : cs.all (hasF (N : Int)) = true := List.all_eq_true.2 (fun t ht => by have := hcs t ht; unfold hasF; simp; omega)
  unfold buildF
  rw [hF]
  simp only [h1, h2, Int.toNat_natCast]
  rfl
section
variable {N : Nat} {F : Nat → Bool} {l : List (List Int)} {cs ts : List Int} {t s : Int}
theorem fol_flag (ht : (t = -1 ∧ ts = cs) ∨ (∃ x : Nat, x < N ∧ t = (x : Int) ∧ ts = [(x : Int)])) (hcl : cs.length ≤ 1000) {a h : Nat} (hh : h ≤ N) {r : Int} (hr : Ev (fun K => crossbarlaw15_follow.j1 K (N : Int) l cs t s (a : Int) (h : Int) (decide ((a : Int) ∈ ts))) r) : Ev (fun K => crossbarlaw15_follow.l0 K (N : Int) l cs t s (a : Int) (h : Int)) r := by
  rcases ht with ⟨rfl, rfl⟩ | ⟨x, hx, rfl, rfl⟩
  · have key : Ev (fun K => (crossbarlaw15_has.f K ts (a : Int)).bind fun t474 => (crossbarlaw15_follow.j1 K (N : Int) l ts (-1) s (a : Int) (h : Int) t474)) r :=
      Ev.bind (⟨ts.length + 1, fun K hK => has_f _ _ (by omega) K (by omega)⟩ : Ev (fun K => crossbarlaw15_has.f K ts (a : Int)) (decide ((a : Int) ∈ ts))) hr (fun K => rfl)
    refine key.step (fun K => ?_)
    simp only [crossbarlaw15_follow.l0]
    rw [if_pos (by omega), if_neg (by omega)]
    simp
  · by_cases e : (a : Int) = (x : Int)
    · have hd : decide ((a : Int) ∈ [(x : Int)]) = true := by simp [e]
      rw [hd] at hr
      refine hr.step (fun K => ?_)
      simp only [crossbarlaw15_follow.l0]
      rw [if_pos (by omega), if_pos e]
    · have hd : decide ((a : Int) ∈ [(x : Int)]) = false := by simpa using e
      rw [hd] at hr
      refine hr.step (fun K => ?_)
      simp only [crossbarlaw15_follow.l0]
      rw [if_pos (by omega), if_neg e, if_neg (by omega)]
/-- One step: the table, the selection. -/
theorem fol_step (h1 : 1 ≤ N) (h6 : N ≤ 6) (hF : readF (N : Int) l = some F) (hll : l.length ≤ 1000) (hcs : ∀ t ∈ cs, 0 ≤ t ∧ t < N) {a h : Nat} (ha : a < N) {g e : Int} (hsel : selF (rtsF N F (a : Int) (pfx F a N) cs N) t s 0 (List.replicate (pfx F a N).length true) = (g, e)) {r : Int}
    (hbad : e ≠ 0 → r = -1) (hgood : e = 0 → ∃ i : Nat, ∃ hi : i < (pfx F a N).length, g = (i : Int) ∧ Ev (fun K => crossbarlaw15_follow.l0 K (N : Int) l cs t s ((pfx F a N)[i]) (wrap64 ((h : Int) + 1))) r) : Ev (fun K => crossbarlaw15_follow.j1 K (N : Int) l cs t s (a : Int) (h : Int) false) r := by
  have hpl := pfx_len F a N
  have hb : routing_Build.f (N : Int) l (a : Int) cs = some (pfx F a N, rtsF N F (a : Int) (pfx F a N) cs N, 0) := by
    unfold routing_Build.f; rw [if_pos (by omega), build_ok hF hcs ha]
  have hs : routing_Select.f (rtsF N F (a : Int) (pfx F a N) cs N) t s 0 (List.replicate (pfx F a N).length true) = some (g, e) := by
    unfold routing_Select.f; rw [if_pos (rts_tab h6 (by omega)), hsel]
  have key : Ev (fun K => (crossbarlaw15_every.f K ((pfx F a N).length : Int)).bind fun t482 => ((routing_Select.f (rtsF N F (a : Int) (pfx F a N) cs N) t s 0 t482).bind fun bt485 => (if bt485.2 = 0 then (if bt485.1 < 0 then (some (-1)) else (if bt485.1 ≥ ((pfx F a N).length : Int) then (some (-1)) else (if 0 ≤ bt485.1 then (if bt485.1 < ((pfx F a N).length : Int) then (crossbarlaw15_follow.l0 K (N : Int) l cs t s (rd (pfx F a N) bt485.1) (wrap64 ((h : Int) + 1))) else (none)) else (none)))) else (some (-1))))) r := by
    refine Ev.bind (every_ev _ (by omega)) ?_ (fun K => rfl)
    rw [hs]
    simp only [Option.bind_some]
    by_cases he : e = 0
    · simp only [he, if_true]
      obtain ⟨i, hi, rfl, hr⟩ := hgood he
      refine hr.same (fun K => ?_)
      rw [if_neg (by omega), if_neg (by omega), if_pos (by omega), if_pos (by omega), rd_get hi]
    · simp only [he, if_false]
      rw [hbad he]
      exact Ev.const (fun K => rfl)
  refine key.step (fun K => ?_)
  simp only [crossbarlaw15_follow.j1]
  rw [if_neg (by simp), hb]
  simp only [Option.bind_some, if_true]
theorem fol_ev (h1 : 1 ≤ N) (h6 : N ≤ 6) (hF : readF (N : Int) l = some F) (hll : l.length ≤ 1000) (hcl : cs.length ≤ 1000) (hcs : ∀ t ∈ cs, 0 ≤ t ∧ t < N) (ht : (t = -1 ∧ ts = cs) ∨ (∃ x : Nat, x < N ∧ t = (x : Int) ∧ ts = [(x : Int)])) (hs0 : 0 ≤ s) (hs1 : s < 86400) :
    ∀ (k a h : Nat), a < N → h ≤ N → (rd (distF N F (-1) ts) (a : Int) = -1 → Ev (fun K => crossbarlaw15_follow.l0 K (N : Int) l cs t s (a : Int) (h : Int)) (-1)) ∧ (rd (distF N F (-1) ts) (a : Int) = k → h + k ≤ N → Ev (fun K => crossbarlaw15_follow.l0 K (N : Int) l cs t s (a : Int) (h : Int)) ((h + k : Nat) : Int)) := by
  obtain ⟨_, _, hlt⟩ := readF_ok hF
  have hFn : ∀ x y, x < 6 → y < 6 → F (x * 6 + y) = true → y < N := fun x y hx hy h => by have := hlt x y hx hy h; omega
  have hRM := readF_RM hF
  have hsy : ∀ x y, x < 6 → y < 6 → F (x * 6 + y) = true → F (y * 6 + x) = true := fun x y hx hy h => hRM.sym hx hy h
  have hts : ∀ t ∈ ts, 0 ≤ t ∧ t < N := by
    rcases ht with ⟨_, rfl⟩ | ⟨x, hx, _, rfl⟩
    · exact hcs
    · intro y hy; obtain rfl := List.mem_singleton.1 hy; omega
  have hM := distF_met (av := -1) h6 hFn hts
  have flag : ∀ a : Nat, a < N → rd (distF N F (-1) ts) (a : Int) ≠ 0 → decide ((a : Int) ∈ ts) = false := fun a ha hne => by
    rw [decide_eq_false_iff_not]
    exact fun hm => hne ((hM.zero a ha).2 ⟨hm, by omega⟩)
  have sel := fun (a : Nat) (ha : a < N) (hne : rd (distF N F (-1) ts) (a : Int) ≠ 0) => sel_built (sf := (a : Int)) (ps := pfx F a N) (cs := cs) (t := t) (ts := ts) h6 hFn (by have := pfx_len F a N; omega) hcs (by
    rcases ht with h | ⟨x, hx, e1, e2⟩
    · exact .inl h
    · refine .inr ⟨x, hx, fun e => ?_, e1, e2⟩
      have := flag a ha hne
      rw [e2, e] at this
      simp at this) hs0 hs1
  have pf : ∀ (a i : Nat) (hi : i < (pfx F a N).length), ∃ p : Nat, (pfx F a N)[i] = (p : Int) ∧ p < N ∧ F (a * 6 + p) = true := fun a i hi => by
    have hm := List.getElem_mem hi
    obtain ⟨h0, _⟩ := pfx_mem hm
    have e : (pfx F a N)[i] = (((pfx F a N)[i]).toNat : Int) := by omega
    refine ⟨_, e, mem_pfx.1 (by rw [← e]; exact hm)⟩
  intro k
  induction k with
  | zero =>
    intro a h ha hh
    refine ⟨fun hd => ?_, fun hd hk => ?_⟩
    · refine fol_flag ht hcl hh ?_
      rw [flag a ha (by omega)]
      obtain ⟨s1, _⟩ := sel a ha (by omega)
      have hnone := s1 (fun i hi => by
        obtain ⟨p, e, hp, hl⟩ := pf a i hi
        rw [e]; exact near_none h6 hFn hsy hts ha (by omega) hp hl)
      exact fol_step h1 h6 hF hll hcs ha hnone (fun _ => rfl) (fun e => by cases e)
    · refine fol_flag ht hcl hh ?_
      have : decide ((a : Int) ∈ ts) = true := by rw [decide_eq_true_iff]; exact ((hM.zero a ha).1 hd).1
      rw [this]
      refine Ev.now (fun K => ?_)
      simp only [crossbarlaw15_follow.j1, if_true]
      rfl
  | succ k ih =>
    intro a h ha hh
    refine ⟨fun hd => ?_, fun hd hk => ?_⟩
    · exact (ih a h ha hh).1 hd
    · refine fol_flag ht hcl hh ?_
      rw [flag a ha (by omega)]
      obtain ⟨_, s2⟩ := sel a ha (by omega)
      obtain ⟨⟨p0, hp0, hl0, hr0⟩, hlow⟩ := near_some h6 hFn hsy hts ha hd
      have hm0 := (mem_pfx (F := F) (S := a) (X := N)).2 ⟨hp0, hl0⟩
      obtain ⟨i0, hi0, e0⟩ := List.getElem_of_mem hm0
      obtain ⟨i, hi, hsel, h0, hmin⟩ := s2 ⟨i0, hi0, by rw [e0]; omega⟩
      obtain ⟨p, e, hp, hl⟩ := pf a i hi
      have hmin0 := hmin i0 hi0 (by rw [e0]; omega)
      rw [e0, hr0, e] at hmin0
      rw [e] at h0
      obtain ⟨g1, g2⟩ := hlow p hp hl h0
      have hpk := g2 (by omega)
      refine fol_step h1 h6 hF hll hcs ha hsel (fun h => absurd rfl h) (fun _ => ⟨i, hi, rfl, ?_⟩)
      rw [e, w64 h (by omega)]
      have := (ih p (h + 1) hp (by omega)).2 hpk (by omega)
      rw [show h + 1 + k = h + (k + 1) by omega] at this
      exact this
theorem fol_all (h1 : 1 ≤ N) (h6 : N ≤ 6) (hF : readF (N : Int) l = some F) (hll : l.length ≤ 1000) (hcl : cs.length ≤ 1000) (hcs : ∀ t ∈ cs, 0 ≤ t ∧ t < N) (ht : (t = -1 ∧ ts = cs) ∨ (∃ x : Nat, x < N ∧ t = (x : Int) ∧ ts = [(x : Int)])) (hs0 : 0 ≤ s) (hs1 : s < 86400) {a : Nat} (ha : a < N) :
    Ev (fun K => crossbarlaw15_follow.f K (N : Int) l (a : Int) cs t s) (rd (distF N F (-1) ts) (a : Int)) := by
  obtain ⟨_, _, hlt⟩ := readF_ok hF
  have hFn : ∀ x y, x < 6 → y < 6 → F (x * 6 + y) = true → y < N := fun x y hx hy h => by have := hlt x y hx hy h; omega
  have hts : ∀ t ∈ ts, 0 ≤ t ∧ t < N := by
    rcases ht with ⟨_, rfl⟩ | ⟨x, hx, _, rfl⟩
    · exact hcs
    · intro y hy; obtain rfl := List.mem_singleton.1 hy; omega
  have hM := distF_met (av := -1) h6 hFn hts
  have hneg := hM.neg (a : Int)
  have hlt := hM.lt ha
  by_cases h0 : rd (distF N F (-1) ts) (a : Int) = -1
  · rw [h0]
    exact (fol_ev h1 h6 hF hll hcl hcs ht hs0 hs1 0 a 0 ha (by omega)).1 h0
  · obtain ⟨k, hk⟩ : ∃ k : Nat, rd (distF N F (-1) ts) (a : Int) = k := ⟨(rd (distF N F (-1) ts) (a : Int)).toNat, by omega⟩
    have := (fol_ev h1 h6 hF hll hcl hcs ht hs0 hs1 k a 0 ha (by omega)).2 hk (by omega)
    rw [hk]
    rw [Nat.zero_add] at this
    exact this
end
theorem routingFollowsShortestPaths_pure (n : Int) (l : List (List Int)) (cs : List Int) (s : Int) : ∃ K, crossbarlaw15_RoutingFollowsShortestPaths.f K n l cs s = some true := by
  refine Ev.ex ?_
  have ht : Ev (fun K => crossbarlaw15_RoutingFollowsShortestPaths.j0 K n l cs s true) true := Ev.now (fun K => by
    simp only [crossbarlaw15_RoutingFollowsShortestPaths.j0, if_true])
  have hfew : Ev (fun K => crossbarref15_FewLinks.f K l) (fewLB l) := ⟨82, fun K hK => fewL_f l K hK⟩
  refine Ev.bind (e := fun _ => crossbarlaw15_sane.f) (Ev.const (fun _ => sane_f)) ?_ (fun K => rfl)
  simp only [if_true]
  refine Ev.bind hfew ?_ (fun K => rfl)
  by_cases hf : fewLB l = true
  · simp only [hf, if_true]
    have hl40 := fewL_len hf
    by_cases hu : (cs.length : Int) > 40
    · simp only [if_pos hu]; exact ht
    simp only [if_neg hu]
    by_cases hs0 : s < 0
    · simp only [if_pos hs0]; exact ht
    simp only [if_neg hs0]
    by_cases hs1 : s ≥ 86400
    · rw [decide_eq_true hs1]; exact ht
    rw [decide_eq_false hs1]
    have hd : ∀ t, routing_Distances.f n l t = some (distsF n l t) := fun t => by unfold routing_Distances.f; rw [if_pos (by omega)]
    rcases dists_cases n l cs with e | ⟨N, F, rfl, h1, h6, hF, hFn, hcs, e⟩
    · refine Ev.now (fun K => ?_)
      simp only [crossbarlaw15_RoutingFollowsShortestPaths.j0]
      rw [if_neg (by simp), hd, e]
      rfl
    · have hlen := (distF_met (av := -1) h6 hFn hcs).len
      obtain ⟨D, hD⟩ : ∃ D, distF N F (-1) cs = D := ⟨_, rfl⟩
      have hl1 : ∀ (r : Bool) (a : Nat), a < N → Ev (fun K => crossbarlaw15_RoutingFollowsShortestPaths.l0 K (N : Int) l cs s D ((a + 1 : Nat) : Int)) r → ∀ (d b : Nat), d = N - b → b ≤ N → Ev (fun K => crossbarlaw15_RoutingFollowsShortestPaths.l1 K (N : Int) l cs s D (a : Int) (b : Int)) r := by
        intro r a ha hr d
        induction d with
        | zero =>
          intro b hdb hb
          refine hr.step (fun K => ?_)
          simp only [crossbarlaw15_RoutingFollowsShortestPaths.l1]
          rw [if_neg (by omega), w64 a (by omega)]
        | succ d ih =>
          intro b hdb hb
          have hbN : b < N := by omega
          have hlen1 := (distF_met (av := -1) (l := [(b : Int)]) h6 hFn (fun t ht => by obtain rfl := List.mem_singleton.1 ht; omega)).len
          have hone : distsF (N : Int) l [(b : Int)] = (distF N F (-1) [(b : Int)], 0) := by rw [dists_one hF, if_pos (by omega)]
          have key : Ev (fun K => (crossbarlaw15_follow.f K (N : Int) l (a : Int) cs (b : Int) s).bind fun t503 => (if 0 ≤ (a : Int) then (if (a : Int) < ((distF N F (-1) [(b : Int)]).length : Int) then (if t503 = (rd (distF N F (-1) [(b : Int)]) (a : Int)) then (crossbarlaw15_RoutingFollowsShortestPaths.l1 K (N : Int) l cs s D (a : Int) (wrap64 ((b : Int) + 1))) else (some false)) else (none)) else (none))) r := by
            refine Ev.bind (fol_all h1 h6 hF (by omega) (by omega) hcs (.inr ⟨b, hbN, rfl, rfl⟩) (by omega) (by omega) ha) ?_ (fun K => rfl)
            refine (ih (b + 1) (by omega) (by omega)).same (fun K => ?_)
            rw [if_pos (by omega), if_pos (by omega), if_pos rfl, w64 b (by omega)]
          refine key.step (fun K => ?_)
          simp only [crossbarlaw15_RoutingFollowsShortestPaths.l1]
          rw [if_pos (by omega), hd, hone]
          simp only [Option.bind_some, if_true]
          rw [if_pos (by omega)]
      have hl0 : ∀ (d a : Nat), d = N - a → a ≤ N → Ev (fun K => crossbarlaw15_RoutingFollowsShortestPaths.l0 K (N : Int) l cs s D (a : Int)) true := by
        intro d
        induction d with
        | zero =>
          intro a hda ha
          refine Ev.now (fun K => ?_)
          simp only [crossbarlaw15_RoutingFollowsShortestPaths.l0]
          rw [if_neg (by omega)]
        | succ d ih =>
          intro a hda ha
          have haN : a < N := by omega
          have key : Ev (fun K => (crossbarlaw15_follow.f K (N : Int) l (a : Int) cs (-1) s).bind fun t494 => (if 0 ≤ (a : Int) then (if (a : Int) < (D.length : Int) then (if t494 = (rd D (a : Int)) then (crossbarlaw15_RoutingFollowsShortestPaths.l1 K (N : Int) l cs s D (a : Int) 0) else (some false)) else (none)) else (none))) true := by
            refine Ev.bind (fol_all h1 h6 hF (by omega) (by omega) hcs (.inl ⟨rfl, rfl⟩) (by omega) (by omega) haN) ?_ (fun K => rfl)
            refine (hl1 true a haN (ih (a + 1) (by omega) (by omega)) N 0 rfl (by omega)).same (fun K => ?_)
            rw [hD, if_pos (by omega), if_pos (by rw [← hD, hlen]; omega), if_pos rfl]; rfl
          refine key.step (fun K => ?_)
          simp only [crossbarlaw15_RoutingFollowsShortestPaths.l0]
          rw [if_pos (by omega)]
      have hj1 : Ev (fun K => crossbarlaw15_RoutingFollowsShortestPaths.j1 K (N : Int) l cs s D false) true := by
        refine (hl0 N 0 rfl (by omega)).step (fun K => ?_)
        simp only [crossbarlaw15_RoutingFollowsShortestPaths.j1]
        rw [if_neg (by simp)]; rfl
      refine hj1.step (fun K => ?_)
      simp only [crossbarlaw15_RoutingFollowsShortestPaths.j0]
      rw [if_neg (by simp), hd, e]
      simp only [Option.bind_some, if_true]
      rw [hD, if_pos (by rw [← hD, hlen]), decide_eq_false (by omega)]
  · simp only [hf]
    exact ht
end Go.Proofs.Ytjaodgicpnoifaa.P
