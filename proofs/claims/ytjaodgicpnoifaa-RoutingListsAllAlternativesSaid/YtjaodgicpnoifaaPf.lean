/- A built table lets through; the first choice lies on a shortest way. -/
import Derived.Test.YtjaodgicpnoifaaPo
import Derived.Test.YtjaodgicpnoifaaPt
namespace Go.Proofs.Ytjaodgicpnoifaa.P
open Go.RowKit Go.Shelf Go.Proofs.YtjaodgicpnoifaaW.PrintWords Go.Proofs.YtjaodgicpnoifaaW.PrintLast Go.Proofs.YtjaodgicpnoifaaW.PrintMore
set_option linter.unusedVariables false
set_option linter.unusedSimpArgs false

theorem chsF_mem {D : List Int} : ∀ {ps : List Int} {k : Nat} {c : S49}, c ∈ chsF D k ps → ∃ i, ∃ h : i < ps.length, c = ⟨((k + i : Nat) : Int), 1 + rd D ps[i], 1 + rd D ps[i]⟩ ∧ 0 ≤ rd D ps[i] := by
  intro ps
  induction ps with
  | nil => intro k c h; simp [chsF] at h
  | cons p ps ih =>
    intro k c h
    simp only [chsF] at h
    have tail : c ∈ chsF D (k + 1) ps → ∃ i, ∃ h : i < (p :: ps).length, c = ⟨((k + i : Nat) : Int), 1 + rd D (p :: ps)[i], 1 + rd D (p :: ps)[i]⟩ ∧ 0 ≤ rd D (p :: ps)[i] := fun h => by
      obtain ⟨i, hi, e, h0⟩ := ih h
      exact ⟨i + 1, by simpa using hi, by simp only [List.getElem_cons_succ]; rw [e, show k + 1 + i = k + (i + 1) by omega], by simpa using h0⟩
    split at h
    · rename_i hp
      rcases List.mem_cons.1 h with rfl | h
      · exact ⟨0, by simp, rfl, hp⟩
      · exact tail h
    · exact tail h
theorem chsF_in {D : List Int} : ∀ {ps : List Int} {k i : Nat} (h : i < ps.length), 0 ≤ rd D ps[i] → (⟨((k + i : Nat) : Int), 1 + rd D ps[i], 1 + rd D ps[i]⟩ : S49) ∈ chsF D k ps := by
  intro ps
  induction ps with
  | nil => intro k i h; simp at h
  | cons p ps ih =>
    intro k i h h0
    simp only [chsF]
    cases i with
    | zero =>
      simp only [List.getElem_cons_zero] at h0 ⊢
      rw [if_pos h0]
      exact List.mem_cons.2 (.inl rfl)
    | succ i =>
      simp only [List.getElem_cons_succ] at h0 ⊢
      have := ih (k := k + 1) (i := i) (by simpa using h) h0
      rw [show k + 1 + i = k + (i + 1) by omega] at this
      split
      · exact List.mem_cons_of_mem _ this
      · exact this
theorem chsF_inc (D : List Int) : ∀ (ps : List Int) (k : Nat), (chsF D k ps).Pairwise (fun a b => a.f0 < b.f0) := by
  intro ps
  induction ps with
  | nil => intro k; exact List.Pairwise.nil
  | cons p ps ih =>
    intro k
    simp only [chsF]
    split
    · refine List.pairwise_cons.2 ⟨fun c hc => ?_, ih (k + 1)⟩
      obtain ⟨i, hi, e, _⟩ := chsF_mem hc
      rw [e]; show (k : Int) < ((k + 1 + i : Nat) : Int); omega
    · exact ih (k + 1)
theorem chsF_nodup (D : List Int) (ps : List Int) (k : Nat) : ((chsF D k ps).map S49.f0).Nodup := by
  rw [List.nodup_iff_pairwise_ne, List.pairwise_map]
  exact (chsF_inc D ps k).imp (fun h => by omega)
/-- A choice that Check lets in (up to six groups). -/
theorem okCh6 {F : Nat → Bool} {c : S49} (h0 : 0 ≤ c.f0) (h1 : c.f0 < 6) (hF : F c.f0.toNat = false) (a : 0 ≤ c.f1) (b : c.f1 ≤ 1000) (a' : 0 ≤ c.f2) (b' : c.f2 ≤ 1000) : okCh 6 F c = true := by
  unfold okCh
  simp only [Bool.and_eq_true, decide_eq_true_eq, Bool.not_eq_true']
  refine ⟨⟨⟨⟨h0, h1⟩, hF⟩, ?_⟩, ?_⟩ <;> (split <;> omega)
theorem okChs_of : ∀ (C : List S49) (F : Nat → Bool), (∀ c ∈ C, 0 ≤ c.f0 ∧ c.f0 < 6 ∧ F c.f0.toNat = false ∧ 0 ≤ c.f1 ∧ c.f1 ≤ 1000 ∧ 0 ≤ c.f2 ∧ c.f2 ≤ 1000) → (C.map S49.f0).Nodup → okChs 6 F C = true := by
  intro C
  induction C with
  | nil => intro F _ _; rfl
  | cons c C ih =>
    intro F h hn
    rw [List.map_cons, List.nodup_cons] at hn
    obtain ⟨h0, h1, h2, h3, h4, h5, h6⟩ := h c (by simp)
    simp only [okChs, Bool.and_eq_true]
    refine ⟨okCh6 h0 h1 h2 h3 h4 h5 h6, ih _ (fun x hx => ?_) hn.2⟩
    obtain ⟨g0, g1, g2, g3, g4, g5, g6⟩ := h x (List.mem_cons_of_mem _ hx)
    have hne : x.f0 ≠ c.f0 := fun e => hn.1 (List.mem_map.2 ⟨x, hx, e⟩)
    refine ⟨g0, g1, ?_, g3, g4, g5, g6⟩
    unfold upd
    rw [if_neg (by omega)]
    exact g2
theorem okRt_of : ∀ (l : List S47) (last : Int), (∀ z ∈ l, last < z.f0 ∧ z.f0 < 6 ∧ okChs 6 (fun _ => false) z.f1 = true) → l.Pairwise (fun a b => a.f0 < b.f0) → okRt 6 last l = true := by
  intro l
  induction l with
  | nil => intro last _ _; rfl
  | cons z l ih =>
    intro last h hp
    obtain ⟨h1, h2, h3⟩ := h z (by simp)
    obtain ⟨p1, p2⟩ := List.pairwise_cons.1 hp
    simp only [okRt, Bool.and_eq_true, decide_eq_true_eq]
    refine ⟨⟨⟨h1, h2⟩, h3⟩, ih z.f0 (fun x hx => ?_) p2⟩
    obtain ⟨_, g2, g3⟩ := h x (List.mem_cons_of_mem _ hx)
    exact ⟨p1 x hx, g2, g3⟩
section
variable {N : Nat} {F : Nat → Bool} {sf : Int} {ps cs : List Int}
theorem rts_mem {X : Nat} {z : S47} (h : z ∈ rtsF N F sf ps cs X) : z = routeF N F sf ps (-1) cs ∨ ∃ x : Nat, x < X ∧ (x : Int) ≠ sf ∧ z = routeF N F sf ps (x : Int) [(x : Int)] := by
  unfold rtsF at h
  rcases List.mem_cons.1 h with h | h
  · exact .inl h
  · obtain ⟨x, hx, e⟩ := List.mem_map.1 h
    rw [List.mem_filter, List.mem_range] at hx
    exact .inr ⟨x, hx.1, by simpa using hx.2, e.symm⟩
theorem rts_in {X x : Nat} (hx : x < X) (hne : (x : Int) ≠ sf) : routeF N F sf ps (x : Int) [(x : Int)] ∈ rtsF N F sf ps cs X := by
  unfold rtsF
  refine List.mem_cons_of_mem _ (List.mem_map.2 ⟨x, ?_, rfl⟩)
  rw [List.mem_filter, List.mem_range]
  exact ⟨hx, by simpa using hne⟩
/-- Bounded distances make choices that Check lets in. -/
theorem route_ok (h6 : N ≤ 6) (hF : ∀ x y, x < 6 → y < 6 → F (x * 6 + y) = true → y < N) (hpl : ps.length ≤ 6) (t : Int) (ts : List Int) (hts : ∀ x ∈ ts, 0 ≤ x ∧ x < N) : okChs 6 (fun _ => false) (routeF N F sf ps t ts).f1 = true := by
  have hp := srt_perm S49.f1 (chsF (distF N F sf ts) 0 ps)
  have hb := (distF_bd (av := sf) h6 hF hts).2
  refine okChs_of _ _ (fun c hc => ?_) ((List.Perm.map S49.f0 hp).nodup_iff.2 (chsF_nodup _ _ _))
  obtain ⟨i, hi, e, h0⟩ := chsF_mem (hp.mem_iff.1 hc)
  have := hb ps[i]
  rw [e]
  refine ⟨?_, ?_, rfl, ?_, ?_, ?_, ?_⟩
  · show (0 : Int) ≤ ((0 + i : Nat) : Int); omega
  · show ((0 + i : Nat) : Int) < 6; omega
  · show 0 ≤ 1 + rd (distF N F sf ts) ps[i]; omega
  · show 1 + rd (distF N F sf ts) ps[i] ≤ 1000; omega
  · show 0 ≤ 1 + rd (distF N F sf ts) ps[i]; omega
  · show 1 + rd (distF N F sf ts) ps[i] ≤ 1000; omega
theorem rts_chk (h6 : N ≤ 6) (hF : ∀ x y, x < 6 → y < 6 → F (x * 6 + y) = true → y < N) (hpl : ps.length ≤ 6) (hcs : ∀ x ∈ cs, 0 ≤ x ∧ x < N) : chkF (rtsF N F sf ps cs N) 6 = 0 := by
  unfold chkF
  rw [if_neg (by omega), if_pos]
  refine okRt_of _ _ (fun z hz => ?_) ?_
  · rcases rts_mem hz with rfl | ⟨x, hx, hne, rfl⟩
    · exact ⟨by show (-2 : Int) < -1; omega, by show (-1 : Int) < 6; omega, route_ok h6 hF hpl _ _ hcs⟩
    · exact ⟨by show (-2 : Int) < (x : Int); omega, by show (x : Int) < 6; omega, route_ok h6 hF hpl _ _ (fun y hy => by obtain rfl := List.mem_singleton.1 hy; omega)⟩
  · unfold rtsF
    refine List.pairwise_cons.2 ⟨fun z hz => ?_, ?_⟩
    · obtain ⟨x, _, rfl⟩ := List.mem_map.1 hz
      show (-1 : Int) < (x : Int); omega
    · rw [List.pairwise_map]
      refine (List.Pairwise.filter _ List.pairwise_lt_range).imp (fun {a b} h => ?_)
      show (a : Int) < (b : Int); omega
theorem rts_tab (hN : N ≤ 6) (hpl : ps.length ≤ 6) : okTab (rtsF N F sf ps cs N) = true := by
  unfold okTab
  simp only [Bool.and_eq_true, decide_eq_true_eq, List.all_eq_true]
  refine ⟨by have := rtsF_len N F sf ps cs N; omega, fun z hz => ?_⟩
  have hl : ∀ t ts, (routeF N F sf ps t ts).f1.length ≤ 6 := fun t ts => by
    unfold routeF; rw [srt_len]; have := chsF_len (distF N F sf ts) ps 0; omega
  rcases rts_mem hz with rfl | ⟨x, hx, hne, rfl⟩
  · have := hl (-1) cs; omega
  · have := hl (x : Int) [(x : Int)]; omega
/-- Which route a target has. -/
theorem rts_at {t : Int} {ts : List Int} (ht : (t = -1 ∧ ts = cs) ∨ (∃ x : Nat, x < N ∧ (x : Int) ≠ sf ∧ t = (x : Int) ∧ ts = [(x : Int)])) : ∃ n : Nat, ridx t (rtsF N F sf ps cs N) = (n : Int) ∧ rd_T47 (rtsF N F sf ps cs N) (n : Int) = routeF N F sf ps t ts := by
  have hin : routeF N F sf ps t ts ∈ rtsF N F sf ps cs N := by
    rcases ht with ⟨rfl, rfl⟩ | ⟨x, hx, hne, rfl, rfl⟩
    · exact List.mem_cons.2 (.inl rfl)
    · exact rts_in hx hne
  have hpos : ¬ ridx t (rtsF N F sf ps cs N) < 0 := by
    have hall : ∀ (m : List S47), ridx t m < 0 → ∀ x ∈ m, x.f0 ≠ t := by
      intro m
      induction m with
      | nil => intro _ x hx; simp at hx
      | cons y m ihm =>
        intro hm x hx
        simp only [ridx] at hm
        split at hm
        · omega
        · rename_i hy
          have hy' : y.f0 ≠ t := by simpa using hy
          split at hm
          · rename_i h2
            rcases List.mem_cons.1 hx with rfl | hx
            · exact hy'
            · exact ihm h2 x hx
          · omega
    exact fun h => hall _ h _ hin rfl
  obtain ⟨n, hn⟩ : ∃ n : Nat, ridx t (rtsF N F sf ps cs N) = (n : Int) := ⟨(ridx t (rtsF N F sf ps cs N)).toNat, by omega⟩
  obtain ⟨a, _, c⟩ := ridx_at t _ n hn
  have hz := rd47_at _ n a
  have hf := c _ hz
  refine ⟨n, hn, ?_⟩
  rcases rts_mem (List.mem_iff_getElem?.2 ⟨n, hz⟩) with e | ⟨x, hx, hne, e⟩
  · rw [e] at hf ⊢
    have hf' : (-1 : Int) = t := hf
    rcases ht with ⟨rfl, rfl⟩ | ⟨y, _, _, rfl, rfl⟩
    · rfl
    · omega
  · rw [e] at hf ⊢
    have hf' : (x : Int) = t := hf
    rcases ht with ⟨rfl, rfl⟩ | ⟨y, _, _, rfl, rfl⟩
    · omega
    · rw [hf']
end
theorem pick_all (k : Nat) : ∀ (gs : List Int), (∀ g ∈ gs, 0 ≤ g ∧ g < (k : Int)) → pick1 (List.replicate k true) gs = match gs with | [] => (0, 150) | g :: _ => (g, 0) := by
  intro gs h
  cases gs with
  | nil => rfl
  | cons g gs =>
    obtain ⟨h0, h1⟩ := h g (by simp)
    simp only [pick1]
    rw [if_pos ⟨by simpa using h1, by simp [List.getD_eq_getElem?_getD, List.getElem?_replicate, show g.toNat < k by omega]⟩]
/-- What Select answers in a built table when every group can be used. -/
theorem sel_built {N : Nat} {F : Nat → Bool} {sf : Int} {ps cs : List Int} (h6 : N ≤ 6) (hF : ∀ x y, x < 6 → y < 6 → F (x * 6 + y) = true → y < N) (hpl : ps.length ≤ 6) (hcs : ∀ x ∈ cs, 0 ≤ x ∧ x < N) {t : Int} {ts : List Int}
    (ht : (t = -1 ∧ ts = cs) ∨ (∃ x : Nat, x < N ∧ (x : Int) ≠ sf ∧ t = (x : Int) ∧ ts = [(x : Int)])) {s : Int} (hs0 : 0 ≤ s) (hs1 : s < 86400) :
    ((∀ i (h : i < ps.length), rd (distF N F sf ts) ps[i] < 0) → selF (rtsF N F sf ps cs N) t s 0 (List.replicate ps.length true) = (0, 150)) ∧
    ((∃ i, ∃ h : i < ps.length, 0 ≤ rd (distF N F sf ts) ps[i]) → ∃ i, ∃ h : i < ps.length, selF (rtsF N F sf ps cs N) t s 0 (List.replicate ps.length true) = ((i : Int), 0) ∧ 0 ≤ rd (distF N F sf ts) ps[i] ∧ ∀ j (hj : j < ps.length), 0 ≤ rd (distF N F sf ts) ps[j] → rd (distF N F sf ts) ps[i] ≤ rd (distF N F sf ts) ps[j]) := by
  have hchk := rts_chk (sf := sf) (ps := ps) h6 hF hpl hcs
  have hask : askF (rtsF N F sf ps cs N) t s = 0 := by
    unfold askF
    rw [if_neg (by rw [hchk]; simp), if_neg]
    rcases ht with ⟨rfl, _⟩ | ⟨x, _, _, rfl, _⟩ <;> omega
  obtain ⟨n, hn, hr⟩ := rts_at (F := F) (ps := ps) ht
  obtain ⟨D, hD⟩ : ∃ D, distF N F sf ts = D := ⟨_, rfl⟩
  have hf1 : (rd_T47 (rtsF N F sf ps cs N) (n : Int)).f1 = srt S49.f1 (chsF D 0 ps) := by rw [hr, ← hD]; rfl
  have hord : ordF (rtsF N F sf ps cs N) t s = ((srt (price (isDay s)) (srt S49.f1 (chsF D 0 ps))).map S49.f0, 0) := by
    unfold ordF
    rw [if_neg (by rw [hask]; simp), hn, if_neg (by omega), hf1]
  rw [hD]
  obtain ⟨S, hS⟩ : ∃ S, srt (price (isDay s)) (srt S49.f1 (chsF D 0 ps)) = S := ⟨_, rfl⟩
  have hp : S.Perm (chsF D 0 ps) := by rw [← hS]; exact (srt_perm _ _).trans (srt_perm _ _)
  have hso : S.Pairwise (fun a b => price (isDay s) a ≤ price (isDay s) b) := by rw [← hS]; exact srt_sorted _ _
  rw [hS] at hord
  have hgs : ∀ g ∈ S.map S49.f0, 0 ≤ g ∧ g < (ps.length : Int) := by
    intro g hg
    obtain ⟨c, hc, rfl⟩ := List.mem_map.1 hg
    obtain ⟨i, hi, e, _⟩ := chsF_mem (hp.mem_iff.1 hc)
    rw [e]
    show (0 : Int) ≤ ((0 + i : Nat) : Int) ∧ ((0 + i : Nat) : Int) < (ps.length : Int)
    omega
  have hsel : selF (rtsF N F sf ps cs N) t s 0 (List.replicate ps.length true) = pick1 (List.replicate ps.length true) (S.map S49.f0) := by
    unfold selF
    rw [if_neg (by rw [hask]; simp), if_neg (by omega), if_neg (by omega), if_neg (by rw [hord]; simp), hord]
  rw [hsel, pick_all _ _ hgs]
  refine ⟨fun h => ?_, fun h => ?_⟩
  · have : S = [] := by
      rcases List.eq_nil_or_concat S with e | ⟨L, c, e⟩
      · exact e
      · have hc : c ∈ S := by rw [e]; simp
        obtain ⟨i, hi, _, h0⟩ := chsF_mem (hp.mem_iff.1 hc)
        have := h i hi
        omega
    rw [this]; rfl
  · obtain ⟨i, hi, h0⟩ := h
    have hm := hp.mem_iff.2 (chsF_in (k := 0) hi h0)
    cases hSc : S with
    | nil => rw [hSc] at hm; simp at hm
    | cons c S' =>
      have hc : c ∈ S := by rw [hSc]; simp
      obtain ⟨k, hk, e, hk0⟩ := chsF_mem (hp.mem_iff.1 hc)
      refine ⟨k, hk, by simp [e], hk0, fun j hj hj0 => ?_⟩
      have hmj := hp.mem_iff.2 (chsF_in (k := 0) hj hj0)
      rw [hSc] at hso hmj
      obtain ⟨o1, _⟩ := List.pairwise_cons.1 hso
      have hpr : ∀ x : Nat, ∀ v : Int, price (isDay s) (⟨(x : Int), 1 + v, 1 + v⟩ : S49) = 1 + v := fun x v => by unfold price; split <;> rfl
      rcases List.mem_cons.1 hmj with e2 | hmj
      · rw [e] at e2
        have := congrArg S49.f1 e2
        simp only at this
        omega
      · have := o1 _ hmj
        rw [e, hpr, hpr] at this
        omega
end Go.Proofs.Ytjaodgicpnoifaa.P
