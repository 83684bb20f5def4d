/- A new leg hears nobody and removing it restores the bridge; removing any leg does not affect pairs of other legs. -/
import Derived.Test.YtmjenmhidnkbdaaPx7
import Derived.Test.YtmjenmhidnkbdaaPg
namespace Go.Proofs.Ytmjenmhidnkbdaa.P
open Go.RowKit Go.Proofs.YtmjenmhidnkbdaaW.PrintWords Go.Proofs.YtmjenmhidnkbdaaW.PrintLast Go.Proofs.YtmjenmhidnkbdaaW.PrintMore
set_option linter.unusedVariables false
set_option linter.unusedSimpArgs false

theorem pos_spec (l : List S36) (id : Int) : (∀ (q : Nat) (x : S36), q < pos l id → l[q]? = some x → x.f0 < id) ∧ (∀ x, l[pos l id]? = some x → ¬ x.f0 < id) := by
  induction l with
  | nil => exact ⟨fun q x h => by simp [pos] at h, fun x h => by simp at h⟩
  | cons y l ih =>
    by_cases hy : y.f0 < id
    · have e : pos (y :: l) id = pos l id + 1 := by simp [pos, hy]
      rw [e]
      refine ⟨fun q x hq hx => ?_, fun x hx => ih.2 x (by simpa using hx)⟩
      cases q with
      | zero => obtain rfl : y = x := by simpa using hx
                exact hy
      | succ q => exact ih.1 q x (by omega) (by simpa using hx)
    · have e : pos (y :: l) id = 0 := by simp [pos, hy]
      rw [e]
      refine ⟨fun q x hq => by omega, fun x hx => ?_⟩
      obtain rfl : y = x := by simpa using hx
      exact hy
theorem no_there {l : List S36} (hs : Sorted l) {id : Int} (h : there l id = false) : ∀ z ∈ l, z.f0 ≠ id := by
  intro z hz e
  obtain ⟨q, hq, rfl⟩ := mem_at hz
  have hp := pos_spec l id
  by_cases h1 : q < pos l id
  · have := hp.1 q _ h1 (rd_at l q hq); omega
  · have hpl : pos l id < l.length := by omega
    by_cases h2 : q = pos l id
    · unfold there at h
      rw [← h2] at h
      simp [hq, e] at h
    · have h3 := pair_lt hs (show pos l id < q by omega) (rd_at l _ hpl) (rd_at l q hq)
      have := hp.2 _ (rd_at l _ hpl)
      omega
theorem found_there {l : List S36} (hs : Sorted l) {id : Int} {k : Nat} (hk : k < l.length) (h : (rd_T36 l (k : Int)).f0 = id) : there l id = true := by
  have hp : pos l id = k := pos_of l id k (by omega) (fun q x hq hx => by have := pair_lt hs hq hx (rd_at l k hk); omega) (fun x hx => by rw [rd_at l k hk] at hx; injection hx with hx; rw [← hx]; omega)
  unfold there
  rw [hp]
  simp [hk, h]

theorem mem_ins {l : List S36} {p : Nat} {x z : S36} : z ∈ ins l p x ↔ z = x ∨ z ∈ l := by
  unfold ins
  constructor
  · intro h
    rcases List.mem_append.1 h with h | h
    · exact .inr (List.mem_of_mem_take h)
    · rcases List.mem_cons.1 h with h | h
      · exact .inl h
      · exact .inr (List.mem_of_mem_drop h)
  · rintro (rfl | h)
    · simp
    · rw [← List.take_append_drop p l] at h
      rcases List.mem_append.1 h with h | h
      · exact List.mem_append_left _ h
      · exact List.mem_append_right _ (List.mem_cons_of_mem _ h)
theorem sorted_ins {l : List S36} (hs : Sorted l) {id : Int} (h : there l id = false) (x : S36) (hx : x.f0 = id) : Sorted (ins l (pos l id) x) := by
  have hn := no_there hs h
  have hp := pos_spec l id
  have hs' := hs
  unfold Sorted at hs'
  rw [← List.take_append_drop (pos l id) l, List.pairwise_append] at hs'
  obtain ⟨h1, h2, h3⟩ := hs'
  have lo : ∀ z ∈ l.take (pos l id), z.f0 < x.f0 := by
    intro z hz
    obtain ⟨q, hq⟩ := List.mem_iff_getElem?.1 hz
    rw [List.getElem?_take] at hq
    split at hq
    · rw [hx]; exact hp.1 q z (by assumption) hq
    · cases hq
  have hi : ∀ z ∈ l.drop (pos l id), x.f0 < z.f0 := by
    intro z hz
    obtain ⟨q, hq⟩ := List.mem_iff_getElem?.1 hz
    rw [List.getElem?_drop] at hq
    have hne := hn z (List.mem_iff_getElem?.2 ⟨_, hq⟩)
    have hl := (List.getElem?_eq_some_iff.1 hq).1
    have hpl : pos l id < l.length := by omega
    have h5 := hp.2 _ (rd_at l _ hpl)
    by_cases e : q = 0
    · subst e
      rw [Nat.add_zero, rd_at l _ hpl] at hq
      injection hq with hq
      rw [hq] at h5
      omega
    · have := pair_lt hs (show pos l id < pos l id + q by omega) (rd_at l _ hpl) hq
      omega
  unfold Sorted ins
  rw [List.pairwise_append]
  refine ⟨h1, List.Pairwise.cons hi h2, fun a ha b hb => ?_⟩
  rcases List.mem_cons.1 hb with rfl | hb
  · exact lo a ha
  · exact h3 a ha b hb
theorem cnt_ins (l : List S36) (p : Nat) (x : S36) (c : Int) : cnt (ins l p x) c = cnt l c + (if x.f1 = c then 1 else 0) := by
  have e : cnt l c = cnt (l.take p) c + cnt (l.drop p) c := by
    unfold cnt
    rw [← List.length_append, ← List.filter_append, List.take_append_drop]
  rw [e]
  unfold cnt ins
  rw [List.filter_append, List.length_append]
  by_cases h : x.f1 = c <;> simp [h]
  omega
theorem ok_add {l : List S36} {nx : Int} (h : Ok l nx) {id : Int} (hid : okId id = true) (ht : there l id = false) (hlen : l.length ≠ 1024) : Ok (ins l (pos l id) ⟨id, 0, false⟩) nx := by
  refine ⟨h.n1, h.n2, sorted_ins h.s ht _ rfl, fun z hz => ?_, fun z hz h0 => ?_, ?_⟩
  · rcases mem_ins.1 hz with rfl | hz
    · exact ⟨hid, by simp, by have := h.n1; simp; omega, fun _ => rfl⟩
    · exact h.leg z hz
  · rw [cnt_ins]
    rcases mem_ins.1 hz with rfl | hz
    · simp at h0
    · have := h.two z hz h0
      omega
  · rw [ins_len _ _ _ (pos_le l id)]
    have := h.len
    omega

theorem rm_mem {l : List S36} {id : Int} {z : S36} : z ∈ rm l id ↔ z ∈ l ∧ z.f0 ≠ id := by
  unfold rm
  rw [List.mem_filter]
  simp
theorem rm_ins {l : List S36} {id : Int} (hn : ∀ z ∈ l, z.f0 ≠ id) (p : Nat) (x : S36) (hx : x.f0 = id) : rm (ins l p x) id = l := by
  unfold rm ins
  rw [List.filter_append, List.filter_cons_of_neg (by simp [hx])]
  rw [← List.filter_append, List.take_append_drop, List.filter_eq_self]
  intro z hz
  simpa using hn z hz
theorem rm_one {m : List S36} (hs : Sorted m) {k : Nat} (hk : k < m.length) {id : Int} (h : (rd_T36 m (k : Int)).f0 = id) : (rm m id).length + 1 = m.length := by
  have e : m = m.take k ++ rd_T36 m (k : Int) :: m.drop (k + 1) := by
    have h1 := List.take_append_drop k m
    rw [List.drop_eq_getElem_cons hk] at h1
    have h2 := rd_at m k hk
    rw [List.getElem?_eq_getElem hk] at h2
    injection h2 with h2
    rw [h2] at h1
    exact h1.symm
  have lo : ∀ z ∈ m.take k, z.f0 ≠ id := by
    intro z hz
    obtain ⟨q, hq⟩ := List.mem_iff_getElem?.1 hz
    rw [List.getElem?_take] at hq
    split at hq
    · have := pair_lt hs (by assumption : q < k) hq (rd_at m k hk); omega
    · cases hq
  have hi : ∀ z ∈ m.drop (k + 1), z.f0 ≠ id := by
    intro z hz
    obtain ⟨q, hq⟩ := List.mem_iff_getElem?.1 hz
    rw [List.getElem?_drop] at hq
    have := pair_lt hs (show k < k + 1 + q by omega) (rd_at m k hk) hq
    omega
  have : rm m id = m.take k ++ m.drop (k + 1) := by
    unfold rm
    conv => lhs; rw [e]
    rw [List.filter_append, List.filter_cons_of_neg (by simp [h]), List.filter_eq_self.2 (fun z hz => by simpa using lo z hz), List.filter_eq_self.2 (fun z hz => by simpa using hi z hz)]
  rw [this, List.length_append, List.length_take, List.length_drop]
  omega
theorem fnd_rm (m : List S36) (id : Int) : fnd (rm m id) id < 0 := by
  refine Classical.byContradiction fun h => ?_
  obtain ⟨k, _, hk, e⟩ := fnd_some h
  exact (rm_mem.1 (at_mem hk)).2 e
theorem hears_none {l : List S36} {x : Int} (h : fnd l x < 0) : hearsL l x = [] := by
  unfold hearsL
  simp only
  rw [if_pos (.inl h)]

/-- Whoever leaves a right bridge leaves a right one. -/
theorem cnt_lv {l : List S36} {nx : Int} (h : Ok l nx) {k : Nat} (hk : k < l.length) {z : S36} (hz : z ∈ lv l k) (h0 : 0 < z.f1) : 2 ≤ cnt (lv l k) z.f1 := by
  have hzl : z ∈ l := by
    rcases lv_mem hk hz with hz | ⟨e, _⟩
    · exact hz
    · omega
  have h2 := h.two z hzl h0
  rcases lv_cases l k hk with ⟨e, hc⟩ | ⟨j, hj, hjk, hc0, hcj, huniq, e⟩
  · rw [e] at hz ⊢
    have h3 := cnt_set (z := ⟨(rd_T36 l (k : Int)).f0, 0, false⟩) (rd_at l k hk) z.f1
    have h4 := cnt_of _ z hz
    have e0 : ¬ ((0 : Int) = z.f1) := by omega
    change cnt (outOf l k) z.f1 + _ = _ at h3
    simp only [e0, if_false] at h3
    by_cases hck : (rd_T36 l (k : Int)).f1 = z.f1
    · have h5 : cnt (outOf l k) z.f1 ≠ 1 := by
        have := hc (by show (rd_T36 l (k : Int)).f1 ≠ 0; omega)
        have e2 : cfAt l k = z.f1 := hck
        rw [e2] at this
        exact this
      omega
    · rw [if_neg hck] at h3
      omega
  · obtain ⟨q, hq, hqz⟩ := mem_at hz
    rw [lv_len] at hq
    have hqd : rd_T36 (outOf (outOf l k) j) (q : Int) = if q = j then ⟨(rd_T36 (outOf l k) (j : Int)).f0, 0, false⟩ else if q = k then ⟨(rd_T36 l (k : Int)).f0, 0, false⟩ else rd_T36 l (q : Int) := by
      rw [rd_out (outOf l k) j q (by rw [outOf_len]; exact hq), rd_out l k q hq]
    have hqj : q ≠ j := fun e2 => by
      rw [e, hqd, if_pos e2] at hqz
      rw [← hqz] at h0
      simp at h0
    have hqk : q ≠ k := fun e2 => by
      rw [e, hqd, if_neg hqj, if_pos e2] at hqz
      rw [← hqz] at h0
      simp at h0
    rw [e, hqd, if_neg hqj, if_neg hqk] at hqz
    have hne : (rd_T36 l (k : Int)).f1 ≠ z.f1 := fun e2 => hqj (huniq q hq hqk (by show (rd_T36 l (q : Int)).f1 = (rd_T36 l (k : Int)).f1; rw [hqz, e2]))
    have hnej : (rd_T36 l (j : Int)).f1 ≠ z.f1 := fun e2 => hne (by rw [← e2]; exact hcj.symm)
    rw [e]
    have h3 := cnt_set (z := ⟨(rd_T36 l (k : Int)).f0, 0, false⟩) (rd_at l k hk) z.f1
    have h4 := cnt_set (z := ⟨(rd_T36 (outOf l k) (j : Int)).f0, 0, false⟩) (rd_at (outOf l k) j (by rw [outOf_len]; exact hj)) z.f1
    change cnt (outOf l k) z.f1 + _ = _ at h3
    change cnt (outOf (outOf l k) j) z.f1 + _ = _ at h4
    have e0 : ¬ ((0 : Int) = z.f1) := by omega
    have e1 : (rd_T36 (outOf l k) (j : Int)).f1 = (rd_T36 l (j : Int)).f1 := by rw [rd_out l k j hj, if_neg hjk]
    rw [e1] at h4
    simp only [e0, hne, hnej, if_false] at h3 h4
    omega
theorem ok_remove {l : List S36} {nx : Int} (h : Ok l nx) {k : Nat} (hk : k < l.length) {x : Int} (hx : (rd_T36 l (k : Int)).f0 = x) : Ok (rm (lv l k) x) nx := by
  have hsm := lv_sorted h.s k
  refine ⟨h.n1, h.n2, ?_, fun z hz => ?_, fun z hz h0 => ?_, ?_⟩
  · exact List.Pairwise.sublist List.filter_sublist hsm
  · rcases lv_mem hk (rm_mem.1 hz).1 with hz | ⟨e1, e2, w, hw, hwz⟩
    · exact h.leg z hz
    · exact ⟨by rw [← hwz]; exact (h.leg w hw).id, by omega, by have := h.n1; omega, fun _ => e2⟩
  · have h1 := cnt_lv h hk (rm_mem.1 hz).1 h0
    have e : cnt (rm (lv l k) x) z.f1 = cnt (lv l k) z.f1 := by
      unfold cnt rm
      rw [List.filter_filter]
      congr 1
      refine List.filter_congr fun w hw => ?_
      by_cases hwx : w.f0 = x
      · obtain ⟨q, hq, rfl⟩ := mem_at hw
        have hql := hq
        rw [lv_len] at hql
        have : q = k := sorted_inj hsm hq (by rw [lv_len]; exact hk) (by rw [hwx, lv_rd hk]; exact hx.symm)
        subst this
        rw [lv_rd hk]
        have : ((0 : Int) == z.f1) = false := by simp; omega
        simp [this]
      · simp [hwx]
    rw [e]
    exact h1
  · have := rm_len (lv l k) x
    rw [lv_len] at this
    have := h.len
    omega

theorem bridgeAddAndRemove_pure (l : List S36) (nx x : Int) : ∃ k, crossbarlaw18_BridgeAddAndRemove.f k l nx x = some true := by
  obtain ⟨K, hK⟩ : ∃ K, K = 30000 := ⟨_, rfl⟩
  refine ⟨K, ?_⟩
  unfold crossbarlaw18_BridgeAddAndRemove.f crossbarlaw18_sane.f
  simp only [Option.bind_some, if_true]
  by_cases hlen : (l.length : Int) > 20
  · rw [if_pos hlen]
  · rw [if_neg hlen]
    have hl : l.length ≤ 2000 := by omega
    have hR : ∀ m : List S36, m.length ≤ 2000 → bridge_Remove.f m nx x = some (editF (removeOp x) m nx) := fun m hm => by unfold bridge_Remove.f; rw [if_pos hm]
    have hH : ∀ m : List S36, m.length ≤ 2000 → bridge_Hears.f m nx x = some (hearsL m x) := fun m hm => by unfold bridge_Hears.f; rw [if_pos hm]
    unfold bridge_Add.f
    rw [if_pos hl]
    simp only [Option.bind_some]
    by_cases hc : checkE l nx = 0
    · have hok := ok_of_check hc
      by_cases hadd : okId x = true ∧ there l x = false ∧ l.length ≠ 1024
      · obtain ⟨a1, a2, a3⟩ := hadd
        obtain ⟨c, hcd⟩ : ∃ c, c = ins l (pos l x) ⟨x, 0, false⟩ := ⟨_, rfl⟩
        have e : editF (addOp x) l nx = (c, nx, 0) := editF_ok hc (by simp [addOp, a1, a2, a3, hcd])
        have hokc : Ok c nx := by rw [hcd]; exact ok_add hok a1 a2 a3
        have hnx := no_there hok.s a2
        have hcl : c.length = l.length + 1 := by rw [hcd]; exact ins_len _ _ _ (pos_le l x)
        have hmem : ∀ z, z ∈ c ↔ z = ⟨x, 0, false⟩ ∨ z ∈ l := fun z => by rw [hcd]; exact mem_ins
        obtain ⟨k, hk, hkl, hkx⟩ := fnd_some (l := c) (x := x) (fun h => by
          have := idx_neg (fun z => z.f0 == x) c h ⟨x, 0, false⟩ ((hmem _).2 (.inl rfl))
          simp at this)
        have hrk : rd_T36 c (k : Int) = ⟨x, 0, false⟩ := by
          rcases (hmem _).1 (at_mem hkl) with h | h
          · exact h
          · exact absurd hkx (hnx _ h)
        have hlv : lv c k = c := by
          have h0 : cfAt c k = 0 := by show (rd_T36 c (k : Int)).f1 = 0; rw [hrk]
          unfold lv
          rw [if_pos h0]
          unfold outOf
          rw [hrk]
          refine List.ext_getElem? fun q => ?_
          by_cases e : k = q
          · subst e; rw [List.getElem?_set_self hkl, rd_at c k hkl, hrk]
          · rw [List.getElem?_set_ne e]
        have e2 : editF (removeOp x) c nx = (l, nx, 0) := editF_ok (check_of_ok hokc) (by
          simp only [removeOp, hk, Int.toNat_natCast]
          rw [if_neg (show ¬ ((k : Int) < 0) by omega), hlv, hcd, rm_ins hnx _ _ rfl])
        have hnil : hearsL c x = [] := by
          unfold hearsL
          simp only [hk, Int.toNat_natCast, at_, hrk]
          rw [if_pos (.inr (.inl trivial))]
        rw [e]
        simp only [if_true]
        rw [hR c (by omega), e2, hH c (by omega), hnil]
        simp only [Option.bind_some]
        rw [same_f l nx hl _ (by omega)]
        simp only [Option.bind_some, if_true, List.length_nil]
        rw [if_pos (by rfl), others_f l c nx nx x x (by omega) (by omega) (Frame.oth (x := x) (y := x) ⟨fun z hz _ _ => .inl ((hmem z).2 (.inr hz)), fun z hz h1 _ => .inl (((hmem z).1 hz).resolve_left (fun e => h1 (by rw [e])))⟩ hok.s hokc.s) _ (by omega)]
        rfl
      · have hae : (editF (addOp x) l nx).2.2 ≠ 0 ∧ (okId x = true → there l x = true → editF (addOp x) l nx = ([], 0, 180)) := by
          by_cases b1 : okId x = false
          · rw [editF_err (m := l) (n := nx) (e := 1) hc (by simp [addOp, b1]) (by decide)]
            exact ⟨by decide, fun h => by rw [h] at b1; cases b1⟩
          · have b1' : okId x = true := by simpa using b1
            by_cases b2 : there l x = true
            · rw [editF_err (m := l) (n := nx) (e := 180) hc (by simp [addOp, b1', b2]) (by decide)]
              exact ⟨by decide, fun _ _ => rfl⟩
            · have b2' : there l x = false := by simpa using b2
              have b3 : l.length = 1024 := Classical.byContradiction fun h => hadd ⟨b1', b2', h⟩
              omega
        rw [if_neg hae.1, hR l hl]
        simp only [Option.bind_some]
        by_cases hf : fnd l x < 0
        · have e : editF (removeOp x) l nx = ([], 0, 180) := editF_err (m := l) (n := nx) hc (by simp [removeOp, hf]) (by decide)
          rw [e]
          rfl
        · obtain ⟨k, hk, hkl, hkx⟩ := fnd_some hf
          obtain ⟨d, hdd⟩ : ∃ d, d = rm (lv l k) x := ⟨_, rfl⟩
          have e : editF (removeOp x) l nx = (d, nx, 0) := editF_ok hc (by
            simp only [removeOp, hk, Int.toNat_natCast]
            rw [if_neg (show ¬ ((k : Int) < 0) by omega), ← hdd])
          have hid : okId x = true := by rw [← hkx]; exact (hok.leg _ (at_mem hkl)).id
          have ea := hae.2 hid (found_there hok.s hkl hkx)
          have hokd : Ok d nx := by rw [hdd]; exact ok_remove hok hkl hkx
          have hdl : d.length + 1 = l.length := by
            rw [hdd, rm_one (lv_sorted hok.s k) (by rw [lv_len]; exact hkl) (by rw [lv_rd hkl]; exact hkx), lv_len]
          have hnil : hearsL d x = [] := hears_none (by rw [hdd]; exact fnd_rm _ _)
          have hfr : Frame l d x x := by
            have h1 := lv_frame hok.s hkl
            rw [hkx] at h1
            refine h1.same fun z z1 _ => ?_
            rw [hdd, rm_mem]
            exact ⟨fun h => ⟨h, z1⟩, fun h => h.1⟩
          rw [e, ea]
          simp only [if_true]
          rw [if_pos (by unfold wrap64; omega), hH d (by omega), hnil]
          simp only [Option.bind_some, List.length_nil]
          rw [if_pos (by rfl), others_f l d nx nx x x (by omega) (by omega) (hfr.oth hok.s hokd.s) _ (by omega)]
          simp only [Option.bind_some, if_true]
          unfold bridge_Check.f
          rw [if_pos (by omega), check_of_ok hokd]
          rfl
    · have e : editF (addOp x) l nx = ([], 0, checkE l nx) := editF_bad hc
      have e2 : editF (removeOp x) l nx = ([], 0, checkE l nx) := editF_bad hc
      rw [e]
      simp only
      rw [if_neg hc, hR l hl, e2]
      simp only [Option.bind_some]
      rw [if_neg hc]
      rfl
end Go.Proofs.Ytmjenmhidnkbdaa.P
