/- In a bridge that passes its check, a leg hears another one exactly if it is heard by it, and no leg hears itself. -/
import Derived.Test.YtmjenmhidnkbdaaPx3
import Derived.Test.YtmjenmhidnkbdaaPc
namespace Go.Proofs.Ytmjenmhidnkbdaa.P
theorem bridgeHearingIsSymmetric_pure (l : List S36) (nx x y : Int) : ∃ k, crossbarlaw18_BridgeHearingIsSymmetric.f k l nx x y = some true := by
  refine ⟨2003, ?_⟩
  unfold crossbarlaw18_BridgeHearingIsSymmetric.f crossbarlaw18_sane.f crossbarlaw18_few.f
  simp only [Option.bind_some, if_true]
  by_cases h : (l.length : Int) ≤ 60
  · rw [if_pos (by simpa using h)]
    have hl : l.length ≤ 2000 := by omega
    unfold bridge_Check.f
    rw [if_pos hl]
    simp only [Option.bind_some]
    by_cases hc : checkE l nx = 0
    · have hs := (check_sorted hc).1
      have e : (checkE l nx != 0) = false := by simp [hc]
      rw [e]
      simp only [crossbarlaw18_BridgeHearingIsSymmetric.j0]
      rw [if_neg (by simp), hears_f l nx x y _ hl (by omega), hears_f l nx y x _ hl (by omega), hears_f l nx x x _ hl (by omega)]
      simp [hb_symm hs x y, hb_self hs x]
    · have e : (checkE l nx != 0) = true := by simp [hc]
      rw [e]
      simp [crossbarlaw18_BridgeHearingIsSymmetric.j0]
  · rw [if_neg (by simpa using h)]
    simp [crossbarlaw18_BridgeHearingIsSymmetric.j0]
end Go.Proofs.Ytmjenmhidnkbdaa.P
