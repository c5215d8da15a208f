/- The plain law of moments: the first moment from a start on, minute by minute, is the one that the shifts give. No program in sight. -/
import Derived.Test.YtcbpajhlollcbaaGreatDoorZoneLaw
namespace Go.Proofs.YtcbpajhlollcbaaGreatDoor
/-- where the search by minutes begins -/
def mom0 (day : Int) : Int := max 0 (day * 1440 - 2000)
theorem mom_all {xs : List Sft} (hz : GoodZ xs) (day minute m : Int) (hm : 0 ≤ minute) (h : ∀ k, mom0 day ≤ k → k < m → clk xs k < day * 1440 + minute) : ∀ k, 0 ≤ k → k < m → clk xs k < day * 1440 + minute := fun k h0 h1 => by
  by_cases hk : mom0 day ≤ k
  · exact h k hk h1
  · have := clk_le xs k (fun s hs => (hz.rng s hs).2)
    unfold mom0 at hk
    omega
theorem mom_first {xs : List Sft} (hz : GoodZ xs) (day minute m : Int) (hm : 0 ≤ minute) (h0 : mom0 day ≤ m) (h : ∀ k, mom0 day ≤ k → k < m → clk xs k < day * 1440 + minute) (he : m < 4321440) (hT : day * 1440 + minute ≤ clk xs m) : reachGo (day * 1440 + minute) xs = some m := by
  have hf : FirstAt xs 0 (day * 1440 + minute) m := ⟨by unfold mom0 at h0; omega, he, hT, mom_all hz day minute m hm h⟩
  obtain ⟨h1, h2⟩ := reach_first hz (day * 1440 + minute)
  cases hr : reachGo (day * 1440 + minute) xs with
  | none => exact (hf.no (h2 hr)).elim
  | some n => rw [(h1 n hr).one hf]
theorem mom_none {xs : List Sft} (hz : GoodZ xs) (day minute m : Int) (hm : 0 ≤ minute) (h : ∀ k, mom0 day ≤ k → k < m → clk xs k < day * 1440 + minute) (he : 4321440 ≤ m) : reachGo (day * 1440 + minute) xs = none := by
  have hn : NoneAt xs 0 (day * 1440 + minute) := fun k h0 h1 => mom_all hz day minute m hm h k h0 (by omega)
  obtain ⟨h1, h2⟩ := reach_first hz (day * 1440 + minute)
  cases hr : reachGo (day * 1440 + minute) xs with
  | none => rfl
  | some n => exact ((h1 n hr).no hn).elim
end Go.Proofs.YtcbpajhlollcbaaGreatDoor
