/- The plain law of quiet times: the minutes of a day that are quiet, forwards and backwards. No program in sight. -/
import Derived.Test.YtneopbbafdmpkaaDoorZoneLaw
namespace Go.Proofs.YtneopbbafdmpkaaDoor
/-- a minute m is quiet from f to t -/
def qAt (f t m : Int) : Bool := if f < t then decide (f ≤ m) && decide (m < t) else decide (f ≤ m) || decide (m < t)
theorem qAt_from {f t : Int} (h : f ≠ t) : qAt f t f = true := by
  unfold qAt
  split <;> simp
  omega
theorem qAt_to {f t : Int} (h : f ≠ t) : qAt f t t = false := by
  unfold qAt
  split
  · simp
  · simp; omega
/-- the minute ahead of m -/
def ahead (m : Int) : Int := if m = 0 then 1439 else m - 1
theorem ahead_in {m : Int} (h : 0 ≤ m ∧ m ≤ 1439) : 0 ≤ ahead m ∧ ahead m ≤ 1439 := by unfold ahead; split <;> omega
theorem qAt_end {f t m : Int} (hft : f ≠ t) (hf : 0 ≤ f ∧ f ≤ 1439) (ht : 0 ≤ t ∧ t ≤ 1439) (hm : 0 ≤ m ∧ m ≤ 1439) (h1 : m ≠ f) (h2 : m ≠ t) (h3 : ahead m = t) : qAt f t m = false := by
  unfold ahead at h3
  unfold qAt
  split at h3 <;> split <;> simp <;> omega
theorem qAt_step {f t m : Int} (hf : 0 ≤ f ∧ f ≤ 1439) (ht : 0 ≤ t ∧ t ≤ 1439) (hm : 0 ≤ m ∧ m ≤ 1439) (h1 : m ≠ f) (h2 : m ≠ t) (h3 : ahead m ≠ t) : qAt f t m = qAt f t (ahead m) := by
  unfold ahead at *
  unfold qAt
  split at h3
  · split
    · rw [Bool.eq_iff_iff]; simp; omega
    · rw [Bool.eq_iff_iff]; simp; omega
  · split
    · rw [Bool.eq_iff_iff]; simp; omega
    · rw [Bool.eq_iff_iff]; simp; omega
/-- how far it is back from m to f -/
def backTo (f m : Int) : Nat := if f ≤ m then (m - f).toNat else (m + 1440 - f).toNat
theorem backTo_less {f m : Int} (hf : 0 ≤ f ∧ f ≤ 1439) (hm : 0 ≤ m ∧ m ≤ 1439) (h1 : m ≠ f) : backTo f (ahead m) < backTo f m := by
  unfold ahead backTo
  split <;> split <;> split <;> omega
theorem ahead_rem {m : Int} (hm : 0 ≤ m ∧ m ≤ 1439) : (m + 1440 - 1) % 1440 = ahead m := by
  unfold ahead
  split <;> omega
/-- the minute of a day that a clock shows -/
def minute (xs : List Sft) (m : Int) : Int := (clk xs m + 1440) % 1440
theorem minute_in (xs : List Sft) (m : Int) (h : ∀ s ∈ xs, -720 ≤ s.off ∧ s.off ≤ 840) (hm : 0 ≤ m) : 0 ≤ minute xs m ∧ minute xs m ≤ 1439 := by
  have := clk_le xs m h
  unfold minute
  omega
end Go.Proofs.YtneopbbafdmpkaaDoor
