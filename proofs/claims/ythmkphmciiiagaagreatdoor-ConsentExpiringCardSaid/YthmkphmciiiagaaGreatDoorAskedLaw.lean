/- The plain law of the reference's pick. -/
import Derived.Test.YthmkphmciiiagaaGreatDoorAskRef
namespace Go.Proofs.YthmkphmciiiagaaGreatDoor
open Go Go.RowKit
def pickL (P : Int → List Stm) : List Int → Bool × Int × Int
  | [] => (false, 4, 0)
  | v :: r => if 0 ≤ (lat (P v)).1 then (decide (v = 2), v, (lat (P v)).2) else pickL P r
theorem pickL_is (st : Stm → Int) (gs : List Stm) : pickR st gs = pickL (fun v => gs.filter (fun g => decide (st g = v))) [2, 8, 9, 7] := by
  unfold pickR
  simp only [pickL]
  rfl
/-- the grants of one state among the first ones -/
def ofSt (st : Stm → Int) (gone : Int) (v : Int) (G : List Stm) : List Stm := (liveR gone G).filter (fun g => decide (st g = v))
theorem ofSt_snoc (st : Stm → Int) (gone v : Int) (G : List Stm) (j : Nat) (s : Stm) (h : G[j]? = some s) : ofSt st gone v (G.take (j + 1)) = if s.at' ≤ gone then ofSt st gone v (G.take j) else if st s = v then ofSt st gone v (G.take j) ++ [s] else ofSt st gone v (G.take j) := by
  unfold ofSt liveR
  rw [take_snoc h, List.filter_append, List.filter_append]
  by_cases h1 : s.at' ≤ gone
  · simp [h1]
  · by_cases h2 : st s = v
    · simp [h1, h2]
    · simp [h1, h2]
theorem stR_range (tm : PTerm) (cs : List Stm) (at' : Int) (g : Stm) : stR tm cs at' g = 2 ∨ stR tm cs at' g = 8 ∨ stR tm cs at' g = 9 ∨ stR tm cs at' g = 7 := by
  unfold stR; split; · simp
  split; · simp
  split <;> simp
end Go.Proofs.YthmkphmciiiagaaGreatDoor
