/- What consent.MayOf returns. -/
import Derived.Test.YthmkphmciiiagaaGreatDoorIds
namespace Go.Proofs.YthmkphmciiiagaaGreatDoor
open Go Go.RowKit
def mofE (F1 F2 F3 F4 : Int) (B : Bool) : Int := if F1 ≠ 0 then F1 else if F2 ≠ 0 then F2 else if F3 ≠ 0 then F3 else if F4 ≠ 0 then F4 else if B = true then 0 else 8
/-- the answer of all ids: the first other id's that has objected or withdrawn -/
def othR (f : IdV → Bool × Int × Int) (x : IdV) (own : Bool × Int × Int) : List IdV → Bool × Int × Int
  | [] => own
  | y :: r => if y = x then othR f x own r else if (f y).2.1 = 6 ∨ (f y).2.1 = 5 then f y else othR f x own r
def mofAns (f : IdV → Bool × Int × Int) (x : IdV) (xs : List IdV) : Bool × Int × Int := if (f x).1 = true then othR f x (f x) xs else f x
theorem othR_at {f : IdV → Bool × Int × Int} {x y : IdV} {own : Bool × Int × Int} {xs : List IdV} {j : Nat} (h : xs[j]? = some y) : othR f x own (xs.drop j) = if y = x then othR f x own (xs.drop (j + 1)) else if (f y).2.1 = 6 ∨ (f y).2.1 = 5 then f y else othR f x own (xs.drop (j + 1)) := by
  obtain ⟨hk, rfl⟩ := List.getElem?_eq_some_iff.1 h
  rw [List.drop_eq_getElem_cons hk, othR]
theorem idv_ne {x y : IdV} (h : ¬ y = x) : (y.k == x.k) = false ∨ ((y.k == x.k) = true ∧ (y.t.toList == x.t.toList) = false) := by
  by_cases h1 : y.k = x.k
  · refine .inr ⟨by simpa using h1, ?_⟩
    cases h3 : (y.t.toList == x.t.toList) with
    | false => rfl
    | true => exact absurd (idv_eq h1 h3) h
  · exact .inl (by simpa using h1)
end Go.Proofs.YthmkphmciiiagaaGreatDoor
