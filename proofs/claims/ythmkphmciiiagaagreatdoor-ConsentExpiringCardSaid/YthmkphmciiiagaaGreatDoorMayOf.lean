/- What consent.MayOf returns. -/
import Derived.Test.YthmkphmciiiagaaGreatDoorIds
namespace Go.Proofs.YthmkphmciiiagaaGreatDoor
open Go Go.RowKit
def mofE (F1 F2 F3 F4 : Int) (B : Bool) : Int := if F1 ≠ 0 then F1 else if F2 ≠ 0 then F2 else if F3 ≠ 0 then F3 else if F4 ≠ 0 then F4 else if B = true then 0 else 8
/-- the answer of all ids: the first other id's that has objected or withdrawn -/
def othR (f : IdV → Bool × Int × Int) (x : IdV) (own : Bool × Int × Int) : List IdV → Bool × Int × Int
  | [] => own
  | y :: r => if y = x then othR f x own r else if (f y).2.1 = 6 ∨ (f y).2.1 = 5 then f y else othR f x own r
def mofAns (f : IdV → Bool × Int × Int) (x : IdV) (xs : List IdV) : Bool × Int × Int := if (f x).1 = true then othR f x (f x) xs else f x
end Go.Proofs.YthmkphmciiiagaaGreatDoor
