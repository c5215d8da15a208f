/- What consent.reachable and consent.checkRegion (several ids) return. -/
import Derived.Test.YthmkphmciiiagaaGreatDoorAud
import Derived.Test.YthmkphmciiiagaaGreatDoorChoices
namespace Go.Proofs.YthmkphmciiiagaaGreatDoor
open Go Go.RowKit
/-- by some channel -/
def reachB (p : List Purp) (l : List Stm) (y : IdV) (pu rg : ByteArray) (at' : Int) : Bool := chans.any (fun ch => (mayAns p l y.k y.t pu rg ch at').1)
def regErrN (p : List Purp) (l : List Stm) (xs : List IdV) (rg : ByteArray) (at' : Int) : Int := audErr p l xs (headName p) rg 1 at'
end Go.Proofs.YthmkphmciiiagaaGreatDoor
