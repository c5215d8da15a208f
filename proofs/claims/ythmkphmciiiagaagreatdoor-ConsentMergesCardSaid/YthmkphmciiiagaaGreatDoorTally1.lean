/- What consent.reachable and consent.checkRegion (several ids) return. -/
import Derived.Test.YthmkphmciiiagaaGreatDoorAud
import Derived.Test.YthmkphmciiiagaaGreatDoorChoices
namespace Go.Proofs.YthmkphmciiiagaaGreatDoor
open Go Go.RowKit
/-- by some channel -/
def reachB (p : List Purp) (l : List Stm) (y : IdV) (pu rg : ByteArray) (at' : Int) : Bool := chans.any (fun ch => (mayAns p l y.k y.t pu rg ch at').1)
theorem may_no {p : List Purp} {l : List Stm} {k : Int} {t pu rg : ByteArray} {ch at' : Int} (h : (termAt p pu rg ch).isSome = false) : (mayAns p l k t pu rg ch at').1 = false := by
  unfold mayAns
  cases hq : termAt p pu rg ch with
  | none => rfl
  | some t => rw [hq] at h; cases h
theorem any_at {f : Int → Bool} {m : Nat} (h : m < 4) : (chans.drop m).any f = (f ((m : Int) + 1) || (chans.drop (m + 1)).any f) := by
  have h1 := chans_at m h
  obtain ⟨hk, e⟩ := List.getElem?_eq_some_iff.1 h1
  rw [List.drop_eq_getElem_cons hk, List.any_cons, e]
def regErrN (p : List Purp) (l : List Stm) (xs : List IdV) (rg : ByteArray) (at' : Int) : Int := audErr p l xs (headName p) rg 1 at'
end Go.Proofs.YthmkphmciiiagaaGreatDoor
