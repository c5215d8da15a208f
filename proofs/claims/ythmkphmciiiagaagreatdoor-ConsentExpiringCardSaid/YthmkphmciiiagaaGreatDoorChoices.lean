/- What consent.checkRegion (one id) and consent.Choices return. -/
import Derived.Test.YthmkphmciiiagaaGreatDoorMayTop
namespace Go.Proofs.YthmkphmciiiagaaGreatDoor
open Go Go.RowKit
structure Chc where
  pu : ByteArray
  ch : Int
  a : Bool × Int × Int
def Chc.cells (e : Chc) : List Value := [.string e.pu, .int .i64 e.ch, .bool e.a.1, .int .i64 e.a.2.1, .int .i64 e.a.2.2]
def rChc : Rep Chc := .flat 5 Chc.cells (fun _ => rfl)
def headName : List Purp → ByteArray
  | [] => ⟨#[]⟩
  | u :: _ => u.name
def regErr (p : List Purp) (l : List Stm) (k : Int) (t rg : ByteArray) (at' : Int) : Int := first3 (stmsFault p l) (L.idFault k t) (qErr p (headName p) rg 1 at')
/-- the choice of a purpose and a channel -/
def chcS (p : List Purp) (l : List Stm) (k : Int) (t rg : ByteArray) (at' : Int) (u : Purp) (ch : Int) : List Chc := if (termAt p u.name rg ch).isSome then [⟨u.name, ch, mayAns p l k t u.name rg ch at'⟩] else []
abbrev chans : List Int := [1, 2, 3, 4]
def chcU (p : List Purp) (l : List Stm) (k : Int) (t rg : ByteArray) (at' : Int) (u : Purp) : List Chc := chans.flatMap (chcS p l k t rg at' u)
def chcAll (p : List Purp) (l : List Stm) (k : Int) (t rg : ByteArray) (at' : Int) : List Chc := p.flatMap (chcU p l k t rg at')
theorem flatMap_take {α β : Type} (f : α → List β) (xs : List α) (k : Nat) (x : α) (h : xs[k]? = some x) : (xs.take (k + 1)).flatMap f = (xs.take k).flatMap f ++ f x := by
  rw [take_snoc h, List.flatMap_append]
  simp
def GivesChc (xs : List Chc) (F : Int) (w : World) (e : Ending) (w' : World) : Prop := ∃ A c, e = .returned (.tuple #[.slice A xs.length c, .int .i64 F]) ∧ Sl rChc (Lt w.heap.size) w' A xs ∧ Below w.heap.size w w'
end Go.Proofs.YthmkphmciiiagaaGreatDoor
