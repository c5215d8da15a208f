/- What consent.checkRegion (one id) and consent.Choices return. -/
import Derived.Test.YthmkphmciiiagaaGreatDoorMayTop
namespace Go.Proofs.YthmkphmciiiagaaGreatDoor
open Go Go.RowKit
structure Chc where
  pu : ByteArray
  ch : Int
  a : Bool × Int × Int
def Chc.cells (e : Chc) : List Value := [.string e.pu, .int .i64 e.ch, .bool e.a.1, .int .i64 e.a.2.1, .int .i64 e.a.2.2]
def rChc : Rep Chc := .flat 5 Chc.cells (fun _ => rfl)
theorem flatChc : rChc.Flat Chc.cells := fun _ _ _ _ => Iff.rfl
theorem oneChc (t : Chc) : ∀ u ∈ t.cells, u.oneCell' = true := fun u hu => by
  simp only [Chc.cells, List.mem_cons, List.not_mem_nil, or_false] at hu
  rcases hu with rfl | rfl | rfl | rfl | rfl <;> rfl
def headName : List Purp → ByteArray
  | [] => ⟨#[]⟩
  | u :: _ => u.name
def regErr (p : List Purp) (l : List Stm) (k : Int) (t rg : ByteArray) (at' : Int) : Int := first3 (stmsFault p l) (L.idFault k t) (qErr p (headName p) rg 1 at')
/-- the choice of a purpose and a channel -/
def chcS (p : List Purp) (l : List Stm) (k : Int) (t rg : ByteArray) (at' : Int) (u : Purp) (ch : Int) : List Chc := if (termAt p u.name rg ch).isSome then [⟨u.name, ch, mayAns p l k t u.name rg ch at'⟩] else []
abbrev chans : List Int := [1, 2, 3, 4]
def chcU (p : List Purp) (l : List Stm) (k : Int) (t rg : ByteArray) (at' : Int) (u : Purp) : List Chc := chans.flatMap (chcS p l k t rg at' u)
def chcAll (p : List Purp) (l : List Stm) (k : Int) (t rg : ByteArray) (at' : Int) : List Chc := p.flatMap (chcU p l k t rg at')
theorem chans_at (i : Nat) (h : i < 4) : chans[i]? = some ((i : Int) + 1) := by
  obtain rfl | rfl | rfl | rfl : i = 0 ∨ i = 1 ∨ i = 2 ∨ i = 3 := by omega
  all_goals rfl
theorem flatMap_take {α β : Type} (f : α → List β) (xs : List α) (k : Nat) (x : α) (h : xs[k]? = some x) : (xs.take (k + 1)).flatMap f = (xs.take k).flatMap f ++ f x := by
  rw [take_snoc h, List.flatMap_append]
  simp
theorem chcU_len (p : List Purp) (l : List Stm) (k : Int) (t rg : ByteArray) (at' : Int) (u : Purp) (i : Nat) : ((chans.take i).flatMap (chcS p l k t rg at' u)).length ≤ 4 := by
  have h1 : ∀ (cs : List Int), (cs.flatMap (chcS p l k t rg at' u)).length ≤ cs.length := fun cs => by
    induction cs with
    | nil => simp
    | cons x r ih =>
      rw [List.flatMap_cons, List.length_append, List.length_cons]
      have : (chcS p l k t rg at' u x).length ≤ 1 := by unfold chcS; split <;> simp
      omega
  refine Nat.le_trans (h1 _) ?_
  rw [List.length_take]
  simp; omega
theorem chcAll_len (p : List Purp) (l : List Stm) (k : Int) (t rg : ByteArray) (at' : Int) : ∀ ps : List Purp, (ps.flatMap (chcU p l k t rg at')).length ≤ 4 * ps.length
  | [] => by simp
  | u :: r => by
    rw [List.flatMap_cons, List.length_append, List.length_cons]
    have h1 := chcU_len p l k t rg at' u 4
    have h2 := chcAll_len p l k t rg at' r
    have h3 : chcU p l k t rg at' u = (chans.take 4).flatMap (chcS p l k t rg at' u) := rfl
    rw [h3]
    omega
def GivesChc (xs : List Chc) (F : Int) (w : World) (e : Ending) (w' : World) : Prop := ∃ A c, e = .returned (.tuple #[.slice A xs.length c, .int .i64 F]) ∧ Sl rChc (Lt w.heap.size) w' A xs ∧ Below w.heap.size w w'
theorem loadAskI {w : World} {X : Nat} {a b c d e f g h : Value} (l : LV w X #[a, b, c, d, e, f, g, h] 102) : (Instr.loadAt 102 (.pointer (some ⟨X, 0, none⟩))).run Tryz.prog w = .ok (.agg #[a, b, c, d, e, f, g, h]) w := by
  have c0 := l.all
  go_simp
end Go.Proofs.YthmkphmciiiagaaGreatDoor
