/- What event.within and event.CheckZone return. -/
import Derived.Test.YtmlpkejeglpciaaDoorZoneLaw
import Derived.Test.YtmlpkejeglpciaaDoorRep
import Derived.Test.YtmlpkejeglpciaaDoorPreds
import Derived.Test.YtmlpkejeglpciaaDoorMix
import Derived.WalkLawsBesides
namespace Go.Proofs.YtmlpkejeglpciaaDoor
open Go.RowKit
theorem LV.kb {w w' : World} {X B : Nat} {cs : Array Value} {T : TypeId} (h : LV w X cs T) (k : Below B w w') (hb : X < B) : LV w' X cs T := (k.block X hb).trans h
def Sft.cells (s : Sft) : List Value := [.int .i64 s.at', .int .i64 s.off]
def rSft : Rep Sft := .flat 2 Sft.cells (fun _ => rfl)
/-- the cells of a shift in a slice -/
theorem Sl.sft {N : Nat → Prop} {w : World} {A : Option Addr} {xs : List Sft} (h : Sl rSft N w A xs) (k : Nat) (s : Sft) (hk : xs[k]? = some s) : ∃ blk off, A = some ⟨blk, off, none⟩ ∧ blk < w.heap.size ∧
    w.cell? ⟨blk, off + k * 2, none⟩ = some (.int .i64 s.at') ∧ w.cell? ⟨blk, off + k * 2 + 1, none⟩ = some (.int .i64 s.off) := by
  obtain ⟨blk, off, l, e, h1, _, h3, h4⟩ := h k s hk
  obtain rfl : l = Sft.cells s := h3
  exact ⟨blk, off, e, h1, h4 0 _ rfl, h4 1 _ rfl⟩
def Sft.small (s : Sft) : Prop := -10000000000000 ≤ s.at' ∧ s.at' ≤ 10000000000000
end Go.Proofs.YtmlpkejeglpciaaDoor
