/- Several texts in one: MakeI, Nest, CloneI. -/
import Derived.Test.YteabhkmhogmoiaaGreatDoorPackM
import Derived.Test.YteabhkmhogmoiaaGreatDoorPackZ
import Derived.Test.YteabhkmhogmoiaaGreatDoorPackR
import Derived.Test.YteabhkmhogmoiaaGreatDoorPackJ
import Derived.Lib.SliceRun
/- Slices of numbers that a call makes and writes. -/
namespace Go.Proofs.YteabhkmhogmoiaaGreatDoor
open Go Go.RowKit
theorem tyIntP : STy 22 3 rInt.size 8 (.int .i64 0) := ⟨Tryz.underlying22, by kernel_rfl, rfl, by decide⟩
theorem madeI (n : Nat) : madeCells (Value.int .i64 0).cells ((n : Int).toNat * rInt.size) = (List.replicate n (Value.int .i64 0)).toArray := by
  rw [Int.toNat_natCast, show n * rInt.size = n by simp [rInt, Rep.flat]]
  apply Array.ext
  · simp [madeCells]
  · intro i h1 h2
    simp [madeCells, Value.cells, Nat.mod_one]
theorem makeI (n : Nat) (hn : n ≤ 1000000) (w : World) : (Instr.makeSlice 22 (.int .i64 n) (.int .i64 n)).run Tryz.prog w = .ok (.slice (some ⟨w.heap.size, 0, none⟩) n n) (w.alloc (.cells (Array.replicate n (Value.int .i64 0)) 3)) := by
  obtain ⟨i, hi, hz0, hz1, hz2⟩ := info_parts tyIntP.info
  have h := run_makeSlice (P := Tryz.prog) w 22 3 i _ tyIntP.under hi hz0 .i64 .i64 n n (by omega) (by omega) (by rw [hz1, Int.toNat_natCast, show n * rInt.size = n by simp [rInt, Rep.flat]]; omega) (by rw [hz2]; omega) (by omega)
  rw [hz1, madeI n, Int.toNat_natCast, List.toArray_replicate] at h
  exact h
theorem Mem.putI {w0 w : World} {cs : List Chunk} (S : Mem w0 w cs) (i : Nat) {B E g n cap : Nat} {xs : List Int} (hi : cs[i]? = some (.own rInt B E (.slice (some ⟨g, 0, none⟩) n cap) xs)) (hn : n = xs.length) (k : Nat) (x x' : Int) (hx : xs[k]? = some x) : Mem w0 (w.setCell ⟨g, k, none⟩ (.int .i64 x')) (cs.set i (.own rInt B E (.slice (some ⟨g, 0, none⟩) n cap) (xs.set k x'))) := by
  have := S.put flatInt i hi hn k x x' hx 0 (by decide) (.int .i64 x') rfl
  rw [show k * rInt.size + 0 = k by simp [rInt, Rep.flat]] at this
  exact this
theorem Own.intAt {M : Nat → Prop} {B E g n cap : Nat} {w : World} {xs : List Int} (h : Own rInt M B E w (.slice (some ⟨g, 0, none⟩) n cap) xs) (hn : n = xs.length) (k : Nat) (x : Int) (hk : xs[k]? = some x) : w.cell? ⟨g, k, none⟩ = some (.int .i64 x) ∧ w.frozen? ⟨g, k, none⟩ = false := by
  have := h.cellP flatInt hn k x hk 0 _ rfl
  rw [show k * rInt.size + 0 = k by simp [rInt, Rep.flat]] at this
  exact this
end Go.Proofs.YteabhkmhogmoiaaGreatDoor

/- Literal slices of slices: facts of values, stable while the stream goes on. -/
namespace Go.Proofs.YteabhkmhogmoiaaGreatDoor
open Go.RowKit
def IsNest (T : TypeId) (B n : Nat) (P : Value → World → Prop) (v : Value) (w : World) : Prop := ∃ (blk : Nat) (vs : List Value), vs.length = n ∧ v = .slice (some ⟨blk, 0, none⟩) n n ∧ LV w blk vs.toArray T ∧ B ≤ blk ∧ ∀ u ∈ vs, P u w
def IsAt (T : TypeId) (B : Nat) (P : Value → World → Prop) (v : Value) (w : World) : Prop := ∃ (blk k : Nat) (vs : List Value), k < vs.length ∧ v = .pointer (some ⟨blk, k, none⟩) ∧ LV w blk vs.toArray T ∧ B ≤ blk ∧ ∀ u ∈ vs, P u w
def PI (B : Nat) (u : Value) (w : World) : Prop := ∃ zs : List Int, zs.length ≤ 4 ∧ IsInts B u zs w
def PS (B : Nat) (u : Value) (w : World) : Prop := ∃ zs : List ByteArray, zs.length ≤ 2 ∧ (∀ s ∈ zs, s.size ≤ 10) ∧ IsStrs B u zs w
theorem PI.keep {b B : Nat} {u : Value} {w w' : World} (h : PI B u w) (k : SK b w w') (hb : b < B) : PI B u w' := by obtain ⟨zs, h1, h2⟩ := h; exact ⟨zs, h1, h2.keep k hb⟩
theorem PS.keep {b B : Nat} {u : Value} {w w' : World} (h : PS B u w) (k : SK b w w') (hb : b < B) : PS B u w' := by obtain ⟨zs, h1, h2, h3⟩ := h; exact ⟨zs, h1, h2, h3.keep k hb⟩
theorem PI.form {B : Nat} {u : Value} {w : World} (h : PI B u w) : ∃ A n c, u = .slice A n c := by
  obtain ⟨zs, _, ⟨_, rfl⟩ | ⟨blk, rfl, _⟩⟩ := h
  · exact ⟨_, _, _, rfl⟩
  · exact ⟨_, _, _, rfl⟩
theorem PS.form {B : Nat} {u : Value} {w : World} (h : PS B u w) : ∃ A n c, u = .slice A n c := by
  obtain ⟨zs, _, _, ⟨_, rfl⟩ | ⟨blk, rfl, _⟩⟩ := h
  · exact ⟨_, _, _, rfl⟩
  · exact ⟨_, _, _, rfl⟩
theorem IsNest.keep {T : TypeId} {b B n : Nat} {P : Value → World → Prop} {v : Value} {w w' : World} (hP : ∀ u, P u w → P u w') (h : IsNest T B n P v w) (k : SK b w w') (hb : b < B) : IsNest T B n P v w' := by
  obtain ⟨blk, vs, h1, h2, h3, h4, h5⟩ := h
  exact ⟨blk, vs, h1, h2, h3.keep k (by omega), h4, fun u hu => hP u (h5 u hu)⟩
theorem IsAt.keep {T : TypeId} {b B : Nat} {P : Value → World → Prop} {v : Value} {w w' : World} (hP : ∀ u, P u w → P u w') (h : IsAt T B P v w) (k : SK b w w') (hb : b < B) : IsAt T B P v w' := by
  obtain ⟨blk, i, vs, h1, h2, h3, h4, h5⟩ := h
  exact ⟨blk, i, vs, h1, h2, h3.keep k (by omega), h4, fun u hu => hP u (h5 u hu)⟩
end Go.Proofs.YteabhkmhogmoiaaGreatDoor

/- What slices.Clone makes of ids. -/
namespace Go.Proofs.YteabhkmhogmoiaaGreatDoor
open Go Go.RowKit
set_option maxHeartbeats 4000000 in
set_option maxRecDepth 100000 in
theorem cloneI_any (A : Option Addr) (l : List IdV) (c : Nat) (w : World) (hL : Sl rId (fun _ => False) w A l) (hl : l.length ≤ 1000) :
    Calls Tryz.prog 10 #[.slice A l.length c] w fun e w' => ∃ A' c', e = .returned (.slice A' l.length c') ∧ Mem w w' [.own rId w.heap.size 35 (.slice A' l.length c') l] := by
  have he : ∀ (a : Option Addr) (n c : Nat) (w : World), (binOp .eql 36 (.slice a n c) (.slice none 0 0)).run Tryz.prog w = .ok (.bool a.isNone) w := fun a n c w => Lib.run_eql_slice_nil w _ _ a n c 0 0 tyIdP.under
  cases A with
  | none =>
    obtain rfl := Sl.nilOf hL
    have S : Mem w w [.own rId w.heap.size 35 (.slice none 0 0) []] := (Mem.start w).nil rId w.heap.size 35
    go_enter Tryz.func10, Tryz.ntmps10
    go_wp2_with fail
    go_ret
    exact ⟨none, 0, rfl, S⟩
  | some ad =>
    have S := (Mem.start w).newAt #[] 35 w.heap.size rfl
    have S1 : Mem w (w.alloc (.cells #[] 35)) [.own rId w.heap.size 35 (.slice (some ⟨w.heap.size, 0, none⟩) 0 0) []] := S.room (r := rId) 0 rfl rfl (by decide) rfl
    have Hc := Lib.hid (Sl.flatCells flatId (fun _ => rfl) (hL.keepB S1.b))
    have hsz := S1.b.size
    have HS := Lib.hid S1
    have Hl := Lib.hid hl
    clear S S1 hL hl
    go_enter Tryz.func10, Tryz.ntmps10
    go_wp2_with (at_builtin; refine HS.out.appN flatId 0 rfl tyIdP rfl _ _ rfl l l.length c rfl rfl ad rfl Hc.out (fun y _ => oneIdP y) (fun _ => rfl) hsz (by simp only [List.length_nil]; have := Hl.out; omega) (by decide) ?_; intro v5 w5 S5)
    obtain ⟨A5, c5, e5⟩ := (S5.ow 0 rfl).len
    subst e5
    go_ret
    exact ⟨A5, c5, rfl, S5⟩
end Go.Proofs.YteabhkmhogmoiaaGreatDoor
