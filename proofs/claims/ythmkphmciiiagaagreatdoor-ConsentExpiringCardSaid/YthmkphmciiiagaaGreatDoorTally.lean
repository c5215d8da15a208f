/- What consent.Tally returns. -/
import Derived.Test.YthmkphmciiiagaaGreatDoorTally1
import Derived.Test.YthmkphmciiiagaaGreatDoorSortInt
import Derived.Test.YthmkphmciiiagaaGreatDoorProof
namespace Go.Proofs.YthmkphmciiiagaaGreatDoor
open Go Go.RowKit
/-- how many of some ids may be written to -/
def cntT (p : List Purp) (l : List Stm) (rg : ByteArray) (at' : Int) (ys : List IdV) (u : Purp) : Int := ((ys.filter (fun y => reachB p l y u.name rg at')).length : Nat)
def talAns (p : List Purp) (l : List Stm) (xs : List IdV) (rg : ByteArray) (at' : Int) : List Int := p.map (cntT p l rg at' (onceI xs))
theorem madeI (n : Nat) : madeCells (Value.int .i64 0).cells ((n : Int).toNat * rInt.size) = (List.replicate n (Value.int .i64 0)).toArray := by
  rw [Int.toNat_natCast, show n * rInt.size = n by simp [rInt, Rep.flat]]
  apply Array.ext
  · simp [madeCells]
  · intro i h1 h2
    simp [madeCells, Value.cells, Nat.mod_one]
theorem makeI (n : Nat) (hn : n ≤ 1000000) (w : World) : (Instr.makeSlice 22 (.int .i64 n) (.int .i64 n)).run Tryz.prog w = .ok (.slice (some ⟨w.heap.size, 0, none⟩) n n) (w.alloc (.cells (Array.replicate n (Value.int .i64 0)) 3)) := by
  obtain ⟨i, hi, hz0, hz1, hz2⟩ := info_parts tyIntP.info
  have h := run_makeSlice (P := Tryz.prog) w 22 3 i _ tyIntP.under hi hz0 .i64 .i64 n n (by omega) (by omega) (by rw [hz1, Int.toNat_natCast, show n * rInt.size = n by simp [rInt, Rep.flat]]; omega) (by rw [hz2]; omega) (by omega)
  rw [hz1, madeI n, Int.toNat_natCast, List.toArray_replicate] at h
  exact h
theorem put_mid {a b : List Int} {v v' : Int} {j : Nat} (h : a.length = j) : (a ++ v :: b).set j v' = a ++ v' :: b := by
  subst h
  rw [List.set_append_right _ _ (Nat.le_refl _), Nat.sub_self, List.set_cons_zero]
theorem get_mid {a b : List Int} {v : Int} {j : Nat} (h : a.length = j) : (a ++ v :: b)[j]? = some v := by
  subst h
  rw [List.getElem?_append_right (Nat.le_refl _), Nat.sub_self]; rfl
theorem cntT_snoc {p : List Purp} {l : List Stm} {rg : ByteArray} {at' : Int} {ys : List IdV} {t : Nat} {y : IdV} {u : Purp} (h : ys[t]? = some y) : cntT p l rg at' (ys.take (t + 1)) u = cntT p l rg at' (ys.take t) u + if reachB p l y u.name rg at' = true then 1 else 0 := by
  unfold cntT
  rw [take_snoc h, List.filter_append, List.length_append]
  by_cases hr : reachB p l y u.name rg at' = true
  · simp [hr]
  · simp [hr]
/-- a number of a slice of the call's own is written -/
theorem Mem.putI {w0 w : World} {cs : List Chunk} (S : Mem w0 w cs) (i : Nat) {B E g n cap : Nat} {xs : List Int} (hi : cs[i]? = some (.own rInt B E (.slice (some ⟨g, 0, none⟩) n cap) xs)) (hn : n = xs.length) (k : Nat) (x x' : Int) (hx : xs[k]? = some x) : Mem w0 (w.setCell ⟨g, k, none⟩ (.int .i64 x')) (cs.set i (.own rInt B E (.slice (some ⟨g, 0, none⟩) n cap) (xs.set k x'))) := by
  have := S.put flatInt i hi hn k x x' hx 0 (by decide) (.int .i64 x') rfl
  rw [show k * rInt.size + 0 = k by simp [rInt, Rep.flat]] at this
  exact this
theorem Own.intAt {M : Nat → Prop} {B E g n cap : Nat} {w : World} {xs : List Int} (h : Own rInt M B E w (.slice (some ⟨g, 0, none⟩) n cap) xs) (hn : n = xs.length) (k : Nat) (x : Int) (hk : xs[k]? = some x) : w.cell? ⟨g, k, none⟩ = some (.int .i64 x) ∧ w.frozen? ⟨g, k, none⟩ = false := by
  have := h.cellP flatInt hn k x hk 0 _ rfl
  rw [show k * rInt.size + 0 = k by simp [rInt, Rep.flat]] at this
  exact this
theorem cntT_le (p : List Purp) (l : List Stm) (rg : ByteArray) (at' : Int) (ys : List IdV) (u : Purp) : 0 ≤ cntT p l rg at' ys u ∧ cntT p l rg at' ys u ≤ ys.length := by
  unfold cntT
  have := List.length_filter_le (fun y => reachB p l y u.name rg at') ys
  omega
end Go.Proofs.YthmkphmciiiagaaGreatDoor
