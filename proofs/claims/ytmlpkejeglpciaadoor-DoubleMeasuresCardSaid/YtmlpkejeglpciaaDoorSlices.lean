/- Slices that a call owns, or reads, whatever their elements: laws on append and make for the walk. -/
import Derived.Test.YtmlpkejeglpciaaDoorRows
import Derived.WalkKit
import Derived.ProofKit
import Derived.OwnWalk
import Derived.Below
import Derived.Lib.Hide
import Derived.Handy
namespace Go.Proofs.YtmlpkejeglpciaaDoor
open Go.RowKit

/-- A slice type T of elements E, each of so many cells and bytes, with the zero value z. -/
structure STy (T E : TypeId) (size bytes : Nat) (z : Value) : Prop where
  under : Tryd.prog.underlying T = some (.slice E)
  info : (Tryd.prog.info? E).map (fun i => (i.zero, i.size, i.bytes)) = some (some z, size, bytes)
  zsize : z.cells.size = size
  pos : 0 < size

/-- The slice v can be read: these are its cells. -/
def Rd (w : World) (v : Value) (n size : Nat) (xs : List Value) : Prop :=
  xs.length = n * size ∧ ((∃ a c, v = .slice a 0 c ∧ n = 0) ∨ ∃ blk off cap, v = .slice (some ⟨blk, off, none⟩) n cap ∧ blk < w.heap.size ∧ ∀ i x, xs[i]? = some x → w.cell? ⟨blk, off + i, none⟩ = some x)

theorem add_at (blk off i : Nat) : (⟨blk, off, none⟩ : Addr).add i = ⟨blk, off + i, none⟩ := by unfold Addr.add; split <;> simp_all

theorem Rd.ofOwn {w : World} {B E size : Nat} {v : Value} {n : Nat} {xs : List Value} (h : w.ownsRow B E size v n xs) : Rd w v n size xs := by
  refine ⟨h.1, ?_⟩
  rcases h.2 with ⟨rfl, h0⟩ | ⟨g, cap, cur, rfl, hb, hg, hn, hc, hs, ht⟩
  · exact .inl ⟨none, 0, rfl, h0⟩
  · refine .inr ⟨g, 0, cap, rfl, (h.lt g rfl).2, fun i x hx => ?_⟩
    have := h.cells (g := g) rfl i x hx
    rwa [add_at] at this
theorem Rd.keep {w w' : World} {v : Value} {n size : Nat} {xs : List Value} (h : Rd w v n size xs) (hk : Below w.heap.size w w') : Rd w' v n size xs := by
  refine ⟨h.1, ?_⟩
  rcases h.2 with h0 | ⟨blk, off, cap, rfl, hb, hc⟩
  · exact .inl h0
  · exact .inr ⟨blk, off, cap, rfl, Nat.lt_of_lt_of_le hb hk.size, fun i x hx => by rw [hk.cell (p := ⟨blk, off + i, none⟩) hb]; exact hc i x hx⟩
theorem own_keep {w w' : World} {B E size : Nat} {v : Value} {n : Nat} {xs : List Value} (h : w.ownsRow B E size v n xs) (hk : Below w.heap.size w w') : w'.ownsRow B E size v n xs :=
  World.ownsRow.kept (row := none) h ⟨hk.os, hk.tape, hk.output, hk.size, fun k hk' _ => hk.block k hk'⟩ (by cases hv : v.ownBlock <;> simp)

section
variable {ops : Array Oper} {rest : List Oper} {o : Oper} {a : Act} {Q : Exit → Act → World → Prop}
/-- append of elements that were just written out -/
theorem app_lit {w0 : World} {cs : Array Value} {T E size bytes : Nat} {z : Value} (ty : STy T E size bytes z) (hgd : o.guard = none) (s x : Operand) (ho : o.op = .call { callee := .builtin .append, args := #[s, x], argTypes := #[T, T] })
    (B : Nat) (v : Value) (n : Nat) (xs : List Value) (m c : Nat) (hs : a.eval s = v) (hown : w0.ownsRow B E size v n xs) (hx : a.eval x = .slice (some ⟨w0.heap.size, 0, none⟩) m c) (hcs : cs.size = m * size) (h1 : ∀ u ∈ cs.toList, u.oneCell' = true)
    (hB : B ≤ w0.heap.size) (hlen : n + m ≤ 1000000000) (hby : bytes ≤ 1000)
    (h : ∀ v' w', w'.ownsRow B E size v' (n + m) (xs ++ cs.toList) → w0.grownBy w' v.ownBlock → Below B w0 w' → (v' = .slice none 0 0 ↔ v = .slice none 0 0 ∧ m = 0) → wpList Tryd.prog ops Q rest (a.put o.dst v') w') : wpList Tryd.prog ops Q (o :: rest) a (w0.alloc (.cells cs E)) := by
  obtain ⟨i0, hi, hz0, hz1, hz2⟩ := info_parts ty.info
  refine wpList_append_own _ hgd s x T ho B E i0 z size bytes ty.under hi hz0 hz1 hz2 ty.zsize ty.pos v n xs hs (hown.alloc _) ⟨w0.heap.size, 0, none⟩ m c cs.toList hx (by simpa using hcs) ?_ h1 ?_ ?_ ?_ ?_
  · intro j u hj
    rw [add_at, World.cell?_alloc_at _ _ _ _ rfl]
    simpa using hj
  · unfold maxLen; omega
  · have := Nat.mul_le_mul hlen hby; omega
  · simp; omega
  · intro v' w' h1 h2 h3
    have hg : w0.grownBy w' v.ownBlock := ⟨h2.os, h2.tape, h2.output, by have := h2.size; simp at this; omega, fun k hk hn => by rw [h2.block k (by simp; omega) hn]; exact Below.heap_alloc _ _ _ hk⟩
    exact h v' w' h1 hg ((Below.refl B w0).grown hg hB (fun k hk => (hown.lt k hk).1)) h3
/-- make with a length -/
theorem make_n {w0 : World} {T E size bytes : Nat} {z : Value} (ty : STy T E size bytes z) (hgd : o.guard = none) (l c : Operand) (ho : o.op = .makeSlice T l c)
    (B : Nat) (n : Nat) (L C : Int) (hl : a.eval l = .int .i64 L) (hc : a.eval c = .int .i64 C) (hL : L = (n : Int)) (hC : C = (n : Int)) (hB : B ≤ w0.heap.size) (hlen : n ≤ 1000000000) (hby : bytes ≤ 1000)
    (h : ∀ w', w'.ownsRow B E size (.slice (some ⟨w0.heap.size, 0, none⟩) n n) n (madeCells z.cells (n * size)).toList → w0.grownBy w' none → Below w0.heap.size w0 w' → wpList Tryd.prog ops Q rest (a.put o.dst (.slice (some ⟨w0.heap.size, 0, none⟩) n n)) w') : wpList Tryd.prog ops Q (o :: rest) a w0 := by
  obtain ⟨i0, hi, hz0, hz1, hz2⟩ := info_parts ty.info
  refine wpList_make_full w0 hgd l c T ho B E i0 z size ty.under hi hz0 hz1 .i64 .i64 L C n hl hc hL hC ?_ ?_ hB ?_
  · rw [hz2]; have := Nat.mul_le_mul hby hlen; omega
  · unfold maxLen; omega
  · intro w' h1 h2
    exact h w' h1 h2 ((Below.refl _ w0).grown h2 (Nat.le_refl _) (fun k hk => by cases hk))
end
end Go.Proofs.YtmlpkejeglpciaaDoor
