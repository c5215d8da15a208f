/- Slices of bytes that a call owns: made, appended to, turned into strings. -/
import Derived.Test.YtcbpajhlollcbaaGreatDoorRows
import Derived.WalkKit
import Derived.ProofKit
import Derived.OwnWalk
import Derived.Below
import Derived.Lib.Hide
import Derived.Lib.Builder
import Derived.Lib.AppendStr
import Derived.Lib.UnsafeStr
import Derived.Lib.Strings
import Derived.Lib.ConvBytes
import Derived.Laws.BytesArg
import Derived.StillTailTactics
import Derived.Deep.RegionLaw
import Derived.Handy
namespace Go.Proofs.YtcbpajhlollcbaaGreatDoor
open Go.RowKit

theorem u8Info : (Tryz.prog.info? 5).map (fun i => (i.zero, i.size, i.bytes)) = some (some (.int .u8 0), 1, 1) := by kernel_rfl

/-- The slice v owns the bytes l. -/
def OwnB (B : Nat) (v : Value) (l : List UInt8) (w : World) : Prop := w.ownsRow B 5 1 v l.length (Lib.byteCells l)

theorem OwnB.nil (B : Nat) (w : World) : OwnB B (.slice none 0 0) [] w := World.ownsRow_nil _ _ _ _
theorem OwnB.lit {B : Nat} {w : World} (l : List UInt8) (cs : Array Value) (hcs : cs = (Lib.byteCells l).toArray) (hB : B ≤ w.heap.size) (hl : l.length ≤ 1000000000000) :
    OwnB B (.slice (some ⟨w.heap.size, 0, none⟩) l.length l.length) l (w.alloc (.cells cs 5)) := by
  subst hcs
  have := World.ownsRow_lit (base := B) (e := 5) (size := 1) w (Lib.byteCells l).toArray l.length hB (by unfold maxLen; omega) (by simp [Lib.byteCells])
  unfold OwnB
  simpa using this
theorem OwnB.alloc {B : Nat} {v : Value} {l : List UInt8} {w : World} (h : OwnB B v l w) (o : Obj) : OwnB B v l (w.alloc o) := World.ownsRow.alloc h o
theorem OwnB.kept {B : Nat} {v : Value} {l : List UInt8} {w w' : World} (h : OwnB B v l w) (hk : Below w.heap.size w w') : OwnB B v l w' :=
  World.ownsRow.kept (row := none) h ⟨hk.os, hk.tape, hk.output, hk.size, fun k hk' _ => hk.block k hk'⟩ (by cases hv : v.ownBlock <;> simp)

theorem OwnB.drew {B : Nat} {v : Value} {l : List UInt8} {w : World} (h : OwnB B v l w) : OwnB B v l w.drew := h.kept ⟨rfl, rfl, rfl, Nat.le_refl _, fun _ _ => rfl⟩

theorem OwnB.conv {B : Nat} {v : Value} {l : List UInt8} {w : World} (h : OwnB B v l w) : (convert 143 9 v).run Tryz.prog w = .ok (.string ⟨l.toArray⟩) w := by
  rcases h.2 with ⟨rfl, h0⟩ | ⟨g, cap, cur, rfl, hb, hg, hn, hc, hs, ht⟩
  · have : l = [] := List.length_eq_zero_iff.1 h0
    subst this
    exact run_convert_bytes_nil w 143 5 Tryz.underlying143 Tryz.underlying5 0 0 9 Tryz.underlying9
  · have hc := World.ownsRow.cells h (g := g) rfl
    have := run_convert_bytes_arg w 143 5 Tryz.underlying143 Tryz.underlying5 g 0 l.length cap (l.map fun c => (c.toNat : Int)) (by simp) (fun i hi => by
      have := hc i (.int .u8 l[i].toNat) (by simp [Lib.byteCells, List.getElem?_eq_getElem hi])
      have e : (⟨g, 0, none⟩ : Addr).add i = ⟨g, 0 + i, none⟩ := by unfold Addr.add; split <;> simp_all
      rw [← e, this]
      simp [List.getD, List.getElem?_eq_getElem hi]) 9 Tryz.underlying9
    rw [this]
    simp [strOfNums, List.map_map, Function.comp_def]

section
variable {ops : Array Oper} {rest : List Oper} {o : Oper} {a : Act} {Q : Exit → Act → World → Prop}
/-- append of bytes that were just written out -/
theorem app_bytes {w0 : World} {cs : Array Value} (hgd : o.guard = none) (s x : Operand) (ho : o.op = .call { callee := .builtin .append, args := #[s, x], argTypes := #[143, 143] })
    (B : Nat) (v : Value) (l new : List UInt8) (m c : Nat) (hs : a.eval s = v) (hown : OwnB B v l w0) (hx : a.eval x = .slice (some ⟨w0.heap.size, 0, none⟩) m c) (hm : m = new.length) (hcs : cs = (Lib.byteCells new).toArray)
    (hB : B ≤ w0.heap.size) (hlen : l.length + new.length ≤ 1000000000000)
    (h : ∀ v' w', OwnB B v' (l ++ new) w' → w0.grownBy w' v.ownBlock → Below B w0 w' → wpList Tryz.prog ops Q rest (a.put o.dst v') w') : wpList Tryz.prog ops Q (o :: rest) a (w0.alloc (.cells cs 5)) := by
  subst hm hcs
  obtain ⟨i0, hi, hz0, hz1, hz2⟩ := info_parts u8Info
  refine wpList_append_own _ hgd s x 143 ho B 5 i0 (.int .u8 0) 1 1 Tryz.underlying143 hi hz0 hz1 hz2 rfl (by decide) v l.length (Lib.byteCells l) hs (OwnB.alloc hown _) ⟨w0.heap.size, 0, none⟩ new.length c (Lib.byteCells new) hx (by simp [Lib.byteCells]) ?_ ?_ ?_ ?_ ?_ ?_
  · intro j u hj
    have hjl : j < (Lib.byteCells new).length := by
      rcases Nat.lt_or_ge j (Lib.byteCells new).length with h | h
      · exact h
      · rw [List.getElem?_eq_none h] at hj; cases hj
    have e : (⟨w0.heap.size, 0, none⟩ : Addr).add j = ⟨w0.heap.size, j, none⟩ := by unfold Addr.add; split <;> simp_all
    rw [e, World.cell?_alloc_at _ _ _ _ rfl]
    simpa using hj
  · intro u hu
    simp only [Lib.byteCells, List.mem_map] at hu
    obtain ⟨c, _, rfl⟩ := hu
    rfl
  · unfold maxLen; omega
  · omega
  · simp; omega
  · intro v' w' h1 h2 _
    have hg : w0.grownBy w' v.ownBlock := ⟨h2.os, h2.tape, h2.output, by have := h2.size; simp at this; omega, fun k hk hn => by rw [h2.block k (by simp; omega) hn]; exact Below.heap_alloc _ _ _ hk⟩
    refine h v' w' ?_ hg ((Below.refl B w0).grown hg hB (fun k hk => (World.ownsRow.lt hown k hk).1))
    unfold OwnB
    simpa [Lib.byteCells] using h1
/-- the same as one step of a region that draws its order -/
theorem step_app_bytes {w0 : World} {cs : Array Value} {K : Act → World → Prop} {E : Prop} (hgd : o.guard = none) (s x : Operand) (ho : o.op = .call { callee := .builtin .append, args := #[s, x], argTypes := #[143, 143] })
    (B : Nat) (v : Value) (l new : List UInt8) (m c : Nat) (hs : a.eval s = v) (hown : OwnB B v l w0) (hx : a.eval x = .slice (some ⟨w0.heap.size, 0, none⟩) m c) (hm : m = new.length) (hcs : cs = (Lib.byteCells new).toArray)
    (hB : B ≤ w0.heap.size) (hlen : l.length + new.length ≤ 1000000000000)
    (h : ∀ v' w', OwnB B v' (l ++ new) w' → w0.grownBy w' v.ownBlock → Below B w0 w' → K (a.put o.dst v') w') :
    if Region.wanted o (yielded ops a.tmps) = true then Oper.wp Tryz.prog o a (w0.alloc (.cells cs 5)) K Q else E := by
  have hw : Region.wanted o (yielded ops a.tmps) = true := by simp [Region.wanted, hgd]
  rw [if_pos hw]
  subst hm hcs
  obtain ⟨i0, hi, hz0, hz1, hz2⟩ := info_parts u8Info
  refine wp_append_own _ s x 143 ho B 5 i0 (.int .u8 0) 1 1 Tryz.underlying143 hi hz0 hz1 hz2 rfl (by decide) v l.length (Lib.byteCells l) hs (OwnB.alloc hown _) ⟨w0.heap.size, 0, none⟩ new.length c (Lib.byteCells new) hx (by simp [Lib.byteCells]) ?_ ?_ ?_ ?_ ?_ ?_
  · intro j u hj
    have hjl : j < (Lib.byteCells new).length := by
      rcases Nat.lt_or_ge j (Lib.byteCells new).length with h | h
      · exact h
      · rw [List.getElem?_eq_none h] at hj; cases hj
    have e : (⟨w0.heap.size, 0, none⟩ : Addr).add j = ⟨w0.heap.size, j, none⟩ := by unfold Addr.add; split <;> simp_all
    rw [e, World.cell?_alloc_at _ _ _ _ rfl]
    simpa using hj
  · intro u hu
    simp only [Lib.byteCells, List.mem_map] at hu
    obtain ⟨c, _, rfl⟩ := hu
    rfl
  · unfold maxLen; omega
  · omega
  · simp; omega
  · intro v' w' h1 h2 _
    have hg : w0.grownBy w' v.ownBlock := ⟨h2.os, h2.tape, h2.output, by have := h2.size; simp at this; omega, fun k hk hn => by rw [h2.block k (by simp; omega) hn]; exact Below.heap_alloc _ _ _ hk⟩
    refine h v' w' ?_ hg ((Below.refl B w0).grown hg hB (fun k hk => (World.ownsRow.lt hown k hk).1))
    unfold OwnB
    simpa [Lib.byteCells] using h1
/-- append of a string -/
theorem app_str {w0 : World} (hgd : o.guard = none) (s x : Operand) (ho : o.op = .call { callee := .builtin .append, args := #[s, x], argTypes := #[143, 9] })
    (B : Nat) (v : Value) (l : List UInt8) (t : ByteArray) (hs : a.eval s = v) (hown : OwnB B v l w0) (hx : a.eval x = .string t)
    (hB : B ≤ w0.heap.size) (hlen : l.length + t.size ≤ 1000000000000)
    (h : ∀ v' w', OwnB B v' (l ++ t.data.toList) w' → w0.grownBy w' v.ownBlock → Below B w0 w' → wpList Tryz.prog ops Q rest (a.put o.dst v') w') : wpList Tryz.prog ops Q (o :: rest) a w0 := by
  obtain ⟨i0, hi, hz0, hz1, hz2⟩ := info_parts u8Info
  refine Lib.wpList_append_own_string _ hgd s x 143 9 ho B 5 i0 Tryz.underlying143 Tryz.underlying9 hi hz0 hz1 hz2 v l.length (Lib.byteCells l) hs hown t hx (by unfold maxLen; omega) (by omega) hB ?_
  intro v' w' h1 h2 _
  refine h v' w' ?_ h2 ((Below.refl B w0).grown h2 hB (fun k hk => (World.ownsRow.lt hown k hk).1))
  unfold OwnB
  have e : Lib.byteCells (l ++ t.data.toList) = Lib.byteCells l ++ Lib.strCells t := by simp [Lib.byteCells, Lib.strCells]
  rw [e]
  simpa using h1
end
end Go.Proofs.YtcbpajhlollcbaaGreatDoor
