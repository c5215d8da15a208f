/- Several texts in one: Kp, Stream, Key, WordLaw, Preds, Slices, DistLaw, Dist, Builder. -/
import Derived.WalkKit
import Derived.Deep.Quiet
import Derived.Tactics2
import Derived.Lib.Hide
import Derived.Test.YtmlpkejeglpciaaGreatDoorRows
import Derived.ProofKit
import Derived.OpenShut
import Derived.Deep.QuietTactic
import Derived.BigQuiet
import Derived.Outline
import Derived.Below
import Derived.Lib.SlTrimSet
import Derived.Lib.ValidLaws
import Derived.Shelf.Unicode.DecodeSlow
import Derived.OwnWalk
import Derived.Handy
import Derived.Laws.Cover1
import Derived.Test.YtmlpkejeglpciaaGreatDoorShelf
import Derived.Lib.Builder
import Derived.Lib.AppendStr
import Derived.Lib.UnsafeStr
import Derived.Lib.Walk
import Derived.Laws.Externs
import Derived.Laws.IdiomCopy
/- Steps that come again and again, each as one theorem whose last argument is filled by its own tactic. No program is in sight. -/
namespace Go.Proofs.YtmlpkejeglpciaaGreatDoor
open Go Go.RowKit
structure Kp (p : Prop) : Prop where
  out : p
end Go.Proofs.YtmlpkejeglpciaaGreatDoor

/- Streams of drawn numbers: what handmake.Below, Next, Range, Pick, Changed and handlaw2.strange give. -/
namespace Go.Proofs.YtmlpkejeglpciaaGreatDoor
open Go.RowKit

structure SK (b : Nat) (w w' : World) : Prop where
  os : w'.os = w.os
  tape : w'.tape = w.tape
  output : w'.output = w.output
  size : w.heap.size ≤ w'.heap.size
  block : ∀ k, k < w.heap.size → k ≠ b → w'.heap[k]? = w.heap[k]?

theorem SK.refl (b : Nat) (w : World) : SK b w w := ⟨rfl, rfl, rfl, Nat.le_refl _, fun _ _ _ => rfl⟩
theorem SK.trans {b : Nat} {u v w : World} (h : SK b u v) (k : SK b v w) : SK b u w :=
  ⟨k.os.trans h.os, k.tape.trans h.tape, k.output.trans h.output, Nat.le_trans h.size k.size, fun i hi hb => (k.block i (Nat.lt_of_lt_of_le hi h.size) hb).trans (h.block i hi hb)⟩
theorem SK.drewN {b : Nat} {u w : World} (n : Nat) (h : SK b u w) : SK b u (w.drewN n) := ⟨h.os, h.tape, h.output, h.size, h.block⟩
theorem SK.alloc {b : Nat} {u w : World} (h : SK b u w) (o : Obj) : SK b u (w.alloc o) :=
  h.trans ⟨rfl, rfl, rfl, by simp, fun k hk _ => Below.heap_alloc _ _ _ hk⟩
theorem SK.setCell {b : Nat} {u w : World} (h : SK b u w) (o : Nat) (v : Value) : SK b u (w.setCell ⟨b, o, none⟩ v) :=
  h.trans ⟨rfl, rfl, rfl, by simp [World.setCell], fun k _ hb => Below.heap_setCell _ _ _ _ hb⟩
theorem SK.ofBelow {b : Nat} {w w' : World} (h : Below w.heap.size w w') : SK b w w' :=
  ⟨h.os, h.tape, h.output, h.size, fun k hk _ => h.block k hk⟩

def Strm (b m : Nat) (w : World) : Prop :=
  ∃ (v : Value) (a : Nat), w.heap[b]? = some (.cells #[v, .int .i64 a] 25 (0, 0)) ∧ a ≤ m ∧
    ((∃ a c, v = .slice a 0 c) ∨ ∃ k off len cap, v = .slice (some ⟨k, off, none⟩) len cap ∧ len ≤ 9223372036854775807 ∧ k < b ∧
      ∀ i, i < len → ∃ z : Int, w.cell? ⟨k, off + i, none⟩ = some (.int .i64 z))

theorem Strm.lt {b m : Nat} {w : World} (h : Strm b m w) : b < w.heap.size := by
  obtain ⟨v, a, hb, _⟩ := h
  rcases Nat.lt_or_ge b w.heap.size with h | h
  · exact h
  · rw [Array.getElem?_eq_none h] at hb; cases hb

theorem Strm.mono {b m n : Nat} {w : World} (h : Strm b m w) (k : m ≤ n) : Strm b n w := by
  obtain ⟨v, a, hb, h1, h2⟩ := h
  exact ⟨v, a, hb, by omega, h2⟩

theorem Strm.step {b m : Nat} {w w' : World} {v : Value} {n : Nat} (hlt : b < w.heap.size) (k : SK b w w') (hb' : w'.heap[b]? = some (.cells #[v, .int .i64 n] 25 (0, 0))) (hn : n ≤ m)
    (h3 : (∃ a c, v = .slice a 0 c) ∨ ∃ k off len cap, v = .slice (some ⟨k, off, none⟩) len cap ∧ len ≤ 9223372036854775807 ∧ k < b ∧
      ∀ i, i < len → ∃ z : Int, w.cell? ⟨k, off + i, none⟩ = some (.int .i64 z)) : Strm b m w' := by
  refine ⟨v, n, hb', hn, ?_⟩
  rcases h3 with h3 | ⟨kk, off, len, cap, e1, e2, e3, e5⟩
  · exact .inl h3
  · refine .inr ⟨kk, off, len, cap, e1, e2, e3, fun i hi => ?_⟩
    obtain ⟨z, hz⟩ := e5 i hi
    exact ⟨z, by rw [World.cell?_of_block (w := w) (a := ⟨kk, off + i, none⟩) (k.block kk (by omega) (by omega))]; exact hz⟩

theorem Strm.keep {b m : Nat} {w w' : World} (h : Strm b m w) (k : Below w.heap.size w w') : Strm b m w' := by
  have hlt := h.lt
  obtain ⟨v, a, hb, h1, h3⟩ := h
  exact Strm.step hlt (SK.ofBelow k) (by rw [k.block b hlt]; exact hb) h1 h3
theorem SK.setNew {b : Nat} {u w : World} (h : SK b u w) {X : Nat} (hX : u.heap.size ≤ X) (o : Nat) (v : Value) : SK b u (w.setCell ⟨X, o, none⟩ v) :=
  ⟨h.os, h.tape, h.output, by simp [World.setCell]; exact h.size, fun k hk hb => (Below.heap_setCell _ _ _ _ (by show k ≠ X; omega)).trans (h.block k hk hb)⟩
theorem Strm.set {b m : Nat} {w : World} (h : Strm b m w) {X : Nat} (hX : b < X) (o : Nat) (u : Value) : Strm b m (w.setCell ⟨X, o, none⟩ u) := by
  obtain ⟨v, a, hb, h1, h3⟩ := h
  refine ⟨v, a, (Below.heap_setCell _ _ _ _ (by show b ≠ X; omega)).trans hb, h1, ?_⟩
  rcases h3 with h3 | ⟨kk, off, len, cap, e1, e2, e3, e5⟩
  · exact .inl h3
  · refine .inr ⟨kk, off, len, cap, e1, e2, e3, fun i hi => ?_⟩
    obtain ⟨z, hz⟩ := e5 i hi
    exact ⟨z, by rw [World.cell?_of_block (w := w) (a := ⟨kk, off + i, none⟩) (Below.heap_setCell _ _ _ _ (by show kk ≠ X; omega))]; exact hz⟩
structure G (b m : Nat) (w0 w : World) : Prop where
  k : SK b w0 w
  s : Strm b m w
theorem Strm.alloc {b m : Nat} {w : World} (h : Strm b m w) (o : Obj) : Strm b m (w.alloc o) :=
  h.keep ((Below.refl _ _).alloc (Nat.le_refl _) o)

theorem G.start {b m : Nat} {w : World} (h : Strm b m w) : G b m w w := ⟨SK.refl _ _, h⟩
theorem G.alloc {b m : Nat} {w0 w : World} (h : G b m w0 w) (o : Obj) : G b m w0 (w.alloc o) := ⟨h.k.alloc o, h.s.alloc o⟩
theorem G.step {b m n : Nat} {w0 w w' : World} (h : G b m w0 w) (hk : SK b w w') (hs : Strm b n w') : G b n w0 w' := ⟨h.k.trans hk, hs⟩
theorem G.below {b m : Nat} {w0 w w' : World} (h : G b m w0 w) (hk : Below w.heap.size w w') : G b m w0 w' := ⟨h.k.trans (SK.ofBelow hk), h.s.keep hk⟩
theorem G.set {b m : Nat} {w0 w : World} (h : G b m w0 w) {X : Nat} (hX : b < X) (hX2 : w0.heap.size ≤ X) (o : Nat) (u : Value) : G b m w0 (w.setCell ⟨X, o, none⟩ u) := ⟨h.k.setNew hX2 o u, h.s.set hX o u⟩
theorem Strm.lower {b m : Nat} {w w' : World} (h : Strm b m w) (k : ∀ k, k ≤ b → w'.heap[k]? = w.heap[k]?) : Strm b m w' := by
  obtain ⟨v, a, hb, h1, h3⟩ := h
  refine ⟨v, a, (k b (Nat.le_refl _)).trans hb, h1, ?_⟩
  rcases h3 with h3 | ⟨kk, off, len, cap, e1, e2, e3, e5⟩
  · exact .inl h3
  · refine .inr ⟨kk, off, len, cap, e1, e2, e3, fun i hi => ?_⟩
    obtain ⟨z, hz⟩ := e5 i hi
    exact ⟨z, by rw [World.cell?_of_block (w := w) (a := ⟨kk, off + i, none⟩) (k kk (by omega))]; exact hz⟩
theorem G.belowB {b m : Nat} {w0 w w' : World} (h : G b m w0 w) (k : Below w0.heap.size w w') (hb : b < w0.heap.size) : G b m w0 w' :=
  ⟨⟨k.os.trans h.k.os, k.tape.trans h.k.tape, k.output.trans h.k.output, Nat.le_trans h.k.size k.size, fun i hi hn => (k.block i hi).trans (h.k.block i hi hn)⟩, h.s.lower fun i hi => k.block i (by omega)⟩
theorem G.size {b m : Nat} {w0 w : World} (h : G b m w0 w) : w0.heap.size ≤ w.heap.size := h.k.size
theorem G.mono {b m n : Nat} {w0 w : World} (h : G b m w0 w) (hm : m ≤ n) : G b n w0 w := ⟨h.k, h.s.mono hm⟩
def IntsIn (v : Value) (w : World) : Prop :=
  (∃ a c, v = .slice a 0 c) ∨ ∃ k off len cap, v = .slice (some ⟨k, off, none⟩) len cap ∧ len ≤ 9223372036854775807 ∧ k < w.heap.size ∧ ∀ i, i < len → ∃ z : Int, w.cell? ⟨k, off + i, none⟩ = some (.int .i64 z)
theorem Strm.start {v : Value} {w : World} (h : IntsIn v w) : Strm w.heap.size 0 (w.alloc (.cells #[v, .int .i64 0] 25)) := by
  refine ⟨v, 0, ?_, Nat.le_refl _, ?_⟩
  · show (w.heap.push _)[w.heap.size]? = _
    simp
  · rcases h with h | ⟨k, off, len, cap, e1, e2, e3, e4⟩
    · exact .inl h
    · refine .inr ⟨k, off, len, cap, e1, e2, e3, fun i hi => ?_⟩
      obtain ⟨z, hz⟩ := e4 i hi
      exact ⟨z, by rw [World.cell?_alloc_past _ _ _ e3]; exact hz⟩
theorem SK.below {b B : Nat} {w w' : World} (h : SK b w w') (hb : B ≤ b) (hB : B ≤ w.heap.size) : Below B w w' :=
  ⟨h.os, h.tape, h.output, h.size, fun k hk => h.block k (by omega) (by omega)⟩

def GivesBelow (n : Int) (w : World) (e : Ending) (w' : World) : Prop := ∃ r : Int, 0 ≤ r ∧ r < n ∧ e = .returned (.int .i64 r) ∧ w = w'
theorem below_any (x n : Int) (w : World) (h : 1 ≤ n) (hn : n ≤ 9223372036854775807) :
    Calls Tryz.prog 113 #[.int .i64 x, .int .i64 n] w (GivesBelow n w) := by
  have h1 := Int.tmod_lt_of_pos x (b := n) (by omega)
  have h2 := Int.lt_tmod_of_pos x (b := n) (by omega)
  go_enter Tryz.func113, Tryz.ntmps113
  go_wp2
  · go_ret
    have h3 : x.tmod n < 0 := by assumption
    exact ⟨_, by omega, by omega, rfl, rfl⟩
  · go_ret
    have h3 : 0 ≤ x.tmod n := by assumption
    exact ⟨_, h3, h1, rfl, rfl⟩

def Draws (b m : Nat) (n : Int) (w : World) (e : Ending) (w' : World) : Prop := ∃ r : Int, 0 ≤ r ∧ r < n ∧ e = .returned (.int .i64 r) ∧ SK b w w' ∧ Strm b m w'

theorem strm_at {b : Nat} {w : World} {v : Value} {a : Int} {o : Nat × Nat} {T : Nat} (h : w.heap[b]? = some (.cells #[v, .int .i64 a] T o)) (x : Value) :
    (w.setCell ⟨b, 1, none⟩ x).heap[b]? = some (.cells #[v, x] T o) := by
  simp [World.setCell, Array.getElem?_modify, h]

theorem next_any (b m : Nat) (n : Int) (w : World) (hs : Strm b m w) (h : 1 ≤ n) (hn : n ≤ 9223372036854775807) (hm : m ≤ 1000000000000) :
    Calls Tryz.prog 45 #[.pointer (some ⟨b, 0, none⟩), .int .i64 n] w (Draws b (m + 1) n w) := by
  have hblt := hs.lt
  obtain ⟨v, a, hb, ha, hl⟩ := hs
  have c0 : w.cell? ⟨b, 0, none⟩ = some v := by simp [World.cell?, hb]
  have c1 : w.cell? ⟨b, 1, none⟩ = some (.int .i64 a) := by simp [World.cell?, hb]
  have f1 : w.frozen? ⟨b, 1, none⟩ = false := by simp [World.frozen?, hb]
  have Hst : Hid (∀ q, Strm b (m + 1) ((w.setCell ⟨b, 1, none⟩ (.int .i64 ((a : Int) + 1))).drewN q)) := fun q =>
    Strm.step (n := a + 1) hblt (SK.drewN q ((SK.refl b w).setCell _ _)) (strm_at hb _) (by omega) hl
  clear hb
  rcases hl with ⟨a0, c0', rfl⟩ | ⟨k, off, len, cap, rfl, hlen, hkb, hcs⟩
  · go_enter Tryz.func45, Tryz.ntmps45
    go_wp2_with fail
    refine (below_any _ _ _ h hn).mono ?_
    rintro e w' ⟨r, hr0, hr1, rfl, rfl⟩
    go_wp2
    go_ret
    exact ⟨r, hr0, hr1, rfl, (SK.refl _ _).setCell _ _, Hst.out 0⟩
  · have hcs' := Lib.hid hcs
    clear hcs
    by_cases hl0 : len = 0
    · subst hl0
      go_enter Tryz.func45, Tryz.ntmps45
      go_wp2_with fail
      go_wp2_with fail
      refine (below_any _ _ _ h hn).mono ?_
      rintro e w' ⟨r, hr0, hr1, rfl, rfl⟩
      go_wp2
      go_ret
      exact ⟨r, hr0, hr1, rfl, (SK.refl _ _).setCell _ _, Hst.out 0⟩
    · have hne : ((len : Int) == 0) = false := by simpa using hl0
      have hlp : 1 ≤ (len : Int) := by omega
      have hlt : a % len < len := Nat.mod_lt _ (by omega)
      obtain ⟨z, hz⟩ := hcs'.out (a % len) hlt
      go_enter Tryz.func45, Tryz.ntmps45
      go_wp2_with fail
      go_quiet (fail)
      go_wp2_with fail
      go_quiet (fail)
      go_wp2_with fail
      refine (below_any _ _ _ (by omega) (by omega)).mono ?_
      rintro e w' ⟨r, hr0, hr1, rfl, rfl⟩
      go_wp2_with fail
      refine (below_any _ _ _ h hn).mono ?_
      rintro e w' ⟨r', hr0', hr1', rfl, rfl⟩
      go_wp2
      go_ret
      exact ⟨r', hr0', hr1', rfl, SK.drewN _ ((SK.refl _ _).setCell _ _), Hst.out _⟩

theorem str_ne {t : ByteArray} (h : 1 ≤ t.size) : ¬ t.toList = [] ∧ t.toList.isEmpty = false := by
  have : ¬ t.toList = [] := by
    rw [toList_nil_iff_emptyBytes]
    rintro rfl
    simp at h
  exact ⟨this, by simpa using this⟩
theorem str_nil {t : ByteArray} (h : t.size = 0) : t.toList = [] ∧ t.toList.isEmpty = true := by
  have : t.toList = [] := by
    rw [toList_nil_iff_emptyBytes]
    exact ByteArray.size_eq_zero_iff.1 h
  exact ⟨this, by simpa using this⟩

def DrawsIn (b m : Nat) (lo hi : Int) (w : World) (e : Ending) (w' : World) : Prop := ∃ r : Int, lo ≤ r ∧ r ≤ hi ∧ e = .returned (.int .i64 r) ∧ SK b w w' ∧ Strm b m w'
theorem range_any (b m : Nat) (lo hi : Int) (w : World) (hs : Strm b m w) (h : lo ≤ hi) (hlo : -1000000000000000 ≤ lo) (hhi : hi ≤ 1000000000000000) (hm : m ≤ 1000000000000) :
    Calls Tryz.prog 12 #[.pointer (some ⟨b, 0, none⟩), .int .i64 lo, .int .i64 hi] w (DrawsIn b (m + 1) lo hi w) := by
  go_enter Tryz.func12, Tryz.ntmps12
  go_wp2_with fail
  refine (next_any b m _ _ hs (by omega) (by omega) hm).mono ?_
  rintro e w' ⟨r, hr0, hr1, rfl, hk, hs'⟩
  clear hs
  go_wp2
  go_ret
  exact ⟨lo + r, by omega, by omega, rfl, hk, hs'⟩

def DrawsBool (b m : Nat) (w : World) (e : Ending) (w' : World) : Prop := ∃ r : Bool, e = .returned (.bool r) ∧ SK b w w' ∧ Strm b m w'
theorem flip_any (b m : Nat) (n : Int) (w : World) (hs : Strm b m w) (h : 1 ≤ n) (hn : n ≤ 1000000000000000) (hm : m ≤ 1000000000000) :
    Calls Tryz.prog 13 #[.pointer (some ⟨b, 0, none⟩), .int .i64 n] w (DrawsBool b (m + 1) w) := by
  go_enter Tryz.func13, Tryz.ntmps13
  go_wp2_with fail
  refine (next_any b m _ _ hs (by omega) (by omega) hm).mono ?_
  rintro e w' ⟨r, hr0, hr1, rfl, hk, hs'⟩
  clear hs
  go_wp2
  go_ret
  exact ⟨_, rfl, hk, hs'⟩

def DrawsOf (b m : Nat) (zs : List Int) (w : World) (e : Ending) (w' : World) : Prop := ∃ r : Int, r ∈ zs ∧ e = .returned (.int .i64 r) ∧ SK b w w' ∧ Strm b m w'
theorem pick_any (b m k off cap : Nat) (zs : List Int) (w : World) (hs : Strm b m w) (h : 1 ≤ zs.length) (hn : zs.length ≤ 1000000000) (hm : m ≤ 1000000000000) (hk : k < w.heap.size) (hkb : k ≠ b)
    (hc : ∀ i, i < zs.length → w.cell? ⟨k, off + i, none⟩ = some (.int .i64 (zs[i]?.getD 0))) :
    Calls Tryz.prog 33 #[.pointer (some ⟨b, 0, none⟩), .slice (some ⟨k, off, none⟩) zs.length cap] w (DrawsOf b (m + 1) zs w) := by
  have Hc := Lib.hid hc
  clear hc
  go_enter Tryz.func33, Tryz.ntmps33
  go_wp2_with fail
  refine (next_any b m _ _ hs (by omega) (by omega) hm).mono ?_
  rintro e w' ⟨r, hr0, hr1, rfl, hk', hs'⟩
  clear hs
  obtain ⟨i, rfl⟩ := Int.eq_ofNat_of_zero_le hr0
  have hi : i < zs.length := by omega
  have hci : w'.cell? ⟨k, off + i, none⟩ = some (.int .i64 (zs[i]?.getD 0)) := by
    rw [World.cell?_of_block (w := w) (a := ⟨k, off + i, none⟩) (hk'.block k hk hkb)]; exact Hc.out i hi
  go_wp2
  go_ret
  exact ⟨zs[i], List.getElem_mem hi, rfl, hk', hs'⟩

theorem pick_lit (b m n : Nat) (zs : List Int) {w0 : World} {cs : Array Value} (hs : Strm b m w0) (hn : n = zs.length) (hcs : cs = (zs.map (Value.int .i64)).toArray) (h1 : 1 ≤ n) (h2 : n ≤ 1000) (hm : m ≤ 1000000000000) :
    Calls Tryz.prog 33 #[.pointer (some ⟨b, 0, none⟩), .slice (some ⟨w0.heap.size, 0, none⟩) n n] (w0.alloc (.cells cs 3)) (DrawsOf b (m + 1) zs w0) := by
  subst hn hcs
  refine (pick_any b m w0.heap.size 0 zs.length zs (w0.alloc _) (hs.alloc _) h1 (by omega) hm (by simp) (by have := hs.lt; omega) (fun i hi => ?_)).mono ?_
  · rw [World.cell?_alloc_at _ _ _ _ rfl]
    simp [hi]
  · rintro e w' ⟨r, hr, he, hk, hst⟩
    exact ⟨r, hr, he, ((SK.refl b w0).alloc _).trans hk, hst⟩

theorem pick_at (b m n p : Nat) (zs : List Int) {w0 : World} {cs : Array Value} (hs : Strm b m w0) (hp : p = w0.heap.size) (hn : n = zs.length) (hcs : cs = (zs.map (Value.int .i64)).toArray) (h1 : 1 ≤ n) (h2 : n ≤ 1000) (hm : m ≤ 1000000000000) :
    Calls Tryz.prog 33 #[.pointer (some ⟨b, 0, none⟩), .slice (some ⟨p, 0, none⟩) n n] (w0.alloc (.cells cs 3)) (DrawsOf b (m + 1) zs w0) := by
  subst hp
  exact pick_lit b m n zs hs hn hcs h1 h2 hm
def DrawsOne (b m : Nat) (zs : List ByteArray) (w : World) (e : Ending) (w' : World) : Prop := ∃ r : ByteArray, r ∈ zs ∧ e = .returned (.string r) ∧ SK b w w' ∧ Strm b m w'
theorem one_at (b m n p : Nat) (zs : List ByteArray) {w0 : World} {cs : Array Value} (hs : Strm b m w0) (hp : p = w0.heap.size) (hn : n = zs.length) (hcs : cs = (zs.map Value.string).toArray) (h1 : 1 ≤ n) (h2 : n ≤ 1000) (hm : m ≤ 1000000000000) :
    Calls Tryz.prog 37 #[.pointer (some ⟨b, 0, none⟩), .slice (some ⟨p, 0, none⟩) n n] (w0.alloc (.cells cs 9)) (DrawsOne b (m + 1) zs w0) := by
  subst hp hn hcs
  have hs' := hs.alloc (.cells (zs.map Value.string).toArray 9)
  have hlt := hs.lt
  have Hc : Hid (∀ i z, zs[i]? = some z → (w0.alloc (.cells (zs.map Value.string).toArray 9)).cell? ⟨w0.heap.size, i, none⟩ = some (.string z)) := fun i z h => by
    rw [World.cell?_alloc_at _ _ _ _ rfl]; simp [h]
  have hsz : w0.heap.size < (w0.alloc (.cells (zs.map Value.string).toArray 9)).heap.size := by simp
  have Hk : Hid (SK b w0 (w0.alloc (.cells (zs.map Value.string).toArray 9))) := (SK.refl b w0).alloc _
  generalize w0.alloc (.cells (zs.map Value.string).toArray 9) = w at *
  go_enter Tryz.func37, Tryz.ntmps37
  go_wp2_with fail
  refine (next_any b m _ _ hs' (by omega) (by omega) hm).mono ?_
  rintro e w' ⟨r, hr0, hr1, rfl, hk', hs2⟩
  obtain ⟨i, rfl⟩ := Int.eq_ofNat_of_zero_le hr0
  have hi : i < zs.length := by omega
  have hci : w'.cell? ⟨w0.heap.size, i, none⟩ = some (.string (zs[i]'hi)) := by
    rw [World.cell?_of_block (w := w) (a := ⟨w0.heap.size, i, none⟩) (hk'.block _ hsz (by show w0.heap.size ≠ b; omega))]; exact Hc.out i _ (List.getElem?_eq_getElem hi)
  go_wp2_with fail
  go_ret
  exact ⟨zs[i], List.getElem_mem hi, rfl, Hk.out.trans hk', hs2⟩

def DrawsStr (b m n : Nat) (w : World) (e : Ending) (w' : World) : Prop := ∃ s : ByteArray, s.size ≤ n ∧ e = .returned (.string s) ∧ SK b w w' ∧ Strm b m w'
def strOf : Value → ByteArray | .string s => s | _ => ⟨#[]⟩
def strsLe (M : Nat) (cs : Array Value) : Prop := ∀ v ∈ cs.toList, v = .string (strOf v) ∧ (strOf v).size ≤ M
def intsIn (lo hi : Int) (cs : Array Value) : Prop := ∀ v ∈ cs.toList, v = .int .i64 (intOf v) ∧ lo ≤ intOf v ∧ intOf v ≤ hi
def strsLeB (M : Nat) (cs : Array Value) : Bool := cs.toList.all fun | .string s => Nat.ble s.size M | _ => false
def intsInB (lo hi : Int) (cs : Array Value) : Bool := cs.toList.all fun | .int .i64 n => decide (lo ≤ n) && decide (n ≤ hi) | _ => false
theorem strsLe_of {M : Nat} {cs : Array Value} (h : strsLeB M cs = true) : strsLe M cs := fun v hv => by
  have := List.all_eq_true.1 h v hv
  split at this
  · exact ⟨rfl, Nat.le_of_ble_eq_true this⟩
  · cases this
theorem intsIn_of {lo hi : Int} {cs : Array Value} (h : intsInB lo hi cs = true) : intsIn lo hi cs := fun v hv => by
  have := List.all_eq_true.1 h v hv
  split at this
  · simp only [Bool.and_eq_true, decide_eq_true_eq] at this; exact ⟨rfl, this⟩
  · cases this
theorem strsLe_nil {M : Nat} : strsLe M ⟨[]⟩ := fun v hv => by cases hv
theorem strsLe_cons {M : Nat} {s : ByteArray} {l : List Value} (h : s.size ≤ M) (t : strsLe M ⟨l⟩) : strsLe M ⟨.string s :: l⟩ := fun v hv => by
  rcases List.mem_cons.1 hv with rfl | hv
  · exact ⟨rfl, h⟩
  · exact t v hv
theorem intsIn_nil {lo hi : Int} : intsIn lo hi ⟨[]⟩ := fun v hv => by cases hv
theorem intsIn_cons {lo hi n : Int} {l : List Value} (h : lo ≤ n ∧ n ≤ hi) (t : intsIn lo hi ⟨l⟩) : intsIn lo hi ⟨.int .i64 n :: l⟩ := fun v hv => by
  rcases List.mem_cons.1 hv with rfl | hv
  · exact ⟨rfl, h⟩
  · exact t v hv
theorem map_back {α : Type} (f : α → Value) (g : Value → α) (l : List Value) (h : ∀ v ∈ l, v = f (g v)) : l = (l.map g).map f := by
  rw [List.map_map]
  exact (List.map_id' l).symm.trans (List.map_congr_left fun v hv => h v hv)
theorem one_le (b m n p M : Nat) {w0 : World} {cs : Array Value} (hs : Strm b m w0) (hp : p = w0.heap.size) (hn : n = cs.size) (hcs : strsLe M cs) (h1 : 1 ≤ n) (h2 : n ≤ 1000) (hm : m ≤ 1000000000000) :
    Calls Tryz.prog 37 #[.pointer (some ⟨b, 0, none⟩), .slice (some ⟨p, 0, none⟩) n n] (w0.alloc (.cells cs 9)) (DrawsStr b (m + 1) M w0) :=
  (one_at b m n p (cs.toList.map strOf) hs hp (by simpa using hn) (by rw [← map_back _ _ _ (fun v hv => (hcs v hv).1)]) h1 h2 hm).mono fun e w' ⟨r, hr, h⟩ => ⟨r, by obtain ⟨v, hv, rfl⟩ := List.mem_map.1 hr; exact (hcs v hv).2, h⟩
theorem pick_le (b m n p : Nat) (lo hi : Int) {w0 : World} {cs : Array Value} (hs : Strm b m w0) (hp : p = w0.heap.size) (hn : n = cs.size) (hcs : intsIn lo hi cs) (h1 : 1 ≤ n) (h2 : n ≤ 1000) (hm : m ≤ 1000000000000) :
    Calls Tryz.prog 33 #[.pointer (some ⟨b, 0, none⟩), .slice (some ⟨p, 0, none⟩) n n] (w0.alloc (.cells cs 3)) (DrawsIn b (m + 1) lo hi w0) :=
  (pick_at b m n p (cs.toList.map intOf) hs hp (by simpa using hn) (by rw [← map_back _ _ _ (fun v hv => (hcs v hv).1)]) h1 h2 hm).mono fun e w' ⟨r, hr, h⟩ => by
    obtain ⟨v, hv, rfl⟩ := List.mem_map.1 hr
    exact ⟨_, (hcs v hv).2.1, (hcs v hv).2.2, h⟩
def LV (w : World) (X : Nat) (cs : Array Value) (T : TypeId) : Prop := w.heap[X]? = some (.cells cs T (0, 0))
theorem LV.lt {w : World} {X : Nat} {cs : Array Value} {T : TypeId} (h : LV w X cs T) : X < w.heap.size := by
  rcases Nat.lt_or_ge X w.heap.size with h' | h'
  · exact h'
  · unfold LV at h; rw [Array.getElem?_eq_none h'] at h; cases h
theorem LV.new (w : World) (X : Nat) (cs : Array Value) (T : TypeId) (hX : X = w.heap.size) : LV (w.alloc (.cells cs T)) X cs T := by
  subst hX
  show (w.heap.push _)[w.heap.size]? = _
  simp
theorem LV.keep {w w' : World} {X b : Nat} {cs : Array Value} {T : TypeId} (h : LV w X cs T) (k : SK b w w') (hb : X ≠ b) : LV w' X cs T := (k.block X h.lt hb).trans h

theorem LV.alloc {w : World} {X : Nat} {cs : Array Value} {T : TypeId} (h : LV w X cs T) (o : Obj) : LV (w.alloc o) X cs T := (Below.heap_alloc _ _ _ h.lt).trans h
theorem LV.set {w : World} {X : Nat} {cs : Array Value} {T : TypeId} (h : LV w X cs T) (j : Nat) (u : Value) (cs' : Array Value) (hc : cs' = cs.setIfInBounds j u) : LV (w.setCell ⟨X, j, none⟩ u) X cs' T := by
  subst hc
  unfold LV at *
  simp [World.setCell, Array.getElem?_modify, h]
theorem LV.other {w : World} {X Y : Nat} {cs : Array Value} {T : TypeId} (h : LV w X cs T) (hY : X ≠ Y) (j : Nat) (u : Value) : LV (w.setCell ⟨Y, j, none⟩ u) X cs T := (Below.heap_setCell _ _ _ _ hY).trans h
theorem LV.cell {w : World} {X : Nat} {cs : Array Value} {T : TypeId} (h : LV w X cs T) (j : Nat) (v : Value) (hv : cs[j]? = some v) : w.cell? ⟨X, j, none⟩ = some v := by
  unfold LV at h
  simp [World.cell?, h, hv]
theorem LV.free {w : World} {X : Nat} {cs : Array Value} {T : TypeId} (h : LV w X cs T) (j : Nat) : w.frozen? ⟨X, j, none⟩ = false := by
  unfold LV at h
  simp [World.frozen?, h]

theorem encode_le (r : Int) : (Utf8.encode r).size ≤ 4 := by
  unfold Utf8.encode
  simp only []
  repeat' split
  all_goals simp [ByteArray.size]
set_option maxRecDepth 100000 in
theorem changed_any (b m : Nat) (t u : ByteArray) (w : World) (hs : Strm b m w) (h : t.size ≤ 1000000000) (hn : u.size ≤ 1000000000) (hm : m ≤ 100000000000) :
    Calls Tryz.prog 34 #[.pointer (some ⟨b, 0, none⟩), .string t, .string u] w (DrawsStr b (m + 3) (t.size + u.size + 4) w) := by
  by_cases htz : t.size = 0
  · have ht := (str_nil htz).1
    have ht' := (str_nil htz).2
    have Htz := Lib.hid htz
    clear htz
    go_enter Tryz.func34, Tryz.ntmps34
    go_wp2_with fail
    go_ret
    exact ⟨u, by omega, rfl, SK.refl _ _, hs.mono (by omega)⟩
  have ht := (str_ne (by omega : 1 ≤ t.size)).1
  have ht' := (str_ne (by omega : 1 ≤ t.size)).2
  by_cases huz : u.size = 0
  · have hu := (str_nil huz).1
    have hu' := (str_nil huz).2
    have Htz := Lib.hid htz
    have Huz := Lib.hid huz
    clear htz huz
    go_enter Tryz.func34, Tryz.ntmps34
    go_wp2_with fail
    go_ret
    exact ⟨u, by omega, rfl, SK.refl _ _, hs.mono (by omega)⟩
  have hu := (str_ne (by omega : 1 ≤ u.size)).1
  have hu' := (str_ne (by omega : 1 ≤ u.size)).2
  have htz1 : 1 ≤ t.size := by omega
  have huz1 : 1 ≤ u.size := by omega
  clear htz huz
  go_enter Tryz.func34, Tryz.ntmps34
  go_wp2_with fail
  refine (next_any b m _ _ hs (by omega) (by omega) (by omega)).mono ?_
  rintro e w1 ⟨r1, hr1, hr1', rfl, hk1, hs1⟩
  obtain ⟨i, rfl⟩ := Int.eq_ofNat_of_zero_le hr1
  clear hs
  go_wp2_with fail
  refine (next_any b (m + 1) _ _ hs1 (by omega) (by omega) (by omega)).mono ?_
  rintro e w2 ⟨r2, hr2, hr2', rfl, hk2, hs2⟩
  obtain ⟨j, rfl⟩ := Int.eq_ofNat_of_zero_le hr2
  clear hs1
  go_wp2_with fail
  refine (next_any b (m + 2) _ _ hs2 (by omega) (by omega) (by omega)).mono ?_
  rintro e w3 ⟨r3, hr3, hr3', rfl, hk3, hs3⟩
  clear hs2
  have hit : i ≤ t.size := by omega
  have hit1 : i < t.size := by omega
  have hit2 : i + 1 ≤ t.size := by omega
  go_wp2_with fail
  all_goals
    have hc := (u[j]'(by omega)).toNat_lt
    have hq := encode_le ↑(u[j]'(by omega)).toNat
    refine wp_region_quiet_lit (by kernel_rfl) (by kernel_rfl) ?_
    repeat (refine wpQuiet_step (fun K hK => ?_); go_simp; (try go_bits); (try simp (disch := omega) only [if_pos]); (try simp (disch := omega) only [if_neg]); (try go_simp); (refine hK _ ?_; clear hK K))
    refine wpQuiet_nil ?_
    intro _ hw'
    obtain ⟨nq, hw''⟩ := hw'
    subst hw''
    go_wp2
    go_ret
    refine ⟨_, ?_, rfl, SK.drewN _ (hk1.trans (hk2.trans hk3)), hs3.keep ⟨rfl, rfl, rfl, Nat.le_refl _, fun _ _ => rfl⟩⟩
    simp only [ByteArray.size_append, ByteArray.size_extract]
    omega
end Go.Proofs.YtmlpkejeglpciaaGreatDoor

/- What the small predicates on bytes and numbers of package person return: within, digit, small, capital, all. -/
namespace Go.Proofs.YtmlpkejeglpciaaGreatDoor
open Go.RowKit

theorem small_any (n : Int) (w : World) : Calls Tryz.prog 160 #[.int .u8 n] w fun e w' => e = .returned (.bool (decide (97 ≤ n ∧ n ≤ 122))) ∧ w = w' := by
  by_cases h1 : 97 ≤ n <;> by_cases h2 : n ≤ 122
  all_goals
    simp only [h1, h2, and_true, and_false, decide_true, decide_false]
    go_enter Tryz.func160, Tryz.ntmps160
    go_wp2
    go_ret
    exact ⟨rfl, rfl⟩
theorem within_any (n a b : Int) (w : World) : Calls Tryz.prog 159 #[.int .i64 n, .int .i64 a, .int .i64 b] w fun e w' => e = .returned (.bool (decide (a ≤ n ∧ n ≤ b))) ∧ w = w' := by
  by_cases h1 : a ≤ n <;> by_cases h2 : n ≤ b
  all_goals
    simp only [h1, h2, and_true, and_false, decide_true, decide_false]
    go_enter Tryz.func159, Tryz.ntmps159
    go_wp2
    go_ret
    exact ⟨rfl, rfl⟩
theorem digit_any (n : Int) (w : World) : Calls Tryz.prog 163 #[.int .u8 n] w fun e w' => e = .returned (.bool (decide (48 ≤ n ∧ n ≤ 57))) ∧ w = w' := by
  by_cases h1 : 48 ≤ n <;> by_cases h2 : n ≤ 57
  all_goals
    simp only [h1, h2, and_true, and_false, decide_true, decide_false]
    go_enter Tryz.func163, Tryz.ntmps163
    go_wp2
    go_ret
    exact ⟨rfl, rfl⟩
theorem capital_any (n : Int) (w : World) : Calls Tryz.prog 279 #[.int .u8 n] w fun e w' => e = .returned (.bool (decide (65 ≤ n ∧ n ≤ 90))) ∧ w = w' := by
  by_cases h1 : 65 ≤ n <;> by_cases h2 : n ≤ 90
  all_goals
    simp only [h1, h2, and_true, and_false, decide_true, decide_false]
    go_enter Tryz.func279, Tryz.ntmps279
    go_wp2
    go_ret
    exact ⟨rfl, rfl⟩
abbrev PB (g : Nat) (p : UInt8 → Bool) : Prop := ∀ (c : UInt8) (w : World), Calls Tryz.prog g #[.int .u8 (c.toNat : Int)] w fun e w' => e = .returned (.bool (p c)) ∧ w = w'

set_option maxHeartbeats 1000000 in
set_option maxRecDepth 100000 in
theorem all_any (g : Nat) (p : UInt8 → Bool) (hp : PB g p) (s : ByteArray) (w : World) (hs : s.size ≤ 1000000000) (eg : ∀ args w, (callFunc g args).run Tryz.prog w = .ok (.enter g args) w) :
    Calls Tryz.prog 161 #[.string s, .func (.func g) #[] #[]] w fun e w' => e = .returned (.bool (s.data.toList.all p)) ∧ w = w' := by
  obtain ⟨R, HR⟩ : ∃ R, Hid (s.data.toList.all p = R) := ⟨_, Lib.hid rfl⟩
  rw [HR.out]
  have hsl : s.data.toList.length = s.size := rfl
  have Hsl := Lib.hid hsl
  clear hsl
  go_enter Tryz.func161, Tryz.ntmps161
  go_wp2_with fail
  go_loopw [8] (fun i wr => ∃ k : Nat, k ≤ s.size ∧ i = .int .i64 k ∧ wr = w ∧ (s.data.toList.take k).all p = true) (fun i _ => s.size - (intOf i).toNat)
  case atStart => exact ⟨0, Nat.zero_le _, rfl, rfl, by simp⟩
  case round =>
    obtain ⟨k, hk, rfl, rfl, hr⟩ := hrel
    have Hr := Lib.hid hr
    clear hr
    by_cases hlt : k < s.size
    · by_cases hc : p s[k] = true
      · have Hc := Lib.hid hc
        go_wp2_with fail
        refine (hp _ _).mono ?_
        rintro e w1 ⟨rfl, rfl⟩
        rw [hc]
        clear hc
        go_wp2_with fail
        go_roundw
        case rel =>
          refine ⟨k + 1, by omega, by go_num, trivial, ?_⟩
          rw [List.take_succ_eq_append_getElem (by rw [Hsl.out]; exact hlt), List.all_append, Hr.out]
          simp only [List.all_cons, List.all_nil, Bool.and_true, Bool.true_and]
          exact Hc.out
        case measure => simp [intOf]; omega
      · have hc' : p s[k] = false := by simpa using hc
        have HF : Hid (false = R) := by
          show _ = _
          rw [← HR.out]; symm
          rw [List.all_eq_false]
          exact ⟨s[k], List.getElem_mem (l := s.data.toList) (by rw [Hsl.out]; exact hlt), by simpa using hc'⟩
        go_wp2_with fail
        refine (hp _ _).mono ?_
        rintro e w1 ⟨rfl, rfl⟩
        rw [hc']
        clear hc hc'
        go_wp2
        go_ret
        exact ⟨by simp [← HF.out], rfl⟩
    · have HF : Hid (true = R) := by
        show _ = _
        rw [← HR.out, ← Hr.out, List.take_of_length_le (by rw [Hsl.out]; omega)]
      go_wp2
      go_ret
      exact ⟨by simp [← HF.out], rfl⟩
end Go.Proofs.YtmlpkejeglpciaaGreatDoor

/- Plain laws on strings of bytes: what Trim leaves, what is a key, what is a text. No program is in sight. -/
namespace Go.Proofs.YtmlpkejeglpciaaGreatDoor.L
open Go

theorem dropWhile_nil {α : Type} (p : α → Bool) (l : List α) : l.dropWhile p = [] ↔ ∀ x ∈ l, p x = true := by
  induction l with
  | nil => simp
  | cons a t ih =>
    by_cases h : p a = true
    · rw [List.dropWhile_cons_of_pos h, ih]; simp [h]
    · rw [List.dropWhile_cons_of_neg h]; simp [h]
theorem mem_dropWhile {α : Type} (p : α → Bool) {l : List α} {x : α} (hx : x ∈ l) (hp : p x = false) : x ∈ l.dropWhile p := by
  induction l with
  | nil => cases hx
  | cons a t ih =>
    by_cases h : p a = true
    · rw [List.dropWhile_cons_of_pos h]
      rcases List.mem_cons.1 hx with rfl | h2
      · rw [h] at hp; cases hp
      · exact ih h2
    · rw [List.dropWhile_cons_of_neg h]; exact hx
theorem trimS_nil (l cs : List UInt8) : Lib.trimS l cs = [] ↔ l.all (cs.contains ·) = true := by
  unfold Lib.trimS Lib.trimLeftS Lib.trimRightS
  rw [dropWhile_nil, List.all_eq_true]
  constructor
  · intro h x hx
    by_cases hp : cs.contains x = true
    · exact hp
    · exact h x (by rw [List.mem_reverse]; exact mem_dropWhile _ (by simpa using hx) (by simpa using hp))
  · intro h x hx
    rw [List.mem_reverse] at hx
    exact h x (by simpa using (List.dropWhile_sublist _).subset hx)
theorem trimS_isEmpty (l cs : List UInt8) : (Lib.trimS l cs).isEmpty = l.all (cs.contains ·) := by
  rw [Bool.eq_iff_iff, List.isEmpty_iff, trimS_nil]

theorem byte_all {p : UInt8 → Prop} (h : ∀ n : Fin 256, p (UInt8.ofNat n.val)) (c : UInt8) : p c := by
  have := h ⟨c.toNat, c.toNat_lt⟩
  simpa using this

def isSmall (c : UInt8) : Bool := decide (97 ≤ c.toNat) && decide (c.toNat ≤ 122)
def isDigit (c : UInt8) : Bool := decide (48 ≤ c.toNat) && decide (c.toNat ≤ 57)
def isCapital (c : UInt8) : Bool := decide (65 ≤ c.toNat) && decide (c.toNat ≤ 90)
def keyByte (c : UInt8) : Bool := isSmall c || isDigit c || c.toNat == 45 || c.toNat == 95
def isKey (s : ByteArray) : Bool := decide (1 ≤ s.size) && decide (s.size ≤ 40) && isSmall (s.data.toList.headD 0) && s.data.toList.all keyByte
def textByte (c : UInt8) : Bool := decide (32 ≤ c.toNat) && c.toNat != 127

def smallsL : List UInt8 := [97, 98, 99, 100, 101, 102, 103, 104, 105, 106, 107, 108, 109, 110, 111, 112, 113, 114, 115, 116, 117, 118, 119, 120, 121, 122]
def digitsL : List UInt8 := [48, 49, 50, 51, 52, 53, 54, 55, 56, 57]
def capitalsL : List UInt8 := [65, 66, 67, 68, 69, 70, 71, 72, 73, 74, 75, 76, 77, 78, 79, 80, 81, 82, 83, 84, 85, 86, 87, 88, 89, 90]
set_option maxRecDepth 100000 in
theorem smalls_has (c : UInt8) : smallsL.contains c = isSmall c := byte_all (p := fun c => smallsL.contains c = isSmall c) (by decide +kernel) c
set_option maxRecDepth 100000 in
theorem digits_has (c : UInt8) : digitsL.contains c = isDigit c := byte_all (p := fun c => digitsL.contains c = isDigit c) (by decide +kernel) c
set_option maxRecDepth 100000 in
theorem keys_has (c : UInt8) : (smallsL ++ digitsL ++ [45, 95]).contains c = keyByte c := byte_all (p := fun c => (smallsL ++ digitsL ++ [45, 95]).contains c = keyByte c) (by decide +kernel) c

theorem decodeN_parts (n b0 b1 b2 b3 : Nat) (_ : 1 ≤ n) : (Lib.decodeN n b0 b1 b2 b3 = (b0, 1) ∧ b0 < 128) ∨ (Lib.decodeN n b0 b1 b2 b3 = (65533, 1) ∧ 128 ≤ b0) ∨
    (128 ≤ (Lib.decodeN n b0 b1 b2 b3).1 ∧ 2 ≤ (Lib.decodeN n b0 b1 b2 b3).2 ∧ (Lib.decodeN n b0 b1 b2 b3).2 ≤ 4 ∧ (Lib.decodeN n b0 b1 b2 b3).2 ≤ n ∧ 128 ≤ b0 ∧ 128 ≤ b1 ∧ (3 ≤ (Lib.decodeN n b0 b1 b2 b3).2 → 128 ≤ b2) ∧ (4 ≤ (Lib.decodeN n b0 b1 b2 b3).2 → 128 ≤ b3)) := by
  unfold Lib.decodeN
  repeat' split
  all_goals first
    | (left; exact ⟨rfl, by omega⟩)
    | (right; left; exact ⟨rfl, by omega⟩)
    | (right; right; dsimp only; omega)
end Go.Proofs.YtmlpkejeglpciaaGreatDoor.L

/- What the predicates on bytes of package person return, and IsKey. -/
namespace Go.Proofs.YtmlpkejeglpciaaGreatDoor
open Go.RowKit

theorem ret_b {a b : Bool} (h : a = b) : Ending.returned (.bool a) = .returned (.bool b) := by rw [h]
theorem ret_i {k : IntKind} {a b : Int} (h : a = b) : Ending.returned (.int k a) = .returned (.int k b) := by rw [h]
theorem small_pb : PB 160 L.isSmall := fun c w => (small_any c.toNat w).mono fun e w' ⟨h1, h2⟩ => ⟨by rw [h1]; congr 2; unfold L.isSmall; rw [Bool.eq_iff_iff]; simp; omega, h2⟩
theorem digit_pb : PB 163 L.isDigit := fun c w => (digit_any c.toNat w).mono fun e w' ⟨h1, h2⟩ => ⟨by rw [h1]; congr 2; unfold L.isDigit; rw [Bool.eq_iff_iff]; simp; omega, h2⟩
theorem capital_pb : PB 279 L.isCapital := fun c w => (capital_any c.toNat w).mono fun e w' ⟨h1, h2⟩ => ⟨by rw [h1]; congr 2; unfold L.isCapital; rw [Bool.eq_iff_iff]; simp; omega, h2⟩
theorem isKey1_pb : PB 162 L.keyByte := by
  intro c w
  unfold L.keyByte
  by_cases h1 : L.isSmall c = true
  · go_enter Tryz.func162, Tryz.ntmps162
    go_wp2_with fail
    refine (small_pb c _).mono ?_
    rintro e _ ⟨rfl, rfl⟩
    rw [h1]
    go_wp2_with fail
    go_ret
    exact ⟨by simp [h1], rfl⟩
  · have h1 : L.isSmall c = false := by simpa using h1
    by_cases h2 : L.isDigit c = true
    · go_enter Tryz.func162, Tryz.ntmps162
      go_wp2_with fail
      refine (small_pb c _).mono ?_
      rintro e _ ⟨rfl, rfl⟩
      rw [h1]
      go_wp2_with fail
      refine (digit_pb c _).mono ?_
      rintro e _ ⟨rfl, rfl⟩
      rw [h2]
      go_wp2_with fail
      go_ret
      exact ⟨by simp [h1, h2], rfl⟩
    · have h2 : L.isDigit c = false := by simpa using h2
      go_enter Tryz.func162, Tryz.ntmps162
      go_wp2_with fail
      refine (small_pb c _).mono ?_
      rintro e _ ⟨rfl, rfl⟩
      rw [h1]
      go_wp2_with fail
      refine (digit_pb c _).mono ?_
      rintro e _ ⟨rfl, rfl⟩
      rw [h2]
      go_wp2_with fail
      all_goals
        go_ret
        refine ⟨ret_b ?_, rfl⟩
        rw [Bool.eq_iff_iff]
        simp [h1, h2]
        omega
theorem checkText1_pb : PB 307 L.textByte := by
  intro c w
  unfold L.textByte
  go_enter Tryz.func307, Tryz.ntmps307
  go_wp2_with fail
  all_goals
    go_ret
    refine ⟨ret_b ?_, rfl⟩
    rw [Bool.eq_iff_iff]
    simp
    omega
theorem headD_at (s : ByteArray) (h : 0 < s.size) : s.data.toList.headD 0 = s[0] := by
  obtain ⟨⟨l⟩⟩ := s
  cases l with
  | nil => simp [ByteArray.size] at h
  | cons a t => rfl
theorem isKey_any (s : ByteArray) (w : World) (hs : s.size ≤ 1000000000) :
    Calls Tryz.prog 107 #[.string s] w fun e w' => e = .returned (.bool (L.isKey s)) ∧ w = w' := by
  unfold L.isKey
  by_cases h1 : 1 ≤ s.size ∧ s.size ≤ 40
  · have e1 : decide ((1 : Int) ≤ s.size ∧ (s.size : Int) ≤ 40) = true := by simp; omega
    have hh := headD_at s (by omega)
    have Hh : Hid (s.data.toList.headD 0 = s[0]'(by omega)) := Lib.hid hh
    have hs0 : 0 < s.size := by omega
    rw [Hh.out]
    clear hh
    by_cases h2 : L.isSmall (s[0]'(by omega)) = true
    · go_enter Tryz.func107, Tryz.ntmps107
      go_wp2_with fail
      refine (within_any _ _ _ _).mono ?_
      rintro e _ ⟨rfl, rfl⟩
      rw [e1]
      go_wp2_with fail
      refine (small_pb _ _).mono ?_
      rintro e _ ⟨rfl, rfl⟩
      rw [h2]
      go_wp2_with fail
      refine (all_any _ _ isKey1_pb s _ hs (fun _ _ => by kernel_rfl)).mono ?_
      rintro e _ ⟨rfl, rfl⟩
      go_wp2_with fail
      go_ret
      exact ⟨by simp [h1, h2], rfl⟩
    · have h2 : L.isSmall (s[0]'(by omega)) = false := by simpa using h2
      go_enter Tryz.func107, Tryz.ntmps107
      go_wp2_with fail
      refine (within_any _ _ _ _).mono ?_
      rintro e _ ⟨rfl, rfl⟩
      rw [e1]
      go_wp2_with fail
      refine (small_pb _ _).mono ?_
      rintro e _ ⟨rfl, rfl⟩
      rw [h2]
      go_wp2_with fail
      go_ret
      exact ⟨by simp [h1, h2], rfl⟩
  · have e1 : decide ((1 : Int) ≤ s.size ∧ (s.size : Int) ≤ 40) = false := by simp; omega
    have e2 : (decide (1 ≤ s.size) && decide (s.size ≤ 40)) = false := by simp; omega
    rw [e2]
    go_enter Tryz.func107, Tryz.ntmps107
    go_wp2_with fail
    refine (within_any _ _ _ _).mono ?_
    rintro e _ ⟨rfl, rfl⟩
    rw [e1]
    go_wp2_with fail
    go_ret
    exact ⟨by simp, rfl⟩
end Go.Proofs.YtmlpkejeglpciaaGreatDoor

/- Slices that a call owns, or reads, whatever their elements: laws on append and make for the walk. -/
namespace Go.Proofs.YtmlpkejeglpciaaGreatDoor
open Go.RowKit

structure STy (T E : TypeId) (size bytes : Nat) (z : Value) : Prop where
  under : Tryz.prog.underlying T = some (.slice E)
  info : (Tryz.prog.info? E).map (fun i => (i.zero, i.size, i.bytes)) = some (some z, size, bytes)
  zsize : z.cells.size = size
  pos : 0 < size

def Rd (w : World) (v : Value) (n size : Nat) (xs : List Value) : Prop :=
  xs.length = n * size ∧ ((∃ a c, v = .slice a 0 c ∧ n = 0) ∨ ∃ blk off cap, v = .slice (some ⟨blk, off, none⟩) n cap ∧ blk < w.heap.size ∧ ∀ i x, xs[i]? = some x → w.cell? ⟨blk, off + i, none⟩ = some x)

theorem add_at (blk off i : Nat) : (⟨blk, off, none⟩ : Addr).add i = ⟨blk, off + i, none⟩ := by unfold Addr.add; split <;> simp_all

theorem Rd.ofOwn {w : World} {B E size : Nat} {v : Value} {n : Nat} {xs : List Value} (h : w.ownsRow B E size v n xs) : Rd w v n size xs := by
  refine ⟨h.1, ?_⟩
  rcases h.2 with ⟨rfl, h0⟩ | ⟨g, cap, cur, rfl, hb, hg, hn, hc, hs, ht⟩
  · exact .inl ⟨none, 0, rfl, h0⟩
  · refine .inr ⟨g, 0, cap, rfl, (h.lt g rfl).2, fun i x hx => ?_⟩
    have := h.cells (g := g) rfl i x hx
    rwa [add_at] at this
theorem own_keep {w w' : World} {B E size : Nat} {v : Value} {n : Nat} {xs : List Value} (h : w.ownsRow B E size v n xs) (hk : Below w.heap.size w w') : w'.ownsRow B E size v n xs :=
  World.ownsRow.kept (row := none) h ⟨hk.os, hk.tape, hk.output, hk.size, fun k hk' _ => hk.block k hk'⟩ (by cases hv : v.ownBlock <;> simp)

section
variable {ops : Array Oper} {rest : List Oper} {o : Oper} {a : Act} {Q : Exit → Act → World → Prop}
theorem app_lit {w0 : World} {cs : Array Value} {T E size bytes : Nat} {z : Value} (ty : STy T E size bytes z) (hgd : o.guard = none) (s x : Operand) (ho : o.op = .call { callee := .builtin .append, args := #[s, x], argTypes := #[T, T] })
    (B : Nat) (v : Value) (n : Nat) (xs : List Value) (m c : Nat) (hs : a.eval s = v) (hown : w0.ownsRow B E size v n xs) (hx : a.eval x = .slice (some ⟨w0.heap.size, 0, none⟩) m c) (hcs : cs.size = m * size) (h1 : ∀ u ∈ cs.toList, u.oneCell' = true)
    (hB : B ≤ w0.heap.size) (hlen : n + m ≤ 1000000000) (hby : bytes ≤ 1000)
    (h : ∀ v' w', w'.ownsRow B E size v' (n + m) (xs ++ cs.toList) → w0.grownBy w' v.ownBlock → Below B w0 w' → (v' = .slice none 0 0 ↔ v = .slice none 0 0 ∧ m = 0) → wpList Tryz.prog ops Q rest (a.put o.dst v') w') : wpList Tryz.prog ops Q (o :: rest) a (w0.alloc (.cells cs E)) := by
  obtain ⟨i0, hi, hz0, hz1, hz2⟩ := info_parts ty.info
  refine wpList_append_own _ hgd s x T ho B E i0 z size bytes ty.under hi hz0 hz1 hz2 ty.zsize ty.pos v n xs hs (hown.alloc _) ⟨w0.heap.size, 0, none⟩ m c cs.toList hx (by simpa using hcs) ?_ h1 ?_ ?_ ?_ ?_
  · intro j u hj
    rw [add_at, World.cell?_alloc_at _ _ _ _ rfl]
    simpa using hj
  · unfold maxLen; omega
  · have := Nat.mul_le_mul hlen hby; omega
  · simp; omega
  · intro v' w' h1 h2 h3
    have hg : w0.grownBy w' v.ownBlock := ⟨h2.os, h2.tape, h2.output, by have := h2.size; simp at this; omega, fun k hk hn => by rw [h2.block k (by simp; omega) hn]; exact Below.heap_alloc _ _ _ hk⟩
    exact h v' w' h1 hg ((Below.refl B w0).grown hg hB (fun k hk => (hown.lt k hk).1)) h3
end
end Go.Proofs.YtmlpkejeglpciaaGreatDoor

/- Edit distances, plainly: by rows from the front, by columns from the end, and that both are one number. No program is in sight. -/
namespace Go.Proofs.YtmlpkejeglpciaaGreatDoor.D

end Go.Proofs.YtmlpkejeglpciaaGreatDoor.D

/- What person.distance returns: the edit distance of two lists of numbers, by rows. -/
namespace Go.Proofs.YtmlpkejeglpciaaGreatDoor
open Go.RowKit

theorem tyInts : STy 22 3 1 8 (.int .i64 0) := ⟨Tryz.underlying22, by kernel_rfl, rfl, by decide⟩

@[go_sem high] theorem run_min3 {P : Program} (w : World) (ts : Array TypeId) (t : TypeId) (x y z : Int) :
    (Builtin.min_ ts t #[.int .i64 x, .int .i64 y, .int .i64 z]).run P w = .ok (.int .i64 (min (min x y) z)) w := by
  rw [run_min_int3]
  congr 2
  rw [Int.min_def, Int.min_def]
  repeat' split
  all_goals omega

end Go.Proofs.YtmlpkejeglpciaaGreatDoor

/- What strings.Builder's copyCheck, WriteByte and WriteString do to a builder that the call has made itself (after the shelf's worked proofs, whose layings do not fit this translation). -/
namespace Go.Proofs.YtmlpkejeglpciaaGreatDoor
open Go.RowKit

end Go.Proofs.YtmlpkejeglpciaaGreatDoor
