/- Streams of drawn numbers: what handmake.Below, Next, Range, Pick, Changed and handlaw2.strange give. -/
import Derived.Test.YtmlpkejeglpciaaDoorRows
import Derived.Test.YtmlpkejeglpciaaDoorKp
import Derived.WalkKit
import Derived.ProofKit
import Derived.OpenShut
import Derived.Deep.QuietTactic
import Derived.BigQuiet
import Derived.Outline
import Derived.Lib.Hide
import Derived.Below
namespace Go.Proofs.YtmlpkejeglpciaaDoor
open Go.RowKit

/-- Old memory is as it was, but for block b; new blocks may have come. -/
structure SK (b : Nat) (w w' : World) : Prop where
  os : w'.os = w.os
  tape : w'.tape = w.tape
  output : w'.output = w.output
  size : w.heap.size ≤ w'.heap.size
  block : ∀ k, k < w.heap.size → k ≠ b → w'.heap[k]? = w.heap[k]?

theorem SK.refl (b : Nat) (w : World) : SK b w w := ⟨rfl, rfl, rfl, Nat.le_refl _, fun _ _ _ => rfl⟩
theorem SK.trans {b : Nat} {u v w : World} (h : SK b u v) (k : SK b v w) : SK b u w :=
  ⟨k.os.trans h.os, k.tape.trans h.tape, k.output.trans h.output, Nat.le_trans h.size k.size, fun i hi hb => (k.block i (Nat.lt_of_lt_of_le hi h.size) hb).trans (h.block i hi hb)⟩
theorem SK.drew {b : Nat} {u w : World} (h : SK b u w) : SK b u w.drew := ⟨h.os, h.tape, h.output, h.size, h.block⟩
theorem SK.drewN {b : Nat} {u w : World} (n : Nat) (h : SK b u w) : SK b u (w.drewN n) := ⟨h.os, h.tape, h.output, h.size, h.block⟩
theorem SK.alloc {b : Nat} {u w : World} (h : SK b u w) (o : Obj) : SK b u (w.alloc o) :=
  h.trans ⟨rfl, rfl, rfl, by simp, fun k hk _ => Below.heap_alloc _ _ _ hk⟩
theorem SK.setCell {b : Nat} {u w : World} (h : SK b u w) (o : Nat) (v : Value) : SK b u (w.setCell ⟨b, o, none⟩ v) :=
  h.trans ⟨rfl, rfl, rfl, by simp [World.setCell], fun k _ hb => Below.heap_setCell _ _ _ _ hb⟩
theorem SK.ofBelow {b : Nat} {w w' : World} (h : Below w.heap.size w w') : SK b w w' :=
  ⟨h.os, h.tape, h.output, h.size, fun k hk _ => h.block k hk⟩

/-- Block b is a stream of which at most m numbers were drawn: its list is ints that lie in memory that the stream is not. -/
def Strm (b m : Nat) (w : World) : Prop :=
  ∃ (v : Value) (a : Nat), w.heap[b]? = some (.cells #[v, .int .i64 a] 25 (0, 0)) ∧ a ≤ m ∧
    ((∃ a c, v = .slice a 0 c) ∨ ∃ k off len cap, v = .slice (some ⟨k, off, none⟩) len cap ∧ len ≤ 9223372036854775807 ∧ k < b ∧
      ∀ i, i < len → ∃ z : Int, w.cell? ⟨k, off + i, none⟩ = some (.int .i64 z))

theorem Strm.lt {b m : Nat} {w : World} (h : Strm b m w) : b < w.heap.size := by
  obtain ⟨v, a, hb, _⟩ := h
  rcases Nat.lt_or_ge b w.heap.size with h | h
  · exact h
  · rw [Array.getElem?_eq_none h] at hb; cases hb

theorem Strm.mono {b m n : Nat} {w : World} (h : Strm b m w) (k : m ≤ n) : Strm b n w := by
  obtain ⟨v, a, hb, h1, h2⟩ := h
  exact ⟨v, a, hb, by omega, h2⟩

/-- The stream's own block may be written: its list and its memory stay. -/
theorem Strm.step {b m : Nat} {w w' : World} {v : Value} {n : Nat} (hlt : b < w.heap.size) (k : SK b w w') (hb' : w'.heap[b]? = some (.cells #[v, .int .i64 n] 25 (0, 0))) (hn : n ≤ m)
    (h3 : (∃ a c, v = .slice a 0 c) ∨ ∃ k off len cap, v = .slice (some ⟨k, off, none⟩) len cap ∧ len ≤ 9223372036854775807 ∧ k < b ∧
      ∀ i, i < len → ∃ z : Int, w.cell? ⟨k, off + i, none⟩ = some (.int .i64 z)) : Strm b m w' := by
  refine ⟨v, n, hb', hn, ?_⟩
  rcases h3 with h3 | ⟨kk, off, len, cap, e1, e2, e3, e5⟩
  · exact .inl h3
  · refine .inr ⟨kk, off, len, cap, e1, e2, e3, fun i hi => ?_⟩
    obtain ⟨z, hz⟩ := e5 i hi
    exact ⟨z, by rw [World.cell?_of_block (w := w) (a := ⟨kk, off + i, none⟩) (k.block kk (by omega) (by omega))]; exact hz⟩

theorem Strm.keep {b m : Nat} {w w' : World} (h : Strm b m w) (k : Below w.heap.size w w') : Strm b m w' := by
  have hlt := h.lt
  obtain ⟨v, a, hb, h1, h3⟩ := h
  exact Strm.step hlt (SK.ofBelow k) (by rw [k.block b hlt]; exact hb) h1 h3
theorem SK.setNew {b : Nat} {u w : World} (h : SK b u w) {X : Nat} (hX : u.heap.size ≤ X) (o : Nat) (v : Value) : SK b u (w.setCell ⟨X, o, none⟩ v) :=
  ⟨h.os, h.tape, h.output, by simp [World.setCell]; exact h.size, fun k hk hb => (Below.heap_setCell _ _ _ _ (by show k ≠ X; omega)).trans (h.block k hk hb)⟩
theorem Strm.set {b m : Nat} {w : World} (h : Strm b m w) {X : Nat} (hX : b < X) (o : Nat) (u : Value) : Strm b m (w.setCell ⟨X, o, none⟩ u) := by
  obtain ⟨v, a, hb, h1, h3⟩ := h
  refine ⟨v, a, (Below.heap_setCell _ _ _ _ (by show b ≠ X; omega)).trans hb, h1, ?_⟩
  rcases h3 with h3 | ⟨kk, off, len, cap, e1, e2, e3, e5⟩
  · exact .inl h3
  · refine .inr ⟨kk, off, len, cap, e1, e2, e3, fun i hi => ?_⟩
    obtain ⟨z, hz⟩ := e5 i hi
    exact ⟨z, by rw [World.cell?_of_block (w := w) (a := ⟨kk, off + i, none⟩) (Below.heap_setCell _ _ _ _ (by show kk ≠ X; omega))]; exact hz⟩
/-- The stream goes on, and nothing else that was in w0 has turned. -/
structure G (b m : Nat) (w0 w : World) : Prop where
  k : SK b w0 w
  s : Strm b m w
theorem Strm.alloc {b m : Nat} {w : World} (h : Strm b m w) (o : Obj) : Strm b m (w.alloc o) :=
  h.keep ((Below.refl _ _).alloc (Nat.le_refl _) o)

theorem G.start {b m : Nat} {w : World} (h : Strm b m w) : G b m w w := ⟨SK.refl _ _, h⟩
theorem G.alloc {b m : Nat} {w0 w : World} (h : G b m w0 w) (o : Obj) : G b m w0 (w.alloc o) := ⟨h.k.alloc o, h.s.alloc o⟩
theorem G.step {b m n : Nat} {w0 w w' : World} (h : G b m w0 w) (hk : SK b w w') (hs : Strm b n w') : G b n w0 w' := ⟨h.k.trans hk, hs⟩
theorem G.below {b m : Nat} {w0 w w' : World} (h : G b m w0 w) (hk : Below w.heap.size w w') : G b m w0 w' := ⟨h.k.trans (SK.ofBelow hk), h.s.keep hk⟩
theorem G.set {b m : Nat} {w0 w : World} (h : G b m w0 w) {X : Nat} (hX : b < X) (hX2 : w0.heap.size ≤ X) (o : Nat) (u : Value) : G b m w0 (w.setCell ⟨X, o, none⟩ u) := ⟨h.k.setNew hX2 o u, h.s.set hX o u⟩
theorem Strm.lower {b m : Nat} {w w' : World} (h : Strm b m w) (k : ∀ k, k ≤ b → w'.heap[k]? = w.heap[k]?) : Strm b m w' := by
  obtain ⟨v, a, hb, h1, h3⟩ := h
  refine ⟨v, a, (k b (Nat.le_refl _)).trans hb, h1, ?_⟩
  rcases h3 with h3 | ⟨kk, off, len, cap, e1, e2, e3, e5⟩
  · exact .inl h3
  · refine .inr ⟨kk, off, len, cap, e1, e2, e3, fun i hi => ?_⟩
    obtain ⟨z, hz⟩ := e5 i hi
    exact ⟨z, by rw [World.cell?_of_block (w := w) (a := ⟨kk, off + i, none⟩) (k kk (by omega))]; exact hz⟩
/-- behind an append to a slice of the call's own -/
theorem G.belowB {b m : Nat} {w0 w w' : World} (h : G b m w0 w) (k : Below w0.heap.size w w') (hb : b < w0.heap.size) : G b m w0 w' :=
  ⟨⟨k.os.trans h.k.os, k.tape.trans h.k.tape, k.output.trans h.k.output, Nat.le_trans h.k.size k.size, fun i hi hn => (k.block i hi).trans (h.k.block i hi hn)⟩, h.s.lower fun i hi => k.block i (by omega)⟩
theorem G.size {b m : Nat} {w0 w : World} (h : G b m w0 w) : w0.heap.size ≤ w.heap.size := h.k.size
theorem G.mono {b m n : Nat} {w0 w : World} (h : G b m w0 w) (hm : m ≤ n) : G b n w0 w := ⟨h.k, h.s.mono hm⟩
/-- v is a slice of ints that lie in memory -/
def IntsIn (v : Value) (w : World) : Prop :=
  (∃ a c, v = .slice a 0 c) ∨ ∃ k off len cap, v = .slice (some ⟨k, off, none⟩) len cap ∧ len ≤ 9223372036854775807 ∧ k < w.heap.size ∧ ∀ i, i < len → ∃ z : Int, w.cell? ⟨k, off + i, none⟩ = some (.int .i64 z)
theorem Strm.start {v : Value} {w : World} (h : IntsIn v w) : Strm w.heap.size 0 (w.alloc (.cells #[v, .int .i64 0] 25)) := by
  refine ⟨v, 0, ?_, Nat.le_refl _, ?_⟩
  · show (w.heap.push _)[w.heap.size]? = _
    simp
  · rcases h with h | ⟨k, off, len, cap, e1, e2, e3, e4⟩
    · exact .inl h
    · refine .inr ⟨k, off, len, cap, e1, e2, e3, fun i hi => ?_⟩
      obtain ⟨z, hz⟩ := e4 i hi
      exact ⟨z, by rw [World.cell?_alloc_past _ _ _ e3]; exact hz⟩
theorem SK.below {b B : Nat} {w w' : World} (h : SK b w w') (hb : B ≤ b) (hB : B ≤ w.heap.size) : Below B w w' :=
  ⟨h.os, h.tape, h.output, h.size, fun k hk => h.block k (by omega) (by omega)⟩

/-- A number from 0 on and below n is returned; the world is as it was. -/
def GivesBelow (n : Int) (w : World) (e : Ending) (w' : World) : Prop := ∃ r : Int, 0 ≤ r ∧ r < n ∧ e = .returned (.int .i64 r) ∧ w = w'
theorem below_any (x n : Int) (w : World) (h : 1 ≤ n) (hn : n ≤ 9223372036854775807) :
    Calls Tryd.prog 31 #[.int .i64 x, .int .i64 n] w (GivesBelow n w) := by
  have h1 := Int.tmod_lt_of_pos x (b := n) (by omega)
  have h2 := Int.lt_tmod_of_pos x (b := n) (by omega)
  go_enter Tryd.func31, Tryd.ntmps31
  go_wp2
  · go_ret
    have h3 : x.tmod n < 0 := by assumption
    exact ⟨_, by omega, by omega, rfl, rfl⟩
  · go_ret
    have h3 : 0 ≤ x.tmod n := by assumption
    exact ⟨_, h3, h1, rfl, rfl⟩

/-- What a draw gives: a number from 0 on and below n; the stream is still one; other memory is as it was. -/
def Draws (b m : Nat) (n : Int) (w : World) (e : Ending) (w' : World) : Prop := ∃ r : Int, 0 ≤ r ∧ r < n ∧ e = .returned (.int .i64 r) ∧ SK b w w' ∧ Strm b m w'

theorem strm_at {b : Nat} {w : World} {v : Value} {a : Int} {o : Nat × Nat} {T : Nat} (h : w.heap[b]? = some (.cells #[v, .int .i64 a] T o)) (x : Value) :
    (w.setCell ⟨b, 1, none⟩ x).heap[b]? = some (.cells #[v, x] T o) := by
  simp [World.setCell, Array.getElem?_modify, h]

theorem next_any (b m : Nat) (n : Int) (w : World) (hs : Strm b m w) (h : 1 ≤ n) (hn : n ≤ 9223372036854775807) (hm : m ≤ 1000000000000) :
    Calls Tryd.prog 15 #[.pointer (some ⟨b, 0, none⟩), .int .i64 n] w (Draws b (m + 1) n w) := by
  have hblt := hs.lt
  obtain ⟨v, a, hb, ha, hl⟩ := hs
  have c0 : w.cell? ⟨b, 0, none⟩ = some v := by simp [World.cell?, hb]
  have c1 : w.cell? ⟨b, 1, none⟩ = some (.int .i64 a) := by simp [World.cell?, hb]
  have f1 : w.frozen? ⟨b, 1, none⟩ = false := by simp [World.frozen?, hb]
  have Hst : Hid (∀ q, Strm b (m + 1) ((w.setCell ⟨b, 1, none⟩ (.int .i64 ((a : Int) + 1))).drewN q)) := fun q =>
    Strm.step (n := a + 1) hblt (SK.drewN q ((SK.refl b w).setCell _ _)) (strm_at hb _) (by omega) hl
  clear hb
  rcases hl with ⟨a0, c0', rfl⟩ | ⟨k, off, len, cap, rfl, hlen, hkb, hcs⟩
  · go_enter Tryd.func15, Tryd.ntmps15
    go_wp2_with fail
    refine (below_any _ _ _ h hn).mono ?_
    rintro e w' ⟨r, hr0, hr1, rfl, rfl⟩
    go_wp2
    go_ret
    exact ⟨r, hr0, hr1, rfl, (SK.refl _ _).setCell _ _, Hst.out 0⟩
  · have hcs' := Lib.hid hcs
    clear hcs
    by_cases hl0 : len = 0
    · subst hl0
      go_enter Tryd.func15, Tryd.ntmps15
      go_wp2_with fail
      go_wp2_with fail
      refine (below_any _ _ _ h hn).mono ?_
      rintro e w' ⟨r, hr0, hr1, rfl, rfl⟩
      go_wp2
      go_ret
      exact ⟨r, hr0, hr1, rfl, (SK.refl _ _).setCell _ _, Hst.out 0⟩
    · have hne : ((len : Int) == 0) = false := by simpa using hl0
      have hlp : 1 ≤ (len : Int) := by omega
      have hlt : a % len < len := Nat.mod_lt _ (by omega)
      obtain ⟨z, hz⟩ := hcs'.out (a % len) hlt
      go_enter Tryd.func15, Tryd.ntmps15
      go_wp2_with fail
      go_quiet (fail)
      go_wp2_with fail
      go_quiet (fail)
      go_wp2_with fail
      refine (below_any _ _ _ (by omega) (by omega)).mono ?_
      rintro e w' ⟨r, hr0, hr1, rfl, rfl⟩
      go_wp2_with fail
      refine (below_any _ _ _ h hn).mono ?_
      rintro e w' ⟨r', hr0', hr1', rfl, rfl⟩
      go_wp2
      go_ret
      exact ⟨r', hr0', hr1', rfl, SK.drewN _ ((SK.refl _ _).setCell _ _), Hst.out _⟩

theorem str_ne {t : ByteArray} (h : 1 ≤ t.size) : ¬ t.toList = [] ∧ t.toList.isEmpty = false := by
  have : ¬ t.toList = [] := by
    rw [toList_nil_iff_emptyBytes]
    rintro rfl
    simp at h
  exact ⟨this, by simpa using this⟩
theorem str_nil {t : ByteArray} (h : t.size = 0) : t.toList = [] ∧ t.toList.isEmpty = true := by
  have : t.toList = [] := by
    rw [toList_nil_iff_emptyBytes]
    exact ByteArray.size_eq_zero_iff.1 h
  exact ⟨this, by simpa using this⟩

/-- A number from lo to hi is drawn. -/
def DrawsIn (b m : Nat) (lo hi : Int) (w : World) (e : Ending) (w' : World) : Prop := ∃ r : Int, lo ≤ r ∧ r ≤ hi ∧ e = .returned (.int .i64 r) ∧ SK b w w' ∧ Strm b m w'
theorem range_any (b m : Nat) (lo hi : Int) (w : World) (hs : Strm b m w) (h : lo ≤ hi) (hlo : -1000000000000000 ≤ lo) (hhi : hi ≤ 1000000000000000) (hm : m ≤ 1000000000000) :
    Calls Tryd.prog 16 #[.pointer (some ⟨b, 0, none⟩), .int .i64 lo, .int .i64 hi] w (DrawsIn b (m + 1) lo hi w) := by
  go_enter Tryd.func16, Tryd.ntmps16
  go_wp2_with fail
  refine (next_any b m _ _ hs (by omega) (by omega) hm).mono ?_
  rintro e w' ⟨r, hr0, hr1, rfl, hk, hs'⟩
  clear hs
  go_wp2
  go_ret
  exact ⟨lo + r, by omega, by omega, rfl, hk, hs'⟩

/-- true or false is drawn. -/
def DrawsBool (b m : Nat) (w : World) (e : Ending) (w' : World) : Prop := ∃ r : Bool, e = .returned (.bool r) ∧ SK b w w' ∧ Strm b m w'
theorem flip_any (b m : Nat) (n : Int) (w : World) (hs : Strm b m w) (h : 1 ≤ n) (hn : n ≤ 1000000000000000) (hm : m ≤ 1000000000000) :
    Calls Tryd.prog 6 #[.pointer (some ⟨b, 0, none⟩), .int .i64 n] w (DrawsBool b (m + 1) w) := by
  go_enter Tryd.func6, Tryd.ntmps6
  go_wp2_with fail
  refine (next_any b m _ _ hs (by omega) (by omega) hm).mono ?_
  rintro e w' ⟨r, hr0, hr1, rfl, hk, hs'⟩
  clear hs
  go_wp2
  go_ret
  exact ⟨_, rfl, hk, hs'⟩

/-- One of some numbers is drawn. -/
def DrawsOf (b m : Nat) (zs : List Int) (w : World) (e : Ending) (w' : World) : Prop := ∃ r : Int, r ∈ zs ∧ e = .returned (.int .i64 r) ∧ SK b w w' ∧ Strm b m w'
theorem pick_any (b m k off cap : Nat) (zs : List Int) (w : World) (hs : Strm b m w) (h : 1 ≤ zs.length) (hn : zs.length ≤ 1000000000) (hm : m ≤ 1000000000000) (hk : k < w.heap.size) (hkb : k ≠ b)
    (hc : ∀ i, i < zs.length → w.cell? ⟨k, off + i, none⟩ = some (.int .i64 (zs[i]?.getD 0))) :
    Calls Tryd.prog 14 #[.pointer (some ⟨b, 0, none⟩), .slice (some ⟨k, off, none⟩) zs.length cap] w (DrawsOf b (m + 1) zs w) := by
  have Hc := Lib.hid hc
  clear hc
  go_enter Tryd.func14, Tryd.ntmps14
  go_wp2_with fail
  refine (next_any b m _ _ hs (by omega) (by omega) hm).mono ?_
  rintro e w' ⟨r, hr0, hr1, rfl, hk', hs'⟩
  clear hs
  obtain ⟨i, rfl⟩ := Int.eq_ofNat_of_zero_le hr0
  have hi : i < zs.length := by omega
  have hci : w'.cell? ⟨k, off + i, none⟩ = some (.int .i64 (zs[i]?.getD 0)) := by
    rw [World.cell?_of_block (w := w) (a := ⟨k, off + i, none⟩) (hk'.block k hk hkb)]; exact Hc.out i hi
  go_wp2
  go_ret
  exact ⟨zs[i], List.getElem_mem hi, rfl, hk', hs'⟩

/-- Pick of numbers that were just written out -/
theorem pick_lit (b m n : Nat) (zs : List Int) {w0 : World} {cs : Array Value} (hs : Strm b m w0) (hn : n = zs.length) (hcs : cs = (zs.map (Value.int .i64)).toArray) (h1 : 1 ≤ n) (h2 : n ≤ 1000) (hm : m ≤ 1000000000000) :
    Calls Tryd.prog 14 #[.pointer (some ⟨b, 0, none⟩), .slice (some ⟨w0.heap.size, 0, none⟩) n n] (w0.alloc (.cells cs 3)) (DrawsOf b (m + 1) zs w0) := by
  subst hn hcs
  refine (pick_any b m w0.heap.size 0 zs.length zs (w0.alloc _) (hs.alloc _) h1 (by omega) hm (by simp) (by have := hs.lt; omega) (fun i hi => ?_)).mono ?_
  · rw [World.cell?_alloc_at _ _ _ _ rfl]
    simp [hi]
  · rintro e w' ⟨r, hr, he, hk, hst⟩
    exact ⟨r, hr, he, ((SK.refl b w0).alloc _).trans hk, hst⟩

theorem pick_at (b m n p : Nat) (zs : List Int) {w0 : World} {cs : Array Value} (hs : Strm b m w0) (hp : p = w0.heap.size) (hn : n = zs.length) (hcs : cs = (zs.map (Value.int .i64)).toArray) (h1 : 1 ≤ n) (h2 : n ≤ 1000) (hm : m ≤ 1000000000000) :
    Calls Tryd.prog 14 #[.pointer (some ⟨b, 0, none⟩), .slice (some ⟨p, 0, none⟩) n n] (w0.alloc (.cells cs 3)) (DrawsOf b (m + 1) zs w0) := by
  subst hp
  exact pick_lit b m n zs hs hn hcs h1 h2 hm
/-- One of some strings is drawn. -/
def DrawsOne (b m : Nat) (zs : List ByteArray) (w : World) (e : Ending) (w' : World) : Prop := ∃ r : ByteArray, r ∈ zs ∧ e = .returned (.string r) ∧ SK b w w' ∧ Strm b m w'
theorem one_at (b m n p : Nat) (zs : List ByteArray) {w0 : World} {cs : Array Value} (hs : Strm b m w0) (hp : p = w0.heap.size) (hn : n = zs.length) (hcs : cs = (zs.map Value.string).toArray) (h1 : 1 ≤ n) (h2 : n ≤ 1000) (hm : m ≤ 1000000000000) :
    Calls Tryd.prog 17 #[.pointer (some ⟨b, 0, none⟩), .slice (some ⟨p, 0, none⟩) n n] (w0.alloc (.cells cs 9)) (DrawsOne b (m + 1) zs w0) := by
  subst hp hn hcs
  have hs' := hs.alloc (.cells (zs.map Value.string).toArray 9)
  have hlt := hs.lt
  have Hc : Hid (∀ i z, zs[i]? = some z → (w0.alloc (.cells (zs.map Value.string).toArray 9)).cell? ⟨w0.heap.size, i, none⟩ = some (.string z)) := fun i z h => by
    rw [World.cell?_alloc_at _ _ _ _ rfl]; simp [h]
  have hsz : w0.heap.size < (w0.alloc (.cells (zs.map Value.string).toArray 9)).heap.size := by simp
  have Hk : Hid (SK b w0 (w0.alloc (.cells (zs.map Value.string).toArray 9))) := (SK.refl b w0).alloc _
  generalize w0.alloc (.cells (zs.map Value.string).toArray 9) = w at *
  go_enter Tryd.func17, Tryd.ntmps17
  go_wp2_with fail
  refine (next_any b m _ _ hs' (by omega) (by omega) hm).mono ?_
  rintro e w' ⟨r, hr0, hr1, rfl, hk', hs2⟩
  obtain ⟨i, rfl⟩ := Int.eq_ofNat_of_zero_le hr0
  have hi : i < zs.length := by omega
  have hci : w'.cell? ⟨w0.heap.size, i, none⟩ = some (.string (zs[i]'hi)) := by
    rw [World.cell?_of_block (w := w) (a := ⟨w0.heap.size, i, none⟩) (hk'.block _ hsz (by show w0.heap.size ≠ b; omega))]; exact Hc.out i _ (List.getElem?_eq_getElem hi)
  go_wp2_with fail
  go_ret
  exact ⟨zs[i], List.getElem_mem hi, rfl, Hk.out.trans hk', hs2⟩

/-- A string of at most n bytes is made. -/
def DrawsStr (b m n : Nat) (w : World) (e : Ending) (w' : World) : Prop := ∃ s : ByteArray, s.size ≤ n ∧ e = .returned (.string s) ∧ SK b w w' ∧ Strm b m w'
def strOf : Value → ByteArray | .string s => s | _ => ⟨#[]⟩
def strsLe (M : Nat) (cs : Array Value) : Prop := ∀ v ∈ cs.toList, v = .string (strOf v) ∧ (strOf v).size ≤ M
def intsIn (lo hi : Int) (cs : Array Value) : Prop := ∀ v ∈ cs.toList, v = .int .i64 (intOf v) ∧ lo ≤ intOf v ∧ intOf v ≤ hi
def strsLeB (M : Nat) (cs : Array Value) : Bool := cs.toList.all fun | .string s => Nat.ble s.size M | _ => false
def intsInB (lo hi : Int) (cs : Array Value) : Bool := cs.toList.all fun | .int .i64 n => decide (lo ≤ n) && decide (n ≤ hi) | _ => false
theorem strsLe_of {M : Nat} {cs : Array Value} (h : strsLeB M cs = true) : strsLe M cs := fun v hv => by
  have := List.all_eq_true.1 h v hv
  split at this
  · exact ⟨rfl, Nat.le_of_ble_eq_true this⟩
  · cases this
theorem intsIn_of {lo hi : Int} {cs : Array Value} (h : intsInB lo hi cs = true) : intsIn lo hi cs := fun v hv => by
  have := List.all_eq_true.1 h v hv
  split at this
  · simp only [Bool.and_eq_true, decide_eq_true_eq] at this; exact ⟨rfl, this⟩
  · cases this
theorem strsLe_nil {M : Nat} : strsLe M ⟨[]⟩ := fun v hv => by cases hv
theorem strsLe_cons {M : Nat} {s : ByteArray} {l : List Value} (h : s.size ≤ M) (t : strsLe M ⟨l⟩) : strsLe M ⟨.string s :: l⟩ := fun v hv => by
  rcases List.mem_cons.1 hv with rfl | hv
  · exact ⟨rfl, h⟩
  · exact t v hv
theorem intsIn_nil {lo hi : Int} : intsIn lo hi ⟨[]⟩ := fun v hv => by cases hv
theorem intsIn_cons {lo hi n : Int} {l : List Value} (h : lo ≤ n ∧ n ≤ hi) (t : intsIn lo hi ⟨l⟩) : intsIn lo hi ⟨.int .i64 n :: l⟩ := fun v hv => by
  rcases List.mem_cons.1 hv with rfl | hv
  · exact ⟨rfl, h⟩
  · exact t v hv
theorem intOf_int (k : IntKind) (n : Int) : intOf (.int k n) = n := rfl
theorem strOf_string (s : ByteArray) : strOf (.string s) = s := rfl
theorem map_back {α : Type} (f : α → Value) (g : Value → α) (l : List Value) (h : ∀ v ∈ l, v = f (g v)) : l = (l.map g).map f := by
  rw [List.map_map]
  exact (List.map_id' l).symm.trans (List.map_congr_left fun v hv => h v hv)
/-- one of some strings that were just written out, none longer than M -/
theorem one_le (b m n p M : Nat) {w0 : World} {cs : Array Value} (hs : Strm b m w0) (hp : p = w0.heap.size) (hn : n = cs.size) (hcs : strsLe M cs) (h1 : 1 ≤ n) (h2 : n ≤ 1000) (hm : m ≤ 1000000000000) :
    Calls Tryd.prog 17 #[.pointer (some ⟨b, 0, none⟩), .slice (some ⟨p, 0, none⟩) n n] (w0.alloc (.cells cs 9)) (DrawsStr b (m + 1) M w0) :=
  (one_at b m n p (cs.toList.map strOf) hs hp (by simpa using hn) (by rw [← map_back _ _ _ (fun v hv => (hcs v hv).1)]) h1 h2 hm).mono fun e w' ⟨r, hr, h⟩ => ⟨r, by obtain ⟨v, hv, rfl⟩ := List.mem_map.1 hr; exact (hcs v hv).2, h⟩
/-- one of some numbers that were just written out, from lo to hi -/
theorem pick_le (b m n p : Nat) (lo hi : Int) {w0 : World} {cs : Array Value} (hs : Strm b m w0) (hp : p = w0.heap.size) (hn : n = cs.size) (hcs : intsIn lo hi cs) (h1 : 1 ≤ n) (h2 : n ≤ 1000) (hm : m ≤ 1000000000000) :
    Calls Tryd.prog 14 #[.pointer (some ⟨b, 0, none⟩), .slice (some ⟨p, 0, none⟩) n n] (w0.alloc (.cells cs 3)) (DrawsIn b (m + 1) lo hi w0) :=
  (pick_at b m n p (cs.toList.map intOf) hs hp (by simpa using hn) (by rw [← map_back _ _ _ (fun v hv => (hcs v hv).1)]) h1 h2 hm).mono fun e w' ⟨r, hr, h⟩ => by
    obtain ⟨v, hv, rfl⟩ := List.mem_map.1 hr
    exact ⟨_, (hcs v hv).2.1, (hcs v hv).2.2, h⟩
/-- Block X holds just these cells. -/
def LV (w : World) (X : Nat) (cs : Array Value) (T : TypeId) : Prop := w.heap[X]? = some (.cells cs T (0, 0))
theorem LV.lt {w : World} {X : Nat} {cs : Array Value} {T : TypeId} (h : LV w X cs T) : X < w.heap.size := by
  rcases Nat.lt_or_ge X w.heap.size with h' | h'
  · exact h'
  · unfold LV at h; rw [Array.getElem?_eq_none h'] at h; cases h
theorem LV.new (w : World) (X : Nat) (cs : Array Value) (T : TypeId) (hX : X = w.heap.size) : LV (w.alloc (.cells cs T)) X cs T := by
  subst hX
  show (w.heap.push _)[w.heap.size]? = _
  simp
theorem LV.keep {w w' : World} {X b : Nat} {cs : Array Value} {T : TypeId} (h : LV w X cs T) (k : SK b w w') (hb : X ≠ b) : LV w' X cs T := (k.block X h.lt hb).trans h

theorem LV.alloc {w : World} {X : Nat} {cs : Array Value} {T : TypeId} (h : LV w X cs T) (o : Obj) : LV (w.alloc o) X cs T := (Below.heap_alloc _ _ _ h.lt).trans h
theorem LV.set {w : World} {X : Nat} {cs : Array Value} {T : TypeId} (h : LV w X cs T) (j : Nat) (u : Value) (cs' : Array Value) (hc : cs' = cs.setIfInBounds j u) : LV (w.setCell ⟨X, j, none⟩ u) X cs' T := by
  subst hc
  unfold LV at *
  simp [World.setCell, Array.getElem?_modify, h]
theorem LV.other {w : World} {X Y : Nat} {cs : Array Value} {T : TypeId} (h : LV w X cs T) (hY : X ≠ Y) (j : Nat) (u : Value) : LV (w.setCell ⟨Y, j, none⟩ u) X cs T := (Below.heap_setCell _ _ _ _ hY).trans h
theorem LV.cell {w : World} {X : Nat} {cs : Array Value} {T : TypeId} (h : LV w X cs T) (j : Nat) (v : Value) (hv : cs[j]? = some v) : w.cell? ⟨X, j, none⟩ = some v := by
  unfold LV at h
  simp [World.cell?, h, hv]
theorem LV.free {w : World} {X : Nat} {cs : Array Value} {T : TypeId} (h : LV w X cs T) (j : Nat) : w.frozen? ⟨X, j, none⟩ = false := by
  unfold LV at h
  simp [World.frozen?, h]

end Go.Proofs.YtmlpkejeglpciaaDoor
