/- What is known of values that a region has made in whatever order. -/
import Derived.Test.YtmlpkejeglpciaaDoorSt
import Derived.Test.YtmlpkejeglpciaaDoorFree
namespace Go.Proofs.YtmlpkejeglpciaaDoor
open Go.RowKit
/-- a number from lo to hi -/
def IsI (lo hi : Int) (v : Value) : Prop := ∃ n : Int, v = .int .i64 n ∧ lo ≤ n ∧ n ≤ hi
/-- a string of at most n bytes -/
def IsS (n : Nat) (v : Value) : Prop := ∃ s : ByteArray, v = .string s ∧ s.size ≤ n
/-- a slice of numbers that was written out, in a block from B on -/
def IsLit (B : Nat) (zs : List Int) (v : Value) (w : World) : Prop := ∃ blk, v = .slice (some ⟨blk, 0, none⟩) zs.length zs.length ∧ LV w blk (zs.map (Value.int .i64)).toArray 3 ∧ B ≤ blk
/-- a new block, from B on -/
def IsNew (B : Nat) (cs : Array Value) (T : TypeId) (v : Value) (w : World) : Prop := ∃ blk, v = .pointer (some ⟨blk, 0, none⟩) ∧ LV w blk cs T ∧ B ≤ blk
theorem IsLit.keep {b B : Nat} {zs : List Int} {v : Value} {w w' : World} (h : IsLit B zs v w) (k : SK b w w') (hb : b < B) : IsLit B zs v w' := by
  obtain ⟨blk, e, h1, h2⟩ := h
  exact ⟨blk, e, h1.keep k (by omega), h2⟩
theorem IsNew.keep {b B : Nat} {cs : Array Value} {T : TypeId} {v : Value} {w w' : World} (h : IsNew B cs T v w) (k : SK b w w') (hb : b < B) : IsNew B cs T v w' := by
  obtain ⟨blk, e, h1, h2⟩ := h
  exact ⟨blk, e, h1.keep k (by omega), h2⟩
theorem IsLit.pick {b B m : Nat} {zs : List Int} {v : Value} {w : World} (h : IsLit B zs v w) (hs : Strm b m w) (hb : b < B) (h1 : 1 ≤ zs.length) (h2 : zs.length ≤ 1000) (hm : m ≤ 1000000000000) : Calls Tryd.prog 14 #[.pointer (some ⟨b, 0, none⟩), v] w (DrawsOf b (m + 1) zs w) := by
  obtain ⟨blk, rfl, hl, hB⟩ := h
  refine pick_any b m blk 0 _ zs w hs h1 (by omega) hm hl.lt (by omega) (fun i hi => ?_)
  rw [Nat.zero_add]
  exact hl.cell i _ (by simp [List.getElem?_eq_getElem hi])
/-- one of some strings that lie in memory -/
theorem one_any (b m k off cap : Nat) (zs : List ByteArray) (w : World) (hs : Strm b m w) (h : 1 ≤ zs.length) (hn : zs.length ≤ 1000000000) (hm : m ≤ 1000000000000) (hk : k < w.heap.size) (hkb : k ≠ b)
    (hc : ∀ i z, zs[i]? = some z → w.cell? ⟨k, off + i, none⟩ = some (.string z)) :
    Calls Tryd.prog 17 #[.pointer (some ⟨b, 0, none⟩), .slice (some ⟨k, off, none⟩) zs.length cap] w (DrawsOne b (m + 1) zs w) := by
  have Hc := Lib.hid hc
  clear hc
  go_enter Tryd.func17, Tryd.ntmps17
  go_wp2_with fail
  refine (next_any b m _ _ hs (by omega) (by omega) hm).mono ?_
  rintro e w' ⟨r, hr0, hr1, rfl, hk', hs2⟩
  obtain ⟨i, rfl⟩ := Int.eq_ofNat_of_zero_le hr0
  have hi : i < zs.length := by omega
  have hci : w'.cell? ⟨k, off + i, none⟩ = some (.string (zs[i]'hi)) := by
    rw [World.cell?_of_block (w := w) (a := ⟨k, off + i, none⟩) (hk'.block _ hk hkb)]; exact Hc.out i _ (List.getElem?_eq_getElem hi)
  go_wp2_with fail
  go_ret
  exact ⟨zs[i], List.getElem_mem hi, rfl, hk', hs2⟩
/-- a slice of strings that was written out, in a block from B on -/
def IsLitS (B : Nat) (zs : List ByteArray) (v : Value) (w : World) : Prop := ∃ blk, v = .slice (some ⟨blk, 0, none⟩) zs.length zs.length ∧ LV w blk (zs.map Value.string).toArray 9 ∧ B ≤ blk
theorem IsLitS.keep {b B : Nat} {zs : List ByteArray} {v : Value} {w w' : World} (h : IsLitS B zs v w) (k : SK b w w') (hb : b < B) : IsLitS B zs v w' := by
  obtain ⟨blk, e, h1, h2⟩ := h
  exact ⟨blk, e, h1.keep k (by omega), h2⟩
theorem IsLitS.one {b B m : Nat} {zs : List ByteArray} {v : Value} {w : World} (h : IsLitS B zs v w) (hs : Strm b m w) (hb : b < B) (h1 : 1 ≤ zs.length) (h2 : zs.length ≤ 1000) (hm : m ≤ 1000000000000) : Calls Tryd.prog 17 #[.pointer (some ⟨b, 0, none⟩), v] w (DrawsOne b (m + 1) zs w) := by
  obtain ⟨blk, rfl, hl, hB⟩ := h
  refine one_any b m blk 0 _ zs w hs h1 (by omega) hm hl.lt (by omega) (fun i z hz => ?_)
  rw [Nat.zero_add]
  exact hl.cell i _ (by simp [hz])
theorem flatInt : rInt.Flat (fun n => [.int .i64 n]) := fun _ _ _ _ => Iff.rfl
theorem flatStr : rStr.Flat (fun s => [.string s]) := fun _ _ _ _ => Iff.rfl
theorem flat_one {α : Type} (f : α → Value) : ∀ xs : List α, (xs.map (fun x => [f x])).flatten = xs.map f
  | [] => rfl
  | x :: r => by simp [flat_one f r]
/-- nothing, or numbers that were written out -/
def IsInts (B : Nat) (v : Value) (zs : List Int) (w : World) : Prop := (zs = [] ∧ v = .slice none 0 0) ∨ IsLit B zs v w
def IsStrs (B : Nat) (v : Value) (zs : List ByteArray) (w : World) : Prop := (zs = [] ∧ v = .slice none 0 0) ∨ IsLitS B zs v w
theorem IsInts.keep {b B : Nat} {zs : List Int} {v : Value} {w w' : World} (h : IsInts B v zs w) (k : SK b w w') (hb : b < B) : IsInts B v zs w' := h.imp id (fun h => h.keep k hb)
theorem IsStrs.keep {b B : Nat} {zs : List ByteArray} {v : Value} {w w' : World} (h : IsStrs B v zs w) (k : SK b w w') (hb : b < B) : IsStrs B v zs w' := h.imp id (fun h => h.keep k hb)
theorem IsInts.own {B B' : Nat} {zs : List Int} {v : Value} {w : World} {M : Nat → Prop} (h : IsInts B v zs w) (hB : B' ≤ B) (hl : zs.length ≤ 1000) : Own rInt M B' 3 w v zs := by
  rcases h with ⟨rfl, rfl⟩ | ⟨blk, rfl, h1, h2⟩
  · exact Own.nil _ _ _ _ _
  · exact Own.ofLV flatInt h1 (by omega) (by rw [flat_one]) (by simp [rInt, Rep.flat]) (by omega)
theorem IsStrs.own {B B' : Nat} {zs : List ByteArray} {v : Value} {w : World} {M : Nat → Prop} (h : IsStrs B v zs w) (hB : B' ≤ B) (hl : zs.length ≤ 1000) : Own rStr M B' 9 w v zs := by
  rcases h with ⟨rfl, rfl⟩ | ⟨blk, rfl, h1, h2⟩
  · exact Own.nil _ _ _ _ _
  · exact Own.ofLV flatStr h1 (by omega) (by rw [flat_one]) (by simp [rStr, Rep.flat]) (by omega)
theorem IsInts.ge {B : Nat} {zs : List Int} {v : Value} {w : World} (h : IsInts B v zs w) : ∀ k, v.ownBlock = some k → B ≤ k := by
  rcases h with ⟨_, rfl⟩ | ⟨blk, rfl, _, h2⟩
  · intro k e; cases e
  · intro k e
    obtain rfl : blk = k := by simpa [Value.ownBlock] using e
    exact h2
theorem IsStrs.ge {B : Nat} {zs : List ByteArray} {v : Value} {w : World} (h : IsStrs B v zs w) : ∀ k, v.ownBlock = some k → B ≤ k := by
  rcases h with ⟨_, rfl⟩ | ⟨blk, rfl, _, h2⟩
  · intro k e; cases e
  · intro k e
    obtain rfl : blk = k := by simpa [Value.ownBlock] using e
    exact h2
theorem results_cell1 {P : Program} {fn : Func} {t : Tmp} {T : TypeId} {a : Addr} {v : Value} {w : World} {tmps : Array Value} (h : fn.results = #[.cell t T]) (hp : tmps.getD t undef = .pointer (some a)) (hl : (loadVar T a).run P w = .ok v w) : (results fn tmps).run P w = .ok v w := by
  have hp' : tmps[t]?.getD undef = .pointer (some a) := by simpa using hp
  simp [results, h, asAddr, hp', hl]
end Go.Proofs.YtmlpkejeglpciaaDoor
