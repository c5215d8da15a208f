/- Small general laws: indexes, cells of slices of numbers and texts. -/
import Derived.Test.YtmlpkejeglpciaaDoorRep
import Derived.Test.YtmlpkejeglpciaaDoorPreds
namespace Go.Proofs.YtmlpkejeglpciaaDoor
open Go.RowKit
def isCh (n : Int) : Bool := decide (1 ≤ n ∧ n ≤ 4)
def idxGo {α : Type} (p : α → Bool) (k : Nat) : List α → Int
  | [] => -1
  | x :: r => if p x = true then k else idxGo p (k + 1) r
theorem idxGo_any {α : Type} (p : α → Bool) : ∀ (l : List α) (k : Nat), decide (0 ≤ idxGo p k l) = l.any p
  | [], k => by simp [idxGo]
  | x :: r, k => by
    rw [idxGo]
    by_cases h : p x = true
    · simp [h]
    · have h' : p x = false := by simpa using h
      rw [if_neg h, idxGo_any p r (k + 1)]
      simp [h']
theorem Sl.int {N : Nat → Prop} {w : World} {A : Option Addr} {xs : List Int} (h : Sl rInt N w A xs) (k : Nat) (c : Int) (hk : xs[k]? = some c) : ∃ blk off, A = some ⟨blk, off, none⟩ ∧ blk < w.heap.size ∧ w.cell? ⟨blk, off + k, none⟩ = some (.int .i64 c) := by
  obtain ⟨blk, off, l, e, h1, _, h3, h4⟩ := h k c hk
  obtain rfl : l = [.int .i64 c] := h3
  have := h4 0 _ rfl
  exact ⟨blk, off, e, h1, by simpa [rInt, Rep.flat] using this⟩
theorem Sl.str {N : Nat → Prop} {w : World} {A : Option Addr} {xs : List ByteArray} (h : Sl rStr N w A xs) (k : Nat) (c : ByteArray) (hk : xs[k]? = some c) : ∃ blk off, A = some ⟨blk, off, none⟩ ∧ blk < w.heap.size ∧ w.cell? ⟨blk, off + k, none⟩ = some (.string c) := by
  obtain ⟨blk, off, l, e, h1, _, h3, h4⟩ := h k c hk
  obtain rfl : l = [.string c] := h3
  have := h4 0 _ rfl
  exact ⟨blk, off, e, h1, by simpa [rStr, Rep.flat] using this⟩
theorem Sl.block {α : Type} {r : Rep α} {N : Nat → Prop} {w : World} {A : Option Addr} {x : α} {xs : List α} (h : Sl r N w A (x :: xs)) : ∃ blk off, A = some ⟨blk, off, none⟩ := by
  obtain ⟨blk, off, l, e, _⟩ := h 0 x rfl
  exact ⟨blk, off, e⟩
theorem drop_at3 {α : Type} {xs : List α} {k : Nat} {s : α} (h : xs[k]? = some s) : xs.drop k = s :: xs.drop (k + 1) := by
  obtain ⟨hlt, rfl⟩ := List.getElem?_eq_some_iff.1 h
  exact List.drop_eq_getElem_cons hlt
theorem LV.kb3 {w w' : World} {X B : Nat} {cs : Array Value} {T : TypeId} (h : LV w X cs T) (k : Below B w w') (hb : X < B) : LV w' X cs T := (k.block X hb).trans h
theorem step_no {e x R : Int} (h : (if e ≠ 0 then e else x) = R) (he : e ≠ 0) : e = R := by rw [if_pos he] at h; exact h
theorem step_go {e x R : Int} (h : (if e ≠ 0 then e else x) = R) (he : e = 0) : x = R := by rw [if_neg (by simp [he])] at h; exact h
theorem take_snoc {α : Type} {xs : List α} {k : Nat} {x : α} (h : xs[k]? = some x) : xs.take (k + 1) = xs.take k ++ [x] := by rw [List.take_add_one, h]; rfl
def ahd {α : Type} (xs : List α) (k : Nat) : Option α := if k = 0 then none else xs[k - 1]?
theorem ahd_succ {α : Type} (xs : List α) (k : Nat) (x : α) (h : xs[k]? = some x) : ahd xs (k + 1) = some x := by rw [ahd, if_neg (by omega)]; exact h
theorem step_is {e x R v : Int} (h : (if e ≠ 0 then e else x) = R) (he : e = v) (hv : v ≠ 0) : v = R := by subst he; exact step_no h hv
def first3 (a b c : Int) : Int := if a ≠ 0 then a else if b ≠ 0 then b else c
theorem beqS {a b : ByteArray} : (a.toList == b.toList) = true ↔ a = b := by
  rw [beq_iff_eq, ByteArray.toList_eq, ByteArray.toList_eq]
  exact ⟨fun h => WideShapes.bytes_inj (by simpa using h), fun h => by rw [h]⟩
/-- two results, the first of which lies in a cell -/
theorem results_cs {P : Program} {fn : Func} {t s : Tmp} {T : TypeId} {a : Addr} {v u : Value} {w : World} {tmps : Array Value} (h : fn.results = #[.cell t T, .tmp s]) (hp : tmps.getD t undef = .pointer (some a)) (hs : tmps.getD s undef = u) (hl : (loadVar T a).run P w = .ok v w) : (results fn tmps).run P w = .ok (.tuple #[v, u]) w := by
  have hp' : tmps[t]?.getD undef = .pointer (some a) := by simpa using hp
  have hs' : tmps[s]?.getD undef = u := by simpa using hs
  simp [results, h, asAddr, hp', hs', hl]
end Go.Proofs.YtmlpkejeglpciaaDoor
