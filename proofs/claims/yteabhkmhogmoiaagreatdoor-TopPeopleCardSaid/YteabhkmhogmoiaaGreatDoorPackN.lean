/- Several texts in one: SortInt, CmpI, Strs, EqInt. -/
import Derived.Test.YteabhkmhogmoiaaGreatDoorPackM
import Derived.Test.YteabhkmhogmoiaaGreatDoorShelf
import Derived.Test.YteabhkmhogmoiaaGreatDoorPackQ
import Derived.Lib.SlicesCompact
import Derived.Test.YteabhkmhogmoiaaGreatDoorPackK
import Derived.Test.YteabhkmhogmoiaaGreatDoorPackB
import Derived.Test.YteabhkmhogmoiaaGreatDoorPackW
import Derived.RegionTactic
import Derived.ChangeAlike
/- Numbers in a slice of the call's own: sorted, and made single. -/
namespace Go.Proofs.YteabhkmhogmoiaaGreatDoor
open Go Go.RowKit Go.Sort
def srtI (xs : List Int) : List Int := xs.mergeSort fun x y => decide (x ≤ y)
end Go.Proofs.YteabhkmhogmoiaaGreatDoor

/- Numbers of the call's own: what slices.Sort and Compact make of them, nil too. -/
namespace Go.Proofs.YteabhkmhogmoiaaGreatDoor
open Go Go.RowKit Go.Sort
theorem set_sameI {α : Type} {l : List α} {i : Nat} {x : α} (h : l[i]? = some x) : l.set i x = l := by
  obtain ⟨hi, rfl⟩ := List.getElem?_eq_some_iff.1 h
  exact List.set_getElem_self hi
def GivesSrtI (w0 : World) (cs : List Chunk) (i B E : Nat) (v : Value) (xs : List Int) (e : Ending) (w' : World) : Prop := e = .returned (.tuple #[]) ∧ Mem w0 w' (cs.set i (.own rInt B E v (srtI xs)))
def GivesCmpI (w0 : World) (cs : List Chunk) (i B E : Nat) (xs : List Int) (e : Ending) (w' : World) : Prop := ∃ v, e = .returned v ∧ Mem w0 w' (cs.set i (.own rInt B E v (Lib.compact xs)))
end Go.Proofs.YteabhkmhogmoiaaGreatDoor

/- Lists of strings in memory: slices.Reverse and slices.Equal. -/
namespace Go.Proofs.YteabhkmhogmoiaaGreatDoor
open Go Go.RowKit
theorem tyStrs : STy 33 9 rStr.size 16 (.string ⟨#[]⟩) := ⟨Tryz.underlying33, by kernel_rfl, rfl, by decide⟩
theorem oneStrs (s : ByteArray) : ∀ u ∈ ([.string s] : List Value), u.oneCell' = true := fun u hu => by rw [List.mem_singleton.1 hu]; rfl
theorem Own.strAt {M : Nat → Prop} {B E g n cap : Nat} {w : World} {xs : List ByteArray} (h : Own rStr M B E w (.slice (some ⟨g, 0, none⟩) n cap) xs) (hn : n = xs.length) (k : Nat) (x : ByteArray) (hk : xs[k]? = some x) : w.cell? ⟨g, k, none⟩ = some (.string x) ∧ w.frozen? ⟨g, k, none⟩ = false := by
  have := h.cellP flatStr hn k x hk 0 _ rfl
  rw [show k * rStr.size + 0 = k by simp [rStr, Rep.flat]] at this
  exact this
def FlipAt (xs ys : List ByteArray) (k : Nat) : Prop := ys.length = xs.length ∧ ∀ t, t < xs.length → ys[t]? = if t < k ∨ xs.length - k ≤ t then xs[xs.length - 1 - t]? else xs[t]?
theorem FlipAt.start (xs : List ByteArray) : FlipAt xs xs 0 := ⟨rfl, fun t ht => by rw [if_neg (by omega)]⟩
theorem FlipAt.next {xs ys : List ByteArray} {k q : Nat} {x y : ByteArray} (h : FlipAt xs ys k) (hkq : k < q) (hq : k + q + 1 = xs.length) (hx : ys[k]? = some x) (hy : ys[q]? = some y) : FlipAt xs ((ys.set k y).set q x) (k + 1) := by
  refine ⟨by rw [List.length_set, List.length_set]; exact h.1, fun t ht => ?_⟩
  have h1 := h.2 k (by omega)
  rw [hx, if_neg (by omega)] at h1
  have h2 := h.2 q (by omega)
  rw [hy, if_neg (by omega)] at h2
  by_cases e1 : t = q
  · subst e1
    rw [List.getElem?_set_self (by rw [List.length_set, h.1]; omega), if_pos (by omega), h1]
    congr 1
    omega
  · rw [List.getElem?_set_ne (fun e => e1 e.symm)]
    by_cases e2 : t = k
    · subst e2
      rw [List.getElem?_set_self (by rw [h.1]; omega), if_pos (by omega), h2]
      congr 1
      omega
    · rw [List.getElem?_set_ne (fun e => e2 e.symm), h.2 t ht]
      by_cases e3 : t < k ∨ xs.length - k ≤ t
      · rw [if_pos e3, if_pos (by omega)]
      · rw [if_neg e3, if_neg (by omega)]
theorem FlipAt.done {xs ys : List ByteArray} {k : Nat} (h : FlipAt xs ys k) (hk : xs.length ≤ 2 * k + 1) : ys = xs.reverse := by
  apply List.ext_getElem?
  intro t
  by_cases ht : t < xs.length
  · rw [h.2 t ht, List.getElem?_reverse ht]
    by_cases e : t < k ∨ xs.length - k ≤ t
    · rw [if_pos e]
    · rw [if_neg e]
      congr 1
      omega
  · rw [List.getElem?_eq_none (by rw [h.1]; omega), List.getElem?_eq_none (by rw [List.length_reverse]; omega)]
theorem Sl.strs {N : Nat → Prop} {w : World} {A : Option Addr} {xs : List ByteArray} (h : Sl rStr N w A xs) (h0 : xs ≠ []) : ∃ b o, A = some ⟨b, o, none⟩ ∧ ∀ j, j < xs.length → w.cell? ⟨b, o + j, none⟩ = some (.string (xs.getD j ByteArray.empty)) := by
  cases xs with
  | nil => exact absurd rfl h0
  | cons x r =>
    obtain ⟨b, o, e, _, _⟩ := h.str 0 x rfl
    refine ⟨b, o, e, fun j hj => ?_⟩
    obtain ⟨b2, o2, e2, _, hc⟩ := h.str j (x :: r)[j] (List.getElem?_eq_getElem hj)
    rw [e] at e2
    cases e2
    rw [hc, List.getD_eq_getElem?_getD, List.getElem?_eq_getElem hj]
    rfl
theorem eqStr_any (N : Nat → Prop) (A A2 : Option Addr) (xs : List ByteArray) (c c2 : Nat) (w : World) (h1 : Sl rStr N w A xs) (h2 : Sl rStr N w A2 xs) (hl : xs.length ≤ 1000000000) :
    Calls Tryz.prog 20 #[.slice A xs.length c, .slice A2 xs.length c2] w fun e w' => e = .returned (.bool true) ∧ Below w.heap.size w w' := by
  by_cases h0 : xs = []
  · subst h0
    refine (Tryz.slices_Equal_string_empty A A2 c 0 c2 w (by decide)).mono ?_
    rintro e w' ⟨rfl, rfl⟩
    exact ⟨rfl, Below.refl _ _⟩
  · obtain ⟨b, o, rfl, hc⟩ := h1.strs h0
    obtain ⟨b2, o2, rfl, hc2⟩ := h2.strs h0
    refine (Tryz.slices_Equal_string b o xs.length c b2 o2 xs.length c2 xs xs w (Nat.le_refl _) (Nat.le_refl _) (by omega) (by omega) hc hc2).mono ?_
    rintro e w' ⟨rfl, q, rfl⟩
    exact ⟨by simp, below_drewN _ _ _⟩
end Go.Proofs.YteabhkmhogmoiaaGreatDoor

/- slices.Equal of the same numbers. -/
namespace Go.Proofs.YteabhkmhogmoiaaGreatDoor
open Go Go.RowKit
theorem Sl.intAt {N : Nat → Prop} {w : World} {A : Option Addr} {xs : List Int} (h : Sl rInt N w A xs) (h0 : xs ≠ []) : ∃ b o, A = some ⟨b, o, none⟩ ∧ ∀ j, j < xs.length → w.cell? ⟨b, o + j, none⟩ = some (.int .i64 (xs.getD j 0)) := by
  cases xs with
  | nil => exact absurd rfl h0
  | cons x r =>
    obtain ⟨b, o, l, e, _, _, _, _⟩ := h 0 x rfl
    refine ⟨b, o, e, fun j hj => ?_⟩
    obtain ⟨b2, o2, l2, e2, _, _, hr, hc⟩ := h j (x :: r)[j] (List.getElem?_eq_getElem hj)
    rw [e] at e2
    cases e2
    obtain rfl : l2 = [.int .i64 (x :: r)[j]] := hr
    have := hc 0 _ rfl
    rw [show o + j * rInt.size + 0 = o + j by simp [rInt, Rep.flat]] at this
    rw [this, List.getD_eq_getElem?_getD, List.getElem?_eq_getElem hj]
    rfl
theorem eqInt_any (N : Nat → Prop) (A A2 : Option Addr) (xs : List Int) (c c2 : Nat) (w : World) (h1 : Sl rInt N w A xs) (h2 : Sl rInt N w A2 xs) (hl : xs.length ≤ 1000000000) :
    Calls Tryz.prog 140 #[.slice A xs.length c, .slice A2 xs.length c2] w fun e w' => e = .returned (.bool true) ∧ Below w.heap.size w w' := by
  by_cases h0 : xs = []
  · subst h0
    refine (Tryz.slices_Equal_int_empty A A2 c 0 c2 w (by decide)).mono ?_
    rintro e w' ⟨rfl, rfl⟩
    exact ⟨rfl, Below.refl _ _⟩
  · obtain ⟨b, o, rfl, hc⟩ := h1.intAt h0
    obtain ⟨b2, o2, rfl, hc2⟩ := h2.intAt h0
    refine (Tryz.slices_Equal_int b o xs.length c b2 o2 xs.length c2 xs xs w (Nat.le_refl _) (Nat.le_refl _) (by omega) (by omega) hc hc2).mono ?_
    rintro e w' ⟨rfl, q, rfl⟩
    exact ⟨by simp, below_drewN _ _ _⟩
end Go.Proofs.YteabhkmhogmoiaaGreatDoor
