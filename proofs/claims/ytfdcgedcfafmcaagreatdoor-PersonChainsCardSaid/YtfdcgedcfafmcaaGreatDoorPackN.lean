/- Several texts in one: SortInt, EqInt, EqIds, PsnSml. -/
import Derived.Test.YtfdcgedcfafmcaaGreatDoorPackM
import Derived.Test.YtfdcgedcfafmcaaGreatDoorShelf
import Derived.Test.YtfdcgedcfafmcaaGreatDoorPackX
/- Numbers in a slice of the call's own: sorted, and made single. -/
namespace Go.Proofs.YtfdcgedcfafmcaaGreatDoor
open Go Go.RowKit Go.Sort
theorem Own.holdsI {M : Nat → Prop} {B E g n cap : Nat} {w : World} {xs : List Int} (h : Own rInt M B E w (.slice (some ⟨g, 0, none⟩) n cap) xs) (hn : n = xs.length) : Holds (Value.int .i64) w g 0 xs.toArray := fun j hj => by
  have hj' : j < xs.length := by simpa using hj
  have := Own.cellP flatInt h hn j xs[j] (List.getElem?_eq_getElem hj') 0 (.int .i64 xs[j]) rfl
  rw [show j * rInt.size + 0 = 0 + j by simp [rInt, Rep.flat]] at this
  rw [getElem!_pos xs.toArray j hj]
  exact this
theorem putRow_int (w : World) (g : Nat) (ts : List Int) : putRow (Value.int .i64) w g 0 ts.toArray = putRowK (fun n : Int => [Value.int .i64 n]) 1 w g 0 ts.toArray := by
  unfold putRowK putRow
  congr 1
  funext cur
  unfold putCells
  congr 1
  funext k v
  rw [size_flatK, Nat.mul_one]
  by_cases h : 0 ≤ k ∧ k < 0 + ts.toArray.size
  · rw [if_pos h, if_pos h, get_flatK _ _ _ _ (by simpa using h.2)]
    simp [Nat.mod_one]
  · rw [if_neg h, if_neg h]
theorem sortWorld_int (w : World) (g m : Nat) (ts : List Int) (os : Array Obj) : grow (putRow (Value.int .i64) (Sort.ahead w m) g 0 ts.toArray) os = sortWorldK (fun n : Int => [Value.int .i64 n]) 1 w g 0 m ts.toArray os := by
  unfold sortWorldK
  rw [putRow_int]
def srtI (xs : List Int) : List Int := xs.mergeSort fun x y => decide (x ≤ y)
theorem srtI_len (xs : List Int) : (srtI xs).length = xs.length := List.length_mergeSort xs
set_option maxRecDepth 100000 in
theorem Mem.sortI {w0 w : World} {cs : List Chunk} (S : Mem w0 w cs) (i : Nat) {B E g n cap : Nat} {xs : List Int} (hi : cs[i]? = some (.own rInt B E (.slice (some ⟨g, 0, none⟩) n cap) xs)) (hn : n = xs.length) (hl : xs.length ≤ 1000000) :
    Calls Tryz.prog 93 #[.slice (some ⟨g, 0, none⟩) n cap] w fun e w' => e = .returned (.tuple #[]) ∧ Mem w0 w' (cs.set i (.own rInt B E (.slice (some ⟨g, 0, none⟩) n cap) (srtI xs))) := by
  subst hn
  have hH := (S.ow i hi).holdsI rfl
  have hg := S.lt (List.mem_of_getElem? hi) (k := g) rfl
  refine (Tryz.slices_Sort_int g 0 cap xs w hH hg (by omega)).mono ?_
  rintro e w' ⟨rfl, m, os, rfl⟩
  refine ⟨rfl, ?_⟩
  rw [sortWorld_int]
  exact S.sortedK flatInt (by decide) (fun _ => rfl) i hi (srtI_len xs)
end Go.Proofs.YtfdcgedcfafmcaaGreatDoor

/- slices.Equal of the same numbers. -/
namespace Go.Proofs.YtfdcgedcfafmcaaGreatDoor
open Go Go.RowKit
theorem Sl.intAt {N : Nat → Prop} {w : World} {A : Option Addr} {xs : List Int} (h : Sl rInt N w A xs) (h0 : xs ≠ []) : ∃ b o, A = some ⟨b, o, none⟩ ∧ ∀ j, j < xs.length → w.cell? ⟨b, o + j, none⟩ = some (.int .i64 (xs.getD j 0)) := by
  cases xs with
  | nil => exact absurd rfl h0
  | cons x r =>
    obtain ⟨b, o, l, e, _, _, _, _⟩ := h 0 x rfl
    refine ⟨b, o, e, fun j hj => ?_⟩
    obtain ⟨b2, o2, l2, e2, _, _, hr, hc⟩ := h j (x :: r)[j] (List.getElem?_eq_getElem hj)
    rw [e] at e2
    cases e2
    obtain rfl : l2 = [.int .i64 (x :: r)[j]] := hr
    have := hc 0 _ rfl
    rw [show o + j * rInt.size + 0 = o + j by simp [rInt, Rep.flat]] at this
    rw [this, List.getD_eq_getElem?_getD, List.getElem?_eq_getElem hj]
    rfl
end Go.Proofs.YtfdcgedcfafmcaaGreatDoor

/- slices.Equal of the same ids, and samePerson of the same person. -/
namespace Go.Proofs.YtfdcgedcfafmcaaGreatDoor
open Go Go.RowKit
end Go.Proofs.YtfdcgedcfafmcaaGreatDoor

/- How long the lists of persons and of joining ids are. -/
namespace Go.Proofs.YtfdcgedcfafmcaaGreatDoor
open Go Go.RowKit
theorem both_zero {r : Rul} {ts : List Tch} (h : bothF r ts = 0) : rulFault r = 0 ∧ tchsFault ts = 0 := by
  unfold bothF at h
  split at h
  · rename_i h2; exact absurd h h2
  · rename_i h2; exact ⟨by omega, h⟩
end Go.Proofs.YtfdcgedcfafmcaaGreatDoor
