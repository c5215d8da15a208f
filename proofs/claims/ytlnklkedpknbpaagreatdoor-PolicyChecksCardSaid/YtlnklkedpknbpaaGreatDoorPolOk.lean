/- What was made is of moderate size. -/
import Derived.Test.YtlnklkedpknbpaaGreatDoorGenPolicy
import Derived.Test.YtlnklkedpknbpaaGreatDoorConsPol
namespace Go.Proofs.YtlnklkedpknbpaaGreatDoor
open Go.RowKit
theorem QOk.polOk {q : List PQ} (h : QOk 10 q) : PolOk (q.map PQ.purp) where
  len := by have := h.len; simp; omega
  nm := fun p hp => by
    obtain ⟨e, he, rfl⟩ := List.mem_map.1 hp
    have := h.nm e he
    show e.nm.size ≤ _
    omega
  tl := fun p hp => by
    obtain ⟨e, he, rfl⟩ := List.mem_map.1 hp
    have := h.tl e he
    show e.ts.length ≤ _
    omega
  rg := fun p hp t ht => by
    obtain ⟨e, he, rfl⟩ := List.mem_map.1 hp
    have := h.rg e he t ht
    omega
theorem Gg.toBelow {m : Nat} {w w1 : World} {o : Obj} (h : G w.heap.size m (w.alloc o) w1) : Below w.heap.size w w1 :=
  ((Below.refl _ _).alloc (Nat.le_refl _) o).trans (h.k.below (Nat.le_refl _) (by simp))
end Go.Proofs.YtlnklkedpknbpaaGreatDoor
