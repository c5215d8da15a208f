/- Memory in pieces, more: the pieces in another order; what a call has made, told as pieces itself. -/
import Derived.Test.YtlnklkedpknbpaaGreatDoorSt
namespace Go.Proofs.YtlnklkedpknbpaaGreatDoor
open Go.RowKit
theorem pairwise_perm {cs ds : List Chunk} (h : cs.Perm ds) (hp : cs.Pairwise fun c d => ∀ k, c.blk = some k → d.blk ≠ some k) : ds.Pairwise fun c d => ∀ k, c.blk = some k → d.blk ≠ some k :=
  (h.pairwise_iff (fun {_ _} hxy k e1 e2 => hxy k e2 e1)).1 hp
/-- the order of the pieces does not matter -/
theorem St.perm {b m : Nat} {w0 w : World} {cs ds : List Chunk} (S : St b m w0 w cs) (h : cs.Perm ds) : St b m w0 w ds := by
  refine ⟨S.g, S.b0, fun c hc => c.mono (fun k _ e => .inl ?_) (S.ok c (h.mem_iff.2 hc)), fun c hc => S.new c (h.mem_iff.2 hc), pairwise_perm h S.sep⟩
  rcases e with e | ⟨x, hx, e⟩
  · exact .inl e
  · exact .inr ⟨x, h.mem_iff.2 hx, e⟩
/-- what a call has made, told as pieces from the world where it began -/
theorem St.join {b m n : Nat} {w0 w w' : World} {cs ds : List Chunk} (S : St b m w0 w cs) (T : St b n w w' ds) : St b n w0 w' (cs ++ ds) :=
  S.callN T.g ds (fun d hd => T.ok d hd) (fun d hd => T.new d hd) T.sep
theorem St.front {b m : Nat} {w0 w : World} {cs : List Chunk} {c : Chunk} (S : St b m w0 w (cs ++ [c])) : St b m w0 w (c :: cs) := S.perm List.perm_append_comm
theorem St.back {b m : Nat} {w0 w : World} {cs : List Chunk} {c : Chunk} (S : St b m w0 w (c :: cs)) : St b m w0 w (cs ++ [c]) := S.perm (List.perm_append_comm (l₁ := [c]))
theorem St.swap {b m : Nat} {w0 w : World} {cs : List Chunk} {c d : Chunk} (S : St b m w0 w (c :: d :: cs)) : St b m w0 w (d :: c :: cs) := S.perm (List.Perm.swap _ _ _)
theorem perm_erase {α : Type} : ∀ (l : List α) (i : Nat) (h : i < l.length), (l[i] :: l.eraseIdx i).Perm l
  | [], i, h => by simp at h
  | x :: r, 0, _ => by simp
  | x :: r, i + 1, h => by
    simp only [List.getElem_cons_succ, List.eraseIdx_cons_succ]
    exact (List.Perm.swap _ _ _).trans ((perm_erase r i (by simpa using h)).cons x)
/-- one of several like pieces comes to the front -/
theorem perm_pick {α β : Type} (f : α → β) (l : List α) (i : Nat) (x : α) (h : l[i]? = some x) (r : List β) : (r ++ l.map f).Perm (f x :: (r ++ (l.eraseIdx i).map f)) := by
  obtain ⟨hlt, rfl⟩ := List.getElem?_eq_some_iff.1 h
  have h1 : (l[i] :: l.eraseIdx i).Perm l := perm_erase l i hlt
  have h2 := (h1.map f).symm
  refine (h2.append_left r).trans ?_
  simp only [List.map_cons]
  exact List.perm_middle
theorem perm_put {α β : Type} (f : α → β) (l : List α) (i : Nat) (x y : α) (h : l[i]? = some x) (r : List β) : (f y :: (r ++ (l.eraseIdx i).map f)).Perm (r ++ (l.set i y).map f) := by
  obtain ⟨hlt, rfl⟩ := List.getElem?_eq_some_iff.1 h
  have h0 : (l.set i y)[i]? = some y := by rw [List.getElem?_set]; simp [hlt]
  have h1 := perm_pick f (l.set i y) i y h0 r
  rw [List.eraseIdx_set_eq] at h1
  exact h1.symm
/-- the world begins later: pieces made since -/
theorem St.ownIn {α : Type} {r : Rep α} {b m : Nat} {w0 w : World} {cs : List Chunk} (S : St b m w0 w cs) {B E : Nat} {v : Value} {xs : List α} (h : Chunk.own r B E v xs ∈ cs) : Own r (Mut w0.heap.size cs) B E w v xs := S.ok _ h
end Go.Proofs.YtlnklkedpknbpaaGreatDoor
