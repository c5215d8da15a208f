/- A policy in memory that may still be turned: each purpose's terms are a piece of their own. -/
import Derived.Test.YtlnklkedpknbpaaGreatDoorStMore
import Derived.Test.YtlnklkedpknbpaaGreatDoorConsLaw
namespace Go.Proofs.YtlnklkedpknbpaaGreatDoor
open Go.RowKit
structure PQ where
  nm : ByteArray
  A : Option Addr
  c : Nat
  ts : List PTerm
def PQ.cells (e : PQ) : List Value := [.string e.nm, .slice e.A e.ts.length e.c]
def rPQ : Rep PQ := .flat 2 PQ.cells (fun _ => rfl)
theorem flatPQ : rPQ.Flat PQ.cells := fun _ _ _ _ => Iff.rfl
theorem flatTerm : rTerm.Flat PTerm.cells := fun _ _ _ _ => Iff.rfl
def PQ.purp (e : PQ) : Purp := ⟨e.nm, e.ts⟩
/-- the piece of one purpose's terms -/
def tq (B : Nat) (e : PQ) : Chunk := .own rTerm B 34 (.slice e.A e.ts.length e.c) e.ts
/-- the pieces of a policy -/
def polC (B : Nat) (v : Value) (q : List PQ) : List Chunk := .own rPQ B 58 v q :: q.map (tq B)
theorem polSl {N M : Nat → Prop} {B : Nat} {w : World} {v : Value} {q : List PQ} (h : Own rPQ M B 58 w v q) (ht : ∀ e ∈ q, Own rTerm M B 34 w (.slice e.A e.ts.length e.c) e.ts) (hN : ∀ k, B ≤ k → ¬ N k) :
    ∃ A c, v = .slice A q.length c ∧ q.length ≤ c ∧ Sl rPurp N w A (q.map PQ.purp) := by
  obtain ⟨A, c, e, hc, hS⟩ := (h.flatM flatPQ (M' := N)).toSlC hN
  refine ⟨A, c, e, hc, fun i x hx => ?_⟩
  rw [List.getElem?_map] at hx
  cases hq : q[i]? with
  | none => rw [hq] at hx; cases hx
  | some y =>
    rw [hq] at hx
    obtain rfl : y.purp = x := by simpa using hx
    obtain ⟨blk, off, l, e1, h1, h2, h3, h4⟩ := hS i y hq
    obtain rfl : l = PQ.cells y := h3
    obtain ⟨At, ct, e2, _, hst⟩ := ((ht y (List.mem_of_getElem? hq)).flatM flatTerm (M' := N)).toSlC hN
    cases e2
    exact ⟨blk, off, _, e1, h1, h2, ⟨Purp.cells y.purp, [.slice y.A y.ts.length y.c], rfl, rfl, y.A, y.c, rfl, hst⟩, h4⟩
/-- a policy that was made can be read -/
theorem St.polSl {b m : Nat} {w0 w : World} {cs : List Chunk} (S : St b m w0 w cs) {B : Nat} {v : Value} {q : List PQ} (hB : w0.heap.size ≤ B) (hv : Chunk.own rPQ B 58 v q ∈ cs) (ht : ∀ e ∈ q, tq B e ∈ cs) :
    ∃ A c, v = .slice A q.length c ∧ q.length ≤ c ∧ Sl rPurp (Lt w0.heap.size) w A (q.map PQ.purp) :=
  Go.Proofs.YtlnklkedpknbpaaGreatDoor.polSl (S.ownIn hv) (fun e he => S.ownIn (ht e he)) (fun k h1 h2 => by unfold Lt at h2; omega)
theorem tyTerm : STy 56 34 rTerm.size 48 (.agg #[.string ⟨#[]⟩, .int .i64 0, .bool false, .int .i64 0, .int .i64 0]) := ⟨Tryz.underlying56, by kernel_rfl, rfl, by decide⟩
theorem tyPurp : STy 26 58 rPQ.size 40 (.agg #[.string ⟨#[]⟩, .slice none 0 0]) := ⟨Tryz.underlying26, by kernel_rfl, rfl, by decide⟩
theorem oneTerm (t : PTerm) : ∀ u ∈ t.cells, u.oneCell' = true := fun u hu => by
  simp only [PTerm.cells, List.mem_cons, List.not_mem_nil, or_false] at hu
  rcases hu with rfl | rfl | rfl | rfl | rfl <;> rfl
theorem onePQ (e : PQ) : ∀ u ∈ e.cells, u.oneCell' = true := fun u hu => by
  simp only [PQ.cells, List.mem_cons, List.not_mem_nil, or_false] at hu
  rcases hu with rfl | rfl <;> rfl
/-- the policy is small -/
structure QOk (n : Nat) (q : List PQ) : Prop where
  len : q.length ≤ 3
  nm : ∀ e ∈ q, e.nm.size ≤ 10
  tl : ∀ e ∈ q, e.ts.length ≤ n
  rg : ∀ e ∈ q, ∀ t ∈ e.ts, t.region.size ≤ 10
theorem QOk.mono {n n' : Nat} {q : List PQ} (h : QOk n q) (hn : n ≤ n') : QOk n' q := ⟨h.len, h.nm, fun e he => Nat.le_trans (h.tl e he) hn, h.rg⟩
end Go.Proofs.YtlnklkedpknbpaaGreatDoor
