/- How data lie in memory: structs as rows of cells, slices as rows of those, to any depth. -/
import Derived.Test.YtmlpkejeglpciaaDoorStream
import Derived.Test.YtmlpkejeglpciaaDoorSlices
namespace Go.Proofs.YtmlpkejeglpciaaDoor
open Go.RowKit

/-- Old memory is as it was, but for the blocks of N; new blocks may have come. -/
structure SKN (N : Nat → Prop) (w w' : World) : Prop where
  size : w.heap.size ≤ w'.heap.size
  block : ∀ k, k < w.heap.size → ¬ N k → w'.heap[k]? = w.heap[k]?
theorem SKN.trans {N : Nat → Prop} {u v w : World} (h : SKN N u v) (k : SKN N v w) : SKN N u w :=
  ⟨Nat.le_trans h.size k.size, fun i hi hb => (k.block i (Nat.lt_of_lt_of_le hi h.size) hb).trans (h.block i hi hb)⟩
theorem SKN.mono {N M : Nat → Prop} {w w' : World} (h : SKN N w w') (hm : ∀ k, N k → M k) : SKN M w w' := ⟨h.size, fun k hk hn => h.block k hk (fun e => hn (hm k e))⟩
theorem SKN.ofBelow {N : Nat → Prop} {w w' : World} (h : Below w.heap.size w w') : SKN N w w' := ⟨h.size, fun k hk _ => h.block k hk⟩
/-- the one block b -/
def Off (b : Nat) (k : Nat) : Prop := k = b
theorem SK.n {b : Nat} {w w' : World} (h : SK b w w') : SKN (Off b) w w' := ⟨h.size, fun k hk hn => h.block k hk hn⟩
theorem SKN.grown {N : Nat → Prop} {w w' : World} {row : Option Nat} (h : w.grownBy w' row) (hr : ∀ g, row = some g → N g) : SKN N w w' :=
  ⟨h.size, fun k hk hn => h.block k hk (fun e => hn (hr k e.symm))⟩

/-- How the values of a Lean type lie in cells: outside the blocks of N. -/
structure Rep (α : Type) where
  size : Nat
  rel : (Nat → Prop) → World → α → List Value → Prop
  len : ∀ {N : Nat → Prop} {w : World} {x : α} {l : List Value}, rel N w x l → l.length = size
  keep : ∀ {N : Nat → Prop} {w w' : World} {x : α} {l : List Value}, SKN N w w' → rel N w x l → rel N w' x l
  mono : ∀ {N M : Nat → Prop} {w : World} {x : α} {l : List Value}, (∀ k, k < w.heap.size → M k → N k) → rel N w x l → rel M w x l

/-- cells that are known from the value alone -/
def Rep.flat {α : Type} (n : Nat) (f : α → List Value) (h : ∀ x, (f x).length = n) : Rep α :=
  ⟨n, fun _ _ x l => l = f x, fun e => by rw [e]; exact h _, fun _ h => h, fun _ h => h⟩

/-- The slice at A reads as xs. -/
def Sl {α : Type} (r : Rep α) (N : Nat → Prop) (w : World) (A : Option Addr) (xs : List α) : Prop :=
  ∀ (i : Nat) (x : α), xs[i]? = some x → ∃ (blk off : Nat) (l : List Value), A = some ⟨blk, off, none⟩ ∧ blk < w.heap.size ∧ ¬ N blk ∧ r.rel N w x l ∧ ∀ (j : Nat) (u : Value), l[j]? = some u → w.cell? ⟨blk, off + i * r.size + j, none⟩ = some u

section
variable {α : Type} {r : Rep α} {N M : Nat → Prop} {w w' : World} {A : Option Addr} {xs : List α}
theorem Sl.nil : Sl r N w A [] := fun i x h => by simp at h
theorem Sl.keep (h : Sl r N w A xs) (k : SKN N w w') : Sl r N w' A xs := fun i x hx => by
  obtain ⟨blk, off, l, e, h1, h2, h3, h4⟩ := h i x hx
  exact ⟨blk, off, l, e, Nat.lt_of_lt_of_le h1 k.size, h2, r.keep k h3, fun j u hu => by
    rw [World.cell?_of_block (w := w) (a := ⟨blk, off + i * r.size + j, none⟩) (k.block blk h1 h2)]; exact h4 j u hu⟩
theorem Sl.mono (h : Sl r N w A xs) (k : ∀ k, k < w.heap.size → M k → N k) : Sl r M w A xs := fun i x hx => by
  obtain ⟨blk, off, l, e, h1, h2, h3, h4⟩ := h i x hx
  exact ⟨blk, off, l, e, h1, fun hm => h2 (k _ h1 hm), r.mono k h3, h4⟩
theorem Sl.keepB (h : Sl r N w A xs) (k : Below w.heap.size w w') : Sl r N w' A xs := h.keep (SKN.ofBelow k)
theorem Sl.take (h : Sl r N w A xs) (n : Nat) : Sl r N w A (xs.take n) := fun i x hx => h i x (by
  rw [List.getElem?_take] at hx
  split at hx
  · exact hx
  · cases hx)
end

/-- a slice in a cell -/
def Rep.list {α : Type} (r : Rep α) : Rep (List α) :=
  ⟨1, fun N w xs l => ∃ A c, l = [.slice A xs.length c] ∧ Sl r N w A xs, fun ⟨_, _, e, _⟩ => by rw [e]; rfl, fun k ⟨A, c, e, h⟩ => ⟨A, c, e, h.keep k⟩, fun k ⟨A, c, e, h⟩ => ⟨A, c, e, h.mono k⟩⟩
/-- two behind each other -/
def Rep.app {α β : Type} (r : Rep α) (s : Rep β) : Rep (α × β) :=
  ⟨r.size + s.size, fun N w x l => ∃ l1 l2, l = l1 ++ l2 ∧ r.rel N w x.1 l1 ∧ s.rel N w x.2 l2, fun ⟨_, _, e, h1, h2⟩ => by rw [e, List.length_append, r.len h1, s.len h2], fun k ⟨l1, l2, e, h1, h2⟩ => ⟨l1, l2, e, r.keep k h1, s.keep k h2⟩, fun k ⟨l1, l2, e, h1, h2⟩ => ⟨l1, l2, e, r.mono k h1, s.mono k h2⟩⟩
/-- under another name -/
def Rep.via {α β : Type} (r : Rep α) (f : β → α) : Rep β := ⟨r.size, fun N w x l => r.rel N w (f x) l, fun h => r.len h, fun k h => r.keep k h, fun k h => r.mono k h⟩
def rInt : Rep Int := .flat 1 (fun n => [.int .i64 n]) (fun _ => rfl)
def rStr : Rep ByteArray := .flat 1 (fun s => [.string s]) (fun _ => rfl)
def rBool : Rep Bool := .flat 1 (fun x => [.bool x]) (fun _ => rfl)

theorem flatten_at {ls : List (List Value)} {n : Nat} (h : ∀ l ∈ ls, l.length = n) (i j : Nat) (l : List Value) (u : Value) (hl : ls[i]? = some l) (hu : l[j]? = some u) : ls.flatten[i * n + j]? = some u := by
  induction ls generalizing i with
  | nil => simp at hl
  | cons a t ih =>
    have ha := h a (by simp)
    cases i with
    | zero =>
      simp at hl
      subst hl
      have : j < a.length := by
        rcases Nat.lt_or_ge j a.length with h | h
        · exact h
        · rw [List.getElem?_eq_none h] at hu; cases hu
      rw [List.flatten_cons, Nat.zero_mul, Nat.zero_add, List.getElem?_append_left this]; exact hu
    | succ i =>
      rw [List.flatten_cons, List.getElem?_append_right (by rw [ha, Nat.succ_mul]; omega), ha, show (i + 1) * n + j - n = i * n + j by rw [Nat.succ_mul]; omega]
      exact ih (fun l hl' => h l (by simp [hl'])) i (by simpa using hl)

/-- the blocks of N, and the slice's own -/
def NOr (N : Nat → Prop) (v : Value) (k : Nat) : Prop := N k ∨ v.ownBlock = some k
/-- The call owns the slice v, which reads as xs. -/
def Own {α : Type} (r : Rep α) (N : Nat → Prop) (B E : Nat) (w : World) (v : Value) (xs : List α) : Prop :=
  ∃ ls : List (List Value), ls.length = xs.length ∧ (∀ (i : Nat) (x : α) (l : List Value), xs[i]? = some x → ls[i]? = some l → r.rel (NOr N v) w x l) ∧ w.ownsRow B E r.size v xs.length ls.flatten
section
variable {α : Type} {r : Rep α} {N : Nat → Prop} {B E : Nat} {w w' : World} {v : Value} {xs : List α}
theorem Own.nil (r : Rep α) (N : Nat → Prop) (B E : Nat) (w : World) : Own r N B E w (.slice none 0 0) [] := ⟨[], rfl, fun _ _ _ h => by simp at h, World.ownsRow_nil _ _ _ _⟩
theorem lt_of_get {α : Type} {xs : List α} {i : Nat} {x : α} (h : xs[i]? = some x) : i < xs.length := by
  rcases Nat.lt_or_ge i xs.length with h' | h'
  · exact h'
  · rw [List.getElem?_eq_none h'] at h; cases h
theorem Own.toSl (h : Own r N B E w v xs) (hb : ∀ k, B ≤ k → ¬ N k) : ∃ A c, v = .slice A xs.length c ∧ Sl r N w A xs := by
  obtain ⟨ls, hl, hr, ho⟩ := h
  have hlen : ∀ l ∈ ls, l.length = r.size := fun l hm => by
    obtain ⟨i, hi, e⟩ := List.getElem_of_mem hm
    exact r.len (hr i (xs[i]'(by omega)) l (by simp) (by rw [List.getElem?_eq_getElem hi, e]))
  rcases ho.2 with ⟨rfl, h0⟩ | ⟨g, cap, cur, rfl, hB, hg, _, _, _, _⟩
  · refine ⟨none, 0, by rw [h0], ?_⟩
    rw [List.length_eq_zero_iff.1 h0]
    exact Sl.nil
  · refine ⟨_, cap, rfl, fun i x hx => ?_⟩
    have hi : i < ls.length := by rw [hl]; exact lt_of_get hx
    refine ⟨g, 0, ls[i], rfl, (ho.lt g rfl).2, hb g hB, r.mono (fun _ _ h => .inl h) (hr i x _ hx (List.getElem?_eq_getElem hi)), fun j u hu => ?_⟩
    have := ho.cells (g := g) rfl _ u (flatten_at hlen i j _ u (List.getElem?_eq_getElem hi) hu)
    rw [add_at] at this
    rw [Nat.add_assoc]
    exact this
theorem Own.keep (h : Own r N B E w v xs) (k : SKN N w w') (hb : ∀ k, B ≤ k → ¬ N k) : Own r N B E w' v xs := by
  obtain ⟨ls, hl, hr, ho⟩ := h
  refine ⟨ls, hl, fun i x l h1 h2 => r.keep (k.mono fun _ h => .inl h) (hr i x l h1 h2), ho.1, ?_⟩
  rcases ho.2 with h0 | ⟨g, cap, cur, rfl, hB, hg, h5, h6, h7, h8⟩
  · exact .inl h0
  · exact .inr ⟨g, cap, cur, rfl, hB, by rw [k.block g (ho.lt g rfl).2 (hb g hB)]; exact hg, h5, h6, h7, h8⟩
theorem Own.len (h : Own r N B E w v xs) : ∃ A c, v = .slice A xs.length c := by
  obtain ⟨ls, hl, hr, ho⟩ := h
  rcases ho.2 with ⟨rfl, h0⟩ | ⟨g, cap, cur, rfl, hB, hg, _, _, _, _⟩
  · exact ⟨none, 0, by rw [h0]⟩
  · exact ⟨_, cap, rfl⟩
end

/-- A representation that asks nothing of memory. -/
def Rep.Flat {α : Type} (r : Rep α) (f : α → List Value) : Prop := ∀ N w x l, r.rel N w x l ↔ l = f x

section
variable {ops : Array Oper} {rest : List Oper} {o : Oper} {a : Act} {Q : Exit → Act → World → Prop}
/-- append of one element that was just written out; the elements ask nothing of memory -/
theorem app_flat {α : Type} {r : Rep α} {f : α → List Value} (hf : r.Flat f) {w0 : World} {cs : Array Value} {T E bytes : Nat} {z : Value} (ty : STy T E r.size bytes z) (hgd : o.guard = none) (s x : Operand) (ho : o.op = .call { callee := .builtin .append, args := #[s, x], argTypes := #[T, T] })
    (N : Nat → Prop) (B : Nat) (v : Value) (xs : List α) (y : α) (c : Nat) (hs : a.eval s = v) (hown : Own r N B E w0 v xs) (hx : a.eval x = .slice (some ⟨w0.heap.size, 0, none⟩) 1 c) (hcs : cs.toList = f y) (h1 : ∀ u ∈ f y, u.oneCell' = true)
    (hB : B ≤ w0.heap.size) (hlen : xs.length ≤ 100000000) (hby : bytes ≤ 1000)
    (h : ∀ v' w', Own r N B E w' v' (xs ++ [y]) → Below B w0 w' → wpList Tryd.prog ops Q rest (a.put o.dst v') w') : wpList Tryd.prog ops Q (o :: rest) a (w0.alloc (.cells cs E)) := by
  obtain ⟨ls, hl, hr, ho2⟩ := hown
  have hsz : (f y).length = r.size := r.len ((hf N w0 y _).2 rfl)
  refine app_lit ty hgd s x ho B v xs.length ls.flatten 1 c hs ho2 hx (by have e : cs.size = (f y).length := by rw [← hcs]; simp
                                                                          omega) (by rw [hcs]; exact h1) hB (by omega) hby ?_
  intro v' w' g1 g2 g3 g4
  refine h v' w' ⟨ls ++ [f y], by simp [hl], fun i x l e1 e2 => (hf _ _ _ _).2 ?_, ?_⟩ g3
  · rcases Nat.lt_or_ge i xs.length with hi | hi
    · rw [List.getElem?_append_left hi] at e1
      rw [List.getElem?_append_left (by omega)] at e2
      exact (hf _ _ _ _).1 (hr i x l e1 e2)
    · rw [List.getElem?_append_right hi] at e1
      rw [List.getElem?_append_right (by omega), hl] at e2
      cases hk : i - xs.length with
      | zero => rw [hk] at e1 e2; simp at e1 e2; rw [← e1, ← e2]
      | succ k => rw [hk] at e1; simp at e1
  · rw [List.length_append, List.flatten_append]
    simpa [hcs] using g1
end
end Go.Proofs.YtmlpkejeglpciaaDoor
