/- What the generators odd, RightZone and Zone make. -/
import Derived.Test.YtmlpkejeglpciaaDoorZone
import Derived.Test.YtmlpkejeglpciaaDoorMixL
import Derived.OneCell
import Derived.Test.YtmlpkejeglpciaaDoorOdd
namespace Go.Proofs.YtmlpkejeglpciaaDoor
open Go.RowKit
theorem LV.grown {w w' : World} {X : Nat} {cs : Array Value} {T : TypeId} {row : Option Nat} (h : LV w X cs T) (g : w.grownBy w' row) (hne : row ≠ some X) : LV w' X cs T := (g.block X h.lt (fun e => hne e.symm)).trans h
section
variable {α : Type} {r : Rep α} {N : Nat → Prop} {B E : Nat} {w : World} {v : Value} {xs : List α}
theorem Own.ne {X : Nat} {cs : Array Value} {T : TypeId} (h : Own r N B E w v xs) (l : LV w X cs T) (hT : T ≠ E) : v.ownBlock ≠ some X := by
  obtain ⟨ls, _, _, ho⟩ := h
  intro e
  rcases ho.2 with ⟨rfl, _⟩ | ⟨g, cap, cur, rfl, _, hg, _⟩
  · cases e
  · obtain rfl : g = X := by simpa [Value.ownBlock] using e
    unfold LV at l
    rw [l] at hg
    cases hg
    exact hT rfl
theorem Own.base {B' : Nat} (h : Own r N B E w v xs) (hb : B' ≤ B) : Own r N B' E w v xs := by
  obtain ⟨ls, h1, h2, ho⟩ := h
  refine ⟨ls, h1, h2, ho.1, ?_⟩
  rcases ho.2 with h0 | ⟨g, cap, cur, e, hB, hrest⟩
  · exact .inl h0
  · exact .inr ⟨g, cap, cur, e, by omega, hrest⟩
theorem Own.setCell {f : α → List Value} {X : Nat} (h : Own r N B E w v xs) (hne : v.ownBlock ≠ some X) (hf : r.Flat f) (j : Nat) (u : Value) : Own r N B E (w.setCell ⟨X, j, none⟩ u) v xs := by
  obtain ⟨ls, h1, h2, ho⟩ := h
  exact ⟨ls, h1, fun i x l e1 e2 => (hf _ _ _ _).2 ((hf _ _ _ _).1 (h2 i x l e1 e2)), ownsRow_setCell_other ho (by simpa using hne) u⟩
/-- a slice that was just written out, of elements that ask nothing of memory -/
theorem Own.lit {f : α → List Value} (hf : r.Flat f) (w0 : World) (cs : Array Value) (n : Nat) (hb : B ≤ w0.heap.size) (hn : n = xs.length) (hm : n ≤ 1000000) (hcs : cs.toList = (xs.map f).flatten) (hs : cs.size = n * r.size) :
    Own r N B E (w0.alloc (.cells cs E)) (.slice (some ⟨w0.heap.size, 0, none⟩) n n) xs := by
  subst hn
  refine ⟨xs.map f, by simp, fun i x l h1 h2 => (hf _ _ _ _).2 ?_, ?_⟩
  · rw [List.getElem?_map, h1] at h2
    exact (Option.some.inj h2).symm
  · have := World.ownsRow_lit (base := B) (e := E) (size := r.size) w0 cs xs.length hb (by unfold maxLen; omega) hs
    rw [hcs] at this
    exact this
end
section
variable {ops : Array Oper} {rest : List Oper} {o : Oper} {a : Act} {Q : Exit → Act → World → Prop}
/-- append of one element that was just written out; the elements ask nothing of memory; no other block has turned -/
theorem app_flat2 {α : Type} {r : Rep α} {f : α → List Value} (hf : r.Flat f) {w0 : World} {cs : Array Value} {T E bytes : Nat} {z : Value} (ty : STy T E r.size bytes z) (hgd : o.guard = none) (s x : Operand) (ho : o.op = .call { callee := .builtin .append, args := #[s, x], argTypes := #[T, T] })
    (N : Nat → Prop) (B : Nat) (v : Value) (xs : List α) (y : α) (c : Nat) (hs : a.eval s = v) (hown : Own r N B E w0 v xs) (hx : a.eval x = .slice (some ⟨w0.heap.size, 0, none⟩) 1 c) (hcs : cs.toList = f y) (h1 : ∀ u ∈ f y, u.oneCell' = true)
    (hB : B ≤ w0.heap.size) (hlen : xs.length ≤ 100000000) (hby : bytes ≤ 1000)
    (h : ∀ v' w', Own r N B E w' v' (xs ++ [y]) → Below B w0 w' → w0.grownBy w' v.ownBlock → wpList Tryd.prog ops Q rest (a.put o.dst v') w') : wpList Tryd.prog ops Q (o :: rest) a (w0.alloc (.cells cs E)) := by
  obtain ⟨ls, hl, hr, ho2⟩ := hown
  have hsz : (f y).length = r.size := r.len ((hf N w0 y _).2 rfl)
  refine app_lit ty hgd s x ho B v xs.length ls.flatten 1 c hs ho2 hx (by have e : cs.size = (f y).length := by rw [← hcs]; simp
                                                                          omega) (by rw [hcs]; exact h1) hB (by omega) hby ?_
  intro v' w' g1 g2 g3 g4
  refine h v' w' ⟨ls ++ [f y], by simp [hl], fun i x l e1 e2 => (hf _ _ _ _).2 ?_, ?_⟩ g3 g2
  · rcases Nat.lt_or_ge i xs.length with hi | hi
    · rw [List.getElem?_append_left hi] at e1
      rw [List.getElem?_append_left (by omega)] at e2
      exact (hf _ _ _ _).1 (hr i x l e1 e2)
    · rw [List.getElem?_append_right hi] at e1
      rw [List.getElem?_append_right (by omega), hl] at e2
      cases hk : i - xs.length with
      | zero => rw [hk] at e1 e2; simp at e1 e2; rw [← e1, ← e2]
      | succ k => rw [hk] at e1; simp at e1
  · rw [List.length_append, List.flatten_append]
    simpa [hcs] using g1
end
theorem flatSft : rSft.Flat Sft.cells := fun _ _ _ _ => Iff.rfl
theorem oneSft (s : Sft) : ∀ u ∈ s.cells, u.oneCell' = true := fun u hu => by
  simp only [Sft.cells, List.mem_cons, List.not_mem_nil, or_false] at hu
  rcases hu with rfl | rfl <;> rfl
theorem off_ge' {b B : Nat} (h : b < B) : ∀ k, B ≤ k → ¬ Off b k := fun k hk e => by unfold Off at e; omega
theorem Own.stepB {α : Type} {r : Rep α} {b B E : Nat} {w w' : World} {v : Value} {xs : List α} (h : Own r (Off b) B E w v xs) (k : SK b w w') (hb : b < B) : Own r (Off b) B E w' v xs := h.keep k.n (off_ge' hb)
theorem Own.alloc {α : Type} {r : Rep α} {b B E : Nat} {w : World} {v : Value} {xs : List α} (h : Own r (Off b) B E w v xs) (o : Obj) (hb : b < B) : Own r (Off b) B E (w.alloc o) v xs := h.stepB ((SK.refl b w).alloc o) hb
theorem small_snoc {xs : List Sft} {s : Sft} (h : ∀ g ∈ xs, g.small) (hs : s.small) : ∀ g ∈ xs ++ [s], g.small := fun g hg => by
  rcases List.mem_append.1 hg with h' | h'
  · exact h g h'
  · rw [List.mem_singleton.1 h']; exact hs
theorem early_snoc {xs : List Sft} {s : Sft} (h : ∀ g ∈ xs, 0 ≤ g.at' ∧ g.at' ≤ 1000000) (hs : 0 ≤ s.at' ∧ s.at' ≤ 1000000) : ∀ g ∈ xs ++ [s], 0 ≤ g.at' ∧ g.at' ≤ 1000000 := fun g hg => by
  rcases List.mem_append.1 hg with h' | h'
  · exact h g h'
  · rw [List.mem_singleton.1 h']; exact hs
end Go.Proofs.YtmlpkejeglpciaaDoor
