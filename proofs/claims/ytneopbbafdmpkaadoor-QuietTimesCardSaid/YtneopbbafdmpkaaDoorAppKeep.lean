/- append to a slice of the call's own leaves the cells of the old elements as they were. -/
import Derived.Test.YtneopbbafdmpkaaDoorGenZone
import Derived.Laws.OwnMore
namespace Go.Proofs.YtneopbbafdmpkaaDoor
open Go Go.RowKit
section
variable {P : Program} (w : World)
theorem run_append_cells (base : Nat) (t ty e : TypeId) (i : TypeInfo) (z : Value) (size bytes : Nat) (ht : P.underlying t = some (.slice e)) (hi : P.info? e = some i) (hz : i.zero = some z)
    (hsize : i.size = size) (hby : i.bytes = bytes)
    (g n cap : Nat) (xs : List Value) (hown : w.ownsRow base e size (.slice (some ⟨g, 0, none⟩) n cap) n xs)
    (a : Addr) (m c : Nat) (news : List Value) (hl : news.length = m * size) (hnews : ∀ j u, news[j]? = some u → w.cell? (a.add j) = some u) (h1 : ∀ u ∈ news, u.oneCell' = true)
    (h63 : n + m ≤ maxLen) (hbytes : (n + m) * bytes ≤ 140737488355328) {v' : Value} {w' : World}
    (hr : (Builtin.append_ #[t, t] ty #[.slice (some ⟨g, 0, none⟩) n cap, .slice (some a) m c]).run P w = .ok v' w') : ∀ j u, xs[j]? = some u → w'.cell? ⟨g, j, none⟩ = some u := by
  subst hsize hby
  intro j u hj
  have hold : w.cell? ⟨g, j, none⟩ = some u := by
    have := hown.cells (g := g) rfl j u hj
    rwa [add_at, Nat.zero_add] at this
  by_cases hroom : n + m ≤ cap
  · obtain ⟨w2, hr2, ho2, _⟩ := run_append_fits (P := P) w base t ty e i i.size ht hi rfl g n cap xs hown a m c news hl hnews h1 hroom
    rw [hr] at hr2
    injection hr2 with e1 e2
    subst e2
    have := ho2.cells (g := g) rfl j u (by rw [List.getElem?_append_left (List.getElem?_eq_some_iff.1 hj).1]; exact hj)
    rwa [add_at, Nat.zero_add] at this
  · have hr2 := run_append_grow (P := P) w t ty e i z ht hi hz ⟨g, 0, none⟩ n cap xs hown.1 (hown.cells (g := g) rfl) a m c news hl hnews (by omega) (by simp only [maxLen] at h63; omega) (growslice_fits (by omega) hbytes)
    rw [hr] at hr2
    injection hr2 with e1 e2
    subst e2
    exact (World.cell?_of_block (w := w) (a := ⟨g, j, none⟩) (Below.heap_alloc w.drew _ g (World.block_lt_of_cell? w _ hold))).trans hold
end
section
variable {ops : Array Oper} {rest : List Oper} {o : Oper} {a : Act} {Q : Exit → Act → World → Prop}
/-- append of one element that was just written out; the old elements' cells stay, and no other block has turned -/
theorem app_flat3 {α : Type} {r : Rep α} {f : α → List Value} (hf : r.Flat f) {w0 : World} {cs : Array Value} {T E bytes : Nat} {z : Value} (ty : STy T E r.size bytes z) (hgd : o.guard = none) (s x : Operand) (ho : o.op = .call { callee := .builtin .append, args := #[s, x], argTypes := #[T, T] })
    (N : Nat → Prop) (B g cap : Nat) (xs : List α) (y : α) (c : Nat) (hs : a.eval s = .slice (some ⟨g, 0, none⟩) xs.length cap) (hown : Own r N B E w0 (.slice (some ⟨g, 0, none⟩) xs.length cap) xs) (hx : a.eval x = .slice (some ⟨w0.heap.size, 0, none⟩) 1 c) (hcs : cs.toList = f y) (h1 : ∀ u ∈ f y, u.oneCell' = true)
    (hB : B ≤ w0.heap.size) (hlen : xs.length ≤ 100000000) (hby : bytes ≤ 1000)
    (h : ∀ v' w', Own r N B E w' v' (xs ++ [y]) → Below B w0 w' → w0.grownBy w' (some g) → (∀ j u, ((xs.map f).flatten)[j]? = some u → w'.cell? ⟨g, j, none⟩ = some u) → wpList Tryd.prog ops Q rest (a.put o.dst v') w') : wpList Tryd.prog ops Q (o :: rest) a (w0.alloc (.cells cs E)) := by
  obtain ⟨ls, hl, hr, ho2⟩ := hown
  have hls : ls = xs.map f := by
    apply List.ext_getElem?
    intro k
    rw [List.getElem?_map]
    rcases Nat.lt_or_ge k xs.length with hk | hk
    · have e1 : xs[k]? = some xs[k] := List.getElem?_eq_getElem hk
      have e2 : ls[k]? = some (ls[k]'(by omega)) := List.getElem?_eq_getElem (by omega)
      rw [e1, e2, (hf _ _ _ _).1 (hr k _ _ e1 e2)]
      rfl
    · rw [List.getElem?_eq_none hk, List.getElem?_eq_none (by omega)]
      rfl
  subst hls
  have hsz : (f y).length = r.size := r.len ((hf N w0 y _).2 rfl)
  have hcsz : cs.size = 1 * r.size := by
    have e : cs.size = (f y).length := by rw [← hcs]; simp
    omega
  obtain ⟨i0, hi, hz0, hz1, hz2⟩ := info_parts ty.info
  have hnews : ∀ j u, cs.toList[j]? = some u → (w0.alloc (.cells cs E)).cell? ((⟨w0.heap.size, 0, none⟩ : Addr).add j) = some u := by
    intro j u hj
    rw [add_at, World.cell?_alloc_at _ _ _ _ rfl]
    simpa using hj
  have hb3 : (xs.length + 1) * bytes ≤ 140737488355328 := by
    have := Nat.mul_le_mul (show xs.length + 1 ≤ 100000001 by omega) hby
    omega
  have h63 : xs.length + 1 ≤ maxLen := by unfold maxLen; omega
  obtain ⟨v', w', hrun, g1, g2, _⟩ := run_append_own (P := Tryd.prog) (w0.alloc (.cells cs E)) B T o.type E i0 z r.size bytes ty.under hi hz0 hz1 hz2 ty.zsize ty.pos _ xs.length _ (ho2.alloc _) ⟨w0.heap.size, 0, none⟩ 1 c cs.toList (by simpa using hcsz) hnews (by rw [hcs]; exact h1) h63 hb3 (by simp; omega)
  have hcells := run_append_cells (P := Tryd.prog) (w0.alloc (.cells cs E)) B T o.type E i0 z r.size bytes ty.under hi hz0 hz1 hz2 g xs.length cap _ (ho2.alloc _) ⟨w0.heap.size, 0, none⟩ 1 c cs.toList (by simpa using hcsz) hnews (by rw [hcs]; exact h1) h63 hb3 hrun
  have hg : w0.grownBy w' (some g) := ⟨g2.os, g2.tape, g2.output, by have := g2.size; simp at this; omega, fun k hk hn => by rw [g2.block k (by simp; omega) hn]; exact Below.heap_alloc _ _ _ hk⟩
  have hbl : Below B w0 w' := (Below.refl B w0).grown hg hB (fun k hk => (ho2.lt k (by rw [← hk]; rfl)).1)
  refine wpList_plain hgd fun _ hK => ?_
  unfold Oper.wp execOp
  simp only [ho, resolve, invoke, builtin, Sem.run_bind, Sem.run_pure, Result.andThen_ok, List.map_toArray, List.map_cons, List.map_nil, hs, hx, hrun]
  refine hK _ _ (h v' w' ⟨xs.map f ++ [f y], by simp, fun i x l e1 e2 => (hf _ _ _ _).2 ?_, ?_⟩ hbl hg hcells)
  · rw [show xs.map f ++ [f y] = (xs ++ [y]).map f by simp, List.getElem?_map, e1] at e2
    exact (Option.some.inj e2).symm
  · rw [List.length_append, List.flatten_append]
    simpa [hcs] using g1
end
end Go.Proofs.YtneopbbafdmpkaaDoor
