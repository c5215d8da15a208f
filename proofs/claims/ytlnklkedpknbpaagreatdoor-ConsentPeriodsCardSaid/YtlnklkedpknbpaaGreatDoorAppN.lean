/- append of several elements to a slice of the call's own: a row that lies anywhere is put behind. -/
import Derived.Test.YtlnklkedpknbpaaGreatDoorPackM
namespace Go.Proofs.YtlnklkedpknbpaaGreatDoor
open Go Go.RowKit
section
variable {α : Type} {r : Rep α} {f : α → List Value}
theorem map_flat_len (hl : ∀ x, (f x).length = r.size) : ∀ ys : List α, (ys.map f).flatten.length = ys.length * r.size
  | [] => by simp
  | y :: t => by rw [List.map_cons, List.flatten_cons, List.length_append, hl, map_flat_len hl t, List.length_cons, Nat.succ_mul]; omega
theorem Own.appN (hf : r.Flat f) {M : Nat → Prop} {w : World} {B E : Nat} {v : Value} {xs ys : List α} (h : Own r M B E w v xs) {T ty bytes : Nat} {z : Value} (sty : STy T E r.size bytes z) (hB : B ≤ w.heap.size) (hlen : xs.length + ys.length ≤ 100000000) (hby : bytes ≤ 1000)
    (ad : Addr) (c : Nat) (hc : ∀ j u, (ys.map f).flatten[j]? = some u → w.cell? (ad.add j) = some u) (h1 : ∀ y ∈ ys, ∀ u ∈ f y, u.oneCell' = true) (hfl : ∀ x, (f x).length = r.size) :
    ∃ v' w', (Builtin.append_ #[T, T] ty #[v, .slice (some ad) ys.length c]).run Tryz.prog w = .ok v' w' ∧ (∀ M', Own r M' B E w' v' (xs ++ ys)) ∧ w.grownBy w' v.ownBlock ∧ ∀ k, v'.ownBlock = some k → v.ownBlock = some k ∨ w.heap.size ≤ k := by
  obtain ⟨ls, hl, hr, ho2⟩ := h
  obtain ⟨i0, hi0, hz0, hz1, hz2⟩ := info_parts sty.info
  have hb3 : (xs.length + ys.length) * bytes ≤ 140737488355328 := by
    have := Nat.mul_le_mul (show xs.length + ys.length ≤ 100000001 by omega) hby
    omega
  have h63 : xs.length + ys.length ≤ maxLen := by unfold maxLen; omega
  have h1' : ∀ u ∈ (ys.map f).flatten, u.oneCell' = true := fun u hu => by
    obtain ⟨l, hl, hu⟩ := List.mem_flatten.1 hu
    obtain ⟨y, hy, rfl⟩ := List.mem_map.1 hl
    exact h1 y hy u hu
  obtain ⟨v', w', hrun, g1, g2, _⟩ := run_append_own (P := Tryz.prog) w B T ty E i0 z r.size bytes sty.under hi0 hz0 hz1 hz2 sty.zsize sty.pos _ xs.length _ ho2 ad ys.length c (ys.map f).flatten (map_flat_len hfl ys) hc h1' h63 hb3 hB
  have hwh := run_append_where (P := Tryz.prog) w B T ty E i0 z r.size bytes sty.under hi0 hz0 hz1 hz2 sty.zsize sty.pos _ xs.length _ ho2 ad ys.length c (ys.map f).flatten (map_flat_len hfl ys) hc h1' h63 hb3 hrun
  refine ⟨v', w', hrun, fun M' => ⟨ls ++ ys.map f, by simp [hl], fun j x l e1 e2 => (hf _ _ _ _).2 ?_, ?_⟩, g2, hwh⟩
  · rcases Nat.lt_or_ge j xs.length with hj | hj
    · rw [List.getElem?_append_left hj] at e1
      rw [List.getElem?_append_left (by omega)] at e2
      exact (hf _ _ _ _).1 (hr j x l e1 e2)
    · rw [List.getElem?_append_right hj] at e1
      rw [List.getElem?_append_right (by omega), hl, List.getElem?_map, e1] at e2
      exact (Option.some.inj e2).symm
  · rw [List.length_append, List.flatten_append]
    exact g1
end
section
variable {ops : Array Oper} {rest : List Oper} {o : Oper} {a : Act} {Q : Exit → Act → World → Prop}
theorem St.appN {α : Type} {r : Rep α} {f : α → List Value} (hf : r.Flat f) {b m : Nat} {w0 w : World} {cs : List Chunk} (S : St b m w0 w cs) (i : Nat) {B E : Nat} {v : Value} {xs : List α} (hi : cs[i]? = some (.own r B E v xs)) {T bytes : Nat} {z : Value} (ty : STy T E r.size bytes z)
    (hgd : o.guard = none) (s x : Operand) (ho : o.op = .call { callee := .builtin .append, args := #[s, x], argTypes := #[T, T] }) (ys : List α) (k c : Nat) (hk : k = ys.length) (hs : a.eval s = v) (ad : Addr) (hx : a.eval x = .slice (some ad) k c)
    (hc : ∀ j u, (ys.map f).flatten[j]? = some u → w.cell? (ad.add j) = some u) (h1 : ∀ y ∈ ys, ∀ u ∈ f y, u.oneCell' = true) (hfl : ∀ x, (f x).length = r.size) (hB : B ≤ w.heap.size) (hlen : xs.length + ys.length ≤ 100000000) (hby : bytes ≤ 1000)
    (h : ∀ v' w', St b m w0 w' (cs.set i (.own r B E v' (xs ++ ys))) → wpList Tryz.prog ops Q rest (a.put o.dst v') w') : wpList Tryz.prog ops Q (o :: rest) a w := by
  subst hk
  obtain ⟨v', w', hrun, ho', hg, hwh⟩ := Own.appN (ty := o.type) hf (S.ow i hi) ty hB hlen hby ad c hc h1 hfl
  have hbl : Below w0.heap.size w w' := (Below.refl _ w).grown hg S.g.size (fun k hk => S.new _ (List.mem_of_getElem? hi) k hk)
  have hskn : SKN (fun k => v.ownBlock = some k) w w' := ⟨hg.size, fun k hk hn => hg.block k hk (fun e => hn e.symm)⟩
  refine wpList_plain hgd fun _ hK => ?_
  unfold Oper.wp execOp
  simp only [ho, resolve, invoke, builtin, Sem.run_bind, Sem.run_pure, Result.andThen_ok, List.map_toArray, List.map_cons, List.map_nil, hs, hx, hrun]
  exact hK _ _ (h v' w' (S.upd i hi _ hskn (S.g.belowB hbl S.b0) (fun k e => hwh k e) (ho' _)))
theorem Mem.appN {α : Type} {r : Rep α} {f : α → List Value} (hf : r.Flat f) {w0 w : World} {cs : List Chunk} (S : Mem w0 w cs) (i : Nat) {B E : Nat} {v : Value} {xs : List α} (hi : cs[i]? = some (.own r B E v xs)) {T bytes : Nat} {z : Value} (ty : STy T E r.size bytes z)
    (hgd : o.guard = none) (s x : Operand) (ho : o.op = .call { callee := .builtin .append, args := #[s, x], argTypes := #[T, T] }) (ys : List α) (k c : Nat) (hk : k = ys.length) (hs : a.eval s = v) (ad : Addr) (hx : a.eval x = .slice (some ad) k c)
    (hc : ∀ j u, (ys.map f).flatten[j]? = some u → w.cell? (ad.add j) = some u) (h1 : ∀ y ∈ ys, ∀ u ∈ f y, u.oneCell' = true) (hfl : ∀ x, (f x).length = r.size) (hB : B ≤ w.heap.size) (hlen : xs.length + ys.length ≤ 100000000) (hby : bytes ≤ 1000)
    (h : ∀ v' w', Mem w0 w' (cs.set i (.own r B E v' (xs ++ ys))) → wpList Tryz.prog ops Q rest (a.put o.dst v') w') : wpList Tryz.prog ops Q (o :: rest) a w := by
  subst hk
  obtain ⟨v', w', hrun, ho', hg, hwh⟩ := Own.appN (ty := o.type) hf (S.ow i hi) ty hB hlen hby ad c hc h1 hfl
  have hbl : Below w0.heap.size w w' := (Below.refl _ w).grown hg S.b.size (fun k hk => S.new _ (List.mem_of_getElem? hi) k hk)
  have hskn : SKN (fun k => v.ownBlock = some k) w w' := ⟨hg.size, fun k hk hn => hg.block k hk (fun e => hn e.symm)⟩
  refine wpList_plain hgd fun _ hK => ?_
  unfold Oper.wp execOp
  simp only [ho, resolve, invoke, builtin, Sem.run_bind, Sem.run_pure, Result.andThen_ok, List.map_toArray, List.map_cons, List.map_nil, hs, hx, hrun]
  exact hK _ _ (h v' w' (S.upd i hi _ hskn (S.b.trans hbl) (fun k e => hwh k e) (ho' _)))
/-- the cells of a row that was just written out -/
theorem new_cells {w : World} {cells : Array Value} {T : TypeId} {L : List Value} (h : cells.toList = L) (j : Nat) (u : Value) (hj : L[j]? = some u) : (w.alloc (.cells cells T)).cell? ((⟨w.heap.size, 0, none⟩ : Addr).add j) = some u := by
  subst h
  rw [add_at, World.cell?_alloc_at _ _ _ _ rfl]
  simpa using hj
theorem alloc_size (w : World) (o : Obj) : (w.alloc o).heap.size = w.heap.size + 1 := by simp
end
end Go.Proofs.YtlnklkedpknbpaaGreatDoor
