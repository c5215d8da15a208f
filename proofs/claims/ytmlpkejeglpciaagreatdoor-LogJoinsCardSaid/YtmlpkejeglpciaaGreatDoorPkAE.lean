/- Several texts in one: Mem, SortOwn, MixL. -/
import Derived.Test.YtmlpkejeglpciaaGreatDoorPkAD
import Derived.Shelf.SlSortCmp.InsertionK
import Derived.Sort.LotA
import Derived.Test.YtmlpkejeglpciaaGreatDoorPkAC
/- Memory in pieces where no stream goes along: a call's local blocks, slices of its own, data that stay. -/
namespace Go.Proofs.YtmlpkejeglpciaaGreatDoor
open Go Go.RowKit
theorem LV.all {w : World} {X : Nat} {cs : Array Value} {T : TypeId} (h : LV w X cs T) : (∀ j, w.cell? ⟨X, j, none⟩ = cs[j]?) ∧ ∀ j, w.frozen? ⟨X, j, none⟩ = false := by
  refine ⟨fun j => ?_, h.free⟩
  by_cases hj : j < cs.size
  · rw [h.cell j cs[j] (by simp [hj])]; simp [hj]
  · unfold LV at h
    simp [World.cell?, h, hj]
structure Mem (w0 w : World) (cs : List Chunk) : Prop where
  b : Below w0.heap.size w0 w
  ok : ∀ c ∈ cs, c.ok (Mut w0.heap.size cs) w
  new : ∀ c ∈ cs, ∀ k, c.blk = some k → w0.heap.size ≤ k
  sep : cs.Pairwise fun c d => ∀ k, c.blk = some k → d.blk ≠ some k
section
variable {w0 w w' : World} {cs : List Chunk}
theorem Mem.start (w : World) : Mem w w [] := ⟨Below.refl _ _, (fun c hc => by cases hc), (fun c hc => by cases hc), List.Pairwise.nil⟩
theorem Mem.below (S : Mem w0 w cs) (k : Below w.heap.size w w') : Mem w0 w' cs :=
  ⟨S.b.trans (k.mono S.b.size), fun c hc => c.keep (SKN.ofBelow (N := fun _ => False) k) (fun _ e => e.elim) (fun _ _ e => e) (S.ok c hc), S.new, S.sep⟩
theorem Mem.lt (S : Mem w0 w cs) {c : Chunk} (hc : c ∈ cs) {k : Nat} (e : c.blk = some k) : k < w.heap.size := c.lt (S.ok c hc) k e
theorem Mem.call (S : Mem w0 w cs) (g : Below w.heap.size w w') (c : Chunk) (hc : c.ok (Lt w.heap.size) w') (hb : ∀ k, c.blk = some k → w.heap.size ≤ k) : Mem w0 w' (cs ++ [c]) := by
  have hsz := S.b.size
  refine ⟨S.b.trans (g.mono S.b.size), fun d hd => ?_, fun d hd k e => ?_, ?_⟩
  · rcases List.mem_append.1 hd with hd | hd
    · have h1 := d.mono (M' := Mut w0.heap.size (cs ++ [c])) (fun k hk e => ?_) (S.ok d hd)
      · exact d.keep (SKN.ofBelow (N := fun _ => False) g) (fun _ e => e.elim) (fun _ _ e => e) h1
      · rcases e with e | ⟨x, hx, e⟩
        · exact .inl (.inl e)
        · rcases List.mem_append.1 hx with hx | hx
          · exact .inl (.inr ⟨x, hx, e⟩)
          · rw [List.mem_singleton.1 hx] at e
            have := hb k e
            omega
    · rw [List.mem_singleton.1 hd]
      refine c.mono (fun k hk e => ?_) hc
      rcases e with e | ⟨x, hx, e⟩
      · left; unfold Lt; omega
      · rcases List.mem_append.1 hx with hx | hx
        · exact .inl (S.lt hx e)
        · rw [List.mem_singleton.1 hx] at e
          exact .inr e
  · rcases List.mem_append.1 hd with hd | hd
    · exact S.new d hd k e
    · rw [List.mem_singleton.1 hd] at e
      have := hb k e
      omega
  · refine List.pairwise_append.2 ⟨S.sep, List.pairwise_singleton _ _, fun x hx y hy k e1 e2 => ?_⟩
    rw [List.mem_singleton.1 hy] at e2
    have := hb k e2
    have := S.lt hx e1
    omega
theorem Mem.new' (S : Mem w0 w cs) (cells : Array Value) (T : TypeId) : Mem w0 (w.alloc (.cells cells T)) (cs ++ [.loc w.heap.size cells T]) :=
  S.call ((Below.refl _ _).alloc (Nat.le_refl _) _) _ (LV.new w w.heap.size cells T rfl) (fun k e => by cases e; exact Nat.le_refl _)
theorem Mem.newAt (S : Mem w0 w cs) (cells : Array Value) (T : TypeId) (X : Nat) (hX : X = w.heap.size) : Mem w0 (w.alloc (.cells cells T)) (cs ++ [.loc X cells T]) := by subst hX; exact S.new' cells T
theorem Mem.nil {α : Type} (S : Mem w0 w cs) (r : Rep α) (B E : Nat) : Mem w0 w (cs ++ [.own r B E (.slice none 0 0) []]) :=
  S.call (Below.refl _ _) (.own r B E (.slice none 0 0) []) (Own.nil r _ B E w) (fun k e => by cases e)
theorem Mem.apart (S : Mem w0 w cs) {i j : Nat} {c d : Chunk} (hi : cs[i]? = some c) (hj : cs[j]? = some d) (hij : j ≠ i) {k : Nat} (e : c.blk = some k) : d.blk ≠ some k := by
  have hsep := List.pairwise_iff_getElem.1 S.sep
  obtain ⟨hi', rfl⟩ := List.getElem?_eq_some_iff.1 hi
  obtain ⟨hj', rfl⟩ := List.getElem?_eq_some_iff.1 hj
  rcases Nat.lt_or_gt_of_ne hij with h | h
  · exact fun e2 => hsep j i hj' hi' h k e2 e
  · exact hsep i j hi' hj' h k e
theorem Mem.upd (S : Mem w0 w cs) (i : Nat) {c : Chunk} (hi : cs[i]? = some c) (c' : Chunk) (hk : SKN (fun k => c.blk = some k) w w') (hg : Below w0.heap.size w0 w') (hnew : ∀ k, c'.blk = some k → c.blk = some k ∨ w.heap.size ≤ k) (hok : c'.ok (Mut w0.heap.size (cs.set i c')) w') : Mem w0 w' (cs.set i c') := by
  have hsz := S.b.size
  have hc := List.mem_of_getElem? hi
  have hmem : ∀ d ∈ cs.set i c', d = c' ∨ ∃ j, j ≠ i ∧ cs[j]? = some d := fun d hd => mem_set_cases hd
  refine ⟨hg, fun d hd => ?_, fun d hd k e => ?_, ?_⟩
  · rcases hmem d hd with rfl | ⟨j, hj, hdj⟩
    · exact hok
    · have hdm := List.mem_of_getElem? hdj
      have h1 := d.mono (M' := fun k => Mut w0.heap.size cs k ∨ Mut w0.heap.size (cs.set i c') k) (fun k hk e => ?_) (S.ok d hdm)
      · have h2 := d.keep hk (fun k e => .inl (.inr ⟨c, hc, e⟩)) (fun k e1 e2 => S.apart hi hdj hj e2 e1) h1
        exact d.mono (fun k _ e => .inl (.inr e)) h2
      · rcases e with e | e
        · exact .inl e
        · rcases e with e | ⟨x, hx, e⟩
          · exact .inl (.inl e)
          · rcases hmem x hx with rfl | ⟨j', _, hx'⟩
            · rcases hnew k e with e | e
              · exact .inl (.inr ⟨c, hc, e⟩)
              · omega
            · exact .inl (.inr ⟨x, List.mem_of_getElem? hx', e⟩)
  · rcases hmem d hd with rfl | ⟨j, hj, hdj⟩
    · rcases hnew k e with e | e
      · exact S.new c hc k e
      · omega
    · exact S.new d (List.mem_of_getElem? hdj) k e
  · refine List.pairwise_iff_getElem.2 fun p q hp hq hpq k e1 e2 => ?_
    have e1' : (cs.set i c')[p]? = some ((cs.set i c')[p]) := List.getElem?_eq_getElem hp
    have e2' : (cs.set i c')[q]? = some ((cs.set i c')[q]) := List.getElem?_eq_getElem hq
    rw [List.length_set] at hp hq
    rw [List.getElem_set] at e1 e2
    have hlt : ∀ j (hj : j < cs.length), cs[j].blk = some k → k < w.heap.size := fun j hj e => S.lt (List.getElem_mem hj) e
    split at e1 <;> split at e2
    · omega
    · rename_i h1 h2
      subst h1
      rcases hnew k e1 with e | e
      · exact S.apart hi (List.getElem?_eq_getElem hq) (fun h => h2 h.symm) e e2
      · have := hlt q hq e2; omega
    · rename_i h1 h2
      subst h2
      rcases hnew k e2 with e | e
      · exact S.apart hi (List.getElem?_eq_getElem hp) (fun h => h1 h.symm) e e1
      · have := hlt p hp e1; omega
    · exact List.pairwise_iff_getElem.1 S.sep p q hp hq hpq k e1 e2
theorem Mem.lv (S : Mem w0 w cs) (i : Nat) {X : Nat} {cells : Array Value} {T : TypeId} (hi : cs[i]? = some (.loc X cells T)) : LV w X cells T := S.ok _ (List.mem_of_getElem? hi)
theorem Mem.ge (S : Mem w0 w cs) (i : Nat) {X : Nat} {cells : Array Value} {T : TypeId} (hi : cs[i]? = some (.loc X cells T)) : w0.heap.size ≤ X ∧ X < w.heap.size := ⟨S.new _ (List.mem_of_getElem? hi) X rfl, (S.lv i hi).lt⟩
theorem Mem.set (S : Mem w0 w cs) (i j : Nat) (u : Value) {X : Nat} {cells : Array Value} {T : TypeId} (hi : cs[i]? = some (.loc X cells T)) : Mem w0 (w.setCell ⟨X, j, none⟩ u) (cs.set i (.loc X (cells.setIfInBounds j u) T)) := by
  have h1 := S.ge i hi
  refine S.upd i hi _ ⟨by simp [World.setCell], fun k _ hn => Below.heap_setCell _ _ _ _ (fun e => hn (by rw [e]; rfl))⟩ (S.b.setCell (p := ⟨X, j, none⟩) h1.1 u) (fun k e => .inl e) ?_
  exact (S.lv i hi).set j u _ rfl
theorem Mem.ow {α : Type} {r : Rep α} {B E : Nat} {v : Value} {xs : List α} (S : Mem w0 w cs) (i : Nat) (hi : cs[i]? = some (.own r B E v xs)) : Own r (Mut w0.heap.size cs) B E w v xs := S.ok _ (List.mem_of_getElem? hi)
theorem Mem.slc {α : Type} {r : Rep α} {A : Option Addr} {xs : List α} (S : Mem w0 w cs) (i : Nat) (hi : cs[i]? = some (.sl r A xs)) : Sl r (Mut w0.heap.size cs) w A xs := S.ok _ (List.mem_of_getElem? hi)
theorem Mem.del (S : Mem w0 w cs) (i : Nat) : Mem w0 w (cs.eraseIdx i) := by
  have hs := List.eraseIdx_sublist cs i
  refine ⟨S.b, fun c hc => c.mono (fun k _ e => ?_) (S.ok c (hs.subset hc)), fun c hc => S.new c (hs.subset hc), S.sep.sublist hs⟩
  rcases e with e | ⟨x, hx, e⟩
  · exact .inl (.inl e)
  · exact .inl (.inr ⟨x, hs.subset hx, e⟩)
theorem Mem.frz {α : Type} {r : Rep α} {B E : Nat} {v : Value} {xs : List α} (S : Mem w0 w cs) (i : Nat) (hi : cs[i]? = some (.own r B E v xs)) : ∃ A c, v = .slice A xs.length c ∧ Mem w0 w (cs.set i (.sl r A xs)) := by
  have ho := S.ow i hi
  obtain ⟨A, c, e⟩ := ho.len
  refine ⟨A, c, e, S.upd i hi _ ⟨Nat.le_refl _, fun _ _ _ => rfl⟩ S.b (fun k e => by cases e) ?_⟩
  have hnm : ∀ k, v.ownBlock = some k → ¬ Mut w0.heap.size (cs.set i (.sl r A xs)) k := fun k ek hm => by
    rcases hm with hm | ⟨x, hx, ex⟩
    · have := S.new _ (List.mem_of_getElem? hi) k ek; omega
    · rcases mem_set_cases hx with rfl | ⟨j, hj, hx⟩
      · cases ex
      · exact S.apart hi hx hj ek ex
  have hmm : ∀ k, Mut w0.heap.size (cs.set i (.sl r A xs)) k → Mut w0.heap.size cs k := fun k hm => by
    rcases hm with hm | ⟨x, hx, ex⟩
    · exact .inl hm
    · rcases mem_set_cases hx with rfl | ⟨j, hj, hx⟩
      · cases ex
      · exact .inr ⟨x, List.mem_of_getElem? hx, ex⟩
  obtain ⟨ls, hl, hr, hown⟩ := ho
  have hlen : ∀ l ∈ ls, l.length = r.size := fun l hm => by
    obtain ⟨i, hi, e⟩ := List.getElem_of_mem hm
    exact r.len (hr i (xs[i]'(by omega)) l (by simp) (by rw [List.getElem?_eq_getElem hi, e]))
  rcases hown.2 with ⟨rfl, h0⟩ | ⟨g, cap, cur, rfl, hB, hg, _, _, _, _⟩
  · rw [List.length_eq_zero_iff.1 h0]
    exact Sl.nil
  · cases e
    intro j x hx
    have hj : j < ls.length := by rw [hl]; exact lt_of_get hx
    refine ⟨g, 0, ls[j], rfl, (hown.lt g rfl).2, hnm g rfl, r.mono (fun k _ h => .inl (hmm k h)) (hr j x _ hx (List.getElem?_eq_getElem hj)), fun p u hu => ?_⟩
    have := hown.cells (g := g) rfl _ u (flatten_at hlen j p _ u (List.getElem?_eq_getElem hj) hu)
    rw [add_at] at this
    rw [Nat.add_assoc]
    exact this
end
section
variable {ops : Array Oper} {rest : List Oper} {o : Oper} {a : Act} {Q : Exit → Act → World → Prop}
theorem Mem.app {α : Type} {r : Rep α} {w0 w : World} {cs : List Chunk} (S : Mem w0 w cs) (i : Nat) {B E : Nat} {v : Value} {xs : List α} (hi : cs[i]? = some (.own r B E v xs)) {T bytes : Nat} {z : Value} (ty : STy T E r.size bytes z) {arr : Array Value}
    (hgd : o.guard = none) (s x : Operand) (ho : o.op = .call { callee := .builtin .append, args := #[s, x], argTypes := #[T, T] }) (y : α) (c : Nat) (hs : a.eval s = v) (hx : a.eval x = .slice (some ⟨w.heap.size, 0, none⟩) 1 c)
    (hy : r.rel (Mut w0.heap.size cs) w y arr.toList) (h1 : ∀ u ∈ arr.toList, u.oneCell' = true) (hB : B ≤ w.heap.size) (hlen : xs.length ≤ 100000000) (hby : bytes ≤ 1000)
    (h : ∀ v' w', Mem w0 w' (cs.set i (.own r B E v' (xs ++ [y]))) → wpList Tryz.prog ops Q rest (a.put o.dst v') w') : wpList Tryz.prog ops Q (o :: rest) a (w.alloc (.cells arr E)) := by
  have hown := S.ow i hi
  obtain ⟨ls, hl, hr, ho2⟩ := hown
  have hsz : arr.toList.length = r.size := r.len hy
  obtain ⟨i0, hi0, hz0, hz1, hz2⟩ := info_parts ty.info
  have hnews : ∀ j u, arr.toList[j]? = some u → (w.alloc (.cells arr E)).cell? ((⟨w.heap.size, 0, none⟩ : Addr).add j) = some u := by
    intro j u hj
    rw [add_at, World.cell?_alloc_at _ _ _ _ rfl]
    simpa using hj
  have hb3 : (xs.length + 1) * bytes ≤ 140737488355328 := by
    have := Nat.mul_le_mul (show xs.length + 1 ≤ 100000001 by omega) hby
    omega
  have h63 : xs.length + 1 ≤ maxLen := by unfold maxLen; omega
  obtain ⟨v', w', hrun, g1, g2, _⟩ := run_append_own (P := Tryz.prog) (w.alloc (.cells arr E)) B T o.type E i0 z r.size bytes ty.under hi0 hz0 hz1 hz2 ty.zsize ty.pos _ xs.length _ (ho2.alloc _) ⟨w.heap.size, 0, none⟩ 1 c arr.toList (by omega) hnews h1 h63 hb3 (by simp; omega)
  have hwh := run_append_where (P := Tryz.prog) (w.alloc (.cells arr E)) B T o.type E i0 z r.size bytes ty.under hi0 hz0 hz1 hz2 ty.zsize ty.pos _ xs.length _ (ho2.alloc _) ⟨w.heap.size, 0, none⟩ 1 c arr.toList (by omega) hnews h1 h63 hb3 hrun
  have hg : w.grownBy w' v.ownBlock := ⟨g2.os, g2.tape, g2.output, by have := g2.size; simp at this; omega, fun k hk hn => by rw [g2.block k (by simp; omega) hn]; exact Below.heap_alloc _ _ _ hk⟩
  have hbl : Below w0.heap.size w w' := (Below.refl _ w).grown hg S.b.size (fun k hk => S.new _ (List.mem_of_getElem? hi) k hk)
  have hskn : SKN (fun k => v.ownBlock = some k) w w' := ⟨hg.size, fun k hk hn => hg.block k hk (fun e => hn e.symm)⟩
  refine wpList_plain hgd fun _ hK => ?_
  unfold Oper.wp execOp
  simp only [ho, resolve, invoke, builtin, Sem.run_bind, Sem.run_pure, Result.andThen_ok, List.map_toArray, List.map_cons, List.map_nil, hs, hx, hrun]
  refine hK _ _ (h v' w' (S.upd i hi _ hskn (S.b.trans hbl) (fun k e => ?_) ?_))
  · rcases hwh k e with e | e
    · exact .inl e
    · right; simp at e; omega
  · have hc := List.mem_of_getElem? hi
    have up : ∀ x l, r.rel (NOr (Mut w0.heap.size cs) v) w x l → r.rel (NOr (Mut w0.heap.size (cs.set i (.own r B E v' (xs ++ [y])))) v') w' x l := fun x l hx => by
      have h1 := r.mono (M := fun k => NOr (Mut w0.heap.size cs) v k ∨ NOr (Mut w0.heap.size (cs.set i (.own r B E v' (xs ++ [y])))) v' k) (fun k hk e => ?_) hx
      · exact r.mono (fun k _ e => .inr e) (r.keep (hskn.mono fun k e => .inl (.inr e)) h1)
      · have nw : v'.ownBlock = some k → NOr (Mut w0.heap.size cs) v k := fun e => by
          rcases hwh k e with e | e
          · exact .inr e
          · simp at e; omega
        rcases e with e | e | e
        · exact e
        · rcases e with e | ⟨q, hq, e⟩
          · exact .inl (.inl e)
          · rcases mem_set_cases hq with rfl | ⟨j, _, hq⟩
            · exact nw e
            · exact .inl (.inr ⟨q, List.mem_of_getElem? hq, e⟩)
        · exact nw e
    refine ⟨ls ++ [arr.toList], by simp [hl], fun j x l e1 e2 => ?_, ?_⟩
    · rcases Nat.lt_or_ge j xs.length with hj | hj
      · rw [List.getElem?_append_left hj] at e1
        rw [List.getElem?_append_left (by omega)] at e2
        exact up x l (hr j x l e1 e2)
      · rw [List.getElem?_append_right hj] at e1
        rw [List.getElem?_append_right (by omega), hl] at e2
        cases hk : j - xs.length with
        | zero =>
          rw [hk] at e1 e2
          simp at e1 e2
          subst e1 e2
          refine up y _ (r.mono (fun k _ e => ?_) hy)
          rcases e with e | e
          · exact e
          · exact .inr ⟨_, hc, e⟩
        | succ k => rw [hk] at e1; simp at e1
    · rw [List.length_append, List.flatten_append]
      simpa using g1
end
theorem Mem.put {α : Type} {r : Rep α} {f : α → List Value} (hf : r.Flat f) {w0 w : World} {cs : List Chunk} (S : Mem w0 w cs) (i : Nat) {B E g n cap : Nat} {xs : List α} (hi : cs[i]? = some (.own r B E (.slice (some ⟨g, 0, none⟩) n cap) xs)) (hn : n = xs.length) (p : Nat) (x x' : α) (hx : xs[p]? = some x) (j : Nat) (hj : j < r.size) (u : Value) (hu : f x' = (f x).set j u) :
    Mem w0 (w.setCell ⟨g, p * r.size + j, none⟩ u) (cs.set i (.own r B E (.slice (some ⟨g, 0, none⟩) n cap) (xs.set p x'))) := by
  have hg0 := S.new _ (List.mem_of_getElem? hi) g rfl
  refine S.upd i hi _ ⟨by simp [World.setCell], fun k _ hne => Below.heap_setCell _ _ _ _ (fun e => hne (by rw [e]; rfl))⟩ (S.b.setCell (p := ⟨g, _, none⟩) hg0 u) (fun k e => .inl e) ?_
  have := (Own.put hf (S.ow i hi) hn p x x' hx j hj u hu)
  refine Own.monoD (fun k _ e => ?_) this
  rcases e with e | ⟨q, hq, e⟩
  · exact .inl (.inl e)
  · rcases mem_set_cases hq with rfl | ⟨k', _, hq⟩
    · exact .inr e
    · exact .inl (.inr ⟨q, List.mem_of_getElem? hq, e⟩)
theorem Mem.callN {w0 w w' : World} {cs : List Chunk} (S : Mem w0 w cs) (g : Below w.heap.size w w') (ds : List Chunk) (hok : ∀ d ∈ ds, d.ok (fun k => k < w.heap.size ∨ ∃ e ∈ ds, e.blk = some k) w') (hb : ∀ d ∈ ds, ∀ k, d.blk = some k → w.heap.size ≤ k)
    (hsep : ds.Pairwise fun c d => ∀ k, c.blk = some k → d.blk ≠ some k) : Mem w0 w' (cs ++ ds) := by
  have hsz := S.b.size
  refine ⟨S.b.trans (g.mono S.b.size), fun d hd => ?_, fun d hd k e => ?_, ?_⟩
  · rcases List.mem_append.1 hd with hd | hd
    · have h1 := d.mono (M' := Mut w0.heap.size (cs ++ ds)) (fun k hk e => ?_) (S.ok d hd)
      · exact d.keep (SKN.ofBelow (N := fun _ => False) g) (fun _ e => e.elim) (fun _ _ e => e) h1
      · rcases e with e | ⟨x, hx, e⟩
        · exact .inl (.inl e)
        · rcases List.mem_append.1 hx with hx | hx
          · exact .inl (.inr ⟨x, hx, e⟩)
          · have := hb x hx k e
            omega
    · refine d.mono (fun k hk e => ?_) (hok d hd)
      rcases e with e | ⟨x, hx, e⟩
      · left; left; omega
      · rcases List.mem_append.1 hx with hx | hx
        · exact .inl (.inl (S.lt hx e))
        · exact .inl (.inr ⟨x, hx, e⟩)
  · rcases List.mem_append.1 hd with hd | hd
    · exact S.new d hd k e
    · have := hb d hd k e
      omega
  · refine List.pairwise_append.2 ⟨S.sep, hsep, fun x hx y hy k e1 e2 => ?_⟩
    have := hb y hy k e2
    have := S.lt hx e1
    omega
theorem Mem.perm {w0 w : World} {cs ds : List Chunk} (S : Mem w0 w cs) (h : cs.Perm ds) : Mem w0 w ds := by
  refine ⟨S.b, fun c hc => c.mono (fun k _ e => .inl ?_) (S.ok c (h.mem_iff.2 hc)), fun c hc => S.new c (h.mem_iff.2 hc), pairwise_perm h S.sep⟩
  rcases e with e | ⟨x, hx, e⟩
  · exact .inl e
  · exact .inr ⟨x, h.mem_iff.2 hx, e⟩
theorem Mem.join {w0 w w' : World} {cs ds : List Chunk} (S : Mem w0 w cs) (T : Mem w w' ds) : Mem w0 w' (cs ++ ds) :=
  S.callN T.b ds (fun d hd => T.ok d hd) (fun d hd => T.new d hd) T.sep
theorem Mem.front {w0 w : World} {cs : List Chunk} {c : Chunk} (S : Mem w0 w (cs ++ [c])) : Mem w0 w (c :: cs) := S.perm List.perm_append_comm
theorem Mem.swap {w0 w : World} {cs : List Chunk} {c d : Chunk} (S : Mem w0 w (c :: d :: cs)) : Mem w0 w (d :: c :: cs) := S.perm (List.Perm.swap _ _ _)
end Go.Proofs.YtmlpkejeglpciaaGreatDoor

/- A slice of the call's own, sorted by the library's insertion sort. -/
namespace Go.Proofs.YtmlpkejeglpciaaGreatDoor
open Go Go.RowKit Go.Sort
theorem Own.isMap {α : Type} {r : Rep α} {f : α → List Value} (hf : r.Flat f) {xs : List α} {ls : List (List Value)} {M : Nat → Prop} {w : World} (hl : ls.length = xs.length) (hr : ∀ (i : Nat) (x : α) (l : List Value), xs[i]? = some x → ls[i]? = some l → r.rel M w x l) : ls = xs.map f := by
  refine List.ext_getElem? fun i => ?_
  rw [List.getElem?_map]
  by_cases hi : i < xs.length
  · rw [List.getElem?_eq_getElem hi, List.getElem?_eq_getElem (by omega)]
    exact congrArg some ((hf _ _ _ _).1 (hr i xs[i] (ls[i]'(by omega)) (List.getElem?_eq_getElem hi) (List.getElem?_eq_getElem (by omega))))
  · rw [List.getElem?_eq_none (by omega), List.getElem?_eq_none (by omega)]; rfl
section
variable {α : Type} [Inhabited α]
theorem flatK_list (f : α → List Value) (k : Nat) (hk : ∀ x, (f x).length = k) (hk0 : 0 < k) (xs : List α) : (flatK f k xs.toArray).toList = (xs.map f).flatten := by
  have hlen : ∀ l ∈ xs.map f, l.length = k := fun l hl => by
    obtain ⟨x, _, rfl⟩ := List.mem_map.1 hl
    exact hk x
  have hfl : (xs.map f).flatten.length = xs.length * k := by
    clear hlen
    induction xs with
    | nil => simp
    | cons x r ih => simp only [List.map_cons, List.flatten_cons, List.length_append, hk, ih, List.length_cons, Nat.succ_mul]; omega
  refine List.ext_getElem? fun t => ?_
  by_cases ht : t < xs.length * k
  · have hi : t / k < xs.length := Nat.div_lt_of_lt_mul (by rw [Nat.mul_comm]; exact ht)
    have hj : t % k < k := Nat.mod_lt _ hk0
    have e : t / k * k + t % k = t := Nat.div_add_mod' t k
    have h1 : (xs.map f)[t / k]? = some (f xs[t / k]) := by rw [List.getElem?_map, List.getElem?_eq_getElem hi]; rfl
    have h2 : (f xs[t / k])[t % k]? = some ((f xs[t / k])[t % k]'(by rw [hk]; exact hj)) := List.getElem?_eq_getElem _
    have h3 := flatten_at hlen (t / k) (t % k) _ _ h1 h2
    rw [e] at h3
    have ht2 : t < (flatK f k xs.toArray).size := by simpa using ht
    have h4 := get_flatK f k xs.toArray t (by simpa using ht)
    rw [h3, Array.getElem?_toList, Array.getElem?_eq_getElem ht2, Option.some.injEq, ← getElem!_pos (flatK f k xs.toArray) t ht2, h4]
    rw [getElem!_pos xs.toArray (t / k) (by simpa using hi), getElem!_pos _ (t % k) (by rw [hk]; exact hj)]
    simp
  · rw [List.getElem?_eq_none (by simp; omega), List.getElem?_eq_none (by omega)]
theorem Own.holdsK {r : Rep α} {f : α → List Value} (hf : r.Flat f) (hk0 : 0 < r.size) {M : Nat → Prop} {B E g n cap : Nat} {w : World} {xs : List α} (h : Own r M B E w (.slice (some ⟨g, 0, none⟩) n cap) xs) (hn : n = xs.length) (hk : ∀ x, (f x).length = r.size) : HoldsK f r.size w g 0 xs.toArray := by
  subst hn
  obtain ⟨ls, hl, hr, ho⟩ := h
  obtain rfl := Own.isMap hf hl hr
  intro j hj
  rw [Nat.zero_add]
  refine ⟨?_, by have := ho.frozenAt (g := g) j; exact this⟩
  have e : (flatK f r.size xs.toArray).toList[j]? = some (flatK f r.size xs.toArray)[j]! := by
    rw [Array.getElem?_toList, Array.getElem?_eq_getElem hj, getElem!_pos (flatK f r.size xs.toArray) j hj]
  rw [flatK_list f r.size hk hk0] at e
  have := ho.cells (g := g) rfl j _ e
  rw [add_at, Nat.zero_add] at this
  exact this
theorem grownBy_sortedK {f : α → List Value} {k : Nat} {w : World} {g n : Nat} {os : Array Obj} (d : Array α) : w.grownBy (sortWorldK f k w g 0 n d os) (some g) := by
  refine ⟨rfl, rfl, rfl, by unfold sortWorldK putRowK; simp, fun j hj hne => ?_⟩
  unfold sortWorldK putRowK
  rw [heap_grow_old _ _ (by simpa using hj)]
  have : g ≠ j := fun e => hne (by rw [e])
  simp [putRow, mapBlock, Sort.ahead, Array.getElem?_modify, this]
theorem Own.sortedK {r : Rep α} {f : α → List Value} (hf : r.Flat f) (hk0 : 0 < r.size) {M : Nat → Prop} {B E g n cap m : Nat} {w : World} {xs ts : List α} {os : Array Obj} (h : Own r M B E w (.slice (some ⟨g, 0, none⟩) n cap) xs) (hk : ∀ x, (f x).length = r.size) (ht : ts.length = xs.length) :
    Own r M B E (sortWorldK f r.size w g 0 m ts.toArray os) (.slice (some ⟨g, 0, none⟩) n cap) ts := by
  obtain ⟨ls, hl, hr, ho⟩ := h
  rcases ho.2 with ⟨e, _⟩ | ⟨g', cap', cur, e, hB, hg, h5, h6, h7, h8⟩
  · cases e
  · cases e
    have hcur : ts.length * r.size ≤ cur.size := by rw [h7, ht]; exact Nat.mul_le_mul_right _ h5
    have hsz : (flatK f r.size ts.toArray).size = ts.length * r.size := by simp
    have hput : (putCells id 0 (flatK f r.size ts.toArray) cur).toList.take (ts.length * r.size) = (ts.map f).flatten := by
      rw [← flatK_list f r.size hk hk0]
      refine List.ext_getElem? fun j => ?_
      rw [List.getElem?_take]
      by_cases hj : j < ts.length * r.size
      · rw [if_pos hj, Array.getElem?_toList, Array.getElem?_toList]
        have hjc : j < cur.size := by omega
        simp only [putCells, Array.getElem?_mapIdx, Array.getElem?_eq_getElem hjc, Option.map_some]
        rw [if_pos ⟨Nat.zero_le _, by rw [hsz]; omega⟩, Array.getElem?_eq_getElem (by rw [hsz]; exact hj)]
        simp [getElem!_pos (flatK f r.size ts.toArray) j (by rw [hsz]; exact hj)]
      · rw [if_neg hj, List.getElem?_eq_none (by rw [Array.length_toList, hsz]; omega)]
    refine ⟨ts.map f, by simp, fun i x l e1 e2 => (hf _ _ _ _).2 ?_, ?_⟩
    · rw [List.getElem?_map, e1] at e2
      exact (Option.some.inj e2).symm
    · refine ⟨?_, .inr ⟨g, cap, putCells id 0 (flatK f r.size ts.toArray) cur, by rw [ht], hB, ?_, by omega, h6, by simp [putCells, h7], hput⟩⟩
      · rw [← flatK_list f r.size hk hk0, Array.length_toList, hsz]
      · have hgl : g < w.heap.size := (Array.getElem?_eq_some_iff.1 hg).1
        unfold sortWorldK putRowK
        rw [heap_grow_old _ _ (by simpa using hgl)]
        simp [putRow, mapBlock, Sort.ahead, Array.getElem?_modify, hg, onCells]
end
section
variable {α : Type} [Inhabited α]
theorem Mem.sortedK {r : Rep α} {f : α → List Value} (hf : r.Flat f) (hk0 : 0 < r.size) (hk : ∀ x, (f x).length = r.size) {w0 w : World} {cs : List Chunk} (S : Mem w0 w cs) (i : Nat) {B E g n cap m : Nat} {xs ts : List α} {os : Array Obj} (hi : cs[i]? = some (.own r B E (.slice (some ⟨g, 0, none⟩) n cap) xs)) (ht : ts.length = xs.length) :
    Mem w0 (sortWorldK f r.size w g 0 m ts.toArray os) (cs.set i (.own r B E (.slice (some ⟨g, 0, none⟩) n cap) ts)) := by
  have hg0 := S.new _ (List.mem_of_getElem? hi) g rfl
  have hgr : w.grownBy (sortWorldK f r.size w g 0 m ts.toArray os) (some g) := grownBy_sortedK _
  have hbl : Below w0.heap.size w (sortWorldK f r.size w g 0 m ts.toArray os) := (Below.refl _ w).grown hgr S.b.size (fun k hk => by cases hk; exact hg0)
  have hskn : SKN (fun k => Value.ownBlock (.slice (some ⟨g, 0, none⟩) n cap) = some k) w (sortWorldK f r.size w g 0 m ts.toArray os) := ⟨hgr.size, fun k hk hn => hgr.block k hk (fun e => hn e.symm)⟩
  refine S.upd i hi _ hskn (S.b.trans hbl) (fun k e => .inl e) ?_
  have := Own.sortedK hf hk0 (m := m) (os := os) (S.ow i hi) hk ht
  refine Own.monoD (fun k _ e => ?_) this
  rcases e with e | ⟨q, hq, e⟩
  · exact .inl (.inl e)
  · rcases mem_set_cases hq with rfl | ⟨k', _, hq⟩
    · exact .inr e
    · exact .inl (.inr ⟨q, List.mem_of_getElem? hq, e⟩)
end
end Go.Proofs.YtmlpkejeglpciaaGreatDoor

/- Regions that draw their order: as in the text Mix, but the last operation, for which all others have come, may leave the class of worlds. No program is in sight. -/
namespace Go.Proofs.YtmlpkejeglpciaaGreatDoor
open Go
section
variable {P : Program} {ops : Array Oper} {Q : Exit → Act → World → Prop} {md : Region.Mode} {C : World → Prop} {L : Nat}

def wpAnyL (P : Program) (md : Region.Mode) (ops : Array Oper) (L : Nat) (C : World → Prop) (Q : Exit → Act → World → Prop) : Nat → Array Bool → Act → World → Prop
  | 0, listed, a, w => Region.ready md ops listed = [] ∧ Q .normal a w
  | fuel + 1, listed, a, w =>
    (Region.ready md ops listed = [] → Q .normal a w) ∧
    ∀ i ∈ Region.ready md ops listed, wpOp P ops Q i (fun a' w' => (i ≠ L → C w') ∧ wpAnyL P md ops L C Q fuel (listed.setIfInBounds i true) a' w') a w

theorem wpAny_of_L : ∀ (fuel : Nat) (listed : Array Bool) (a : Act) (w : World), wpAnyL P md ops L C Q fuel listed a w → wpAny P md ops Q fuel listed a w
  | 0, _, _, _, h => h
  | fuel + 1, _, _, _, h => ⟨h.1, fun i hi => wpOp_mono (fun a' w' h' => wpAny_of_L fuel _ a' w' h'.2) (h.2 i hi)⟩

end
end Go.Proofs.YtmlpkejeglpciaaGreatDoor
