/- Memory in pieces where no stream goes along: a call's local blocks, slices of its own, data that stay. -/
import Derived.Test.YtlnklkedpknbpaaGreatDoorStMore
namespace Go.Proofs.YtlnklkedpknbpaaGreatDoor
open Go Go.RowKit
/-- all cells of a local variable at once, as the walk's simp reads them -/
theorem LV.all {w : World} {X : Nat} {cs : Array Value} {T : TypeId} (h : LV w X cs T) : (∀ j, w.cell? ⟨X, j, none⟩ = cs[j]?) ∧ ∀ j, w.frozen? ⟨X, j, none⟩ = false := by
  refine ⟨fun j => ?_, h.free⟩
  by_cases hj : j < cs.size
  · rw [h.cell j cs[j] (by simp [hj])]; simp [hj]
  · unfold LV at h
    simp [World.cell?, h, hj]
/-- The pieces are as told, and apart; below the first world's blocks nothing has turned. -/
structure Mem (w0 w : World) (cs : List Chunk) : Prop where
  b : Below w0.heap.size w0 w
  ok : ∀ c ∈ cs, c.ok (Mut w0.heap.size cs) w
  new : ∀ c ∈ cs, ∀ k, c.blk = some k → w0.heap.size ≤ k
  sep : cs.Pairwise fun c d => ∀ k, c.blk = some k → d.blk ≠ some k
section
variable {w0 w w' : World} {cs : List Chunk}
theorem Mem.start (w : World) : Mem w w [] := ⟨Below.refl _ _, (fun c hc => by cases hc), (fun c hc => by cases hc), List.Pairwise.nil⟩
theorem Mem.below (S : Mem w0 w cs) (k : Below w.heap.size w w') : Mem w0 w' cs :=
  ⟨S.b.trans (k.mono S.b.size), fun c hc => c.keep (SKN.ofBelow (N := fun _ => False) k) (fun _ e => e.elim) (fun _ _ e => e) (S.ok c hc), S.new, S.sep⟩
theorem Mem.alloc (S : Mem w0 w cs) (o : Obj) : Mem w0 (w.alloc o) cs := S.below ((Below.refl _ _).alloc (Nat.le_refl _) o)
theorem Mem.out (S : Mem w0 w cs) : Hid (Below w0.heap.size w0 w) := S.b
theorem Mem.lt (S : Mem w0 w cs) {c : Chunk} (hc : c ∈ cs) {k : Nat} (e : c.blk = some k) : k < w.heap.size := c.lt (S.ok c hc) k e
/-- what a call has made is a new piece -/
theorem Mem.call (S : Mem w0 w cs) (g : Below w.heap.size w w') (c : Chunk) (hc : c.ok (Lt w.heap.size) w') (hb : ∀ k, c.blk = some k → w.heap.size ≤ k) : Mem w0 w' (cs ++ [c]) := by
  have hsz := S.b.size
  refine ⟨S.b.trans (g.mono S.b.size), fun d hd => ?_, fun d hd k e => ?_, ?_⟩
  · rcases List.mem_append.1 hd with hd | hd
    · have h1 := d.mono (M' := Mut w0.heap.size (cs ++ [c])) (fun k hk e => ?_) (S.ok d hd)
      · exact d.keep (SKN.ofBelow (N := fun _ => False) g) (fun _ e => e.elim) (fun _ _ e => e) h1
      · rcases e with e | ⟨x, hx, e⟩
        · exact .inl (.inl e)
        · rcases List.mem_append.1 hx with hx | hx
          · exact .inl (.inr ⟨x, hx, e⟩)
          · rw [List.mem_singleton.1 hx] at e
            have := hb k e
            omega
    · rw [List.mem_singleton.1 hd]
      refine c.mono (fun k hk e => ?_) hc
      rcases e with e | ⟨x, hx, e⟩
      · left; unfold Lt; omega
      · rcases List.mem_append.1 hx with hx | hx
        · exact .inl (S.lt hx e)
        · rw [List.mem_singleton.1 hx] at e
          exact .inr e
  · rcases List.mem_append.1 hd with hd | hd
    · exact S.new d hd k e
    · rw [List.mem_singleton.1 hd] at e
      have := hb k e
      omega
  · refine List.pairwise_append.2 ⟨S.sep, List.pairwise_singleton _ _, fun x hx y hy k e1 e2 => ?_⟩
    rw [List.mem_singleton.1 hy] at e2
    have := hb k e2
    have := S.lt hx e1
    omega
/-- a new local variable -/
theorem Mem.new' (S : Mem w0 w cs) (cells : Array Value) (T : TypeId) : Mem w0 (w.alloc (.cells cells T)) (cs ++ [.loc w.heap.size cells T]) :=
  S.call ((Below.refl _ _).alloc (Nat.le_refl _) _) _ (LV.new w w.heap.size cells T rfl) (fun k e => by cases e; exact Nat.le_refl _)
theorem Mem.newAt (S : Mem w0 w cs) (cells : Array Value) (T : TypeId) (X : Nat) (hX : X = w.heap.size) : Mem w0 (w.alloc (.cells cells T)) (cs ++ [.loc X cells T]) := by subst hX; exact S.new' cells T
/-- data that a call hands back -/
theorem Mem.data {α : Type} (S : Mem w0 w cs) (g : Below w.heap.size w w') (r : Rep α) (x : α) (l : List Value) (h : r.rel (Lt w.heap.size) w' x l) : Mem w0 w' (cs ++ [.dat r x l]) := S.call g (.dat r x l) h (fun k e => by cases e)
theorem Mem.owned {α : Type} (S : Mem w0 w cs) (g : Below w.heap.size w w') (r : Rep α) (E : Nat) (v : Value) (xs : List α) (h : Own r (Lt w.heap.size) w.heap.size E w' v xs) (B : Nat) (hB : B = w0.heap.size) : Mem w0 w' (cs ++ [.own r B E v xs]) := by
  have hsz := S.b.size
  have h2 : Own r (Lt w.heap.size) B E w' v xs := by
    obtain ⟨ls, h1, h2, ho⟩ := h
    refine ⟨ls, h1, h2, ho.1, ?_⟩
    rcases ho.2 with h0 | ⟨g, cap, cur, e, hB', hrest⟩
    · exact .inl h0
    · exact .inr ⟨g, cap, cur, e, by omega, hrest⟩
  exact S.call g (.own r B E v xs) h2 (fun k e => (h.lt k e).1)
theorem Mem.nil {α : Type} (S : Mem w0 w cs) (r : Rep α) (B E : Nat) : Mem w0 w (cs ++ [.own r B E (.slice none 0 0) []]) :=
  S.call (Below.refl _ _) (.own r B E (.slice none 0 0) []) (Own.nil r _ B E w) (fun k e => by cases e)
theorem Mem.apart (S : Mem w0 w cs) {i j : Nat} {c d : Chunk} (hi : cs[i]? = some c) (hj : cs[j]? = some d) (hij : j ≠ i) {k : Nat} (e : c.blk = some k) : d.blk ≠ some k := by
  have hsep := List.pairwise_iff_getElem.1 S.sep
  obtain ⟨hi', rfl⟩ := List.getElem?_eq_some_iff.1 hi
  obtain ⟨hj', rfl⟩ := List.getElem?_eq_some_iff.1 hj
  rcases Nat.lt_or_gt_of_ne hij with h | h
  · exact fun e2 => hsep j i hj' hi' h k e2 e
  · exact hsep i j hi' hj' h k e
/-- the piece i turns, and no other -/
theorem Mem.upd (S : Mem w0 w cs) (i : Nat) {c : Chunk} (hi : cs[i]? = some c) (c' : Chunk) (hk : SKN (fun k => c.blk = some k) w w') (hg : Below w0.heap.size w0 w') (hnew : ∀ k, c'.blk = some k → c.blk = some k ∨ w.heap.size ≤ k) (hok : c'.ok (Mut w0.heap.size (cs.set i c')) w') : Mem w0 w' (cs.set i c') := by
  have hsz := S.b.size
  have hc := List.mem_of_getElem? hi
  have hmem : ∀ d ∈ cs.set i c', d = c' ∨ ∃ j, j ≠ i ∧ cs[j]? = some d := fun d hd => mem_set_cases hd
  refine ⟨hg, fun d hd => ?_, fun d hd k e => ?_, ?_⟩
  · rcases hmem d hd with rfl | ⟨j, hj, hdj⟩
    · exact hok
    · have hdm := List.mem_of_getElem? hdj
      have h1 := d.mono (M' := fun k => Mut w0.heap.size cs k ∨ Mut w0.heap.size (cs.set i c') k) (fun k hk e => ?_) (S.ok d hdm)
      · have h2 := d.keep hk (fun k e => .inl (.inr ⟨c, hc, e⟩)) (fun k e1 e2 => S.apart hi hdj hj e2 e1) h1
        exact d.mono (fun k _ e => .inl (.inr e)) h2
      · rcases e with e | e
        · exact .inl e
        · rcases e with e | ⟨x, hx, e⟩
          · exact .inl (.inl e)
          · rcases hmem x hx with rfl | ⟨j', _, hx'⟩
            · rcases hnew k e with e | e
              · exact .inl (.inr ⟨c, hc, e⟩)
              · omega
            · exact .inl (.inr ⟨x, List.mem_of_getElem? hx', e⟩)
  · rcases hmem d hd with rfl | ⟨j, hj, hdj⟩
    · rcases hnew k e with e | e
      · exact S.new c hc k e
      · omega
    · exact S.new d (List.mem_of_getElem? hdj) k e
  · refine List.pairwise_iff_getElem.2 fun p q hp hq hpq k e1 e2 => ?_
    have e1' : (cs.set i c')[p]? = some ((cs.set i c')[p]) := List.getElem?_eq_getElem hp
    have e2' : (cs.set i c')[q]? = some ((cs.set i c')[q]) := List.getElem?_eq_getElem hq
    rw [List.length_set] at hp hq
    rw [List.getElem_set] at e1 e2
    have hlt : ∀ j (hj : j < cs.length), cs[j].blk = some k → k < w.heap.size := fun j hj e => S.lt (List.getElem_mem hj) e
    split at e1 <;> split at e2
    · omega
    · rename_i h1 h2
      subst h1
      rcases hnew k e1 with e | e
      · exact S.apart hi (List.getElem?_eq_getElem hq) (fun h => h2 h.symm) e e2
      · have := hlt q hq e2; omega
    · rename_i h1 h2
      subst h2
      rcases hnew k e2 with e | e
      · exact S.apart hi (List.getElem?_eq_getElem hp) (fun h => h1 h.symm) e e1
      · have := hlt p hp e1; omega
    · exact List.pairwise_iff_getElem.1 S.sep p q hp hq hpq k e1 e2
theorem Mem.lv (S : Mem w0 w cs) (i : Nat) {X : Nat} {cells : Array Value} {T : TypeId} (hi : cs[i]? = some (.loc X cells T)) : LV w X cells T := S.ok _ (List.mem_of_getElem? hi)
theorem Mem.ge (S : Mem w0 w cs) (i : Nat) {X : Nat} {cells : Array Value} {T : TypeId} (hi : cs[i]? = some (.loc X cells T)) : w0.heap.size ≤ X ∧ X < w.heap.size := ⟨S.new _ (List.mem_of_getElem? hi) X rfl, (S.lv i hi).lt⟩
/-- a local variable is written -/
theorem Mem.set (S : Mem w0 w cs) (i j : Nat) (u : Value) {X : Nat} {cells : Array Value} {T : TypeId} (hi : cs[i]? = some (.loc X cells T)) : Mem w0 (w.setCell ⟨X, j, none⟩ u) (cs.set i (.loc X (cells.setIfInBounds j u) T)) := by
  have h1 := S.ge i hi
  refine S.upd i hi _ ⟨by simp [World.setCell], fun k _ hn => Below.heap_setCell _ _ _ _ (fun e => hn (by rw [e]; rfl))⟩ (S.b.setCell (p := ⟨X, j, none⟩) h1.1 u) (fun k e => .inl e) ?_
  exact (S.lv i hi).set j u _ rfl
theorem Mem.ow {α : Type} {r : Rep α} {B E : Nat} {v : Value} {xs : List α} (S : Mem w0 w cs) (i : Nat) (hi : cs[i]? = some (.own r B E v xs)) : Own r (Mut w0.heap.size cs) B E w v xs := S.ok _ (List.mem_of_getElem? hi)
theorem Mem.da {α : Type} {r : Rep α} {x : α} {l : List Value} (S : Mem w0 w cs) (i : Nat) (hi : cs[i]? = some (.dat r x l)) : r.rel (Mut w0.heap.size cs) w x l := S.ok _ (List.mem_of_getElem? hi)
theorem Mem.slc {α : Type} {r : Rep α} {A : Option Addr} {xs : List α} (S : Mem w0 w cs) (i : Nat) (hi : cs[i]? = some (.sl r A xs)) : Sl r (Mut w0.heap.size cs) w A xs := S.ok _ (List.mem_of_getElem? hi)
/-- what is handed back -/
theorem Mem.outOwn {α : Type} {r : Rep α} {B E : Nat} {v : Value} {xs : List α} (S : Mem w0 w cs) (i : Nat) (hi : cs[i]? = some (.own r B E v xs)) : Own r (Lt w0.heap.size) B E w v xs := Own.monoD (fun _ _ e => .inl (.inl e)) (S.ow i hi)
theorem Mem.outDat {α : Type} {r : Rep α} {x : α} {l : List Value} (S : Mem w0 w cs) (i : Nat) (hi : cs[i]? = some (.dat r x l)) : r.rel (Lt w0.heap.size) w x l := r.mono (fun _ _ e => .inl e) (S.da i hi)
theorem Mem.outSl {α : Type} {r : Rep α} {A : Option Addr} {xs : List α} (S : Mem w0 w cs) (i : Nat) (hi : cs[i]? = some (.sl r A xs)) : Sl r (Lt w0.heap.size) w A xs := (S.slc i hi).mono (fun _ _ e => .inl e)
/-- a piece is forgotten -/
theorem Mem.del (S : Mem w0 w cs) (i : Nat) : Mem w0 w (cs.eraseIdx i) := by
  have hs := List.eraseIdx_sublist cs i
  refine ⟨S.b, fun c hc => c.mono (fun k _ e => ?_) (S.ok c (hs.subset hc)), fun c hc => S.new c (hs.subset hc), S.sep.sublist hs⟩
  rcases e with e | ⟨x, hx, e⟩
  · exact .inl (.inl e)
  · exact .inl (.inr ⟨x, hs.subset hx, e⟩)
/-- a slice is not written any more -/
theorem Mem.frz {α : Type} {r : Rep α} {B E : Nat} {v : Value} {xs : List α} (S : Mem w0 w cs) (i : Nat) (hi : cs[i]? = some (.own r B E v xs)) : ∃ A c, v = .slice A xs.length c ∧ Mem w0 w (cs.set i (.sl r A xs)) := by
  have ho := S.ow i hi
  obtain ⟨A, c, e⟩ := ho.len
  refine ⟨A, c, e, S.upd i hi _ ⟨Nat.le_refl _, fun _ _ _ => rfl⟩ S.b (fun k e => by cases e) ?_⟩
  have hnm : ∀ k, v.ownBlock = some k → ¬ Mut w0.heap.size (cs.set i (.sl r A xs)) k := fun k ek hm => by
    rcases hm with hm | ⟨x, hx, ex⟩
    · have := S.new _ (List.mem_of_getElem? hi) k ek; omega
    · rcases mem_set_cases hx with rfl | ⟨j, hj, hx⟩
      · cases ex
      · exact S.apart hi hx hj ek ex
  have hmm : ∀ k, Mut w0.heap.size (cs.set i (.sl r A xs)) k → Mut w0.heap.size cs k := fun k hm => by
    rcases hm with hm | ⟨x, hx, ex⟩
    · exact .inl hm
    · rcases mem_set_cases hx with rfl | ⟨j, hj, hx⟩
      · cases ex
      · exact .inr ⟨x, List.mem_of_getElem? hx, ex⟩
  obtain ⟨ls, hl, hr, hown⟩ := ho
  have hlen : ∀ l ∈ ls, l.length = r.size := fun l hm => by
    obtain ⟨i, hi, e⟩ := List.getElem_of_mem hm
    exact r.len (hr i (xs[i]'(by omega)) l (by simp) (by rw [List.getElem?_eq_getElem hi, e]))
  rcases hown.2 with ⟨rfl, h0⟩ | ⟨g, cap, cur, rfl, hB, hg, _, _, _, _⟩
  · rw [List.length_eq_zero_iff.1 h0]
    exact Sl.nil
  · cases e
    intro j x hx
    have hj : j < ls.length := by rw [hl]; exact lt_of_get hx
    refine ⟨g, 0, ls[j], rfl, (hown.lt g rfl).2, hnm g rfl, r.mono (fun k _ h => .inl (hmm k h)) (hr j x _ hx (List.getElem?_eq_getElem hj)), fun p u hu => ?_⟩
    have := hown.cells (g := g) rfl _ u (flatten_at hlen j p _ u (List.getElem?_eq_getElem hj) hu)
    rw [add_at] at this
    rw [Nat.add_assoc]
    exact this
end
section
variable {ops : Array Oper} {rest : List Oper} {o : Oper} {a : Act} {Q : Exit → Act → World → Prop}
/-- append of one element that was just written out to the piece i -/
theorem Mem.app {α : Type} {r : Rep α} {w0 w : World} {cs : List Chunk} (S : Mem w0 w cs) (i : Nat) {B E : Nat} {v : Value} {xs : List α} (hi : cs[i]? = some (.own r B E v xs)) {T bytes : Nat} {z : Value} (ty : STy T E r.size bytes z) {arr : Array Value}
    (hgd : o.guard = none) (s x : Operand) (ho : o.op = .call { callee := .builtin .append, args := #[s, x], argTypes := #[T, T] }) (y : α) (c : Nat) (hs : a.eval s = v) (hx : a.eval x = .slice (some ⟨w.heap.size, 0, none⟩) 1 c)
    (hy : r.rel (Mut w0.heap.size cs) w y arr.toList) (h1 : ∀ u ∈ arr.toList, u.oneCell' = true) (hB : B ≤ w.heap.size) (hlen : xs.length ≤ 100000000) (hby : bytes ≤ 1000)
    (h : ∀ v' w', Mem w0 w' (cs.set i (.own r B E v' (xs ++ [y]))) → wpList Tryz.prog ops Q rest (a.put o.dst v') w') : wpList Tryz.prog ops Q (o :: rest) a (w.alloc (.cells arr E)) := by
  have hown := S.ow i hi
  obtain ⟨ls, hl, hr, ho2⟩ := hown
  have hsz : arr.toList.length = r.size := r.len hy
  obtain ⟨i0, hi0, hz0, hz1, hz2⟩ := info_parts ty.info
  have hnews : ∀ j u, arr.toList[j]? = some u → (w.alloc (.cells arr E)).cell? ((⟨w.heap.size, 0, none⟩ : Addr).add j) = some u := by
    intro j u hj
    rw [add_at, World.cell?_alloc_at _ _ _ _ rfl]
    simpa using hj
  have hb3 : (xs.length + 1) * bytes ≤ 140737488355328 := by
    have := Nat.mul_le_mul (show xs.length + 1 ≤ 100000001 by omega) hby
    omega
  have h63 : xs.length + 1 ≤ maxLen := by unfold maxLen; omega
  obtain ⟨v', w', hrun, g1, g2, _⟩ := run_append_own (P := Tryz.prog) (w.alloc (.cells arr E)) B T o.type E i0 z r.size bytes ty.under hi0 hz0 hz1 hz2 ty.zsize ty.pos _ xs.length _ (ho2.alloc _) ⟨w.heap.size, 0, none⟩ 1 c arr.toList (by omega) hnews h1 h63 hb3 (by simp; omega)
  have hwh := run_append_where (P := Tryz.prog) (w.alloc (.cells arr E)) B T o.type E i0 z r.size bytes ty.under hi0 hz0 hz1 hz2 ty.zsize ty.pos _ xs.length _ (ho2.alloc _) ⟨w.heap.size, 0, none⟩ 1 c arr.toList (by omega) hnews h1 h63 hb3 hrun
  have hg : w.grownBy w' v.ownBlock := ⟨g2.os, g2.tape, g2.output, by have := g2.size; simp at this; omega, fun k hk hn => by rw [g2.block k (by simp; omega) hn]; exact Below.heap_alloc _ _ _ hk⟩
  have hbl : Below w0.heap.size w w' := (Below.refl _ w).grown hg S.b.size (fun k hk => S.new _ (List.mem_of_getElem? hi) k hk)
  have hskn : SKN (fun k => v.ownBlock = some k) w w' := ⟨hg.size, fun k hk hn => hg.block k hk (fun e => hn e.symm)⟩
  refine wpList_plain hgd fun _ hK => ?_
  unfold Oper.wp execOp
  simp only [ho, resolve, invoke, builtin, Sem.run_bind, Sem.run_pure, Result.andThen_ok, List.map_toArray, List.map_cons, List.map_nil, hs, hx, hrun]
  refine hK _ _ (h v' w' (S.upd i hi _ hskn (S.b.trans hbl) (fun k e => ?_) ?_))
  · rcases hwh k e with e | e
    · exact .inl e
    · right; simp at e; omega
  · have hc := List.mem_of_getElem? hi
    have up : ∀ x l, r.rel (NOr (Mut w0.heap.size cs) v) w x l → r.rel (NOr (Mut w0.heap.size (cs.set i (.own r B E v' (xs ++ [y])))) v') w' x l := fun x l hx => by
      have h1 := r.mono (M := fun k => NOr (Mut w0.heap.size cs) v k ∨ NOr (Mut w0.heap.size (cs.set i (.own r B E v' (xs ++ [y])))) v' k) (fun k hk e => ?_) hx
      · exact r.mono (fun k _ e => .inr e) (r.keep (hskn.mono fun k e => .inl (.inr e)) h1)
      · have nw : v'.ownBlock = some k → NOr (Mut w0.heap.size cs) v k := fun e => by
          rcases hwh k e with e | e
          · exact .inr e
          · simp at e; omega
        rcases e with e | e | e
        · exact e
        · rcases e with e | ⟨q, hq, e⟩
          · exact .inl (.inl e)
          · rcases mem_set_cases hq with rfl | ⟨j, _, hq⟩
            · exact nw e
            · exact .inl (.inr ⟨q, List.mem_of_getElem? hq, e⟩)
        · exact nw e
    refine ⟨ls ++ [arr.toList], by simp [hl], fun j x l e1 e2 => ?_, ?_⟩
    · rcases Nat.lt_or_ge j xs.length with hj | hj
      · rw [List.getElem?_append_left hj] at e1
        rw [List.getElem?_append_left (by omega)] at e2
        exact up x l (hr j x l e1 e2)
      · rw [List.getElem?_append_right hj] at e1
        rw [List.getElem?_append_right (by omega), hl] at e2
        cases hk : j - xs.length with
        | zero =>
          rw [hk] at e1 e2
          simp at e1 e2
          subst e1 e2
          refine up y _ (r.mono (fun k _ e => ?_) hy)
          rcases e with e | e
          · exact e
          · exact .inr ⟨_, hc, e⟩
        | succ k => rw [hk] at e1; simp at e1
    · rw [List.length_append, List.flatten_append]
      simpa using g1
end
theorem Mem.put {α : Type} {r : Rep α} {f : α → List Value} (hf : r.Flat f) {w0 w : World} {cs : List Chunk} (S : Mem w0 w cs) (i : Nat) {B E g n cap : Nat} {xs : List α} (hi : cs[i]? = some (.own r B E (.slice (some ⟨g, 0, none⟩) n cap) xs)) (hn : n = xs.length) (p : Nat) (x x' : α) (hx : xs[p]? = some x) (j : Nat) (hj : j < r.size) (u : Value) (hu : f x' = (f x).set j u) :
    Mem w0 (w.setCell ⟨g, p * r.size + j, none⟩ u) (cs.set i (.own r B E (.slice (some ⟨g, 0, none⟩) n cap) (xs.set p x'))) := by
  have hg0 := S.new _ (List.mem_of_getElem? hi) g rfl
  refine S.upd i hi _ ⟨by simp [World.setCell], fun k _ hne => Below.heap_setCell _ _ _ _ (fun e => hne (by rw [e]; rfl))⟩ (S.b.setCell (p := ⟨g, _, none⟩) hg0 u) (fun k e => .inl e) ?_
  have := (Own.put hf (S.ow i hi) hn p x x' hx j hj u hu)
  refine Own.monoD (fun k _ e => ?_) this
  rcases e with e | ⟨q, hq, e⟩
  · exact .inl (.inl e)
  · rcases mem_set_cases hq with rfl | ⟨k', _, hq⟩
    · exact .inr e
    · exact .inl (.inr ⟨q, List.mem_of_getElem? hq, e⟩)
/-- what a stretch has made: several new pieces at once -/
theorem Mem.callN {w0 w w' : World} {cs : List Chunk} (S : Mem w0 w cs) (g : Below w.heap.size w w') (ds : List Chunk) (hok : ∀ d ∈ ds, d.ok (fun k => k < w.heap.size ∨ ∃ e ∈ ds, e.blk = some k) w') (hb : ∀ d ∈ ds, ∀ k, d.blk = some k → w.heap.size ≤ k)
    (hsep : ds.Pairwise fun c d => ∀ k, c.blk = some k → d.blk ≠ some k) : Mem w0 w' (cs ++ ds) := by
  have hsz := S.b.size
  refine ⟨S.b.trans (g.mono S.b.size), fun d hd => ?_, fun d hd k e => ?_, ?_⟩
  · rcases List.mem_append.1 hd with hd | hd
    · have h1 := d.mono (M' := Mut w0.heap.size (cs ++ ds)) (fun k hk e => ?_) (S.ok d hd)
      · exact d.keep (SKN.ofBelow (N := fun _ => False) g) (fun _ e => e.elim) (fun _ _ e => e) h1
      · rcases e with e | ⟨x, hx, e⟩
        · exact .inl (.inl e)
        · rcases List.mem_append.1 hx with hx | hx
          · exact .inl (.inr ⟨x, hx, e⟩)
          · have := hb x hx k e
            omega
    · refine d.mono (fun k hk e => ?_) (hok d hd)
      rcases e with e | ⟨x, hx, e⟩
      · left; left; omega
      · rcases List.mem_append.1 hx with hx | hx
        · exact .inl (.inl (S.lt hx e))
        · exact .inl (.inr ⟨x, hx, e⟩)
  · rcases List.mem_append.1 hd with hd | hd
    · exact S.new d hd k e
    · have := hb d hd k e
      omega
  · refine List.pairwise_append.2 ⟨S.sep, hsep, fun x hx y hy k e1 e2 => ?_⟩
    have := hb y hy k e2
    have := S.lt hx e1
    omega
/-- the order of the pieces does not matter -/
theorem Mem.perm {w0 w : World} {cs ds : List Chunk} (S : Mem w0 w cs) (h : cs.Perm ds) : Mem w0 w ds := by
  refine ⟨S.b, fun c hc => c.mono (fun k _ e => .inl ?_) (S.ok c (h.mem_iff.2 hc)), fun c hc => S.new c (h.mem_iff.2 hc), pairwise_perm h S.sep⟩
  rcases e with e | ⟨x, hx, e⟩
  · exact .inl e
  · exact .inr ⟨x, h.mem_iff.2 hx, e⟩
/-- what a call has made, told as pieces from the world where it began -/
theorem Mem.join {w0 w w' : World} {cs ds : List Chunk} (S : Mem w0 w cs) (T : Mem w w' ds) : Mem w0 w' (cs ++ ds) :=
  S.callN T.b ds (fun d hd => T.ok d hd) (fun d hd => T.new d hd) T.sep
theorem Mem.front {w0 w : World} {cs : List Chunk} {c : Chunk} (S : Mem w0 w (cs ++ [c])) : Mem w0 w (c :: cs) := S.perm List.perm_append_comm
theorem Mem.back {w0 w : World} {cs : List Chunk} {c : Chunk} (S : Mem w0 w (c :: cs)) : Mem w0 w (cs ++ [c]) := S.perm (List.perm_append_comm (l₁ := [c]))
theorem Mem.swap {w0 w : World} {cs : List Chunk} {c d : Chunk} (S : Mem w0 w (c :: d :: cs)) : Mem w0 w (d :: c :: cs) := S.perm (List.Perm.swap _ _ _)
/-- the world begins later: pieces made since -/
theorem Mem.ownIn {α : Type} {r : Rep α} {w0 w : World} {cs : List Chunk} (S : Mem w0 w cs) {B E : Nat} {v : Value} {xs : List α} (h : Chunk.own r B E v xs ∈ cs) : Own r (Mut w0.heap.size cs) B E w v xs := S.ok _ h
end Go.Proofs.YtlnklkedpknbpaaGreatDoor
