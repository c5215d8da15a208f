/- A slice of the call's own, sorted by the library's insertion sort. -/
import Derived.Test.YtlnklkedpknbpaaGreatDoorMem
import Derived.Shelf.SlSortCmp.InsertionK
import Derived.Sort.LotA
namespace Go.Proofs.YtlnklkedpknbpaaGreatDoor
open Go Go.RowKit Go.Sort
theorem Own.isMap {α : Type} {r : Rep α} {f : α → List Value} (hf : r.Flat f) {xs : List α} {ls : List (List Value)} {M : Nat → Prop} {w : World} (hl : ls.length = xs.length) (hr : ∀ (i : Nat) (x : α) (l : List Value), xs[i]? = some x → ls[i]? = some l → r.rel M w x l) : ls = xs.map f := by
  refine List.ext_getElem? fun i => ?_
  rw [List.getElem?_map]
  by_cases hi : i < xs.length
  · rw [List.getElem?_eq_getElem hi, List.getElem?_eq_getElem (by omega)]
    exact congrArg some ((hf _ _ _ _).1 (hr i xs[i] (ls[i]'(by omega)) (List.getElem?_eq_getElem hi) (List.getElem?_eq_getElem (by omega))))
  · rw [List.getElem?_eq_none (by omega), List.getElem?_eq_none (by omega)]; rfl
section
variable {α : Type} [Inhabited α]
theorem flatK_list (f : α → List Value) (k : Nat) (hk : ∀ x, (f x).length = k) (hk0 : 0 < k) (xs : List α) : (flatK f k xs.toArray).toList = (xs.map f).flatten := by
  have hlen : ∀ l ∈ xs.map f, l.length = k := fun l hl => by
    obtain ⟨x, _, rfl⟩ := List.mem_map.1 hl
    exact hk x
  have hfl : (xs.map f).flatten.length = xs.length * k := by
    clear hlen
    induction xs with
    | nil => simp
    | cons x r ih => simp only [List.map_cons, List.flatten_cons, List.length_append, hk, ih, List.length_cons, Nat.succ_mul]; omega
  refine List.ext_getElem? fun t => ?_
  by_cases ht : t < xs.length * k
  · have hi : t / k < xs.length := Nat.div_lt_of_lt_mul (by rw [Nat.mul_comm]; exact ht)
    have hj : t % k < k := Nat.mod_lt _ hk0
    have e : t / k * k + t % k = t := Nat.div_add_mod' t k
    have h1 : (xs.map f)[t / k]? = some (f xs[t / k]) := by rw [List.getElem?_map, List.getElem?_eq_getElem hi]; rfl
    have h2 : (f xs[t / k])[t % k]? = some ((f xs[t / k])[t % k]'(by rw [hk]; exact hj)) := List.getElem?_eq_getElem _
    have h3 := flatten_at hlen (t / k) (t % k) _ _ h1 h2
    rw [e] at h3
    have ht2 : t < (flatK f k xs.toArray).size := by simpa using ht
    have h4 := get_flatK f k xs.toArray t (by simpa using ht)
    rw [h3, Array.getElem?_toList, Array.getElem?_eq_getElem ht2, Option.some.injEq, ← getElem!_pos (flatK f k xs.toArray) t ht2, h4]
    rw [getElem!_pos xs.toArray (t / k) (by simpa using hi), getElem!_pos _ (t % k) (by rw [hk]; exact hj)]
    simp
  · rw [List.getElem?_eq_none (by simp; omega), List.getElem?_eq_none (by omega)]
theorem Own.holdsK {r : Rep α} {f : α → List Value} (hf : r.Flat f) (hk0 : 0 < r.size) {M : Nat → Prop} {B E g n cap : Nat} {w : World} {xs : List α} (h : Own r M B E w (.slice (some ⟨g, 0, none⟩) n cap) xs) (hn : n = xs.length) (hk : ∀ x, (f x).length = r.size) : HoldsK f r.size w g 0 xs.toArray := by
  subst hn
  obtain ⟨ls, hl, hr, ho⟩ := h
  obtain rfl := Own.isMap hf hl hr
  intro j hj
  rw [Nat.zero_add]
  refine ⟨?_, by have := ho.frozenAt (g := g) j; exact this⟩
  have e : (flatK f r.size xs.toArray).toList[j]? = some (flatK f r.size xs.toArray)[j]! := by
    rw [Array.getElem?_toList, Array.getElem?_eq_getElem hj, getElem!_pos (flatK f r.size xs.toArray) j hj]
  rw [flatK_list f r.size hk hk0] at e
  have := ho.cells (g := g) rfl j _ e
  rw [add_at, Nat.zero_add] at this
  exact this
theorem grownBy_sortedK {f : α → List Value} {k : Nat} {w : World} {g n : Nat} {os : Array Obj} (d : Array α) : w.grownBy (sortWorldK f k w g 0 n d os) (some g) := by
  refine ⟨rfl, rfl, rfl, by unfold sortWorldK putRowK; simp, fun j hj hne => ?_⟩
  unfold sortWorldK putRowK
  rw [heap_grow_old _ _ (by simpa using hj)]
  have : g ≠ j := fun e => hne (by rw [e])
  simp [putRow, mapBlock, Sort.ahead, Array.getElem?_modify, this]
theorem Own.sortedK {r : Rep α} {f : α → List Value} (hf : r.Flat f) (hk0 : 0 < r.size) {M : Nat → Prop} {B E g n cap m : Nat} {w : World} {xs ts : List α} {os : Array Obj} (h : Own r M B E w (.slice (some ⟨g, 0, none⟩) n cap) xs) (hk : ∀ x, (f x).length = r.size) (ht : ts.length = xs.length) :
    Own r M B E (sortWorldK f r.size w g 0 m ts.toArray os) (.slice (some ⟨g, 0, none⟩) n cap) ts := by
  obtain ⟨ls, hl, hr, ho⟩ := h
  rcases ho.2 with ⟨e, _⟩ | ⟨g', cap', cur, e, hB, hg, h5, h6, h7, h8⟩
  · cases e
  · cases e
    have hcur : ts.length * r.size ≤ cur.size := by rw [h7, ht]; exact Nat.mul_le_mul_right _ h5
    have hsz : (flatK f r.size ts.toArray).size = ts.length * r.size := by simp
    have hput : (putCells id 0 (flatK f r.size ts.toArray) cur).toList.take (ts.length * r.size) = (ts.map f).flatten := by
      rw [← flatK_list f r.size hk hk0]
      refine List.ext_getElem? fun j => ?_
      rw [List.getElem?_take]
      by_cases hj : j < ts.length * r.size
      · rw [if_pos hj, Array.getElem?_toList, Array.getElem?_toList]
        have hjc : j < cur.size := by omega
        simp only [putCells, Array.getElem?_mapIdx, Array.getElem?_eq_getElem hjc, Option.map_some]
        rw [if_pos ⟨Nat.zero_le _, by rw [hsz]; omega⟩, Array.getElem?_eq_getElem (by rw [hsz]; exact hj)]
        simp [getElem!_pos (flatK f r.size ts.toArray) j (by rw [hsz]; exact hj)]
      · rw [if_neg hj, List.getElem?_eq_none (by rw [Array.length_toList, hsz]; omega)]
    refine ⟨ts.map f, by simp, fun i x l e1 e2 => (hf _ _ _ _).2 ?_, ?_⟩
    · rw [List.getElem?_map, e1] at e2
      exact (Option.some.inj e2).symm
    · refine ⟨?_, .inr ⟨g, cap, putCells id 0 (flatK f r.size ts.toArray) cur, by rw [ht], hB, ?_, by omega, h6, by simp [putCells, h7], hput⟩⟩
      · rw [← flatK_list f r.size hk hk0, Array.length_toList, hsz]
      · have hgl : g < w.heap.size := (Array.getElem?_eq_some_iff.1 hg).1
        unfold sortWorldK putRowK
        rw [heap_grow_old _ _ (by simpa using hgl)]
        simp [putRow, mapBlock, Sort.ahead, Array.getElem?_modify, hg, onCells]
end
section
variable {α : Type} [Inhabited α]
theorem Mem.sortedK {r : Rep α} {f : α → List Value} (hf : r.Flat f) (hk0 : 0 < r.size) (hk : ∀ x, (f x).length = r.size) {w0 w : World} {cs : List Chunk} (S : Mem w0 w cs) (i : Nat) {B E g n cap m : Nat} {xs ts : List α} {os : Array Obj} (hi : cs[i]? = some (.own r B E (.slice (some ⟨g, 0, none⟩) n cap) xs)) (ht : ts.length = xs.length) :
    Mem w0 (sortWorldK f r.size w g 0 m ts.toArray os) (cs.set i (.own r B E (.slice (some ⟨g, 0, none⟩) n cap) ts)) := by
  have hg0 := S.new _ (List.mem_of_getElem? hi) g rfl
  have hgr : w.grownBy (sortWorldK f r.size w g 0 m ts.toArray os) (some g) := grownBy_sortedK _
  have hbl : Below w0.heap.size w (sortWorldK f r.size w g 0 m ts.toArray os) := (Below.refl _ w).grown hgr S.b.size (fun k hk => by cases hk; exact hg0)
  have hskn : SKN (fun k => Value.ownBlock (.slice (some ⟨g, 0, none⟩) n cap) = some k) w (sortWorldK f r.size w g 0 m ts.toArray os) := ⟨hgr.size, fun k hk hn => hgr.block k hk (fun e => hn e.symm)⟩
  refine S.upd i hi _ hskn (S.b.trans hbl) (fun k e => .inl e) ?_
  have := Own.sortedK hf hk0 (m := m) (os := os) (S.ow i hi) hk ht
  refine Own.monoD (fun k _ e => ?_) this
  rcases e with e | ⟨q, hq, e⟩
  · exact .inl (.inl e)
  · rcases mem_set_cases hq with rfl | ⟨k', _, hq⟩
    · exact .inr e
    · exact .inl (.inr ⟨q, List.mem_of_getElem? hq, e⟩)
end
end Go.Proofs.YtlnklkedpknbpaaGreatDoor
