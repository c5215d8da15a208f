/- Several texts in one: InsOwn, InsE, Repeat. -/
import Derived.Test.YtmlpkejeglpciaaGreatDoorPkAG
import Derived.Test.YtmlpkejeglpciaaGreatDoorPkAK
import Derived.Test.YtmlpkejeglpciaaGreatDoorPkAE
import Derived.Lib.Overlaps
import Derived.Lib.AppendZerosOnto
import Derived.Laws.Externs
import Derived.RegionTactic
import Derived.ChangeAlike
import Derived.Shelf.Spec.SlicesInsert
import Derived.Test.YtmlpkejeglpciaaGreatDoorPkAA
import Derived.Test.YtmlpkejeglpciaaGreatDoorShelf
/- slices.Insert: the memory of a slice of the call's own into which one row is put. -/
namespace Go.Proofs.YtmlpkejeglpciaaGreatDoor
open Go Go.RowKit
section
variable {α : Type} {r : Rep α} {f : α → List Value}
theorem Own.openF (hf : r.Flat f) {M : Nat → Prop} {B E g n cap : Nat} {w : World} {xs : List α} (h : Own r M B E w (.slice (some ⟨g, 0, none⟩) n cap) xs) : ∃ cur, w.heap[g]? = some (.cells cur E (0, 0)) ∧ n = xs.length ∧ n ≤ cap ∧ cap ≤ maxLen ∧ cur.size = cap * r.size ∧ cur.toList.take (xs.length * r.size) = (xs.map f).flatten ∧ B ≤ g := by
  obtain ⟨ls, hl, hr, ho⟩ := h
  have he : ls = xs.map f := Own.isMap hf hl hr
  subst he
  rcases ho.2 with ⟨h0, _⟩ | ⟨g', cap', cur, e, hB, hg, hn, hcm, hcs, htk⟩
  · cases h0
  · simp only [Value.slice.injEq, Option.some.injEq, Addr.mk.injEq, and_true] at e
    obtain ⟨rfl, rfl, rfl⟩ := e
    exact ⟨cur, hg, rfl, hn, hcm, hcs, htk, hB⟩
theorem Mem.reown (hf : r.Flat f) {w0 w : World} {cs : List Chunk} {B E g n cap : Nat} {xs : List α} (S : Mem w0 w (.own r B E (.slice (some ⟨g, 0, none⟩) n cap) xs :: cs)) (hfl : ∀ x, (f x).length = r.size) (cur : Array Value) (ys : List α) (hc : cur.size = cap * r.size) (ht : cur.toList.take (ys.length * r.size) = (ys.map f).flatten) (hy : ys.length ≤ cap) :
    Mem w0 (w.setRow g cur) (.own r B E (.slice (some ⟨g, 0, none⟩) ys.length cap) ys :: cs) := by
  obtain ⟨cur0, hg, _, _, hcm, _, _, hB⟩ := (S.ow 0 rfl).openF hf
  have hgr : w.grownBy (w.setRow g cur) (Value.slice (some ⟨g, 0, none⟩) n cap).ownBlock := ⟨rfl, rfl, rfl, by simp [World.setRow], fun k _ hk => setRow_other w g k _ (fun e => hk (by rw [e]; rfl))⟩
  have hbl : Below w0.heap.size w (w.setRow g cur) := (Below.refl _ w).grown hgr S.b.size (fun k hk => S.new _ (List.mem_cons_self ..) k hk)
  have hskn : SKN (fun k => (Value.slice (some ⟨g, 0, none⟩) n cap).ownBlock = some k) w (w.setRow g cur) := ⟨hgr.size, fun k hk hn => hgr.block k hk (fun e => hn e.symm)⟩
  refine S.upd 0 rfl (.own r B E (.slice (some ⟨g, 0, none⟩) ys.length cap) ys) hskn (S.b.trans hbl) (fun k e => .inl e) ?_
  refine ⟨ys.map f, by simp, fun j y l e1 e2 => (hf _ _ _ _).2 ?_, by rw [map_flat_len hfl], .inr ⟨g, cap, cur, rfl, hB, setRow_heap w g cur0 cur E (0, 0) hg, hy, hcm, hc, ?_⟩⟩
  · rw [List.getElem?_map, e1] at e2
    exact (Option.some.inj e2).symm
  · exact ht
theorem ins_cells {k cap i : Nat} {xs : List α} {x : α} (hfl : ∀ x, (f x).length = k) (cur : List Value) (hc : cur.length = cap * k) (hn : xs.length + 1 ≤ cap) (hi : i ≤ xs.length) (ht : cur.take (xs.length * k) = (xs.map f).flatten) :
    let c1 := cur.take ((i + 1) * k) ++ (((xs.drop i).map f).flatten ++ cur.drop ((i + 1) * k + ((xs.drop i).map f).flatten.length))
    let c2 := c1.take (i * k) ++ (f x ++ c1.drop (i * k + (f x).length))
    c1.length = cap * k ∧ c2.length = cap * k ∧ c2.take ((xs.take i ++ x :: xs.drop i).length * k) = ((xs.take i ++ x :: xs.drop i).map f).flatten := by
  have hml : ∀ ys : List α, (ys.map f).flatten.length = ys.length * k := fun ys => by
    induction ys with
    | nil => simp
    | cons y t ih => rw [List.map_cons, List.flatten_cons, List.length_append, hfl, ih, List.length_cons, Nat.succ_mul]; omega
  have hdl : ((xs.drop i).map f).flatten.length = (xs.length - i) * k := by rw [hml, List.length_drop]
  have e1 : (i + 1) * k = i * k + k := Nat.succ_mul i k
  have e2 : (xs.length - i) * k + i * k = xs.length * k := by rw [← Nat.add_mul, Nat.sub_add_cancel hi]
  have e3 : (xs.length + 1) * k = xs.length * k + k := Nat.succ_mul _ k
  have e4 : (xs.length + 1) * k ≤ cap * k := Nat.mul_le_mul_right k hn
  intro c1 c2
  have l1 : c1.length = cap * k := by
    show (cur.take ((i + 1) * k) ++ (((xs.drop i).map f).flatten ++ cur.drop ((i + 1) * k + ((xs.drop i).map f).flatten.length))).length = _
    rw [List.length_append, List.length_append, List.length_take, List.length_drop, hdl, hc]
    omega
  have l2 : c2.length = cap * k := by
    show (c1.take (i * k) ++ (f x ++ c1.drop (i * k + (f x).length))).length = _
    rw [List.length_append, List.length_append, List.length_take, List.length_drop, hfl, l1]
    omega
  refine ⟨l1, l2, ?_⟩
  have t1 : c1.take (i * k) = ((xs.take i).map f).flatten := by
    show (cur.take ((i + 1) * k) ++ _).take (i * k) = _
    rw [List.take_append_of_le_length (by rw [List.length_take, hc]; omega), List.take_take, Nat.min_eq_left (by omega)]
    have h1 : (cur.take (xs.length * k)).take (i * k) = ((xs.map f).flatten).take (i * k) := by rw [ht]
    rw [List.take_take, Nat.min_eq_left (by omega)] at h1
    rw [h1]
    conv => lhs; rw [← List.take_append_drop i xs, List.map_append, List.flatten_append]
    rw [List.take_left' (by rw [hml, List.length_take, Nat.min_eq_left hi])]
  have t2 : c1.drop (i * k + (f x).length) = ((xs.drop i).map f).flatten ++ cur.drop ((i + 1) * k + ((xs.drop i).map f).flatten.length) := by
    show (cur.take ((i + 1) * k) ++ _).drop _ = _
    rw [hfl, ← e1, List.drop_left' (by rw [List.length_take, hc]; omega)]
  show (c1.take (i * k) ++ (f x ++ c1.drop (i * k + (f x).length))).take _ = _
  rw [t1, t2, ← List.append_assoc, ← List.append_assoc]
  rw [List.take_left']
  · rw [List.map_append, List.flatten_append, List.map_cons, List.flatten_cons, List.append_assoc]
  · rw [List.length_append, List.length_append, hml, hfl, hdl]
    rw [List.length_append, List.length_cons, List.length_take, List.length_drop, Nat.min_eq_left hi]
    have : i + (xs.length - i + 1) = xs.length + 1 := by omega
    rw [this, e3]
    try rw [List.length_take, Nat.min_eq_left hi]
    omega
theorem Mem.ownNew (hf : r.Flat f) {w0 w w' : World} {cs : List Chunk} {B E : Nat} {v : Value} {xs : List α} (S : Mem w0 w (.own r B E v xs :: cs)) (hfl : ∀ x, (f x).length = r.size) (hB : B ≤ w.heap.size) (hgr : w.grownBy w' v.ownBlock) (N cap : Nat) (hN : N = w.heap.size) (cur : Array Value) (hg : w'.heap[N]? = some (.cells cur E (0, 0))) (ys : List α) (hc : cur.size = cap * r.size) (ht : cur.toList.take (ys.length * r.size) = (ys.map f).flatten) (hy : ys.length ≤ cap) (hcm : cap ≤ maxLen) :
    Mem w0 w' (.own r B E (.slice (some ⟨N, 0, none⟩) ys.length cap) ys :: cs) := by
  subst hN
  have hbl : Below w0.heap.size w w' := (Below.refl _ w).grown hgr S.b.size (fun k hk => S.new _ (List.mem_cons_self ..) k hk)
  have hskn : SKN (fun k => v.ownBlock = some k) w w' := ⟨hgr.size, fun k hk hn => hgr.block k hk (fun e => hn e.symm)⟩
  refine S.upd 0 rfl (.own r B E (.slice (some ⟨w.heap.size, 0, none⟩) ys.length cap) ys) hskn (S.b.trans hbl) (fun k e => .inr (Nat.le_of_eq (Option.some.inj e))) ?_
  refine ⟨ys.map f, by simp, fun j y l e1 e2 => (hf _ _ _ _).2 ?_, by rw [map_flat_len hfl], .inr ⟨w.heap.size, cap, cur, rfl, hB, hg, hy, hcm, hc, ht⟩⟩
  rw [List.getElem?_map, e1] at e2
  exact (Option.some.inj e2).symm
theorem grow_cells {k cap i : Nat} {xs : List α} {x : α} (hfl : ∀ x, (f x).length = k) (row : List Value) (hc : row.length = cap * k) (hn : xs.length + 1 ≤ cap) (hi : i ≤ xs.length) (ht : row.take (i * k) = ((xs.take i).map f).flatten) :
    let c1 := row.take (i * k) ++ (f x ++ row.drop (i * k + (f x).length))
    let c2 := c1.take ((i + 1) * k) ++ (((xs.drop i).map f).flatten ++ c1.drop ((i + 1) * k + ((xs.drop i).map f).flatten.length))
    c1.length = cap * k ∧ c2.length = cap * k ∧ c2.take ((xs.take i ++ x :: xs.drop i).length * k) = ((xs.take i ++ x :: xs.drop i).map f).flatten := by
  have hml : ∀ ys : List α, (ys.map f).flatten.length = ys.length * k := fun ys => by
    induction ys with
    | nil => simp
    | cons y t ih => rw [List.map_cons, List.flatten_cons, List.length_append, hfl, ih, List.length_cons, Nat.succ_mul]; omega
  have hdl : ((xs.drop i).map f).flatten.length = (xs.length - i) * k := by rw [hml, List.length_drop]
  have e1 : (i + 1) * k = i * k + k := Nat.succ_mul i k
  have e2 : (xs.length - i) * k + i * k = xs.length * k := by rw [← Nat.add_mul, Nat.sub_add_cancel hi]
  have e3 : (xs.length + 1) * k = xs.length * k + k := Nat.succ_mul _ k
  have e4 : (xs.length + 1) * k ≤ cap * k := Nat.mul_le_mul_right k hn
  intro c1 c2
  have l1 : c1.length = cap * k := by
    show (row.take (i * k) ++ (f x ++ row.drop (i * k + (f x).length))).length = _
    rw [List.length_append, List.length_append, List.length_take, List.length_drop, hfl, hc]
    omega
  have l2 : c2.length = cap * k := by
    show (c1.take ((i + 1) * k) ++ (((xs.drop i).map f).flatten ++ c1.drop ((i + 1) * k + ((xs.drop i).map f).flatten.length))).length = _
    rw [List.length_append, List.length_append, List.length_take, List.length_drop, hdl, l1]
    omega
  refine ⟨l1, l2, ?_⟩
  have t1 : c1.take ((i + 1) * k) = ((xs.take i).map f).flatten ++ f x := by
    show (row.take (i * k) ++ (f x ++ row.drop (i * k + (f x).length))).take ((i + 1) * k) = _
    rw [← List.append_assoc, List.take_left' (by rw [List.length_append, List.length_take, hfl, hc]; omega), ht]
  show (c1.take ((i + 1) * k) ++ _).take _ = _
  rw [t1, ← List.append_assoc, List.take_left']
  · rw [List.map_append, List.flatten_append, List.map_cons, List.flatten_cons, List.append_assoc]
  · rw [List.length_append, List.length_append, hml, hfl, hdl, List.length_append, List.length_cons, List.length_take, List.length_drop, Nat.min_eq_left hi]
    have : i + (xs.length - i + 1) = xs.length + 1 := by omega
    rw [this, e3]
    omega
end
end Go.Proofs.YtmlpkejeglpciaaGreatDoor

/- slices.Insert of one event. -/
namespace Go.Proofs.YtmlpkejeglpciaaGreatDoor
open Go Go.RowKit
abbrev eqCs (q : EQ) : Array Value := evCs q.e q.A q.c
theorem rowCellsE {w : World} {X : Nat} {x : EQ} (h : LV w X (eqCs x) 47) : ∀ j u, ([x].map EQ.cells).flatten[j]? = some u → w.cell? ((⟨X, 0, none⟩ : Addr).add j) = some u := fun j u hj => by
  rw [Addr.add_lit, Nat.zero_add]
  refine h.cell j u ?_
  have e : ([x].map EQ.cells).flatten = (eqCs x).toList := by simp [EQ.cells]
  rw [e] at hj
  simpa using hj
theorem flatEQ_at (xs : List EQ) (i : Nat) (hi : i ≤ xs.length) (j : Nat) (u : Value) (h : ((xs.drop i).map EQ.cells).flatten[j]? = some u) : (xs.map EQ.cells).flatten[i * 6 + j]? = some u := by
  have hl : ((xs.take i).map EQ.cells).flatten.length = i * 6 := by
    rw [map_flat_len (r := rEQ) (fun _ => rfl), List.length_take, Nat.min_eq_left hi]; rfl
  conv => lhs; rw [← List.take_append_drop i xs, List.map_append, List.flatten_append]
  rw [List.getElem?_append_right (by omega), hl, Nat.add_sub_cancel_left]
  exact h
theorem c1_cellsE (xs : List EQ) (i cap : Nat) (cur : List Value) (_hc : cur.length = cap * 6) (_hn : xs.length + 1 ≤ cap) (hi : i < xs.length) (ht : cur.take (xs.length * 6) = (xs.map EQ.cells).flatten) :
    (cur.take ((i + 1) * 6) ++ (((xs.drop i).map EQ.cells).flatten ++ cur.drop ((i + 1) * 6 + ((xs.drop i).map EQ.cells).flatten.length))).take ((xs.take (i + 1) ++ xs.drop i).length * 6) = ((xs.take (i + 1) ++ xs.drop i).map EQ.cells).flatten := by
  have hml : ∀ ys : List EQ, (ys.map EQ.cells).flatten.length = ys.length * 6 := fun ys => map_flat_len (r := rEQ) (fun _ => rfl) ys
  have t1 : cur.take ((i + 1) * 6) = ((xs.take (i + 1)).map EQ.cells).flatten := by
    have h1 : (cur.take (xs.length * 6)).take ((i + 1) * 6) = ((xs.map EQ.cells).flatten).take ((i + 1) * 6) := by rw [ht]
    rw [List.take_take, Nat.min_eq_left (by omega)] at h1
    rw [h1]
    conv => lhs; rw [← List.take_append_drop (i + 1) xs, List.map_append, List.flatten_append]
    rw [List.take_left' (by rw [hml, List.length_take, Nat.min_eq_left (by omega)])]
  rw [t1, ← List.append_assoc, List.take_left']
  · rw [List.map_append, List.flatten_append]
  · rw [List.length_append, hml, hml, List.length_append, Nat.add_mul]
def GivesInsE (xs : List EQ) (w0 : World) (cs : List Chunk) (B : Nat) (e : Ending) (w' : World) : Prop := ∃ v', e = .returned v' ∧ Mem w0 w' (.own rEQ B 47 v' xs :: cs)
set_option maxHeartbeats 8000000 in
set_option maxRecDepth 100000 in
theorem insEndE_any {w0 w : World} {cs : List Chunk} {B : Nat} {v : Value} {xs : List EQ} (x : EQ) (X : Nat) (S : Mem w0 w (.own rEQ B 47 v xs :: .loc X (eqCs x) 47 :: cs)) (hB : B ≤ w.heap.size) (hl : xs.length ≤ 1000) :
    Calls Tryz.prog 127 #[v, .int .i64 xs.length, .slice (some ⟨X, 0, none⟩) 1 1] w (GivesInsE (xs ++ [x]) w0 (.loc X (eqCs x) 47 :: cs) B) := by
  have HC := Lib.hid (rowCellsE (S.lv 1 rfl))
  have HS := Lib.hid S
  rcases (S.ow 0 rfl).shape2 with ⟨rfl, rfl⟩ | ⟨g, cap, rfl, hcap⟩
  · clear S
    go_enter Tryz.func127, Tryz.ntmps127
    go_wp2_with (at_builtin; refine HS.out.appN flatEQ 0 rfl tyEvt rfl _ _ rfl [x] 1 1 rfl rfl ⟨X, 0, none⟩ rfl HC.out (fun y _ => oneEQ y) (fun _ => rfl) hB (by simp) (by decide) ?_; intro v5 w5 S5)
    go_ret
    exact ⟨v5, rfl, S5⟩
  · clear S
    obtain ⟨n, hn⟩ : ∃ n, n = xs.length := ⟨_, rfl⟩
    have Hn := Lib.hid hn
    rw [← hn] at hcap HS hl ⊢
    clear hn
    go_enter Tryz.func127, Tryz.ntmps127
    go_wp2_with (at_builtin; refine HS.out.appN flatEQ 0 rfl tyEvt rfl _ _ rfl [x] 1 1 rfl rfl ⟨X, 0, none⟩ rfl HC.out (fun y _ => oneEQ y) (fun _ => rfl) hB (by rw [← Hn.out]; simp; omega) (by decide) ?_; intro v5 w5 S5)
    all_goals (go_ret; exact ⟨v5, rfl, S5⟩)
set_option maxHeartbeats 8000000 in
set_option maxRecDepth 100000 in
theorem insMidE_any {w0 w : World} {cs : List Chunk} {B g n cap : Nat} {xs : List EQ} (i : Nat) (x : EQ) (X : Nat) (S : Mem w0 w (.own rEQ B 47 (.slice (some ⟨g, 0, none⟩) n cap) xs :: .loc X (eqCs x) 47 :: cs)) (hi : i < n) (hn1 : n = xs.length) (hl : xs.length ≤ 1000) (hcap : n + 1 ≤ cap) :
    Calls Tryz.prog 127 #[.slice (some ⟨g, 0, none⟩) n cap, .int .i64 i, .slice (some ⟨X, 0, none⟩) 1 1] w (GivesInsE (xs.take i ++ x :: xs.drop i) w0 (.loc X (eqCs x) 47 :: cs) B) := by
  obtain ⟨cur, hg, hna, _, hcm, hcs, htk, _⟩ := (S.ow 0 rfl).openF flatEQ
  have hXg : X ≠ g := fun e => S.apart (i := 0) (j := 1) rfl rfl (by decide) (k := g) rfl (by subst e; rfl)
  have hlv := S.lv 1 rfl
  have hov : ∀ lb cb, (callFunc 176 #[.slice (some ⟨X, 0, none⟩) 1 1, .slice (some ⟨g, (i + 1) * 6, none⟩) lb cb]).run Tryz.prog w = .ok (.value (.bool false)) w := fun lb cb => by
    rw [run_callFunc_extern Tryz.func176 (by kernel_rfl) (by kernel_rfl) (by kernel_rfl) (e := Extern.SlicesOverlaps.overlaps #[36, 36] #[4]) (by kernel_rfl),
      Lib.run_overlaps_apart w 36 4 47 tyEvt.under 6 (fun _ => by kernel_rfl) ⟨X, 0, none⟩ ⟨g, (i + 1) * 6, none⟩ 1 1 lb cb hXg 47 47 6 cur.size (by unfold World.shape?; rw [hlv]; rfl) (by unfold World.shape?; rw [hg]) (by rw [hcs]; show cap * 6 ≠ 0; omega) (hlv.free 0) (hlv.free 6)]
    rfl
  have HC := Lib.hid (rowCellsE hlv)
  have hsz : (Tryz.prog.info? 47).map (·.size) = some 6 := by
    obtain ⟨i0, hi0, h0, h1, h2⟩ := info_parts tyEvt.info
    rw [hi0]; exact congrArg some h1
  obtain ⟨D, hD⟩ : ∃ D, ((xs.drop i).map EQ.cells).flatten = D := ⟨_, rfl⟩
  have hDl : D.length = (n - i) * 6 := by rw [← hD, map_flat_len (r := rEQ) (fun _ => rfl), List.length_drop, hn1]; rfl
  have hfc := Sl.flatCells flatEQ (fun _ => rfl) ((S.ow 0 rfl).slF flatEQ)
  obtain ⟨c1, hc1⟩ : ∃ c1 : List Value, cur.toList.take ((i + 1) * 6) ++ (D ++ cur.toList.drop ((i + 1) * 6 + D.length)) = c1 := ⟨_, rfl⟩
  obtain ⟨c2, hc2⟩ : ∃ c2 : List Value, c1.take (i * 6) ++ (EQ.cells x ++ c1.drop (i * 6 + (EQ.cells x).length)) = c2 := ⟨_, rfl⟩
  have hcell := ins_cells (f := EQ.cells) (k := 6) (cap := cap) (i := i) (xs := xs) (x := x) (fun _ => rfl) cur.toList (by rw [Array.length_toList]; exact hcs) (by omega) (by omega) htk
  have hcell1 := c1_cellsE xs i cap cur.toList (by rw [Array.length_toList]; exact hcs) (by omega) (by omega) htk
  rw [hD] at hcell hcell1
  simp only [hc1] at hcell hcell1
  rw [hc2] at hcell
  obtain ⟨hl1, hl2, ht2⟩ := hcell
  have M1 : Mem w0 (w.drew.setRow g c1.toArray) (.own rEQ B 47 (.slice (some ⟨g, 0, none⟩) (xs.take (i + 1) ++ xs.drop i).length cap) (xs.take (i + 1) ++ xs.drop i) :: .loc X (eqCs x) 47 :: cs) :=
    (S.below ((show Drewn w w.drew from rfl).below _)).reown flatEQ (fun _ => rfl) c1.toArray _ (by rw [List.size_toArray]; exact hl1) hcell1 (by rw [List.length_append, List.length_take, List.length_drop]; omega)
  have M2 : Mem w0 ((w.drew.setRow g c1.toArray).setRow g c2.toArray) (.own rEQ B 47 (.slice (some ⟨g, 0, none⟩) (xs.take i ++ x :: xs.drop i).length cap) (xs.take i ++ x :: xs.drop i) :: .loc X (eqCs x) 47 :: cs) :=
    M1.reown flatEQ (fun _ => rfl) c2.toArray _ (by rw [List.size_toArray]; exact hl2) ht2 (by rw [List.length_append, List.length_take, List.length_cons, List.length_drop]; omega)
  have hlen : (xs.take i ++ x :: xs.drop i).length = n + 1 := by rw [List.length_append, List.length_take, List.length_cons, List.length_drop]; omega
  rw [hlen] at M2
  have hmin : Nat.min (n + 1 - i) (n - i) = n - i := by show min _ _ = _; omega
  have hmin1 : Nat.min 1 (n + 1 - i) = 1 := by show min _ _ = _; omega
  have hcp1 : ∀ ty dc sc, (Builtin.copy_ #[36, 36] ty #[.slice (some ⟨g, (i + 1) * 6, none⟩) (n - i) dc, .slice (some ⟨g, i * 6, none⟩) (n + 1 - i) sc]).run Tryz.prog w.drew = .ok (goInt ((n - i : Nat) : Int)) (w.drew.setRow g c1.toArray) := fun ty dc sc => by
    have h1 := run_copy_rowK w.drew 36 36 ty 47 6 g ((i + 1) * 6) (n - i) dc ⟨g, i * 6, none⟩ (n + 1 - i) sc cur 47 D tyEvt.under hsz hg (by rw [hDl, hmin]) (fun j u hj => by
      rw [Addr.add_lit]
      have h2 := hfc (i * 6 + j) u (flatEQ_at xs i (by omega) j u (by rw [hD]; exact hj))
      rw [Addr.add_lit, Nat.zero_add] at h2
      exact h2) (by rw [hDl, hcs]; show _ ≤ cap * 6; omega) (fun u hu => by
      rw [← hD] at hu
      obtain ⟨l, hl, hu2⟩ := List.mem_flatten.1 hu
      obtain ⟨y, _, rfl⟩ := List.mem_map.1 hl
      exact oneEQ y u hu2)
    rw [List.append_assoc, hc1, hmin] at h1
    exact h1
  have hg1 : (w.drew.setRow g c1.toArray).heap[g]? = some (.cells c1.toArray 47 (0, 0)) := setRow_heap w.drew g cur c1.toArray 47 (0, 0) hg
  have hlv1 := M1.lv 1 rfl
  have hcp2 : ∀ ty dc, (Builtin.copy_ #[36, 36] ty #[.slice (some ⟨g, i * 6, none⟩) (n + 1 - i) dc, .slice (some ⟨X, 0, none⟩) 1 1]).run Tryz.prog (w.drew.setRow g c1.toArray) = .ok (goInt ((1 : Nat) : Int)) ((w.drew.setRow g c1.toArray).setRow g c2.toArray) := fun ty dc => by
    have h1 := run_copy_rowK (w.drew.setRow g c1.toArray) 36 36 ty 47 6 g (i * 6) (n + 1 - i) dc ⟨X, 0, none⟩ 1 1 c1.toArray 47 (EQ.cells x) tyEvt.under hsz hg1 (by rw [hmin1]; rfl) (fun j u hj => rowCellsE hlv1 j u (by simpa using hj)) (by show i * 6 + 6 ≤ c1.toArray.size; rw [List.size_toArray, hl1]; omega) (oneEQ x)
    rw [List.append_assoc] at h1
    simp only at h1
    rw [hc2, hmin1] at h1
    exact h1
  have HM := Lib.hid M2
  have hw1 : IntKind.i64.wrap ((n : Int) + 1) = ((n + 1 : Nat) : Int) := by rw [IntKind.wrap_i64]; omega
  have hw2 : IntKind.i64.wrap ((i : Int) + 1) = ((i + 1 : Nat) : Int) := by rw [IntKind.wrap_i64]; omega
  have hne : ((i : Int) == (n : Int)) = false := by simpa using (by omega : (i : Int) ≠ n)
  have hgt : (decide ((cap : Int) < ((n + 1 : Nat) : Int))) = false := by rw [decide_eq_false_iff_not]; omega
  have hgt2 : (decide ((cap : Int) < (n : Int) + 1)) = false := by rw [decide_eq_false_iff_not]; omega
  have hcapi : ¬ (cap = i + 1) := by omega
  have hcapi2 : ¬ (cap = i) := by omega
  have hw3 : IntKind.i64.wrap ((i : Int) + 1) = (i : Int) + 1 := by rw [IntKind.wrap_i64]; omega
  have hb1 : (0 : Int) ≤ (i : Int) + 1 := by omega
  have htn : ((i : Int) + 1).toNat = i + 1 := by omega
  have hb3 : (i : Int) ≤ (n : Int) + 1 := by omega
  have hin : i ≤ n := by omega
  have mixed : Tryz.prog.follows .mixedOrders = true := by kernel_rfl
  unfold maxLen at hcm
  have Hn := Lib.hid hn1
  clear hn1 hna
  clear S hg htk hXg hlv HC hfc hc1 hc2 hcell1 hl1 hl2 ht2 M1 M2 hg1 hlv1 hDl hD hsz hlen hcs
  go_enter Tryz.func127, Tryz.ntmps127
  go_wp2_with (simp only [hov])
  go_region_law_o (refine step_copy_runI rfl _ _ 36 36 rfl _ _ (by simp [Act.eval, Act.put]) (by simp [Act.eval, Act.put]) (hcp1 _ _ _) ?_)
  go_wp2_with (at_builtin; refine wpList_copy_runI _ rfl _ _ 36 36 rfl _ _ rfl rfl (hcp2 _ _) ?_)
  go_ret
  exact ⟨_, rfl, HM.out⟩
theorem flatEQ_pre (xs : List EQ) (i : Nat) (j : Nat) (u : Value) (h : ((xs.take i).map EQ.cells).flatten[j]? = some u) : (xs.map EQ.cells).flatten[j]? = some u := by
  conv => lhs; rw [← List.take_append_drop i xs, List.map_append, List.flatten_append]
  rw [List.getElem?_append_left (List.getElem?_eq_some_iff.1 h).1]
  exact h
set_option maxHeartbeats 8000000 in
set_option maxRecDepth 100000 in
theorem insGrowE_any {w0 w : World} {cs : List Chunk} {B g n cap : Nat} {xs : List EQ} (i : Nat) (x : EQ) (X : Nat) (S : Mem w0 w (.own rEQ B 47 (.slice (some ⟨g, 0, none⟩) n cap) xs :: .loc X (eqCs x) 47 :: cs)) (hB : B ≤ w.heap.size) (hi : i < n) (hn1 : n = xs.length) (hl : xs.length ≤ 1000) (hcap : cap < n + 1) :
    Calls Tryz.prog 127 #[.slice (some ⟨g, 0, none⟩) n cap, .int .i64 i, .slice (some ⟨X, 0, none⟩) 1 1] w (GivesInsE (xs.take i ++ x :: xs.drop i) w0 (.loc X (eqCs x) 47 :: cs) B) := by
  obtain ⟨cur, hg, hna, hnc, hcm, hcs, htk, _⟩ := (S.ow 0 rfl).openF flatEQ
  have hlv := S.lv 1 rfl
  obtain ⟨i0, hi0, hz0, hzs, hzb⟩ := info_parts tyEvt.info
  have hsz : (Tryz.prog.info? 47).map (·.size) = some 6 := by rw [hi0]; exact congrArg some hzs
  obtain ⟨N, hN⟩ : ∃ N, N = w.heap.size := ⟨_, rfl⟩
  have hgN : g ≠ N := by rw [hN]; have := (Array.getElem?_eq_some_iff.1 hg).1; omega
  have hXN : X ≠ N := by rw [hN]; have := (S.ge 1 rfl).2; omega
  obtain ⟨D, hD⟩ : ∃ D, ((xs.drop i).map EQ.cells).flatten = D := ⟨_, rfl⟩
  have hDl : D.length = (n - i) * 6 := by rw [← hD, map_flat_len (r := rEQ) (fun _ => rfl), List.length_drop, hn1]; rfl
  obtain ⟨O, hO⟩ : ∃ O, ((xs.take i).map EQ.cells).flatten = O := ⟨_, rfl⟩
  have hOl : O.length = i * 6 := by rw [← hO, map_flat_len (r := rEQ) (fun _ => rfl), List.length_take, Nat.min_eq_left (by omega)]; rfl
  have hfc := Sl.flatCells flatEQ (fun _ => rfl) ((S.ow 0 rfl).slF flatEQ)
  have hold : (Builtin.firstCells i0.size i (.slice (some ⟨g, 0, none⟩) i cap)).run Tryz.prog w.drew = .ok O.toArray w.drew := by
    rw [hzs]
    exact run_firstCells_some w.drew _ i ⟨g, 0, none⟩ i cap O hOl (fun j u hj => hfc j u (flatEQ_pre xs i j u (by rw [hO]; exact hj)))
  have hik : i + (n + 1 - i) = n + 1 := by omega
  have hkk : (n : Int) + 1 - (i : Int) = ((n + 1 - i : Nat) : Int) := by omega
  obtain ⟨G, hG⟩ : ∃ G, G = grownCap w (n + 1) cap 47 := ⟨_, rfl⟩
  have hGn : n + 1 ≤ G := by rw [hG]; exact grownCap_ge w _ _ _
  have hGm : G ≤ maxLen := by rw [hG]; exact grownCap_le_maxLen w (n + 1) cap _ (by unfold maxLen; omega)
  obtain ⟨ROW, hROW⟩ : ∃ ROW : Array Value, ROW = O.toArray ++ Builtin.zeroCells (Value.agg #[.string ⟨#[]⟩, .string ⟨#[]⟩, .int .i64 0, .int .i64 0, .string ⟨#[]⟩, .slice none 0 0]).cells (n + 1 - i) ++ Builtin.zeroCells (Value.agg #[.string ⟨#[]⟩, .string ⟨#[]⟩, .int .i64 0, .int .i64 0, .string ⟨#[]⟩, .slice none 0 0]).cells (G - (n + 1)) := ⟨_, rfl⟩
  have hRl : ROW.toList.length = G * 6 := by
    rw [Array.length_toList, hROW, Array.size_append, Array.size_append, size_zeroCells, size_zeroCells, List.size_toArray, hOl, tyEvt.zsize]
    show i * 6 + (n + 1 - i) * 6 + (G - (n + 1)) * 6 = G * 6
    omega
  have hRt : ROW.toList.take (i * 6) = ((xs.take i).map EQ.cells).flatten := by
    rw [hROW, Array.toList_append, Array.toList_append, List.append_assoc, List.take_left' (show O.length = i * 6 from hOl), hO]
  obtain ⟨W1, hW1⟩ : ∃ W1, W1 = w.drew.alloc (.cells ROW 47) := ⟨_, rfl⟩
  have hrz : ∀ ty, (Builtin.append_ #[36, 3] ty #[.slice (some ⟨g, 0, none⟩) i cap, .int .i64 ((n : Int) + 1 - (i : Int))]).run Tryz.prog w = .ok (.slice (some ⟨N, 0, none⟩) (n + 1) G) W1 := fun ty => by
    have h := Lib.run_append_grow_zeros w 36 3 ty 47 i0 _ .i64 .i64 tyEvt.under (by kernel_rfl) hi0 hz0 (some ⟨g, 0, none⟩) i cap O hold (n + 1 - i) (by omega) (by rw [hzs]; exact tyEvt.pos) (by omega) (by omega) (by rw [hzb]; omega) (by rw [hzb, hik]; exact growslice_fits (by omega) (by omega))
    rw [hik, ← hG, ← hROW, ← hW1, ← hN] at h
    rw [hkk]
    exact h
  have hW1N : W1.heap[N]? = some (.cells ROW 47 (0, 0)) := by rw [hW1, hN]; show (w.heap.push _)[w.heap.size]? = _; simp
  have hW1o : ∀ k, k < w.heap.size → W1.heap[k]? = w.heap[k]? := fun k hk => by rw [hW1]; exact Below.heap_alloc (w := w.drew) _ _ hk
  obtain ⟨c1, hc1⟩ : ∃ c1 : List Value, ROW.toList.take (i * 6) ++ (EQ.cells x ++ ROW.toList.drop (i * 6 + (EQ.cells x).length)) = c1 := ⟨_, rfl⟩
  obtain ⟨c2, hc2⟩ : ∃ c2 : List Value, c1.take ((i + 1) * 6) ++ (D ++ c1.drop ((i + 1) * 6 + D.length)) = c2 := ⟨_, rfl⟩
  have hcell := grow_cells (f := EQ.cells) (k := 6) (cap := G) (i := i) (xs := xs) (x := x) (fun _ => rfl) ROW.toList hRl (by omega) (by omega) hRt
  rw [hD] at hcell
  simp only [hc1] at hcell
  rw [hc2] at hcell
  obtain ⟨hl1, hl2, ht2⟩ := hcell
  have hmin : Nat.min (n - i) (n - i) = n - i := Nat.min_self _
  have hmin1 : Nat.min 1 (n + 1 - i) = 1 := by show min _ _ = _; omega
  have cellW : ∀ (W : World) (k j : Nat) (u : Value), W.heap[k]? = w.heap[k]? → w.cell? ((⟨k, 0, none⟩ : Addr).add j) = some u → W.cell? ((⟨k, 0, none⟩ : Addr).add j) = some u := fun W k j u e h => by
    rw [Addr.add_lit] at h ⊢
    unfold World.cell? at h ⊢
    rw [e]; exact h
  have hgw : g < w.heap.size := (Array.getElem?_eq_some_iff.1 hg).1
  have hXw : X < w.heap.size := (S.ge 1 rfl).2
  have hcpA : ∀ ty dc, (Builtin.copy_ #[36, 36] ty #[.slice (some ⟨N, i * 6, none⟩) (n + 1 - i) dc, .slice (some ⟨X, 0, none⟩) 1 1]).run Tryz.prog W1 = .ok (goInt ((1 : Nat) : Int)) (W1.setRow N c1.toArray) := fun ty dc => by
    have h1 := run_copy_rowK W1 36 36 ty 47 6 N (i * 6) (n + 1 - i) dc ⟨X, 0, none⟩ 1 1 ROW 47 (EQ.cells x) tyEvt.under hsz hW1N (by rw [hmin1]; rfl) (fun j u hj => cellW W1 X j u (hW1o X hXw) (rowCellsE hlv j u (by simpa using hj))) (by show i * 6 + 6 ≤ ROW.size; rw [← Array.length_toList, hRl]; omega) (oneEQ x)
    rw [List.append_assoc, hc1, hmin1] at h1
    exact h1
  have hW2N : (W1.setRow N c1.toArray).drew.heap[N]? = some (.cells c1.toArray 47 (0, 0)) := setRow_heap W1 N ROW c1.toArray 47 (0, 0) hW1N
  have hW2g : (W1.setRow N c1.toArray).drew.heap[g]? = w.heap[g]? := (setRow_other W1 N g c1.toArray hgN).trans (hW1o g hgw)
  have hcpB : ∀ ty dc sc, (Builtin.copy_ #[36, 36] ty #[.slice (some ⟨N, (i + 1) * 6, none⟩) (n - i) dc, .slice (some ⟨g, i * 6, none⟩) (n - i) sc]).run Tryz.prog (W1.setRow N c1.toArray).drew = .ok (goInt ((n - i : Nat) : Int)) ((W1.setRow N c1.toArray).drew.setRow N c2.toArray) := fun ty dc sc => by
    have h1 := run_copy_rowK (W1.setRow N c1.toArray).drew 36 36 ty 47 6 N ((i + 1) * 6) (n - i) dc ⟨g, i * 6, none⟩ (n - i) sc c1.toArray 47 D tyEvt.under hsz hW2N (by rw [hDl, hmin]) (fun j u hj => by
      have h2 := cellW (W1.setRow N c1.toArray).drew g (i * 6 + j) u hW2g (hfc (i * 6 + j) u (flatEQ_at xs i (by omega) j u (by rw [hD]; exact hj)))
      rw [Addr.add_lit, Nat.zero_add] at h2
      rw [Addr.add_lit]
      exact h2) (by rw [hDl, List.size_toArray, hl1]; omega) (fun u hu => by
      rw [← hD] at hu
      obtain ⟨l, hl, hu2⟩ := List.mem_flatten.1 hu
      obtain ⟨y, _, rfl⟩ := List.mem_map.1 hl
      exact oneEQ y u hu2)
    rw [List.append_assoc, hmin] at h1
    simp only at h1
    rw [hc2] at h1
    exact h1
  have M2 : Mem w0 ((W1.setRow N c1.toArray).drew.setRow N c2.toArray) (.own rEQ B 47 (.slice (some ⟨N, 0, none⟩) (xs.take i ++ x :: xs.drop i).length G) (xs.take i ++ x :: xs.drop i) :: .loc X (eqCs x) 47 :: cs) :=
    S.ownNew flatEQ (fun _ => rfl) hB ⟨by rw [hW1]; rfl, by rw [hW1]; rfl, by rw [hW1]; rfl, by
      have hs : ∀ (W : World) (k : Nat) (c : Array Value), (W.setRow k c).heap.size = W.heap.size := fun _ _ _ => by simp [World.setRow]
      have h1 : W1.heap.size = w.heap.size + 1 := by rw [hW1]; exact alloc_size _ _
      rw [hs]
      show w.heap.size ≤ (W1.setRow N c1.toArray).heap.size
      rw [hs, h1]; omega, fun k hk _ => by
      have e : k ≠ N := by omega
      exact ((setRow_other (W1.setRow N c1.toArray).drew N k c2.toArray e).trans (setRow_other W1 N k c1.toArray e)).trans (hW1o k hk)⟩ N G hN c2.toArray (setRow_heap (W1.setRow N c1.toArray).drew N c1.toArray c2.toArray 47 (0, 0) hW2N) _ (by rw [List.size_toArray]; exact hl2) ht2 (by rw [List.length_append, List.length_take, List.length_cons, List.length_drop]; omega) hGm
  have hlen : (xs.take i ++ x :: xs.drop i).length = n + 1 := by rw [List.length_append, List.length_take, List.length_cons, List.length_drop]; omega
  rw [hlen] at M2
  have HM := Lib.hid M2
  have hw1 : IntKind.i64.wrap ((n : Int) + 1) = (n : Int) + 1 := by rw [IntKind.wrap_i64]; omega
  have hw3 : IntKind.i64.wrap ((i : Int) + 1) = (i : Int) + 1 := by rw [IntKind.wrap_i64]; omega
  have hne : ((i : Int) == (n : Int)) = false := by simpa using (by omega : (i : Int) ≠ n)
  have hz3 : (cap : Int) < (n : Int) + 1 := by omega
  have hGi : ¬ (G = i) := by omega
  have hGim : ¬ (G = i + 1) := by omega
  have hci : ¬ (cap = i) := by omega
  have hb1 : (0 : Int) ≤ (i : Int) + 1 := by omega
  have htn : ((i : Int) + 1).toNat = i + 1 := by omega
  have hb3 : (i : Int) ≤ (n : Int) + 1 := by omega
  have hb4 : (i : Int) ≤ (n : Int) := by omega
  have hin : i ≤ n := by omega
  have mixed : Tryz.prog.follows .mixedOrders = true := by kernel_rfl
  unfold maxLen at hcm hGm
  have Hn := Lib.hid hn1
  clear S hg htk hlv hfc hc1 hc2 hl1 hl2 ht2 M2 hDl hD hsz hlen hcs hn1 hna hold hik hkk hG hROW hRl hRt hW1N hW1o hW1 hN hO hOl hi0 hz0 hzs hzb hW2N hW2g cellW hmin hmin1 hgN hXN hgw hXw
  go_enter Tryz.func127, Tryz.ntmps127
  go_wp2_with (first
    | (at_builtin; refine Lib.wpList_append_run _ rfl _ _ _ _ rfl _ _ rfl rfl _ _ (hrz _) ?_)
    | (at_builtin; refine wpList_copy_runI _ rfl _ _ 36 36 rfl _ _ rfl rfl (hcpA _ _) ?_))
  go_region_law_o (refine step_copy_runI rfl _ _ 36 36 rfl _ _ (by simp [Act.eval, Act.put]) (by simp [Act.eval, Act.put]) (hcpB _ _ _) ?_)
  go_wp2
  go_ret
  exact ⟨_, rfl, HM.out⟩
theorem insEq_any {w0 w : World} {cs : List Chunk} {B : Nat} {v : Value} {xs : List EQ} (i : Nat) (x : EQ) (X : Nat) (S : Mem w0 w (.own rEQ B 47 v xs :: .loc X (eqCs x) 47 :: cs)) (hB : B ≤ w.heap.size) (hl : xs.length ≤ 1000) (hi : i ≤ xs.length) :
    Calls Tryz.prog 127 #[v, .int .i64 i, .slice (some ⟨X, 0, none⟩) 1 1] w (GivesInsE (xs.take i ++ x :: xs.drop i) w0 (.loc X (eqCs x) 47 :: cs) B) := by
  by_cases he : i = xs.length
  · subst he
    have h := insEndE_any x X S hB hl
    rw [List.take_length, List.drop_length]
    exact h
  · rcases (S.ow 0 rfl).shape2 with ⟨rfl, rfl⟩ | ⟨g, cap, rfl, hcap⟩
    · exact absurd hi (by simp at he ⊢; omega)
    · by_cases hc : cap < xs.length + 1
      · exact insGrowE_any i x X S hB (by omega) rfl hl hc
      · exact insMidE_any i x X S (by omega) rfl hl (by omega)
end Go.Proofs.YtmlpkejeglpciaaGreatDoor

/- What strings.Repeat returns: a string of a bounded length. -/
namespace Go.Proofs.YtmlpkejeglpciaaGreatDoor
open Go.RowKit
def GivesStr (M : Nat) (w : World) (e : Ending) (w' : World) : Prop := ∃ s : ByteArray, s.size ≤ M ∧ e = .returned (.string s) ∧ Below w.heap.size w w'
theorem repeat_le (s : ByteArray) (z : Int) (M : Nat) (w : World) (h0 : 0 ≤ z) (hz : z ≤ 1000000) (hM : s.size * z.toNat ≤ M) (hM2 : M ≤ 1000000000) :
    Calls Tryz.prog 168 #[.string s, .int .i64 z] w (GivesStr M w) := by
  obtain ⟨n, rfl⟩ := Int.eq_ofNat_of_zero_le h0
  simp only [Int.toNat_natCast] at hM
  refine (Tryz.strings_Repeat s n w (by omega) (by omega)).mono ?_
  rintro e w' ⟨rfl, hl⟩
  refine ⟨_, ?_, rfl, hl⟩
  show (Lib.repeatL s.data.toList n).length ≤ M
  rw [Lib.repeatL_length, Nat.mul_comm]
  exact hM
end Go.Proofs.YtmlpkejeglpciaaGreatDoor
