/- Several texts in one: OwnMore, Evq, Clear, AppN, EvDel, MapS. -/
import Derived.Test.YtmlpkejeglpciaaGreatDoorPkAE
import Derived.Test.YtmlpkejeglpciaaGreatDoorPkAF
import Derived.Test.YtmlpkejeglpciaaGreatDoorPkAD
import Derived.Laws.CopyOwn
import Derived.Test.YtmlpkejeglpciaaGreatDoorPkAC
import Derived.Maps.OwnOps
import Derived.Carry
/- More on slices of the call's own: out of a block, cut, many put behind. -/
namespace Go.Proofs.YtmlpkejeglpciaaGreatDoor
open Go Go.RowKit Go.Sort
section
variable {α : Type} {r : Rep α} {f : α → List Value} {w0 w : World} {cs : List Chunk}
theorem Own.cut {M : Nat → Prop} {B E g n cap : Nat} {xs : List α} (h : Own r M B E w (.slice (some ⟨g, 0, none⟩) n cap) xs) (k : Nat) (hk : k ≤ xs.length) : Own r M B E w (.slice (some ⟨g, 0, none⟩) k cap) (xs.take k) := by
  obtain ⟨ls, hl, hr, ho⟩ := h
  have hlen : ∀ l ∈ ls, l.length = r.size := fun l hm => by
    obtain ⟨i, hi, e⟩ := List.getElem_of_mem hm
    exact r.len (hr i (xs[i]'(by omega)) l (by simp) (by rw [List.getElem?_eq_getElem hi, e]))
  have hkl : (xs.take k).length = k := by rw [List.length_take]; omega
  have hfl : ∀ (L : List (List Value)), (∀ l ∈ L, l.length = r.size) → L.flatten.length = L.length * r.size := fun L hL => by
    induction L with
    | nil => simp
    | cons a t ih => rw [List.flatten_cons, List.length_append, hL a (by simp), ih (fun l hl => hL l (by simp [hl])), List.length_cons, Nat.succ_mul]; omega
  have hft : (ls.take k).flatten = ls.flatten.take (k * r.size) := by
    conv => rhs; rw [← List.take_append_drop k ls, List.flatten_append]
    rw [List.take_left']
    rw [hfl _ (fun l hl => hlen l (List.mem_of_mem_take hl)), List.length_take]
    congr 1; omega
  refine ⟨ls.take k, by rw [List.length_take, hkl]; omega, fun i x l e1 e2 => ?_, ?_⟩
  · rw [List.getElem?_take] at e1 e2
    split at e1
    · rename_i hik
      rw [if_pos hik] at e2
      exact r.mono (fun q _ e => by rcases e with e | e; exact .inl e; exact .inr e) (hr i x l e1 e2)
    · cases e1
  · rcases ho.2 with ⟨e, _⟩ | ⟨g', cap', cur, e, hB, hg, h5, h6, h7, h8⟩
    · cases e
    · cases e
      refine ⟨?_, .inr ⟨g, cap, cur, by rw [hkl], hB, hg, by omega, h6, h7, ?_⟩⟩
      · rw [hfl _ (fun l hl => hlen l (List.mem_of_mem_take hl)), List.length_take, hkl]
        congr 1; omega
      · rw [hkl, hft, ← h8, List.take_take]
        congr 1
        exact (Nat.min_eq_left (Nat.mul_le_mul_right _ hk)).symm
theorem St.asOwn {b m : Nat} (hf : r.Flat f) (S : St b m w0 w cs) (i : Nat) {X E B : Nat} {cells : Array Value} (hi : cs[i]? = some (.loc X cells E)) (xs : List α) (hcs : cells.toList = (xs.map f).flatten) (hs : cells.size = xs.length * r.size) (hl : xs.length ≤ 1000000) (hB : B = w0.heap.size) (n : Nat) (hn : n = xs.length) : St b m w0 w (cs.set i (.own r B E (.slice (some ⟨X, 0, none⟩) n n) xs)) := by
  subst hn hB
  exact S.upd i hi _ ⟨Nat.le_refl _, fun _ _ _ => rfl⟩ S.g (fun k e => .inl e) (Own.ofLV hf (S.lv i hi) (S.ge i hi).1 hcs hs hl)
end
end Go.Proofs.YtmlpkejeglpciaaGreatDoor

/- Events in memory that may still be turned: their rows, and apart from them their fields, which stay. -/
namespace Go.Proofs.YtmlpkejeglpciaaGreatDoor
open Go Go.RowKit
structure EQ where
  e : Evt
  A : Option Addr
  c : Nat
def EQ.cells (q : EQ) : List Value := [.string q.e.id, .string q.e.name, .int .i64 q.e.at', .int .i64 q.e.kind, .string q.e.text, .slice q.A q.e.flds.length q.c]
def rEQ : Rep EQ := .flat 6 EQ.cells (fun _ => rfl)
theorem flatEQ : rEQ.Flat EQ.cells := fun _ _ _ _ => Iff.rfl
theorem tyEvt : STy 36 47 rEQ.size 88 (.agg #[.string ⟨#[]⟩, .string ⟨#[]⟩, .int .i64 0, .int .i64 0, .string ⟨#[]⟩, .slice none 0 0]) := ⟨Tryz.underlying36, by kernel_rfl, rfl, by decide⟩
theorem oneEQ (q : EQ) : ∀ u ∈ q.cells, u.oneCell' = true := fun u hu => by
  simp only [EQ.cells, List.mem_cons, List.not_mem_nil, or_false] at hu
  rcases hu with rfl | rfl | rfl | rfl | rfl | rfl <;> rfl
def FldsOk (M : Nat → Prop) (w : World) (qs : List EQ) : Prop := ∀ q ∈ qs, Sl rFld M w q.A q.e.flds
def Chunk.flds (qs : List EQ) : Chunk :=
  ⟨none, fun M w => FldsOk M w qs, fun k hd _ h q hq => (h q hq).keep (k.mono hd), fun hm h q hq => (h q hq).mono (fun k hk e => (hm k hk e).resolve_right (by simp)), fun _ _ e => by cases e⟩
section
variable {b m : Nat} {w0 w : World} {cs : List Chunk}
theorem St.turn (S : St b m w0 w cs) (i : Nat) {c : Chunk} (hi : cs[i]? = some c) (c' : Chunk) (hc' : c'.blk = none) (hok : c'.ok (Mut w0.heap.size cs) w) : St b m w0 w (cs.set i c') := by
  refine S.upd i hi c' ⟨Nat.le_refl _, fun _ _ _ => rfl⟩ S.g (fun k e => by rw [hc'] at e; cases e) (c'.mono (fun k _ e => ?_) hok)
  rcases e with e | ⟨x, hx, e⟩
  · exact .inl (.inl e)
  · rcases mem_set_cases hx with rfl | ⟨j, _, hx⟩
    · exact .inr e
    · exact .inl (.inr ⟨x, List.mem_of_getElem? hx, e⟩)
theorem Mem.turn (S : Mem w0 w cs) (i : Nat) {c : Chunk} (hi : cs[i]? = some c) (c' : Chunk) (hc' : c'.blk = none) (hok : c'.ok (Mut w0.heap.size cs) w) : Mem w0 w (cs.set i c') := by
  refine S.upd i hi c' ⟨Nat.le_refl _, fun _ _ _ => rfl⟩ S.b (fun k e => by rw [hc'] at e; cases e) (c'.mono (fun k _ e => ?_) hok)
  rcases e with e | ⟨x, hx, e⟩
  · exact .inl (.inl e)
  · rcases mem_set_cases hx with rfl | ⟨j, _, hx⟩
    · exact .inr e
    · exact .inl (.inr ⟨x, List.mem_of_getElem? hx, e⟩)
theorem St.fl (S : St b m w0 w cs) (i : Nat) {qs : List EQ} (hi : cs[i]? = some (.flds qs)) : FldsOk (Mut w0.heap.size cs) w qs := S.ok _ (List.mem_of_getElem? hi)
theorem Mem.fl (S : Mem w0 w cs) (i : Nat) {qs : List EQ} (hi : cs[i]? = some (.flds qs)) : FldsOk (Mut w0.heap.size cs) w qs := S.ok _ (List.mem_of_getElem? hi)
theorem St.addFl (S : St b m w0 w cs) (i j : Nat) {qs : List EQ} {A : Option Addr} {fs : List Fld} (hi : cs[i]? = some (.flds qs)) (hj : cs[j]? = some (.sl rFld A fs)) (x : EQ) (hA : x.A = A) (hf : x.e.flds = fs) : St b m w0 w (cs.set i (.flds (qs ++ [x]))) := by
  refine S.turn i hi (.flds (qs ++ [x])) rfl (fun q hq => ?_)
  rcases List.mem_append.1 hq with hq | hq
  · exact S.fl i hi q hq
  · rw [List.mem_singleton.1 hq, hA, hf]; exact S.slc j hj
theorem Mem.subFl (S : Mem w0 w cs) (i : Nat) {qs qs' : List EQ} (hi : cs[i]? = some (.flds qs)) (hs : ∀ q ∈ qs', q ∈ qs) : Mem w0 w (cs.set i (.flds qs')) := S.turn i hi (.flds qs') rfl (fun q hq => S.fl i hi q (hs q hq))
end
theorem slEvt {N : Nat → Prop} {w : World} {A : Option Addr} {qs : List EQ} (h : Sl rEQ N w A qs) (hf : FldsOk N w qs) : Sl rEvt N w A (qs.map EQ.e) := fun i x hx => by
  rw [List.getElem?_map] at hx
  cases hq : qs[i]? with
  | none => rw [hq] at hx; cases hx
  | some y =>
    rw [hq] at hx
    obtain rfl : y.e = x := by simpa using hx
    obtain ⟨blk, off, l, e1, h1, h2, h3, h4⟩ := h i y hq
    obtain rfl : l = EQ.cells y := h3
    exact ⟨blk, off, _, e1, h1, h2, rEvt_mk (c := y.c) (hf y (List.mem_of_getElem? hq)), h4⟩
theorem Mem.evs {w0 w : World} {cs : List Chunk} (S : Mem w0 w cs) (i j : Nat) {A : Option Addr} {qs : List EQ} (hi : cs[i]? = some (.sl rEQ A qs)) (hj : cs[j]? = some (.flds qs)) : Mem w0 w (cs.set i (.sl rEvt A (qs.map EQ.e))) :=
  S.turn i hi (.sl rEvt A (qs.map EQ.e)) rfl (slEvt (S.slc i hi) (S.fl j hj))
theorem Own.eqAt {M : Nat → Prop} {B E g n cap : Nat} {w : World} {xs : List EQ} (h : Own rEQ M B E w (.slice (some ⟨g, 0, none⟩) n cap) xs) (hn : n = xs.length) (k : Nat) (x : EQ) (hk : xs[k]? = some x) :
    (w.cell? ⟨g, k * 6, none⟩ = some (.string x.e.id) ∧ w.cell? ⟨g, k * 6 + 1, none⟩ = some (.string x.e.name) ∧ w.cell? ⟨g, k * 6 + 2, none⟩ = some (.int .i64 x.e.at') ∧ w.cell? ⟨g, k * 6 + 3, none⟩ = some (.int .i64 x.e.kind) ∧ w.cell? ⟨g, k * 6 + 4, none⟩ = some (.string x.e.text) ∧ w.cell? ⟨g, k * 6 + 5, none⟩ = some (.slice x.A x.e.flds.length x.c)) ∧
    ∀ j, j < 6 → w.frozen? ⟨g, k * 6 + j, none⟩ = false :=
  ⟨⟨(h.cellP flatEQ hn k x hk 0 _ rfl).1, (h.cellP flatEQ hn k x hk 1 _ rfl).1, (h.cellP flatEQ hn k x hk 2 _ rfl).1, (h.cellP flatEQ hn k x hk 3 _ rfl).1, (h.cellP flatEQ hn k x hk 4 _ rfl).1, (h.cellP flatEQ hn k x hk 5 _ rfl).1⟩, fun j hj => by
    obtain ⟨u, hu⟩ : ∃ u, (EQ.cells x)[j]? = some u := ⟨_, List.getElem?_eq_getElem hj⟩
    exact (h.cellP flatEQ hn k x hk j u hu).2⟩
theorem Mem.putEQ {w0 w : World} {cs : List Chunk} (S : Mem w0 w cs) (i : Nat) {B E g n cap : Nat} {ys : List EQ} (hi : cs[i]? = some (.own rEQ B E (.slice (some ⟨g, 0, none⟩) n cap) ys)) (hn : n = ys.length) (p : Nat) (z x : EQ) (hz : ys[p]? = some z) :
    Mem w0 ((((((w.setCell ⟨g, p * 6, none⟩ (.string x.e.id)).setCell ⟨g, p * 6 + 1, none⟩ (.string x.e.name)).setCell ⟨g, p * 6 + 2, none⟩ (.int .i64 x.e.at')).setCell ⟨g, p * 6 + 3, none⟩ (.int .i64 x.e.kind)).setCell ⟨g, p * 6 + 4, none⟩ (.string x.e.text)).setCell ⟨g, p * 6 + 5, none⟩ (.slice x.A x.e.flds.length x.c)) (cs.set i (.own rEQ B E (.slice (some ⟨g, 0, none⟩) n cap) (ys.set p x))) := by
  have hp := lt_of_get hz
  have hci : i < cs.length := lt_of_get hi
  have S1 := S.put flatEQ i hi hn p z (⟨⟨x.e.id, z.e.name, z.e.at', z.e.kind, z.e.text, z.e.flds⟩, z.A, z.c⟩ : EQ) hz 0 (by decide) (.string x.e.id) rfl
  have S2 := S1.put flatEQ i (by rw [List.getElem?_set_self hci]) (by rw [List.length_set]; exact hn) p (⟨⟨x.e.id, z.e.name, z.e.at', z.e.kind, z.e.text, z.e.flds⟩, z.A, z.c⟩ : EQ) (⟨⟨x.e.id, x.e.name, z.e.at', z.e.kind, z.e.text, z.e.flds⟩, z.A, z.c⟩ : EQ) (by rw [List.getElem?_set_self hp]) 1 (by decide) (.string x.e.name) rfl
  simp only [List.set_set] at S2
  have S3 := S2.put flatEQ i (by rw [List.getElem?_set_self hci]) (by rw [List.length_set]; exact hn) p (⟨⟨x.e.id, x.e.name, z.e.at', z.e.kind, z.e.text, z.e.flds⟩, z.A, z.c⟩ : EQ) (⟨⟨x.e.id, x.e.name, x.e.at', z.e.kind, z.e.text, z.e.flds⟩, z.A, z.c⟩ : EQ) (by rw [List.getElem?_set_self hp]) 2 (by decide) (.int .i64 x.e.at') rfl
  simp only [List.set_set] at S3
  have S4 := S3.put flatEQ i (by rw [List.getElem?_set_self hci]) (by rw [List.length_set]; exact hn) p (⟨⟨x.e.id, x.e.name, x.e.at', z.e.kind, z.e.text, z.e.flds⟩, z.A, z.c⟩ : EQ) (⟨⟨x.e.id, x.e.name, x.e.at', x.e.kind, z.e.text, z.e.flds⟩, z.A, z.c⟩ : EQ) (by rw [List.getElem?_set_self hp]) 3 (by decide) (.int .i64 x.e.kind) rfl
  simp only [List.set_set] at S4
  have S5 := S4.put flatEQ i (by rw [List.getElem?_set_self hci]) (by rw [List.length_set]; exact hn) p (⟨⟨x.e.id, x.e.name, x.e.at', x.e.kind, z.e.text, z.e.flds⟩, z.A, z.c⟩ : EQ) (⟨⟨x.e.id, x.e.name, x.e.at', x.e.kind, x.e.text, z.e.flds⟩, z.A, z.c⟩ : EQ) (by rw [List.getElem?_set_self hp]) 4 (by decide) (.string x.e.text) rfl
  simp only [List.set_set] at S5
  have S6 := S5.put flatEQ i (by rw [List.getElem?_set_self hci]) (by rw [List.length_set]; exact hn) p (⟨⟨x.e.id, x.e.name, x.e.at', x.e.kind, x.e.text, z.e.flds⟩, z.A, z.c⟩ : EQ) x (by rw [List.getElem?_set_self hp]) 5 (by decide) (.slice x.A x.e.flds.length x.c) rfl
  simp only [List.set_set] at S6
  exact S6
end Go.Proofs.YtmlpkejeglpciaaGreatDoor

/- clear of the tail of a slice of the call's own, and the front that stays. -/
namespace Go.Proofs.YtmlpkejeglpciaaGreatDoor
open Go Go.RowKit
section
variable {α : Type} {r : Rep α}
theorem Own.clearRun {M : Nat → Prop} {w : World} {B E g n cap : Nat} {xs : List α} (h : Own r M B E w (.slice (some ⟨g, 0, none⟩) n cap) xs) (hn : n = xs.length) {T ty bytes : Nat} {z : Value} (sty : STy T E r.size bytes z) (hzv : ∀ w, (zeroValue E).run Tryz.prog w = .ok z w) (hz1 : ∀ j, j < r.size → (z.cells[j]!).oneCell' = true) (k c : Nat) (hk : k ≤ n) :
    ∃ w', (Builtin.clear_ #[T] ty #[.slice (some ⟨g, k * r.size, none⟩) (n - k) c]).run Tryz.prog w = .ok (.tuple #[]) w' ∧ (∀ M', (∀ q, M' q → M q ∨ q = g) → Own r M' B E w' (.slice (some ⟨g, 0, none⟩) k cap) (xs.take k)) ∧ w.grownBy w' (some g) := by
  subst hn
  have hcut := h.cut k hk
  by_cases h0 : k = xs.length
  · refine ⟨w, ?_, fun M' hM => Own.monoD (fun q _ e => ?_) hcut, ⟨rfl, rfl, rfl, Nat.le_refl _, fun _ _ _ => rfl⟩⟩
    · rw [show xs.length - k = 0 by omega]
      simp [Builtin.clear_, run_underlying sty.under]
    · rcases hM q e with e | e
      · exact .inl e
      · exact .inr (by subst e; rfl)
  · obtain ⟨ls, hl, hr, ho⟩ := h
    rcases ho.2 with ⟨e, _⟩ | ⟨g', cap', cur, e, hB, hg, h5, h6, h7, h8⟩
    · cases e
    · cases e
      obtain ⟨m, hm⟩ : ∃ m, xs.length - k = m + 1 := ⟨xs.length - k - 1, by omega⟩
      have hzs : z.cells.size = r.size := sty.zsize
      have hpos : 0 < r.size := sty.pos
      obtain ⟨zs, hzs'⟩ : ∃ zs, zs = (Builtin.zeroCells z.cells (m + 1)).toList := ⟨_, rfl⟩
      have hzl : zs.length = (m + 1) * r.size := by rw [hzs', Array.length_toList, size_zeroCells, hzs]
      have hz1' : ∀ v ∈ zs, v.oneCell' = true := fun v hv => by
        rw [hzs'] at hv
        simp only [Builtin.zeroCells, Array.toList_map, List.mem_map] at hv
        obtain ⟨i, _, rfl⟩ := hv
        exact hz1 _ (by rw [hzs]; exact Nat.mod_lt _ hpos)
      have hfit : k * r.size + 0 + zs.length ≤ cur.size := by
        rw [hzl, h7, Nat.add_zero, ← Nat.add_mul]
        exact Nat.mul_le_mul_right _ (by omega)
      have hst := run_storeCells_at (P := Tryz.prog) g (k * r.size) E zs 0 cur w hg hfit hz1'
      refine ⟨w.setRow g (cur.toList.take (k * r.size + 0) ++ zs ++ cur.toList.drop (k * r.size + 0 + zs.length)).toArray, ?_, fun M' hM => ?_, ⟨rfl, rfl, rfl, by simp [World.setRow], fun q hq hne => setRow_other w g q _ (fun e => hne (by rw [e]))⟩⟩
      · rw [hm]
        simp [Builtin.clear_, run_underlying sty.under, hzv, ← hzs', hst]
      · obtain ⟨ls2, hl2, hr2, ho3⟩ := hcut
        have hkl : (xs.take k).length = k := by rw [List.length_take]; omega
        have hskn : SKN (fun q => q = g) w (w.setRow g (cur.toList.take (k * r.size + 0) ++ zs ++ cur.toList.drop (k * r.size + 0 + zs.length)).toArray) := ⟨by simp [World.setRow], fun q hq hne => setRow_other w g q _ hne⟩
        refine ⟨ls2, hl2, fun i x l e1 e2 => ?_, ho3.1, .inr ⟨g, cap, _, by rw [hkl], hB, setRow_heap w g cur _ E (0, 0) hg, by omega, h6, ?_, ?_⟩⟩
        · have h1 := hr2 i x l e1 e2
          have h2 := r.keep (hskn.mono fun q e => .inr (by rw [e]; rfl)) h1
          refine r.mono (fun q _ e => ?_) h2
          rcases e with e | e
          · rcases hM q e with e | e
            · exact .inl e
            · exact .inr (by rw [e]; rfl)
          · exact .inr e
        · rw [List.size_toArray, List.length_append, List.length_append, List.length_take, List.length_drop, Array.length_toList]
          rw [Nat.add_zero] at hfit ⊢
          omega
        · rcases ho3.2 with ⟨e, _⟩ | ⟨g2, cap2, cur2, e, _, hg2, _, _, _, h82⟩
          · cases e
          · simp only [Value.slice.injEq, Option.some.injEq, Addr.mk.injEq] at e
            obtain ⟨⟨rfl, _⟩, _, rfl⟩ := e
            rw [hg] at hg2
            cases hg2
            rw [hkl] at h82 ⊢
            rw [← h82]
            simp only [Nat.add_zero, List.append_assoc]
            rw [List.take_append_of_le_length (by rw [List.length_take, Array.length_toList]; omega), List.take_take, Nat.min_self]
end
section
variable {ops : Array Oper} {rest : List Oper} {o : Oper} {a : Act} {Q : Exit → Act → World → Prop}
theorem Mem.clearTail {α : Type} {r : Rep α} {w0 w : World} {cs : List Chunk} (S : Mem w0 w cs) (i : Nat) {B E g n cap : Nat} {xs : List α} (hi : cs[i]? = some (.own r B E (.slice (some ⟨g, 0, none⟩) n cap) xs)) (hn : n = xs.length) {T bytes : Nat} {z : Value} (sty : STy T E r.size bytes z) (hzv : ∀ w, (zeroValue E).run Tryz.prog w = .ok z w) (hz1 : ∀ j, j < r.size → (z.cells[j]!).oneCell' = true) (k c : Nat) (hk : k ≤ n)
    (hgd : o.guard = none) (x : Operand) (ho : o.op = .call { callee := .builtin .clear, args := #[x], argTypes := #[T] }) (off len : Nat) (hoff : off = k * r.size) (hlen : len = n - k) (hx : a.eval x = .slice (some ⟨g, off, none⟩) len c)
    (h : ∀ w', Mem w0 w' (cs.set i (.own r B E (.slice (some ⟨g, 0, none⟩) k cap) (xs.take k))) → wpList Tryz.prog ops Q rest (a.put o.dst (.tuple #[])) w') : wpList Tryz.prog ops Q (o :: rest) a w := by
  subst hoff hlen
  have hg0 := S.new _ (List.mem_of_getElem? hi) g rfl
  obtain ⟨w', hrun, hown, hg⟩ := Own.clearRun (ty := o.type) (S.ow i hi) hn sty hzv hz1 k c hk
  have hbl : Below w0.heap.size w w' := (Below.refl _ w).grown hg S.b.size (fun k hk => by cases hk; exact hg0)
  have hskn : SKN (fun q => Value.ownBlock (.slice (some ⟨g, 0, none⟩) n cap) = some q) w w' := ⟨hg.size, fun q hq hne => hg.block q hq (fun e => hne e.symm)⟩
  have S2 := S.upd i hi (.own r B E (.slice (some ⟨g, 0, none⟩) k cap) (xs.take k)) hskn (S.b.trans hbl) (fun q e => .inl e) (hown _ (fun q e => by
    rcases e with e | ⟨y, hy, e⟩
    · exact .inl (.inl e)
    · rcases mem_set_cases hy with rfl | ⟨j, _, hy⟩
      · exact .inr (Option.some.inj e).symm
      · exact .inl (.inr ⟨y, List.mem_of_getElem? hy, e⟩)))
  refine wpList_plain hgd fun K' hK' => ?_
  unfold Oper.wp
  simp [execOp, ho, resolve, invoke, builtin, hx, hrun, Result.andThen]
  exact hK' _ _ (h w' S2)
end
end Go.Proofs.YtmlpkejeglpciaaGreatDoor

/- append of several elements to a slice of the call's own: a row that lies anywhere is put behind. -/
namespace Go.Proofs.YtmlpkejeglpciaaGreatDoor
open Go Go.RowKit
section
variable {α : Type} {r : Rep α} {f : α → List Value}
theorem map_flat_len (hl : ∀ x, (f x).length = r.size) : ∀ ys : List α, (ys.map f).flatten.length = ys.length * r.size
  | [] => by simp
  | y :: t => by rw [List.map_cons, List.flatten_cons, List.length_append, hl, map_flat_len hl t, List.length_cons, Nat.succ_mul]; omega
theorem Own.appN (hf : r.Flat f) {M : Nat → Prop} {w : World} {B E : Nat} {v : Value} {xs ys : List α} (h : Own r M B E w v xs) {T ty bytes : Nat} {z : Value} (sty : STy T E r.size bytes z) (hB : B ≤ w.heap.size) (hlen : xs.length + ys.length ≤ 100000000) (hby : bytes ≤ 1000)
    (ad : Addr) (c : Nat) (hc : ∀ j u, (ys.map f).flatten[j]? = some u → w.cell? (ad.add j) = some u) (h1 : ∀ y ∈ ys, ∀ u ∈ f y, u.oneCell' = true) (hfl : ∀ x, (f x).length = r.size) :
    ∃ v' w', (Builtin.append_ #[T, T] ty #[v, .slice (some ad) ys.length c]).run Tryz.prog w = .ok v' w' ∧ (∀ M', Own r M' B E w' v' (xs ++ ys)) ∧ w.grownBy w' v.ownBlock ∧ ∀ k, v'.ownBlock = some k → v.ownBlock = some k ∨ w.heap.size ≤ k := by
  obtain ⟨ls, hl, hr, ho2⟩ := h
  obtain ⟨i0, hi0, hz0, hz1, hz2⟩ := info_parts sty.info
  have hb3 : (xs.length + ys.length) * bytes ≤ 140737488355328 := by
    have := Nat.mul_le_mul (show xs.length + ys.length ≤ 100000001 by omega) hby
    omega
  have h63 : xs.length + ys.length ≤ maxLen := by unfold maxLen; omega
  have h1' : ∀ u ∈ (ys.map f).flatten, u.oneCell' = true := fun u hu => by
    obtain ⟨l, hl, hu⟩ := List.mem_flatten.1 hu
    obtain ⟨y, hy, rfl⟩ := List.mem_map.1 hl
    exact h1 y hy u hu
  obtain ⟨v', w', hrun, g1, g2, _⟩ := run_append_own (P := Tryz.prog) w B T ty E i0 z r.size bytes sty.under hi0 hz0 hz1 hz2 sty.zsize sty.pos _ xs.length _ ho2 ad ys.length c (ys.map f).flatten (map_flat_len hfl ys) hc h1' h63 hb3 hB
  have hwh := run_append_where (P := Tryz.prog) w B T ty E i0 z r.size bytes sty.under hi0 hz0 hz1 hz2 sty.zsize sty.pos _ xs.length _ ho2 ad ys.length c (ys.map f).flatten (map_flat_len hfl ys) hc h1' h63 hb3 hrun
  refine ⟨v', w', hrun, fun M' => ⟨ls ++ ys.map f, by simp [hl], fun j x l e1 e2 => (hf _ _ _ _).2 ?_, ?_⟩, g2, hwh⟩
  · rcases Nat.lt_or_ge j xs.length with hj | hj
    · rw [List.getElem?_append_left hj] at e1
      rw [List.getElem?_append_left (by omega)] at e2
      exact (hf _ _ _ _).1 (hr j x l e1 e2)
    · rw [List.getElem?_append_right hj] at e1
      rw [List.getElem?_append_right (by omega), hl, List.getElem?_map, e1] at e2
      exact (Option.some.inj e2).symm
  · rw [List.length_append, List.flatten_append]
    exact g1
end
section
variable {ops : Array Oper} {rest : List Oper} {o : Oper} {a : Act} {Q : Exit → Act → World → Prop}
theorem Mem.appN {α : Type} {r : Rep α} {f : α → List Value} (hf : r.Flat f) {w0 w : World} {cs : List Chunk} (S : Mem w0 w cs) (i : Nat) {B E : Nat} {v : Value} {xs : List α} (hi : cs[i]? = some (.own r B E v xs)) {T bytes : Nat} {z : Value} (ty : STy T E r.size bytes z)
    (hgd : o.guard = none) (s x : Operand) (ho : o.op = .call { callee := .builtin .append, args := #[s, x], argTypes := #[T, T] }) (ys : List α) (k c : Nat) (hk : k = ys.length) (hs : a.eval s = v) (ad : Addr) (hx : a.eval x = .slice (some ad) k c)
    (hc : ∀ j u, (ys.map f).flatten[j]? = some u → w.cell? (ad.add j) = some u) (h1 : ∀ y ∈ ys, ∀ u ∈ f y, u.oneCell' = true) (hfl : ∀ x, (f x).length = r.size) (hB : B ≤ w.heap.size) (hlen : xs.length + ys.length ≤ 100000000) (hby : bytes ≤ 1000)
    (h : ∀ v' w', Mem w0 w' (cs.set i (.own r B E v' (xs ++ ys))) → wpList Tryz.prog ops Q rest (a.put o.dst v') w') : wpList Tryz.prog ops Q (o :: rest) a w := by
  subst hk
  obtain ⟨v', w', hrun, ho', hg, hwh⟩ := Own.appN (ty := o.type) hf (S.ow i hi) ty hB hlen hby ad c hc h1 hfl
  have hbl : Below w0.heap.size w w' := (Below.refl _ w).grown hg S.b.size (fun k hk => S.new _ (List.mem_of_getElem? hi) k hk)
  have hskn : SKN (fun k => v.ownBlock = some k) w w' := ⟨hg.size, fun k hk hn => hg.block k hk (fun e => hn e.symm)⟩
  refine wpList_plain hgd fun _ hK => ?_
  unfold Oper.wp execOp
  simp only [ho, resolve, invoke, builtin, Sem.run_bind, Sem.run_pure, Result.andThen_ok, List.map_toArray, List.map_cons, List.map_nil, hs, hx, hrun]
  exact hK _ _ (h v' w' (S.upd i hi _ hskn (S.b.trans hbl) (fun k e => hwh k e) (ho' _)))
theorem alloc_size (w : World) (o : Obj) : (w.alloc o).heap.size = w.heap.size + 1 := by simp
end
theorem Mem.room {α : Type} {r : Rep α} {w0 w : World} {cs : List Chunk} (S : Mem w0 w cs) (i : Nat) {X E B cap : Nat} {cells : Array Value} (hi : cs[i]? = some (.loc X cells E)) (hB : B = w0.heap.size) (hc : cap ≤ maxLen) (hs : cells.size = cap * r.size) : Mem w0 w (cs.set i (.own r B E (.slice (some ⟨X, 0, none⟩) 0 cap) [])) := by
  subst hB
  exact S.upd i hi _ ⟨Nat.le_refl _, fun _ _ _ => rfl⟩ S.b (fun k e => .inl e) ⟨[], rfl, fun _ _ _ h => by simp at h, by simp, .inr ⟨X, cap, cells, rfl, (S.ge i hi).1, S.lv i hi, Nat.zero_le _, hc, hs, by simp⟩⟩
theorem flat_at {α : Type} {f : α → List Value} {n : Nat} (hf : ∀ x, (f x).length = n) : ∀ (xs : List α) (j : Nat) (u : Value), (xs.map f).flatten[j]? = some u → ∃ k x r, xs[k]? = some x ∧ (f x)[r]? = some u ∧ j = k * n + r
  | [], j, u, h => by simp at h
  | x :: t, j, u, h => by
    rw [List.map_cons, List.flatten_cons] at h
    by_cases hj : j < n
    · rw [List.getElem?_append_left (by rw [hf]; exact hj)] at h
      exact ⟨0, x, j, rfl, h, by simp⟩
    · rw [List.getElem?_append_right (by rw [hf]; omega), hf] at h
      obtain ⟨k, y, r, h1, h2, h3⟩ := flat_at hf t (j - n) u h
      exact ⟨k + 1, y, r, by simpa using h1, h2, by rw [Nat.succ_mul]; omega⟩
theorem Own.shape2 {α : Type} {r : Rep α} {N : Nat → Prop} {B E : Nat} {w : World} {v : Value} {xs : List α} (h : Own r N B E w v xs) : (v = .slice none 0 0 ∧ xs = []) ∨ ∃ g cap, v = .slice (some ⟨g, 0, none⟩) xs.length cap ∧ xs.length ≤ cap := by
  obtain ⟨ls, hl, hr, ho⟩ := h
  rcases ho.2 with ⟨e, hn⟩ | ⟨g, cap, cur, e, _, _, hc, _⟩
  · exact .inl ⟨e, List.length_eq_zero_iff.1 hn⟩
  · exact .inr ⟨g, cap, e, hc⟩
theorem Sl.flatCells {α : Type} {r : Rep α} {f : α → List Value} (hf : r.Flat f) (hl : ∀ x, (f x).length = r.size) {N : Nat → Prop} {w : World} {a : Addr} {xs : List α} (h : Sl r N w (some a) xs) : ∀ j u, (xs.map f).flatten[j]? = some u → w.cell? (a.add j) = some u := fun j u hu => by
  obtain ⟨k, x, q, h1, h2, rfl⟩ := flat_at hl xs j u hu
  obtain ⟨blk, off, l, e, _, _, hr, hc⟩ := h k x h1
  obtain rfl : a = ⟨blk, off, none⟩ := Option.some.inj e
  obtain rfl : l = f x := (hf _ _ _ _).1 hr
  have := hc q u h2
  rw [Nat.add_assoc] at this
  rw [Addr.add_lit]
  exact this
theorem Sl.nilOf {α : Type} {r : Rep α} {N : Nat → Prop} {w : World} {xs : List α} (h : Sl r N w none xs) : xs = [] := by
  cases xs with
  | nil => rfl
  | cons x t =>
    obtain ⟨blk, off, l, e, _⟩ := h 0 x rfl
    cases e
end Go.Proofs.YtmlpkejeglpciaaGreatDoor

/- What slices.IndexFunc and slices.DeleteFunc make of events of the call's own, for any condition. -/
namespace Go.Proofs.YtmlpkejeglpciaaGreatDoor
open Go Go.RowKit
def keepE {α : Type} (P : α → Bool) (x : α) : Bool := !P x
structure KeepAt {α : Type} (P : α → Bool) (xs ys : List α) (i j : Nat) : Prop where
  len : ys.length = xs.length
  front : ys.take i = (xs.take j).filter (keepE P)
  rest : ys.drop j = xs.drop j
  le : i ≤ j
section
variable {α : Type} {P : α → Bool} {xs ys : List α} {i j : Nat}
end
end Go.Proofs.YtmlpkejeglpciaaGreatDoor

/- A map of the call's own, keyed by strings, that holds true for those that were put: a piece of memory. -/
namespace Go.Proofs.YtmlpkejeglpciaaGreatDoor
open Go Go.RowKit Go.MapKept
def hasId (L : List ByteArray) (k : ByteArray) : Bool := L.any (fun y => y.toList == k.toList)
theorem hasId_iff (L : List ByteArray) (k : ByteArray) : hasId L k = true ↔ k ∈ L := by
  unfold hasId
  rw [List.any_eq_true]
  exact ⟨fun ⟨y, hy, e⟩ => by rw [← beqS.1 e]; exact hy, fun h => ⟨k, h, beqS.2 rfl⟩⟩
theorem hasId_no {L : List ByteArray} {k : ByteArray} (h : hasId L k = false) : k ∉ L := fun e => by rw [(hasId_iff L k).2 e] at h; cases h
theorem hasId_not {L : List ByteArray} {k : ByteArray} (h : k ∉ L) : hasId L k = false := by
  cases hh : hasId L k with
  | false => rfl
  | true => exact absurd ((hasId_iff L k).1 hh) h
section
variable {P : Program}
end
section
variable {ops : Array Oper} {rest : List Oper} {o : Oper} {a : Act} {Q : Exit → Act → World → Prop}
end
end Go.Proofs.YtmlpkejeglpciaaGreatDoor
