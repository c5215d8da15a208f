/- Several texts in one: Evq, AppN, Clear, EvDel, CmpLaw, Grew, SortFn, EvSrt, GenEvs, ViaMem, Right. -/
import Derived.Test.YteabhkmhogmoiaaGreatDoorPackE
import Derived.Test.YteabhkmhogmoiaaGreatDoorPackM
import Derived.Laws.CopyOwn
import Derived.Test.YteabhkmhogmoiaaGreatDoorPackV
import Derived.Shelf.SlSortCmp.InsertionK
import Derived.Test.YteabhkmhogmoiaaGreatDoorPackW
import Derived.WalkLawsBesides
import Derived.Sort.Walk0
import Derived.Shelf.SlSortCmp.NoneTotal
import Derived.Test.YteabhkmhogmoiaaGreatDoorPackO
import Derived.Test.YteabhkmhogmoiaaGreatDoorSf
import Derived.Lib.SliceRun
import Derived.Deep.DeepCutAuto
import Derived.Test.YteabhkmhogmoiaaGreatDoorPackB
/- Events in memory that may still be turned: their rows, and apart from them their fields, which stay. -/
namespace Go.Proofs.YteabhkmhogmoiaaGreatDoor
open Go Go.RowKit
structure EQ where
  e : Evt
  A : Option Addr
  c : Nat
def EQ.cells (q : EQ) : List Value := [.string q.e.id, .string q.e.name, .int .i64 q.e.at', .int .i64 q.e.kind, .string q.e.text, .slice q.A q.e.flds.length q.c]
def rEQ : Rep EQ := .flat 6 EQ.cells (fun _ => rfl)
theorem flatEQ : rEQ.Flat EQ.cells := fun _ _ _ _ => Iff.rfl
theorem tyEvt : STy 30 56 rEQ.size 88 (.agg #[.string ⟨#[]⟩, .string ⟨#[]⟩, .int .i64 0, .int .i64 0, .string ⟨#[]⟩, .slice none 0 0]) := ⟨Tryz.underlying30, by kernel_rfl, rfl, by decide⟩
theorem oneEQ (q : EQ) : ∀ u ∈ q.cells, u.oneCell' = true := fun u hu => by
  simp only [EQ.cells, List.mem_cons, List.not_mem_nil, or_false] at hu
  rcases hu with rfl | rfl | rfl | rfl | rfl | rfl <;> rfl
def FldsOk (M : Nat → Prop) (w : World) (qs : List EQ) : Prop := ∀ q ∈ qs, Sl rFld M w q.A q.e.flds
def Chunk.flds (qs : List EQ) : Chunk :=
  ⟨none, fun M w => FldsOk M w qs, fun k hd _ h q hq => (h q hq).keep (k.mono hd), fun hm h q hq => (h q hq).mono (fun k hk e => (hm k hk e).resolve_right (by simp)), fun _ _ e => by cases e⟩
section
variable {b m : Nat} {w0 w : World} {cs : List Chunk}
theorem St.turn (S : St b m w0 w cs) (i : Nat) {c : Chunk} (hi : cs[i]? = some c) (c' : Chunk) (hc' : c'.blk = none) (hok : c'.ok (Mut w0.heap.size cs) w) : St b m w0 w (cs.set i c') := by
  refine S.upd i hi c' ⟨Nat.le_refl _, fun _ _ _ => rfl⟩ S.g (fun k e => by rw [hc'] at e; cases e) (c'.mono (fun k _ e => ?_) hok)
  rcases e with e | ⟨x, hx, e⟩
  · exact .inl (.inl e)
  · rcases mem_set_cases hx with rfl | ⟨j, _, hx⟩
    · exact .inr e
    · exact .inl (.inr ⟨x, List.mem_of_getElem? hx, e⟩)
theorem Mem.turn (S : Mem w0 w cs) (i : Nat) {c : Chunk} (hi : cs[i]? = some c) (c' : Chunk) (hc' : c'.blk = none) (hok : c'.ok (Mut w0.heap.size cs) w) : Mem w0 w (cs.set i c') := by
  refine S.upd i hi c' ⟨Nat.le_refl _, fun _ _ _ => rfl⟩ S.b (fun k e => by rw [hc'] at e; cases e) (c'.mono (fun k _ e => ?_) hok)
  rcases e with e | ⟨x, hx, e⟩
  · exact .inl (.inl e)
  · rcases mem_set_cases hx with rfl | ⟨j, _, hx⟩
    · exact .inr e
    · exact .inl (.inr ⟨x, List.mem_of_getElem? hx, e⟩)
theorem St.fl (S : St b m w0 w cs) (i : Nat) {qs : List EQ} (hi : cs[i]? = some (.flds qs)) : FldsOk (Mut w0.heap.size cs) w qs := S.ok _ (List.mem_of_getElem? hi)
theorem Mem.fl (S : Mem w0 w cs) (i : Nat) {qs : List EQ} (hi : cs[i]? = some (.flds qs)) : FldsOk (Mut w0.heap.size cs) w qs := S.ok _ (List.mem_of_getElem? hi)
theorem St.addFl (S : St b m w0 w cs) (i j : Nat) {qs : List EQ} {A : Option Addr} {fs : List Fld} (hi : cs[i]? = some (.flds qs)) (hj : cs[j]? = some (.sl rFld A fs)) (x : EQ) (hA : x.A = A) (hf : x.e.flds = fs) : St b m w0 w (cs.set i (.flds (qs ++ [x]))) := by
  refine S.turn i hi (.flds (qs ++ [x])) rfl (fun q hq => ?_)
  rcases List.mem_append.1 hq with hq | hq
  · exact S.fl i hi q hq
  · rw [List.mem_singleton.1 hq, hA, hf]; exact S.slc j hj
theorem St.subFl (S : St b m w0 w cs) (i : Nat) {qs qs' : List EQ} (hi : cs[i]? = some (.flds qs)) (hs : ∀ q ∈ qs', q ∈ qs) : St b m w0 w (cs.set i (.flds qs')) := S.turn i hi (.flds qs') rfl (fun q hq => S.fl i hi q (hs q hq))
theorem Mem.subFl (S : Mem w0 w cs) (i : Nat) {qs qs' : List EQ} (hi : cs[i]? = some (.flds qs)) (hs : ∀ q ∈ qs', q ∈ qs) : Mem w0 w (cs.set i (.flds qs')) := S.turn i hi (.flds qs') rfl (fun q hq => S.fl i hi q (hs q hq))
end
theorem slEvt {N : Nat → Prop} {w : World} {A : Option Addr} {qs : List EQ} (h : Sl rEQ N w A qs) (hf : FldsOk N w qs) : Sl rEvt N w A (qs.map EQ.e) := fun i x hx => by
  rw [List.getElem?_map] at hx
  cases hq : qs[i]? with
  | none => rw [hq] at hx; cases hx
  | some y =>
    rw [hq] at hx
    obtain rfl : y.e = x := by simpa using hx
    obtain ⟨blk, off, l, e1, h1, h2, h3, h4⟩ := h i y hq
    obtain rfl : l = EQ.cells y := h3
    exact ⟨blk, off, _, e1, h1, h2, rEvt_mk (c := y.c) (hf y (List.mem_of_getElem? hq)), h4⟩
theorem St.evs {b m : Nat} {w0 w : World} {cs : List Chunk} (S : St b m w0 w cs) (i j : Nat) {A : Option Addr} {qs : List EQ} (hi : cs[i]? = some (.sl rEQ A qs)) (hj : cs[j]? = some (.flds qs)) : St b m w0 w (cs.set i (.sl rEvt A (qs.map EQ.e))) :=
  S.turn i hi (.sl rEvt A (qs.map EQ.e)) rfl (slEvt (S.slc i hi) (S.fl j hj))
theorem Mem.evs {w0 w : World} {cs : List Chunk} (S : Mem w0 w cs) (i j : Nat) {A : Option Addr} {qs : List EQ} (hi : cs[i]? = some (.sl rEQ A qs)) (hj : cs[j]? = some (.flds qs)) : Mem w0 w (cs.set i (.sl rEvt A (qs.map EQ.e))) :=
  S.turn i hi (.sl rEvt A (qs.map EQ.e)) rfl (slEvt (S.slc i hi) (S.fl j hj))
theorem evt_rows {N : Nat → Prop} {w : World} {A : Option Addr} {xs : List Evt} (h : Sl rEvt N w A xs) : ∃ qs : List EQ, qs.map EQ.e = xs ∧ Sl rEQ N w A qs ∧ FldsOk N w qs := by
  have key : ∀ (l : List Evt) (k : Nat), xs.drop k = l → ∃ qs : List EQ, qs.map EQ.e = l ∧ (∀ (i : Nat) (q : EQ), qs[i]? = some q → ∃ blk off l', A = some ⟨blk, off, none⟩ ∧ blk < w.heap.size ∧ ¬ N blk ∧ rEQ.rel N w q l' ∧ ∀ (j : Nat) (u : Value), l'[j]? = some u → w.cell? ⟨blk, off + (k + i) * rEQ.size + j, none⟩ = some u) ∧ FldsOk N w qs := by
    intro l
    induction l with
    | nil => exact fun k _ => ⟨[], rfl, fun i q h => by simp at h, fun q hq => by cases hq⟩
    | cons x r ih =>
      intro k hk
      have hx : xs[k]? = some x := by
        have := congrArg (fun l : List Evt => l[0]?) hk
        simpa using this
      have hr : xs.drop (k + 1) = r := by
        have := congrArg (List.drop 1) hk
        simpa using this
      obtain ⟨qs, h1, h2, h3⟩ := ih (k + 1) hr
      obtain ⟨blk, off, l', e, g1, g2, g3, g4⟩ := h k x hx
      obtain ⟨Af, cf, rfl, hf⟩ := rEvt_of g3
      refine ⟨⟨x, Af, cf⟩ :: qs, by simp [h1], fun i q hq => ?_, fun q hq => ?_⟩
      · cases i with
        | zero =>
          obtain rfl : (⟨x, Af, cf⟩ : EQ) = q := by simpa using hq
          exact ⟨blk, off, _, e, g1, g2, rfl, fun j u hu => by rw [Nat.add_zero]; exact g4 j u hu⟩
        | succ i =>
          obtain ⟨blk', off', l'', e', g1', g2', g3', g4'⟩ := h2 i q (by simpa using hq)
          exact ⟨blk', off', l'', e', g1', g2', g3', fun j u hu => by rw [show k + (i + 1) = k + 1 + i by omega]; exact g4' j u hu⟩
      · rcases List.mem_cons.1 hq with rfl | hq
        · exact hf
        · exact h3 q hq
  obtain ⟨qs, h1, h2, h3⟩ := key xs 0 (by simp)
  exact ⟨qs, h1, fun i q hq => by
    obtain ⟨blk, off, l, e, g1, g2, g3, g4⟩ := h2 i q hq
    exact ⟨blk, off, l, e, g1, g2, g3, fun j u hu => by have := g4 j u hu; rwa [Nat.zero_add] at this⟩, h3⟩
theorem Own.eqAt {M : Nat → Prop} {B E g n cap : Nat} {w : World} {xs : List EQ} (h : Own rEQ M B E w (.slice (some ⟨g, 0, none⟩) n cap) xs) (hn : n = xs.length) (k : Nat) (x : EQ) (hk : xs[k]? = some x) :
    (w.cell? ⟨g, k * 6, none⟩ = some (.string x.e.id) ∧ w.cell? ⟨g, k * 6 + 1, none⟩ = some (.string x.e.name) ∧ w.cell? ⟨g, k * 6 + 2, none⟩ = some (.int .i64 x.e.at') ∧ w.cell? ⟨g, k * 6 + 3, none⟩ = some (.int .i64 x.e.kind) ∧ w.cell? ⟨g, k * 6 + 4, none⟩ = some (.string x.e.text) ∧ w.cell? ⟨g, k * 6 + 5, none⟩ = some (.slice x.A x.e.flds.length x.c)) ∧
    ∀ j, j < 6 → w.frozen? ⟨g, k * 6 + j, none⟩ = false :=
  ⟨⟨(h.cellP flatEQ hn k x hk 0 _ rfl).1, (h.cellP flatEQ hn k x hk 1 _ rfl).1, (h.cellP flatEQ hn k x hk 2 _ rfl).1, (h.cellP flatEQ hn k x hk 3 _ rfl).1, (h.cellP flatEQ hn k x hk 4 _ rfl).1, (h.cellP flatEQ hn k x hk 5 _ rfl).1⟩, fun j hj => by
    obtain ⟨u, hu⟩ : ∃ u, (EQ.cells x)[j]? = some u := ⟨_, List.getElem?_eq_getElem hj⟩
    exact (h.cellP flatEQ hn k x hk j u hu).2⟩
theorem Mem.putEQ {w0 w : World} {cs : List Chunk} (S : Mem w0 w cs) (i : Nat) {B E g n cap : Nat} {ys : List EQ} (hi : cs[i]? = some (.own rEQ B E (.slice (some ⟨g, 0, none⟩) n cap) ys)) (hn : n = ys.length) (p : Nat) (z x : EQ) (hz : ys[p]? = some z) :
    Mem w0 ((((((w.setCell ⟨g, p * 6, none⟩ (.string x.e.id)).setCell ⟨g, p * 6 + 1, none⟩ (.string x.e.name)).setCell ⟨g, p * 6 + 2, none⟩ (.int .i64 x.e.at')).setCell ⟨g, p * 6 + 3, none⟩ (.int .i64 x.e.kind)).setCell ⟨g, p * 6 + 4, none⟩ (.string x.e.text)).setCell ⟨g, p * 6 + 5, none⟩ (.slice x.A x.e.flds.length x.c)) (cs.set i (.own rEQ B E (.slice (some ⟨g, 0, none⟩) n cap) (ys.set p x))) := by
  have hp := lt_of_get hz
  have hci : i < cs.length := lt_of_get hi
  have S1 := S.put flatEQ i hi hn p z (⟨⟨x.e.id, z.e.name, z.e.at', z.e.kind, z.e.text, z.e.flds⟩, z.A, z.c⟩ : EQ) hz 0 (by decide) (.string x.e.id) rfl
  have S2 := S1.put flatEQ i (by rw [List.getElem?_set_self hci]) (by rw [List.length_set]; exact hn) p (⟨⟨x.e.id, z.e.name, z.e.at', z.e.kind, z.e.text, z.e.flds⟩, z.A, z.c⟩ : EQ) (⟨⟨x.e.id, x.e.name, z.e.at', z.e.kind, z.e.text, z.e.flds⟩, z.A, z.c⟩ : EQ) (by rw [List.getElem?_set_self hp]) 1 (by decide) (.string x.e.name) rfl
  simp only [List.set_set] at S2
  have S3 := S2.put flatEQ i (by rw [List.getElem?_set_self hci]) (by rw [List.length_set]; exact hn) p (⟨⟨x.e.id, x.e.name, z.e.at', z.e.kind, z.e.text, z.e.flds⟩, z.A, z.c⟩ : EQ) (⟨⟨x.e.id, x.e.name, x.e.at', z.e.kind, z.e.text, z.e.flds⟩, z.A, z.c⟩ : EQ) (by rw [List.getElem?_set_self hp]) 2 (by decide) (.int .i64 x.e.at') rfl
  simp only [List.set_set] at S3
  have S4 := S3.put flatEQ i (by rw [List.getElem?_set_self hci]) (by rw [List.length_set]; exact hn) p (⟨⟨x.e.id, x.e.name, x.e.at', z.e.kind, z.e.text, z.e.flds⟩, z.A, z.c⟩ : EQ) (⟨⟨x.e.id, x.e.name, x.e.at', x.e.kind, z.e.text, z.e.flds⟩, z.A, z.c⟩ : EQ) (by rw [List.getElem?_set_self hp]) 3 (by decide) (.int .i64 x.e.kind) rfl
  simp only [List.set_set] at S4
  have S5 := S4.put flatEQ i (by rw [List.getElem?_set_self hci]) (by rw [List.length_set]; exact hn) p (⟨⟨x.e.id, x.e.name, x.e.at', x.e.kind, z.e.text, z.e.flds⟩, z.A, z.c⟩ : EQ) (⟨⟨x.e.id, x.e.name, x.e.at', x.e.kind, x.e.text, z.e.flds⟩, z.A, z.c⟩ : EQ) (by rw [List.getElem?_set_self hp]) 4 (by decide) (.string x.e.text) rfl
  simp only [List.set_set] at S5
  have S6 := S5.put flatEQ i (by rw [List.getElem?_set_self hci]) (by rw [List.length_set]; exact hn) p (⟨⟨x.e.id, x.e.name, x.e.at', x.e.kind, x.e.text, z.e.flds⟩, z.A, z.c⟩ : EQ) x (by rw [List.getElem?_set_self hp]) 5 (by decide) (.slice x.A x.e.flds.length x.c) rfl
  simp only [List.set_set] at S6
  exact S6
theorem St.putEQ {b m : Nat} {w0 w : World} {cs : List Chunk} (S : St b m w0 w cs) (i : Nat) {B E g n cap : Nat} {ys : List EQ} (hi : cs[i]? = some (.own rEQ B E (.slice (some ⟨g, 0, none⟩) n cap) ys)) (hn : n = ys.length) (p : Nat) (z x : EQ) (hz : ys[p]? = some z) :
    St b m w0 ((((((w.setCell ⟨g, p * 6, none⟩ (.string x.e.id)).setCell ⟨g, p * 6 + 1, none⟩ (.string x.e.name)).setCell ⟨g, p * 6 + 2, none⟩ (.int .i64 x.e.at')).setCell ⟨g, p * 6 + 3, none⟩ (.int .i64 x.e.kind)).setCell ⟨g, p * 6 + 4, none⟩ (.string x.e.text)).setCell ⟨g, p * 6 + 5, none⟩ (.slice x.A x.e.flds.length x.c)) (cs.set i (.own rEQ B E (.slice (some ⟨g, 0, none⟩) n cap) (ys.set p x))) := by
  have hp := lt_of_get hz
  have hci : i < cs.length := lt_of_get hi
  have S1 := S.put flatEQ i hi hn p z (⟨⟨x.e.id, z.e.name, z.e.at', z.e.kind, z.e.text, z.e.flds⟩, z.A, z.c⟩ : EQ) hz 0 (by decide) (.string x.e.id) rfl
  have S2 := S1.put flatEQ i (by rw [List.getElem?_set_self hci]) (by rw [List.length_set]; exact hn) p (⟨⟨x.e.id, z.e.name, z.e.at', z.e.kind, z.e.text, z.e.flds⟩, z.A, z.c⟩ : EQ) (⟨⟨x.e.id, x.e.name, z.e.at', z.e.kind, z.e.text, z.e.flds⟩, z.A, z.c⟩ : EQ) (by rw [List.getElem?_set_self hp]) 1 (by decide) (.string x.e.name) rfl
  simp only [List.set_set] at S2
  have S3 := S2.put flatEQ i (by rw [List.getElem?_set_self hci]) (by rw [List.length_set]; exact hn) p (⟨⟨x.e.id, x.e.name, z.e.at', z.e.kind, z.e.text, z.e.flds⟩, z.A, z.c⟩ : EQ) (⟨⟨x.e.id, x.e.name, x.e.at', z.e.kind, z.e.text, z.e.flds⟩, z.A, z.c⟩ : EQ) (by rw [List.getElem?_set_self hp]) 2 (by decide) (.int .i64 x.e.at') rfl
  simp only [List.set_set] at S3
  have S4 := S3.put flatEQ i (by rw [List.getElem?_set_self hci]) (by rw [List.length_set]; exact hn) p (⟨⟨x.e.id, x.e.name, x.e.at', z.e.kind, z.e.text, z.e.flds⟩, z.A, z.c⟩ : EQ) (⟨⟨x.e.id, x.e.name, x.e.at', x.e.kind, z.e.text, z.e.flds⟩, z.A, z.c⟩ : EQ) (by rw [List.getElem?_set_self hp]) 3 (by decide) (.int .i64 x.e.kind) rfl
  simp only [List.set_set] at S4
  have S5 := S4.put flatEQ i (by rw [List.getElem?_set_self hci]) (by rw [List.length_set]; exact hn) p (⟨⟨x.e.id, x.e.name, x.e.at', x.e.kind, z.e.text, z.e.flds⟩, z.A, z.c⟩ : EQ) (⟨⟨x.e.id, x.e.name, x.e.at', x.e.kind, x.e.text, z.e.flds⟩, z.A, z.c⟩ : EQ) (by rw [List.getElem?_set_self hp]) 4 (by decide) (.string x.e.text) rfl
  simp only [List.set_set] at S5
  have S6 := S5.put flatEQ i (by rw [List.getElem?_set_self hci]) (by rw [List.length_set]; exact hn) p (⟨⟨x.e.id, x.e.name, x.e.at', x.e.kind, x.e.text, z.e.flds⟩, z.A, z.c⟩ : EQ) x (by rw [List.getElem?_set_self hp]) 5 (by decide) (.slice x.A x.e.flds.length x.c) rfl
  simp only [List.set_set] at S6
  exact S6
end Go.Proofs.YteabhkmhogmoiaaGreatDoor

/- append of several elements to a slice of the call's own: a row that lies anywhere is put behind. -/
namespace Go.Proofs.YteabhkmhogmoiaaGreatDoor
open Go Go.RowKit
section
variable {α : Type} {r : Rep α} {f : α → List Value}
theorem map_flat_len (hl : ∀ x, (f x).length = r.size) : ∀ ys : List α, (ys.map f).flatten.length = ys.length * r.size
  | [] => by simp
  | y :: t => by rw [List.map_cons, List.flatten_cons, List.length_append, hl, map_flat_len hl t, List.length_cons, Nat.succ_mul]; omega
theorem Own.appN (hf : r.Flat f) {M : Nat → Prop} {w : World} {B E : Nat} {v : Value} {xs ys : List α} (h : Own r M B E w v xs) {T ty bytes : Nat} {z : Value} (sty : STy T E r.size bytes z) (hB : B ≤ w.heap.size) (hlen : xs.length + ys.length ≤ 100000000) (hby : bytes ≤ 1000)
    (ad : Addr) (c : Nat) (hc : ∀ j u, (ys.map f).flatten[j]? = some u → w.cell? (ad.add j) = some u) (h1 : ∀ y ∈ ys, ∀ u ∈ f y, u.oneCell' = true) (hfl : ∀ x, (f x).length = r.size) :
    ∃ v' w', (Builtin.append_ #[T, T] ty #[v, .slice (some ad) ys.length c]).run Tryz.prog w = .ok v' w' ∧ (∀ M', Own r M' B E w' v' (xs ++ ys)) ∧ w.grownBy w' v.ownBlock ∧ ∀ k, v'.ownBlock = some k → v.ownBlock = some k ∨ w.heap.size ≤ k := by
  obtain ⟨ls, hl, hr, ho2⟩ := h
  obtain ⟨i0, hi0, hz0, hz1, hz2⟩ := info_parts sty.info
  have hb3 : (xs.length + ys.length) * bytes ≤ 140737488355328 := by
    have := Nat.mul_le_mul (show xs.length + ys.length ≤ 100000001 by omega) hby
    omega
  have h63 : xs.length + ys.length ≤ maxLen := by unfold maxLen; omega
  have h1' : ∀ u ∈ (ys.map f).flatten, u.oneCell' = true := fun u hu => by
    obtain ⟨l, hl, hu⟩ := List.mem_flatten.1 hu
    obtain ⟨y, hy, rfl⟩ := List.mem_map.1 hl
    exact h1 y hy u hu
  obtain ⟨v', w', hrun, g1, g2, _⟩ := run_append_own (P := Tryz.prog) w B T ty E i0 z r.size bytes sty.under hi0 hz0 hz1 hz2 sty.zsize sty.pos _ xs.length _ ho2 ad ys.length c (ys.map f).flatten (map_flat_len hfl ys) hc h1' h63 hb3 hB
  have hwh := run_append_where (P := Tryz.prog) w B T ty E i0 z r.size bytes sty.under hi0 hz0 hz1 hz2 sty.zsize sty.pos _ xs.length _ ho2 ad ys.length c (ys.map f).flatten (map_flat_len hfl ys) hc h1' h63 hb3 hrun
  refine ⟨v', w', hrun, fun M' => ⟨ls ++ ys.map f, by simp [hl], fun j x l e1 e2 => (hf _ _ _ _).2 ?_, ?_⟩, g2, hwh⟩
  · rcases Nat.lt_or_ge j xs.length with hj | hj
    · rw [List.getElem?_append_left hj] at e1
      rw [List.getElem?_append_left (by omega)] at e2
      exact (hf _ _ _ _).1 (hr j x l e1 e2)
    · rw [List.getElem?_append_right hj] at e1
      rw [List.getElem?_append_right (by omega), hl, List.getElem?_map, e1] at e2
      exact (Option.some.inj e2).symm
  · rw [List.length_append, List.flatten_append]
    exact g1
end
section
variable {ops : Array Oper} {rest : List Oper} {o : Oper} {a : Act} {Q : Exit → Act → World → Prop}
theorem St.appN {α : Type} {r : Rep α} {f : α → List Value} (hf : r.Flat f) {b m : Nat} {w0 w : World} {cs : List Chunk} (S : St b m w0 w cs) (i : Nat) {B E : Nat} {v : Value} {xs : List α} (hi : cs[i]? = some (.own r B E v xs)) {T bytes : Nat} {z : Value} (ty : STy T E r.size bytes z)
    (hgd : o.guard = none) (s x : Operand) (ho : o.op = .call { callee := .builtin .append, args := #[s, x], argTypes := #[T, T] }) (ys : List α) (k c : Nat) (hk : k = ys.length) (hs : a.eval s = v) (ad : Addr) (hx : a.eval x = .slice (some ad) k c)
    (hc : ∀ j u, (ys.map f).flatten[j]? = some u → w.cell? (ad.add j) = some u) (h1 : ∀ y ∈ ys, ∀ u ∈ f y, u.oneCell' = true) (hfl : ∀ x, (f x).length = r.size) (hB : B ≤ w.heap.size) (hlen : xs.length + ys.length ≤ 100000000) (hby : bytes ≤ 1000)
    (h : ∀ v' w', St b m w0 w' (cs.set i (.own r B E v' (xs ++ ys))) → wpList Tryz.prog ops Q rest (a.put o.dst v') w') : wpList Tryz.prog ops Q (o :: rest) a w := by
  subst hk
  obtain ⟨v', w', hrun, ho', hg, hwh⟩ := Own.appN (ty := o.type) hf (S.ow i hi) ty hB hlen hby ad c hc h1 hfl
  have hbl : Below w0.heap.size w w' := (Below.refl _ w).grown hg S.g.size (fun k hk => S.new _ (List.mem_of_getElem? hi) k hk)
  have hskn : SKN (fun k => v.ownBlock = some k) w w' := ⟨hg.size, fun k hk hn => hg.block k hk (fun e => hn e.symm)⟩
  refine wpList_plain hgd fun _ hK => ?_
  unfold Oper.wp execOp
  simp only [ho, resolve, invoke, builtin, Sem.run_bind, Sem.run_pure, Result.andThen_ok, List.map_toArray, List.map_cons, List.map_nil, hs, hx, hrun]
  exact hK _ _ (h v' w' (S.upd i hi _ hskn (S.g.belowB hbl S.b0) (fun k e => hwh k e) (ho' _)))
theorem Mem.appN {α : Type} {r : Rep α} {f : α → List Value} (hf : r.Flat f) {w0 w : World} {cs : List Chunk} (S : Mem w0 w cs) (i : Nat) {B E : Nat} {v : Value} {xs : List α} (hi : cs[i]? = some (.own r B E v xs)) {T bytes : Nat} {z : Value} (ty : STy T E r.size bytes z)
    (hgd : o.guard = none) (s x : Operand) (ho : o.op = .call { callee := .builtin .append, args := #[s, x], argTypes := #[T, T] }) (ys : List α) (k c : Nat) (hk : k = ys.length) (hs : a.eval s = v) (ad : Addr) (hx : a.eval x = .slice (some ad) k c)
    (hc : ∀ j u, (ys.map f).flatten[j]? = some u → w.cell? (ad.add j) = some u) (h1 : ∀ y ∈ ys, ∀ u ∈ f y, u.oneCell' = true) (hfl : ∀ x, (f x).length = r.size) (hB : B ≤ w.heap.size) (hlen : xs.length + ys.length ≤ 100000000) (hby : bytes ≤ 1000)
    (h : ∀ v' w', Mem w0 w' (cs.set i (.own r B E v' (xs ++ ys))) → wpList Tryz.prog ops Q rest (a.put o.dst v') w') : wpList Tryz.prog ops Q (o :: rest) a w := by
  subst hk
  obtain ⟨v', w', hrun, ho', hg, hwh⟩ := Own.appN (ty := o.type) hf (S.ow i hi) ty hB hlen hby ad c hc h1 hfl
  have hbl : Below w0.heap.size w w' := (Below.refl _ w).grown hg S.b.size (fun k hk => S.new _ (List.mem_of_getElem? hi) k hk)
  have hskn : SKN (fun k => v.ownBlock = some k) w w' := ⟨hg.size, fun k hk hn => hg.block k hk (fun e => hn e.symm)⟩
  refine wpList_plain hgd fun _ hK => ?_
  unfold Oper.wp execOp
  simp only [ho, resolve, invoke, builtin, Sem.run_bind, Sem.run_pure, Result.andThen_ok, List.map_toArray, List.map_cons, List.map_nil, hs, hx, hrun]
  exact hK _ _ (h v' w' (S.upd i hi _ hskn (S.b.trans hbl) (fun k e => hwh k e) (ho' _)))
theorem alloc_size (w : World) (o : Obj) : (w.alloc o).heap.size = w.heap.size + 1 := by simp
end
theorem Mem.room {α : Type} {r : Rep α} {w0 w : World} {cs : List Chunk} (S : Mem w0 w cs) (i : Nat) {X E B cap : Nat} {cells : Array Value} (hi : cs[i]? = some (.loc X cells E)) (hB : B = w0.heap.size) (hc : cap ≤ maxLen) (hs : cells.size = cap * r.size) : Mem w0 w (cs.set i (.own r B E (.slice (some ⟨X, 0, none⟩) 0 cap) [])) := by
  subst hB
  exact S.upd i hi _ ⟨Nat.le_refl _, fun _ _ _ => rfl⟩ S.b (fun k e => .inl e) ⟨[], rfl, fun _ _ _ h => by simp at h, by simp, .inr ⟨X, cap, cells, rfl, (S.ge i hi).1, S.lv i hi, Nat.zero_le _, hc, hs, by simp⟩⟩
theorem flat_at {α : Type} {f : α → List Value} {n : Nat} (hf : ∀ x, (f x).length = n) : ∀ (xs : List α) (j : Nat) (u : Value), (xs.map f).flatten[j]? = some u → ∃ k x r, xs[k]? = some x ∧ (f x)[r]? = some u ∧ j = k * n + r
  | [], j, u, h => by simp at h
  | x :: t, j, u, h => by
    rw [List.map_cons, List.flatten_cons] at h
    by_cases hj : j < n
    · rw [List.getElem?_append_left (by rw [hf]; exact hj)] at h
      exact ⟨0, x, j, rfl, h, by simp⟩
    · rw [List.getElem?_append_right (by rw [hf]; omega), hf] at h
      obtain ⟨k, y, r, h1, h2, h3⟩ := flat_at hf t (j - n) u h
      exact ⟨k + 1, y, r, by simpa using h1, h2, by rw [Nat.succ_mul]; omega⟩
theorem Own.shape2 {α : Type} {r : Rep α} {N : Nat → Prop} {B E : Nat} {w : World} {v : Value} {xs : List α} (h : Own r N B E w v xs) : (v = .slice none 0 0 ∧ xs = []) ∨ ∃ g cap, v = .slice (some ⟨g, 0, none⟩) xs.length cap ∧ xs.length ≤ cap := by
  obtain ⟨ls, hl, hr, ho⟩ := h
  rcases ho.2 with ⟨e, hn⟩ | ⟨g, cap, cur, e, _, _, hc, _⟩
  · exact .inl ⟨e, List.length_eq_zero_iff.1 hn⟩
  · exact .inr ⟨g, cap, e, hc⟩
theorem Sl.flatCells {α : Type} {r : Rep α} {f : α → List Value} (hf : r.Flat f) (hl : ∀ x, (f x).length = r.size) {N : Nat → Prop} {w : World} {a : Addr} {xs : List α} (h : Sl r N w (some a) xs) : ∀ j u, (xs.map f).flatten[j]? = some u → w.cell? (a.add j) = some u := fun j u hu => by
  obtain ⟨k, x, q, h1, h2, rfl⟩ := flat_at hl xs j u hu
  obtain ⟨blk, off, l, e, _, _, hr, hc⟩ := h k x h1
  obtain rfl : a = ⟨blk, off, none⟩ := Option.some.inj e
  obtain rfl : l = f x := (hf _ _ _ _).1 hr
  have := hc q u h2
  rw [Nat.add_assoc] at this
  rw [Addr.add_lit]
  exact this
theorem Sl.nilOf {α : Type} {r : Rep α} {N : Nat → Prop} {w : World} {xs : List α} (h : Sl r N w none xs) : xs = [] := by
  cases xs with
  | nil => rfl
  | cons x t =>
    obtain ⟨blk, off, l, e, _⟩ := h 0 x rfl
    cases e
end Go.Proofs.YteabhkmhogmoiaaGreatDoor

/- clear of the tail of a slice of the call's own, and the front that stays. -/
namespace Go.Proofs.YteabhkmhogmoiaaGreatDoor
open Go Go.RowKit
section
variable {α : Type} {r : Rep α}
theorem Own.clearRun {M : Nat → Prop} {w : World} {B E g n cap : Nat} {xs : List α} (h : Own r M B E w (.slice (some ⟨g, 0, none⟩) n cap) xs) (hn : n = xs.length) {T ty bytes : Nat} {z : Value} (sty : STy T E r.size bytes z) (hzv : ∀ w, (zeroValue E).run Tryz.prog w = .ok z w) (hz1 : ∀ j, j < r.size → (z.cells[j]!).oneCell' = true) (k c : Nat) (hk : k ≤ n) :
    ∃ w', (Builtin.clear_ #[T] ty #[.slice (some ⟨g, k * r.size, none⟩) (n - k) c]).run Tryz.prog w = .ok (.tuple #[]) w' ∧ (∀ M', (∀ q, M' q → M q ∨ q = g) → Own r M' B E w' (.slice (some ⟨g, 0, none⟩) k cap) (xs.take k)) ∧ w.grownBy w' (some g) := by
  subst hn
  have hcut := h.cut k hk
  by_cases h0 : k = xs.length
  · refine ⟨w, ?_, fun M' hM => Own.monoD (fun q _ e => ?_) hcut, ⟨rfl, rfl, rfl, Nat.le_refl _, fun _ _ _ => rfl⟩⟩
    · rw [show xs.length - k = 0 by omega]
      simp [Builtin.clear_, run_underlying sty.under]
    · rcases hM q e with e | e
      · exact .inl e
      · exact .inr (by subst e; rfl)
  · obtain ⟨ls, hl, hr, ho⟩ := h
    rcases ho.2 with ⟨e, _⟩ | ⟨g', cap', cur, e, hB, hg, h5, h6, h7, h8⟩
    · cases e
    · cases e
      obtain ⟨m, hm⟩ : ∃ m, xs.length - k = m + 1 := ⟨xs.length - k - 1, by omega⟩
      have hzs : z.cells.size = r.size := sty.zsize
      have hpos : 0 < r.size := sty.pos
      obtain ⟨zs, hzs'⟩ : ∃ zs, zs = (Builtin.zeroCells z.cells (m + 1)).toList := ⟨_, rfl⟩
      have hzl : zs.length = (m + 1) * r.size := by rw [hzs', Array.length_toList, size_zeroCells, hzs]
      have hz1' : ∀ v ∈ zs, v.oneCell' = true := fun v hv => by
        rw [hzs'] at hv
        simp only [Builtin.zeroCells, Array.toList_map, List.mem_map] at hv
        obtain ⟨i, _, rfl⟩ := hv
        exact hz1 _ (by rw [hzs]; exact Nat.mod_lt _ hpos)
      have hfit : k * r.size + 0 + zs.length ≤ cur.size := by
        rw [hzl, h7, Nat.add_zero, ← Nat.add_mul]
        exact Nat.mul_le_mul_right _ (by omega)
      have hst := run_storeCells_at (P := Tryz.prog) g (k * r.size) E zs 0 cur w hg hfit hz1'
      refine ⟨w.setRow g (cur.toList.take (k * r.size + 0) ++ zs ++ cur.toList.drop (k * r.size + 0 + zs.length)).toArray, ?_, fun M' hM => ?_, ⟨rfl, rfl, rfl, by simp [World.setRow], fun q hq hne => setRow_other w g q _ (fun e => hne (by rw [e]))⟩⟩
      · rw [hm]
        simp [Builtin.clear_, run_underlying sty.under, hzv, ← hzs', hst]
      · obtain ⟨ls2, hl2, hr2, ho3⟩ := hcut
        have hkl : (xs.take k).length = k := by rw [List.length_take]; omega
        have hskn : SKN (fun q => q = g) w (w.setRow g (cur.toList.take (k * r.size + 0) ++ zs ++ cur.toList.drop (k * r.size + 0 + zs.length)).toArray) := ⟨by simp [World.setRow], fun q hq hne => setRow_other w g q _ hne⟩
        refine ⟨ls2, hl2, fun i x l e1 e2 => ?_, ho3.1, .inr ⟨g, cap, _, by rw [hkl], hB, setRow_heap w g cur _ E (0, 0) hg, by omega, h6, ?_, ?_⟩⟩
        · have h1 := hr2 i x l e1 e2
          have h2 := r.keep (hskn.mono fun q e => .inr (by rw [e]; rfl)) h1
          refine r.mono (fun q _ e => ?_) h2
          rcases e with e | e
          · rcases hM q e with e | e
            · exact .inl e
            · exact .inr (by rw [e]; rfl)
          · exact .inr e
        · rw [List.size_toArray, List.length_append, List.length_append, List.length_take, List.length_drop, Array.length_toList]
          rw [Nat.add_zero] at hfit ⊢
          omega
        · rcases ho3.2 with ⟨e, _⟩ | ⟨g2, cap2, cur2, e, _, hg2, _, _, _, h82⟩
          · cases e
          · simp only [Value.slice.injEq, Option.some.injEq, Addr.mk.injEq] at e
            obtain ⟨⟨rfl, _⟩, _, rfl⟩ := e
            rw [hg] at hg2
            cases hg2
            rw [hkl] at h82 ⊢
            rw [← h82]
            simp only [Nat.add_zero, List.append_assoc]
            rw [List.take_append_of_le_length (by rw [List.length_take, Array.length_toList]; omega), List.take_take, Nat.min_self]
end
section
variable {ops : Array Oper} {rest : List Oper} {o : Oper} {a : Act} {Q : Exit → Act → World → Prop}
theorem Mem.clearTail {α : Type} {r : Rep α} {w0 w : World} {cs : List Chunk} (S : Mem w0 w cs) (i : Nat) {B E g n cap : Nat} {xs : List α} (hi : cs[i]? = some (.own r B E (.slice (some ⟨g, 0, none⟩) n cap) xs)) (hn : n = xs.length) {T bytes : Nat} {z : Value} (sty : STy T E r.size bytes z) (hzv : ∀ w, (zeroValue E).run Tryz.prog w = .ok z w) (hz1 : ∀ j, j < r.size → (z.cells[j]!).oneCell' = true) (k c : Nat) (hk : k ≤ n)
    (hgd : o.guard = none) (x : Operand) (ho : o.op = .call { callee := .builtin .clear, args := #[x], argTypes := #[T] }) (off len : Nat) (hoff : off = k * r.size) (hlen : len = n - k) (hx : a.eval x = .slice (some ⟨g, off, none⟩) len c)
    (h : ∀ w', Mem w0 w' (cs.set i (.own r B E (.slice (some ⟨g, 0, none⟩) k cap) (xs.take k))) → wpList Tryz.prog ops Q rest (a.put o.dst (.tuple #[])) w') : wpList Tryz.prog ops Q (o :: rest) a w := by
  subst hoff hlen
  have hg0 := S.new _ (List.mem_of_getElem? hi) g rfl
  obtain ⟨w', hrun, hown, hg⟩ := Own.clearRun (ty := o.type) (S.ow i hi) hn sty hzv hz1 k c hk
  have hbl : Below w0.heap.size w w' := (Below.refl _ w).grown hg S.b.size (fun k hk => by cases hk; exact hg0)
  have hskn : SKN (fun q => Value.ownBlock (.slice (some ⟨g, 0, none⟩) n cap) = some q) w w' := ⟨hg.size, fun q hq hne => hg.block q hq (fun e => hne e.symm)⟩
  have S2 := S.upd i hi (.own r B E (.slice (some ⟨g, 0, none⟩) k cap) (xs.take k)) hskn (S.b.trans hbl) (fun q e => .inl e) (hown _ (fun q e => by
    rcases e with e | ⟨y, hy, e⟩
    · exact .inl (.inl e)
    · rcases mem_set_cases hy with rfl | ⟨j, _, hy⟩
      · exact .inr (Option.some.inj e).symm
      · exact .inl (.inr ⟨y, List.mem_of_getElem? hy, e⟩)))
  refine wpList_plain hgd fun K' hK' => ?_
  unfold Oper.wp
  simp [execOp, ho, resolve, invoke, builtin, hx, hrun, Result.andThen]
  exact hK' _ _ (h w' S2)
end
end Go.Proofs.YteabhkmhogmoiaaGreatDoor

/- What slices.IndexFunc and slices.DeleteFunc make of events of the call's own, for any condition. -/
namespace Go.Proofs.YteabhkmhogmoiaaGreatDoor
open Go Go.RowKit
def CondE (w0 : World) (cs : List Chunk) (B : Nat) (v : Value) (f : Nat) (caps : Array Value) (xs : List EQ) (P : EQ → Bool) : Prop :=
  ∀ (y : EQ) (w' : World) (ys : List EQ), y ∈ xs → Mem w0 w' (.own rEQ B 56 v ys :: cs) →
    Calls Tryz.prog f (#[.agg (evCs y.e y.A y.c)] ++ caps) w' fun e w'' => e = .returned (.bool (P y)) ∧ Below w'.heap.size w' w''
def GivesIdxE (P : EQ → Bool) (xs : List EQ) (w0 : World) (cs : List Chunk) (e : Ending) (w' : World) : Prop :=
  ∃ i : Int, e = .returned (.int .i64 i) ∧ Mem w0 w' cs ∧ ((i = -1 ∧ ∀ y ∈ xs, P y = false) ∨ ∃ (j : Nat) (y : EQ), i = j ∧ xs[j]? = some y ∧ P y = true ∧ ∀ z ∈ xs.take j, P z = false)
set_option maxHeartbeats 4000000 in
set_option maxRecDepth 100000 in
theorem idxE_own {w0 w : World} {cs : List Chunk} {B g n cap : Nat} {xs : List EQ} (P : EQ → Bool) (f : Nat) (caps : Array Value) (ef : ∀ args w, (callFunc f args).run Tryz.prog w = .ok (.enter f args) w) (S : Mem w0 w (.own rEQ B 56 (.slice (some ⟨g, 0, none⟩) n cap) xs :: cs)) (hn : n = xs.length) (hl : n ≤ 1000000) (hf : CondE w0 cs B (.slice (some ⟨g, 0, none⟩) n cap) f caps xs P) :
    Calls Tryz.prog 83 #[.slice (some ⟨g, 0, none⟩) n cap, .func (.func f) #[] caps] w (GivesIdxE P xs w0 (.own rEQ B 56 (.slice (some ⟨g, 0, none⟩) n cap) xs :: cs)) := by
  unfold CondE at hf
  have HF := Lib.hid hf
  have Hn := Lib.hid hn
  clear hf hn
  go_enter Tryz.func83, Tryz.ntmps83
  go_wp2_with fail
  go_loopw [8] (fun i wr => ∃ j : Nat, j ≤ n ∧ i = .int .i64 j ∧ Hid (∀ z ∈ xs.take j, P z = false) ∧ Mem w0 wr (.own rEQ B 56 (.slice (some ⟨g, 0, none⟩) n cap) xs :: cs)) (fun i _ => n - (intOf i).toNat)
  case atStart => exact ⟨0, Nat.zero_le _, rfl, (by show ∀ z ∈ _, _; simp), S⟩
  case round =>
    clear S
    obtain ⟨j, hj, rfl, HP, S⟩ := hrel
    by_cases hlt : j < n
    · obtain ⟨x, hx⟩ : ∃ x, xs[j]? = some x := ⟨_, List.getElem?_eq_getElem (by have := Hn.out; omega)⟩
      obtain ⟨⟨d0, d1, d2, d3, d4, d5⟩, _⟩ := (S.ow 0 rfl).eqAt Hn.out j x hx
      have Hx := Lib.hid hx
      clear hx
      have HS := Lib.hid S
      clear S
      go_wp2_with fail
      ((with_reducible refine (HF.out x wr xs (List.mem_of_getElem? Hx.out) HS.out).mono ?_); rintro e w2 ⟨rfl, hl2⟩)
      have S := HS.out.below hl2
      clear hl2 d0 d1 d2 d3 d4 d5 HS
      cases hp : P x with
      | false =>
        have HP2 : Hid (∀ z ∈ xs.take (j + 1), P z = false) := fun z hz => by
          rw [take_snoc Hx.out] at hz
          rcases List.mem_append.1 hz with hz | hz
          · exact HP.out z hz
          · rw [List.mem_singleton.1 hz]; exact hp
        clear hp
        go_wp2_with fail
        go_roundw
        case rel => exact ⟨j + 1, by omega, by go_num, HP2, S⟩
        case measure => simp [intOf]; omega
      | true =>
        have Hp := Lib.hid hp
        clear hp
        go_wp2_with fail
        go_ret
        exact ⟨j, rfl, S, .inr ⟨j, x, rfl, Hx.out, Hp.out, HP.out⟩⟩
    · have HP2 : Hid (∀ z ∈ xs, P z = false) := by
        have h1 := HP.out
        rw [List.take_of_length_le (by have := Hn.out; omega)] at h1
        exact h1
      go_wp2_with fail
      go_ret
      exact ⟨-1, rfl, S, .inl ⟨rfl, HP2.out⟩⟩
theorem idxE_nil (w : World) (f : Nat) (caps : Array Value) :
    Calls Tryz.prog 83 #[.slice none 0 0, .func (.func f) #[] caps] w fun e w' => e = .returned (.int .i64 (-1)) ∧ w = w' := by
  go_enter Tryz.func83, Tryz.ntmps83
  go_wp2_with fail
  go_loopw [8] (fun i wr => i = .int .i64 0 ∧ w = wr) (fun _ _ => 0)
  case atStart => exact ⟨rfl, rfl⟩
  case round =>
    obtain ⟨rfl, rfl⟩ := hrel
    go_wp2_with fail
    go_ret
    exact ⟨rfl, rfl⟩
theorem zeroEvS (w : World) : (zeroValue 56).run Tryz.prog w = .ok (.agg #[.string ⟨#[]⟩, .string ⟨#[]⟩, .int .i64 0, .int .i64 0, .string ⟨#[]⟩, .slice none 0 0]) w := by kernel_rfl
theorem oneZE (j : Nat) (h : j < rEQ.size) : (((Value.agg #[.string ⟨#[]⟩, .string ⟨#[]⟩, .int .i64 0, .int .i64 0, .string ⟨#[]⟩, .slice none 0 0]).cells)[j]!).oneCell' = true := by
  obtain rfl | rfl | rfl | rfl | rfl | rfl : j = 0 ∨ j = 1 ∨ j = 2 ∨ j = 3 ∨ j = 4 ∨ j = 5 := by
    have : j < 6 := h
    omega
  all_goals rfl
def keepE {α : Type} (P : α → Bool) (x : α) : Bool := !P x
theorem keepE_none {α : Type} {P : α → Bool} {xs : List α} (h : ∀ y ∈ xs, P y = false) : xs.filter (keepE P) = xs := List.filter_eq_self.2 fun y hy => by simp [keepE, h y hy]
structure KeepAt {α : Type} (P : α → Bool) (xs ys : List α) (i j : Nat) : Prop where
  len : ys.length = xs.length
  front : ys.take i = (xs.take j).filter (keepE P)
  rest : ys.drop j = xs.drop j
  le : i ≤ j
section
variable {α : Type} {P : α → Bool} {xs ys : List α} {i j : Nat}
theorem KeepAt.get (h : KeepAt P xs ys i j) {x : α} (hx : ys[j]? = some x) : xs[j]? = some x := by
  have h1 := congrArg (fun l : List α => l[0]?) h.rest
  simp only [List.getElem?_drop, Nat.add_zero] at h1
  rw [← h1]; exact hx
theorem KeepAt.skip (h : KeepAt P xs ys i j) {x : α} (hx : ys[j]? = some x) (hp : P x = true) : KeepAt P xs ys i (j + 1) := by
  refine ⟨h.len, ?_, ?_, Nat.le_succ_of_le h.le⟩
  · rw [take_snoc (h.get hx), List.filter_append, h.front]
    simp [keepE, hp]
  · have h1 := congrArg (List.drop 1) h.rest
    rw [List.drop_drop, List.drop_drop] at h1
    exact h1
theorem KeepAt.put (h : KeepAt P xs ys i j) (hij : i < j) {x : α} (hx : ys[j]? = some x) (hp : P x = false) : KeepAt P xs (ys.set i x) (i + 1) (j + 1) := by
  have hi : i < ys.length := by have := lt_of_get hx; omega
  refine ⟨by rw [List.length_set, h.len], ?_, ?_, by omega⟩
  · rw [take_snoc (h.get hx), List.filter_append, ← h.front, List.take_set, take_snoc (x := ys[i]) (List.getElem?_eq_getElem hi)]
    have hl : (ys.take i).length = i := by rw [List.length_take]; omega
    rw [List.set_append_right _ _ (by omega), hl, Nat.sub_self]
    simp [keepE, hp]
  · rw [List.drop_set_of_lt (by omega)]
    have h1 := congrArg (List.drop 1) h.rest
    rw [List.drop_drop, List.drop_drop] at h1
    exact h1
end
def GivesDelE (P : EQ → Bool) (xs : List EQ) (B : Nat) (w0 : World) (cs : List Chunk) (e : Ending) (w' : World) : Prop :=
  ∃ v, e = .returned v ∧ Mem w0 w' (.own rEQ B 56 v (xs.filter (keepE P)) :: cs)
set_option maxHeartbeats 8000000 in
set_option maxRecDepth 100000 in
theorem delE_own {w0 w : World} {cs : List Chunk} {B g n cap : Nat} {xs : List EQ} (P : EQ → Bool) (f : Nat) (caps : Array Value) (ef : ∀ args w, (callFunc f args).run Tryz.prog w = .ok (.enter f args) w) (S : Mem w0 w (.own rEQ B 56 (.slice (some ⟨g, 0, none⟩) n cap) xs :: cs)) (hn : n = xs.length) (hl : n ≤ 1000000) (hf : CondE w0 cs B (.slice (some ⟨g, 0, none⟩) n cap) f caps xs P) :
    Calls Tryz.prog 21 #[.slice (some ⟨g, 0, none⟩) n cap, .func (.func f) #[] caps] w (GivesDelE P xs B w0 cs) := by
  have Hix := Lib.hid (idxE_own P f caps ef S hn hl hf)
  unfold CondE at hf
  have HF := Lib.hid hf
  have Hn := Lib.hid hn
  clear hf hn S
  go_enter Tryz.func21, Tryz.ntmps21
  go_wp2_with fail
  ((with_reducible refine (Hix.out).mono ?_); rintro e w2 ⟨i, rfl, S, hc⟩)
  clear Hix
  rcases hc with ⟨rfl, hall⟩ | ⟨j0, y0, rfl, hy0, hp0, hbef⟩
  · have Hk := Lib.hid (keepE_none hall)
    clear hall
    go_wp2_with fail
    go_ret
    refine ⟨_, rfl, ?_⟩
    rw [Hk.out]; exact S
  · have hj0 : j0 < n := by have := lt_of_get hy0; have := Hn.out; omega
    have HD : Hid (KeepAt P xs xs j0 (j0 + 1)) := by
      refine ⟨rfl, ?_, rfl, Nat.le_succ _⟩
      rw [take_snoc hy0, List.filter_append, keepE_none hbef]
      simp [keepE, hp0]
    clear hy0 hp0 hbef
    go_wp2_with fail
    go_loopw [5, 6] (fun s5 s6 wr => ∃ (i j : Nat) (ys : List EQ), s5 = .int .i64 i ∧ s6 = .int .i64 j ∧ i < j ∧ j ≤ n ∧ Hid (KeepAt P xs ys i j) ∧ Mem w0 wr (.own rEQ B 56 (.slice (some ⟨g, 0, none⟩) n cap) ys :: cs)) (fun _ s6 _ => n - (intOf s6).toNat)
    case atStart => exact ⟨j0, j0 + 1, xs, rfl, by go_num, by omega, by omega, HD, S⟩
    case round =>
      clear S HD
      obtain ⟨i, j, ys, rfl, rfl, hij, hj, HD, S⟩ := hrel
      by_cases hlt : j < n
      · obtain ⟨x, hx⟩ : ∃ x, ys[j]? = some x := ⟨_, List.getElem?_eq_getElem (by have := Hn.out; have := HD.out.len; omega)⟩
        have hyl : Hid (n = ys.length) := by show _ = _; have := Hn.out; have := HD.out.len; omega
        obtain ⟨⟨d0, d1, d2, d3, d4, d5⟩, _⟩ := (S.ow 0 rfl).eqAt hyl.out j x hx
        have Hx := Lib.hid hx
        clear hx
        go_upto_region 8 with fail
        clear d0 d1 d2 d3 d4 d5
        obtain ⟨Y, hY⟩ : ∃ Y, Y = wr.heap.size := ⟨_, rfl⟩
        have Ly := LV.new wr wr.heap.size (evCs x.e x.A x.c) 56 rfl
        replace S := S.alloc (.cells (evCs x.e x.A x.c) 56)
        rw [← hY] at Ly ⊢
        have hYl : Y < (wr.alloc (.cells (evCs x.e x.A x.c) 56)).heap.size := by rw [hY]; simp
        clear hY
        generalize wr.alloc (.cells (evCs x.e x.A x.c) 56) = w3 at *
        have c0 := Ly.all
        have HS := Lib.hid S
        clear S
        go_wp2_with fail
        ((with_reducible refine (HF.out x w3 ys (List.mem_of_getElem? (HD.out.get Hx.out)) HS.out).mono ?_); rintro e w4 ⟨rfl, hl4⟩)
        have HS4 := Lib.hid (HS.out.below hl4)
        have Ly4 := LV.kb3 Ly hl4 hYl
        clear hl4 HS c0 Ly
        have c0 := Ly4.all
        cases hp : P x with
        | true =>
          have HD2 := Lib.hid (HD.out.skip Hx.out hp)
          clear hp HD
          go_wp2_with fail
          go_roundw
          case rel => exact ⟨_, _, _, _, _, _, _, _, _, _, _, _, _, _, _, _, _, _, _, _, _, _, _, ⟨i, j + 1, ys, rfl, by go_num, by omega, by omega, HD2, HS4.out⟩, rfl⟩
          case measure => simp [intOf]; omega
        | false =>
          have HD2 := Lib.hid (HD.out.put hij Hx.out hp)
          clear hp HD
          obtain ⟨z, hz⟩ : ∃ z, ys[i]? = some z := ⟨_, List.getElem?_eq_getElem (by have := hyl.out; omega)⟩
          obtain ⟨⟨e0, e1, e2, e3, e4, e5⟩, ff⟩ := (HS4.out.ow 0 rfl).eqAt hyl.out i z hz
          have f0 : w4.frozen? ⟨g, i * 6, none⟩ = false := ff 0 (by omega)
          have f1 := ff 1 (by omega)
          have f2 := ff 2 (by omega)
          have f3 := ff 3 (by omega)
          have f4 := ff 4 (by omega)
          have f5 := ff 5 (by omega)
          have Hz := Lib.hid hz
          clear hz ff
          go_wp2_with fail
          have S1 := HS4.out.putEQ 0 rfl hyl.out i z x Hz.out
          simp only [List.set_cons_zero] at S1
          go_roundw
          case rel => exact ⟨_, _, _, _, _, _, _, _, _, _, _, _, _, _, _, _, _, _, _, _, _, _, _, ⟨i + 1, j + 1, ys.set i x, by go_num, by go_num, by omega, by omega, HD2, S1⟩, rfl⟩
          case measure => simp [intOf]; omega
      · have hyl : Hid (n = ys.length) := by show _ = _; have := Hn.out; have := HD.out.len; omega
        have HT : Hid (ys.take i = xs.filter (keepE P)) := by
          show _ = _
          rw [HD.out.front, List.take_of_length_le (by have := Hn.out; omega)]
        have HTl : Hid (i = (xs.filter (keepE P)).length) := by show _ = _; rw [← HT.out, List.length_take]; have := hyl.out; omega
        clear HD
        have hcap : n ≤ cap := by
          obtain ⟨g2, cap2, e2, h2⟩ := (S.ow 0 rfl).form (by have := hyl.out; omega)
          have := hyl.out
          simp only [Value.slice.injEq] at e2
          omega
        go_wp2_with (refine S.clearTail 0 rfl hyl.out tyEvt zeroEvS oneZE i (cap - i) (by omega) rfl _ rfl (i * 6) (n - i) rfl rfl rfl ?_; intro w5 S5)
        go_ret
        refine ⟨_, rfl, ?_⟩
        rw [HT.out] at S5
        exact S5
theorem delE_any {w0 w : World} {cs : List Chunk} {B : Nat} {v : Value} {xs : List EQ} (P : EQ → Bool) (f : Nat) (caps : Array Value) (ef : ∀ args w, (callFunc f args).run Tryz.prog w = .ok (.enter f args) w) (S : Mem w0 w (.own rEQ B 56 v xs :: cs)) (hl : xs.length ≤ 1000000) (hf : CondE w0 cs B v f caps xs P) :
    Calls Tryz.prog 21 #[v, .func (.func f) #[] caps] w (GivesDelE P xs B w0 cs) := by
  rcases (S.ow 0 rfl).shape2 with ⟨rfl, rfl⟩ | ⟨g, cap, rfl, hc⟩
  · clear hf
    go_enter Tryz.func21, Tryz.ntmps21
    go_wp2_with fail
    ((with_reducible refine (idxE_nil w f caps).mono ?_); rintro e _ ⟨rfl, rfl⟩)
    go_wp2_with fail
    go_ret
    exact ⟨_, rfl, S⟩
  · exact delE_own P f caps ef S rfl hl hf
end Go.Proofs.YteabhkmhogmoiaaGreatDoor

/- Orders by comparing: laws of a comparison, one behind another, and what they say of sorted lists. -/
namespace Go.Proofs.YteabhkmhogmoiaaGreatDoor
open Go Go.RowKit Go.Sort Go.Shelf
structure CmpOk {α : Type} (c : α → α → Int) : Prop where
  anti : ∀ a b, c a b < 0 ↔ 0 < c b a
  trans : ∀ a b d, c a b ≤ 0 → c b d ≤ 0 → c a d ≤ 0
theorem CmpOk.refl {α : Type} {c : α → α → Int} (h : CmpOk c) (a : α) : c a a = 0 := by
  have := h.anti a a
  omega
theorem CmpOk.zero {α : Type} {c : α → α → Int} (h : CmpOk c) {a b : α} (e : c a b = 0) : c b a = 0 := by
  have h1 := h.anti a b
  have h2 := h.anti b a
  omega
theorem CmpOk.lt {α : Type} {c : α → α → Int} (h : CmpOk c) {a b d : α} (h1 : c a b < 0) (h2 : c b d ≤ 0) : c a d < 0 := by
  have h3 := h.trans a b d (by omega) h2
  have h4 := h.anti a b
  have h5 := h.anti a d
  have h6 := h.anti d a
  have h7 := h.trans b d a h2
  omega
theorem CmpOk.lt' {α : Type} {c : α → α → Int} (h : CmpOk c) {a b d : α} (h1 : c a b ≤ 0) (h2 : c b d < 0) : c a d < 0 := by
  have h3 := h.trans a b d h1 (by omega)
  have h4 := h.anti b d
  have h5 := h.anti a d
  have h6 := h.anti d a
  have h7 := h.trans d a b
  omega
def lexC {α : Type} (c d : α → α → Int) (a b : α) : Int := if c a b ≠ 0 then c a b else d a b
theorem CmpOk.lex {α : Type} {c d : α → α → Int} (hc : CmpOk c) (hd : CmpOk d) : CmpOk (lexC c d) where
  anti a b := by
    have h1 := hc.anti a b
    have h2 := hc.anti b a
    have h3 := hd.anti a b
    unfold lexC
    split <;> split <;> omega
  trans a b e h1 h2 := by
    unfold lexC at h1 h2 ⊢
    by_cases e1 : c a b = 0
    · rw [if_neg (by omega)] at h1
      by_cases e2 : c b e = 0
      · rw [if_neg (by omega)] at h2
        have h3 := hc.trans a b e (by omega) (by omega)
        have h4 := hc.trans e b a (by have := hc.zero e2; omega) (by have := hc.zero e1; omega)
        have h5 := hc.anti e a
        have h6 := hc.anti a e
        rw [if_neg (by omega)]
        exact hd.trans a b e h1 h2
      · rw [if_pos e2] at h2
        have := hc.lt' (a := a) (b := b) (d := e) (by omega) (by omega)
        rw [if_pos (by omega)]; omega
    · rw [if_pos e1] at h1
      by_cases e2 : c b e = 0
      · have := hc.lt (a := a) (b := b) (d := e) (by omega) (by omega)
        rw [if_pos (by omega)]; omega
      · rw [if_pos e2] at h2
        have := hc.lt (a := a) (b := b) (d := e) (by omega) (by omega)
        rw [if_pos (by omega)]; omega
theorem CmpOk.of {α β : Type} {c : β → β → Int} (h : CmpOk c) (f : α → β) : CmpOk (fun a b => c (f a) (f b)) := ⟨fun _ _ => h.anti _ _, fun _ _ _ => h.trans _ _ _⟩
theorem cmpOkI : CmpOk Lib.compareInt where
  anti a b := by unfold Lib.compareInt; split <;> split <;> (try split) <;> (try split) <;> omega
  trans a b d h1 h2 := by unfold Lib.compareInt at *; split at h1 <;> split at h2 <;> (try split at h1) <;> (try split at h2) <;> split <;> (try split) <;> omega
theorem CmpOk.swo {α : Type} {c : α → α → Int} (h : CmpOk c) : Go.Sort.SWO (ltOf c) where
  irrefl a := by unfold ltOf; simp [h.refl a]
  trans a b d h1 h2 := by
    unfold ltOf at *
    simp only [decide_eq_true_eq] at *
    exact h.lt h1 (by omega)
  ntrans a b d h1 h2 := by
    unfold ltOf at *
    simp only [decide_eq_false_iff_not] at *
    intro h3
    have h4 := h.anti a b
    have h5 := h.anti b a
    have h6 := h.anti b d
    have h7 := h.anti d b
    have h8 := h.lt' (a := b) (b := a) (d := d) (by omega) h3
    omega
theorem strict_eq {α : Type} (lt : α → α → Prop) (irr : ∀ x, ¬ lt x x) (tr : ∀ x y z, lt x y → lt y z → lt x z) : ∀ (l m : List α), l.Pairwise lt → m.Pairwise lt → (∀ x, x ∈ l ↔ x ∈ m) → l = m
  | [], [], _, _, _ => rfl
  | [], y :: s, _, _, h => absurd ((h y).2 (by simp)) (by simp)
  | x :: r, [], _, _, h => absurd ((h x).1 (by simp)) (by simp)
  | x :: r, y :: s, hl, hm, h => by
    obtain ⟨h1, h2⟩ := List.pairwise_cons.1 hl
    obtain ⟨h3, h4⟩ := List.pairwise_cons.1 hm
    have hxy : x = y := by
      rcases List.mem_cons.1 ((h x).1 (by simp)) with e | hx
      · exact e
      · rcases List.mem_cons.1 ((h y).2 (by simp)) with e | hy
        · exact e.symm
        · exact absurd (tr x y x (h1 y hy) (h3 x hx)) (irr x)
    subst hxy
    congr 1
    refine strict_eq lt irr tr r s h2 h4 fun z => ?_
    constructor
    · intro hz
      rcases List.mem_cons.1 ((h z).1 (by simp [hz])) with rfl | e
      · exact absurd (h1 z hz) (irr z)
      · exact e
    · intro hz
      rcases List.mem_cons.1 ((h z).2 (by simp [hz])) with rfl | e
      · exact absurd (h3 z hz) (irr z)
      · exact e
theorem cmpOkS : CmpOk cmpS where
  anti a b := by rw [cmpS_neg, cmpS_pos]
  trans a b d h1 h2 := by
    have e1 := cmpS_neg a b
    have e2 := cmpS_neg b d
    have e3 := cmpS_neg a d
    have z1 := cmpS_zero a b
    have z2 := cmpS_zero b d
    by_cases h3 : cmpS a b = 0
    · rw [z1.1 h3]; exact h2
    · by_cases h4 : cmpS b d = 0
      · rw [← z2.1 h4]; exact h1
      · have := e3.2 (ltS_trans (e1.1 (by omega)) (e2.1 (by omega)))
        omega
end Go.Proofs.YteabhkmhogmoiaaGreatDoor

/- Calls that only draw and make blocks; CompareIds and handref2.Order so told. -/
namespace Go.Proofs.YteabhkmhogmoiaaGreatDoor
open Go Go.RowKit Go.Sort Go.Shelf
def Grew (w w' : World) : Prop := ∃ (q : Nat) (os : Array Obj), w' = grow (w.drewN q) os
theorem Grew.refl (w : World) : Grew w w := ⟨0, #[], by rw [grow_empty]; rfl⟩
theorem Grew.alloc {w w' : World} (h : Grew w w') (o : Obj) : Grew w (w'.alloc o) := by
  obtain ⟨q, os, rfl⟩ := h
  refine ⟨q, os.push o, ?_⟩
  unfold grow World.alloc
  simp only [Array.append_push]
theorem Grew.drew {w w' : World} (h : Grew w w') : Grew w w'.drew := by
  obtain ⟨q, os, rfl⟩ := h
  exact ⟨q + 1, os, rfl⟩
theorem Grew.trans {u v w : World} (h : Grew u v) (k : Grew v w) : Grew u w := by
  obtain ⟨q, os, rfl⟩ := h
  obtain ⟨p, os', rfl⟩ := k
  refine ⟨q + p, os ++ os', ?_⟩
  unfold grow World.drewN
  simp only [Array.append_assoc, Nat.add_assoc]
theorem Grew.below {w w' : World} (h : Grew w w') : Below w.heap.size w w' := by
  obtain ⟨q, os, rfl⟩ := h
  refine ⟨rfl, rfl, rfl, ?_, fun k hk => ?_⟩
  · show w.heap.size ≤ (w.heap ++ os).size
    simp
  · show (w.heap ++ os)[k]? = w.heap[k]?
    exact Array.getElem?_append_left hk
theorem Grew.ofDrewn {u w w' : World} (h : Grew u w) (hd : Drewn w w') : Grew u w' := by
  rw [show w' = w.drew from hd]; exact h.drew
set_option maxHeartbeats 2000000 in
set_option maxRecDepth 100000 in
theorem compareIdsG_any (k1 k2 : Int) (t1 t2 : ByteArray) (w : World) :
    Calls Tryz.prog 175 #[.agg #[.int .i64 k1, .string t1], .agg #[.int .i64 k2, .string t2]] w fun e w' => e = .returned (.int .i64 (idCmp k1 t1 k2 t2)) ∧ Grew w w' := by
  obtain ⟨R, HR⟩ : ∃ R, Hid (idCmp k1 t1 k2 t2 = R) := ⟨_, Lib.hid rfl⟩
  rw [HR.out]
  have lv1 := (LV.new w w.heap.size #[.int .i64 k1, .string t1] 35 rfl).alloc (.cells #[.int .i64 k2, .string t2] 35)
  have lv2 := LV.new (w.alloc (.cells #[.int .i64 k1, .string t1] 35)) (w.heap.size + 1) #[.int .i64 k2, .string t2] 35 (by simp)
  have Hb : Hid (Grew w ((w.alloc (.cells #[.int .i64 k1, .string t1] 35)).alloc (.cells #[.int .i64 k2, .string t2] 35))) := ((Grew.refl _).alloc _).alloc _
  go_enter Tryz.func175, Tryz.ntmps175
  go_wp2_with fail
  refine wp_region_mix (TwoIds w.heap.size (w.heap.size + 1) k1 t1 k2 t2) [(true, 0), (true, 1), (true, 2), (true, 3), (true, 5), (true, 6), (true, 7), (true, 8), (false, 4), (false, 9), (false, 10), (false, 11), (true, 12)] (by kernel_rfl) (by kernel_rfl) (fun w' hd => ⟨lv1.keep (SK.ofBelow (b := w.heap.size + 2) (hd.below _)) (by omega), lv2.keep (SK.ofBelow (b := w.heap.size + 2) (hd.below _)) (by omega)⟩) (fun KK hKK wd hd_wd => ?_)
  have hC : TwoIds w.heap.size (w.heap.size + 1) k1 t1 k2 t2 wd := ⟨lv1.keep (SK.ofBelow (b := w.heap.size + 2) (hd_wd.below _)) (by omega), lv2.keep (SK.ofBelow (b := w.heap.size + 2) (hd_wd.below _)) (by omega)⟩
  have Hbd : Hid (Grew w wd) := Hb.out.ofDrewn hd_wd
  clear lv1 lv2 Hb hd_wd
  repeat (refine mix_p rfl (fun K hK => ?_); go_simp; (try go_bits); (try simp (disch := omega) only [if_pos]); (try simp (disch := omega) only [if_neg]); (try simp (disch := omega) only [dif_pos]); (try simp (disch := omega) only [dif_neg]); (try go_simp); (refine hK _ ?_; clear hK K))
  refine mix_load (.int .i64 k1) rfl rfl rfl rfl (fun _ => rfl) (fun w' h => h.1.cell 0 _ rfl) ?_
  repeat (refine mix_p rfl (fun K hK => ?_); go_simp; (try go_bits); (try simp (disch := omega) only [if_pos]); (try simp (disch := omega) only [if_neg]); (try simp (disch := omega) only [dif_pos]); (try simp (disch := omega) only [dif_neg]); (try go_simp); (refine hK _ ?_; clear hK K))
  refine mix_load (.int .i64 k2) rfl rfl rfl rfl (fun _ => rfl) (fun w' h => h.2.cell 0 _ rfl) ?_
  repeat (refine mix_p rfl (fun K hK => ?_); go_simp; (try go_bits); (try simp (disch := omega) only [if_pos]); (try simp (disch := omega) only [if_neg]); (try simp (disch := omega) only [dif_pos]); (try simp (disch := omega) only [dif_neg]); (try go_simp); (refine hK _ ?_; clear hK K))
  refine mix_load (.string t1) rfl rfl rfl rfl (fun _ => rfl) (fun w' h => h.1.cell 1 _ rfl) ?_
  repeat (refine mix_p rfl (fun K hK => ?_); go_simp; (try go_bits); (try simp (disch := omega) only [if_pos]); (try simp (disch := omega) only [if_neg]); (try simp (disch := omega) only [dif_pos]); (try simp (disch := omega) only [dif_neg]); (try go_simp); (refine hK _ ?_; clear hK K))
  refine mix_load (.string t2) rfl rfl rfl rfl (fun _ => rfl) (fun w' h => h.2.cell 1 _ rfl) ?_
  refine mix_l rfl (fun K hK => ?_) hC
  go_wp2_with fail
  ((with_reducible refine (cmpInt_any k1 k2 _).mono ?_); rintro e _ ⟨rfl, rfl⟩)
  go_wp2_with fail
  refine ⟨hC, ?_⟩
  refine mix_l rfl (fun K hK => ?_) hC
  go_wp2_with fail
  ((with_reducible refine (compareS_any t1 t2 _).mono ?_); rintro e _ ⟨rfl, rfl⟩)
  go_wp2_with fail
  refine ⟨hC, ?_⟩
  refine mix_l rfl (fun K hK => ?_) hC
  go_wp2_with fail
  have hC2 : TwoIds w.heap.size (w.heap.size + 1) k1 t1 k2 t2 (wd.alloc (.cells #[.int .i64 (Lib.compareInt k1 k2), .int .i64 (cmpS t1 t2)] 3)) := ⟨hC.1.alloc _, hC.2.alloc _⟩
  refine ⟨hC2, ?_⟩
  refine mix_l rfl (fun K hK => ?_) hC2
  have c0 : (wd.alloc (.cells #[.int .i64 (Lib.compareInt k1 k2), .int .i64 (cmpS t1 t2)] 3)).cell? ⟨wd.heap.size, 0, none⟩ = some (.int .i64 (Lib.compareInt k1 k2)) := by rw [World.cell?_alloc_at _ _ _ _ rfl]; rfl
  have c1 : (wd.alloc (.cells #[.int .i64 (Lib.compareInt k1 k2), .int .i64 (cmpS t1 t2)] 3)).cell? ⟨wd.heap.size, 1, none⟩ = some (.int .i64 (cmpS t1 t2)) := by rw [World.cell?_alloc_at _ _ _ _ rfl]; rfl
  have Hor := Lib.hid (or_any wd.heap.size _ _ _ c0 c1)
  clear c0 c1
  have HR2 : Hid ((if Lib.compareInt k1 k2 ≠ 0 then Lib.compareInt k1 k2 else cmpS t1 t2) = R) := by
    show _ = _
    rw [← HR.out, idCmp, Lib.compareInt]
    by_cases h1 : k1 < k2
    · simp [h1]
    · by_cases h2 : k1 = k2
      · simp [h2]
      · have h3 : k2 < k1 := by omega
        simp [h1, h2, h3]
  rw [HR2.out] at Hor
  clear HR HR2
  go_wp2_with fail
  ((with_reducible refine (Hor.out).mono ?_); rintro e _ ⟨rfl, rfl⟩)
  go_wp2_with fail
  refine ⟨hC2, ?_⟩
  repeat (refine mix_p rfl (fun K hK => ?_); go_simp; (try go_bits); (try simp (disch := omega) only [if_pos]); (try simp (disch := omega) only [if_neg]); (try simp (disch := omega) only [dif_pos]); (try simp (disch := omega) only [dif_neg]); (try go_simp); (refine hK _ ?_; clear hK K))
  refine mix_nil ?_
  simp only [Exit.then]
  refine hKK _ _ ?_
  go_wp2_with fail
  go_ret
  exact ⟨rfl, Hbd.out.alloc _⟩
set_option maxHeartbeats 2000000 in
set_option maxRecDepth 100000 in
theorem orderG_any (k1 k2 : Int) (t1 t2 : ByteArray) (w : World) :
    Calls Tryz.prog 114 #[.agg #[.int .i64 k1, .string t1], .agg #[.int .i64 k2, .string t2]] w fun e w' => e = .returned (.int .i64 (idCmp k1 t1 k2 t2)) ∧ Grew w w' := by
  by_cases hk : k1 = k2
  · subst hk
    obtain ⟨R, HR⟩ : ∃ R, Hid (idCmp k1 t1 k1 t2 = R) := ⟨_, Lib.hid rfl⟩
    rw [HR.out]
    have Hb : Hid (Grew w ((w.alloc (.cells #[.int .i64 k1, .string t1] 35)).alloc (.cells #[.int .i64 k1, .string t2] 35))) := ((Grew.refl _).alloc _).alloc _
    go_enter Tryz.func114, Tryz.ntmps114
    go_wp2_with fail
    all_goals (go_ret; refine ⟨ret_i ?_, Hb.out⟩; rw [← HR.out]; unfold idCmp cmpS; clear HR Hb; simp_all)
  · have hk' : (k1 == k2) = false := by simpa using hk
    obtain ⟨R, HR⟩ : ∃ R, Hid (idCmp k1 t1 k2 t2 = R) := ⟨_, Lib.hid rfl⟩
    rw [HR.out]
    have Hb : Hid (Grew w ((w.alloc (.cells #[.int .i64 k1, .string t1] 35)).alloc (.cells #[.int .i64 k2, .string t2] 35))) := ((Grew.refl _).alloc _).alloc _
    go_enter Tryz.func114, Tryz.ntmps114
    go_wp2_with fail
    all_goals
      go_ret
      refine ⟨ret_i ?_, Hb.out⟩
      rw [← HR.out]
      unfold idCmp
      first
        | (rw [if_pos (by assumption)]; done)
        | (rw [if_neg (by omega), if_neg hk]; done)
end Go.Proofs.YteabhkmhogmoiaaGreatDoor

/- slices.SortFunc at a slice of structs of the call's own: what was there, in order. -/
namespace Go.Proofs.YteabhkmhogmoiaaGreatDoor
open Go Go.RowKit Go.Sort Go.Shelf
theorem flatK_val {T : Type} [Inhabited T] {P : T → Prop} [Inhabited {x // P x}] (f : T → List Value) (k : Nat) (d : Array {x // P x}) : flatK (fun x : {x // P x} => f x.1) k d = flatK f k (d.map Subtype.val) := by
  unfold flatK
  rw [Array.size_map]
  refine Array.map_congr_left fun t ht => ?_
  have h1 : t < d.size * k := by simpa using ht
  have hk : 0 < k := by
    rcases Nat.eq_zero_or_pos k with h | h
    · subst h; simp at h1
    · exact h
  have h2 : t / k < d.size := Nat.div_lt_of_lt_mul (by rw [Nat.mul_comm]; exact h1)
  rw [getElem!_pos d _ h2, getElem!_pos (d.map Subtype.val) _ (by simpa using h2), Array.getElem_map]
def GivesSorted {T : Type} (r : Rep T) (c : T → T → Int) (w0 : World) (cs : List Chunk) (i B E : Nat) (v : Value) (xs : List T) (e : Ending) (w' : World) : Prop :=
  e = .returned (.tuple #[]) ∧ ∃ ys : List T, ys.Perm xs ∧ ys.Pairwise (fun a b => c a b ≤ 0) ∧ Mem w0 w' (cs.set i (.own r B E v ys))
theorem sortFn_own {T : Type} [Inhabited T] {r : Rep T} {f : T → List Value} (hf : r.Flat f) (hk0 : 0 < r.size) (hk : ∀ x, (f x).length = r.size) (h1 : ∀ x, ∀ v ∈ f x, v.oneCell' = true) {ρ : Go.Shelf.Ren} (L : SlLaysF0.n6 Tryz.prog ρ)
    (aE : ∀ w, (isAgg (ρ.t 24)).run Tryz.prog w = .ok true w) (zE : ∀ w, (Go.sizeOf (ρ.t 24)).run Tryz.prog w = .ok r.size w) (P : T → Prop) (cf c : T → T → Int) (hc : CmpOk c) (hcf : ∀ a b, cf a b < 0 ↔ c a b < 0) (g : Nat)
    (eg : ∀ args w, (callFunc g args).run Tryz.prog w = .ok (.enter g args) w)
    (hcmp : ∀ a b, P a → P b → ∀ w, Calls Tryz.prog g #[.agg (f a).toArray, .agg (f b).toArray] w fun e w' => e = .returned (.int .i64 (cf a b)) ∧ Grew w w')
    {w0 w : World} {cs : List Chunk} (S : Mem w0 w cs) (i : Nat) {B E : Nat} {v : Value} {xs : List T} (hi : cs[i]? = some (.own r B E v xs)) (hP : ∀ x ∈ xs, P x) (hl : xs.length ≤ 1000000) :
    Calls Tryz.prog (ρ.f 6) #[v, .func (.func g) #[] #[]] w (GivesSorted r c w0 cs i B E v xs) := by
  cases hxs : xs with
  | nil =>
    subst hxs
    obtain ⟨A, c1, rfl⟩ := (S.ow i hi).len
    refine (AnyF.slices_SortFunc_none L A c1 _ w).mono ?_
    rintro e w' ⟨rfl, rfl⟩
    exact ⟨rfl, [], List.Perm.refl _, List.Pairwise.nil, by
      have : cs.set i (.own r B E (.slice A ([] : List T).length c1) []) = cs := by
        obtain ⟨h2, h3⟩ := List.getElem?_eq_some_iff.1 hi
        rw [← h3]; exact List.set_getElem_self h2
      rw [this]; exact S⟩
  | cons x0 r0 =>
    rw [← hxs]
    have hx0 : P x0 := hP x0 (by rw [hxs]; simp)
    haveI : Inhabited {x // P x} := ⟨⟨x0, hx0⟩⟩
    have hne : 1 ≤ xs.length := by rw [hxs]; simp
    obtain ⟨gb, cap, rfl, hcap⟩ := (S.ow i hi).form hne
    have hg := S.lt (List.mem_of_getElem? hi) (k := gb) rfl
    have hH := Own.holdsK hf hk0 (S.ow i hi) rfl hk
    obtain ⟨d, hd⟩ : ∃ d : Array {x // P x}, d.map Subtype.val = xs.toArray := ⟨(xs.attach.map fun x => (⟨x.1, hP x.1 x.2⟩ : {x // P x})).toArray, by simp [Function.comp_def]⟩
    have hds : d.size = xs.length := by have := congrArg Array.size hd; simpa using this
    have hH2 : HoldsK (fun x : {x // P x} => f x.1) r.size w gb 0 d := by
      unfold HoldsK at hH ⊢
      rw [flatK_val, hd]; exact hH
    have hcon := AnyQ.slices_SortFunc L r.size aE zE (fun x : {x // P x} => f x.1) (fun x => hk x.1) (fun x => h1 x.1) (fun a b => cf a.1 b.1)
      (by
        have h2 : ltOf (fun a b : {x // P x} => cf a.1 b.1) = ltOf (fun a b : {x // P x} => c a.1 b.1) := by
          funext a b
          unfold ltOf
          rw [decide_eq_decide]; exact hcf a.1 b.1
        rw [h2]
        exact (hc.of (Subtype.val : {x // P x} → T)).swo)
      g #[] gb 0 cap d w eg (fun m os dk hs x y => hcmp x.1 y.1 x.2 y.2 _) hH2 hg (by omega)
    rw [hds] at hcon
    refine hcon.mono ?_
    rintro e w' ⟨rfl, d', n, os, hp, hs, rfl⟩
    obtain ⟨hp1, _, hp2⟩ := hp
    have hds' : d'.size = xs.length := hp1.trans hds
    have hpl : d'.toList.Perm d.toList := by
      have e1 : d'.extract 0 xs.length = d' := by rw [← hds']; simp
      have e2 : d.extract 0 xs.length = d := by rw [← hds]; simp
      rw [e1, e2] at hp2; exact hp2
    refine ⟨rfl, d'.toList.map Subtype.val, ?_, ?_, ?_⟩
    · have h3 := hpl.map Subtype.val
      have h4 : d.toList.map Subtype.val = xs := by
        have := congrArg Array.toList hd
        simpa using this
      rw [h4] at h3; exact h3
    · rw [List.pairwise_map, List.pairwise_iff_getElem]
      intro p q hp' hq hpq
      have hp3 : p < d'.size := by simpa using hp'
      have hq3 : q < d'.size := by simpa using hq
      have h5 := hs p q (Nat.zero_le _) hpq (by omega)
      rw [getElem!_pos d' q hq3, getElem!_pos d' p hp3] at h5
      unfold ltOf at h5
      simp only [decide_eq_false_iff_not] at h5
      rw [hcf] at h5
      have h6 := hc.anti d'[q].1 d'[p].1
      have h7 := hc.anti d'[p].1 d'[q].1
      simp only [Array.getElem_toList]
      omega
    · have h8 : sortWorldK (fun x : {x // P x} => f x.1) r.size w gb 0 n d' os = sortWorldK f r.size w gb 0 n (d'.toList.map Subtype.val).toArray os := by
        unfold sortWorldK putRowK
        rw [flatK_val]
        rw [← Array.toList_map, Array.toArray_toList]
      rw [h8]
      exact S.sortedK hf hk0 hk i hi (by rw [List.length_map, Array.length_toList, hds'])
end Go.Proofs.YteabhkmhogmoiaaGreatDoor

/- What slices.Clone, slices.SortFunc and handmake.Sorted make of events. -/
namespace Go.Proofs.YteabhkmhogmoiaaGreatDoor
open Go Go.RowKit Go.Sort Go.Shelf
def GivesOwnE (l : List EQ) (w : World) (e : Ending) (w' : World) : Prop := ∃ v, e = .returned v ∧ Mem w w' [.own rEQ w.heap.size 56 v l]
set_option maxHeartbeats 4000000 in
set_option maxRecDepth 100000 in
theorem cloneE_any (A : Option Addr) (l : List EQ) (c : Nat) (w : World) (hL : Sl rEQ (fun _ => False) w A l) (hl : l.length ≤ 1000) (hc : A = none → c = 0) :
    Calls Tryz.prog 22 #[.slice A l.length c] w (GivesOwnE l w) := by
  have he : ∀ (a : Option Addr) (n c : Nat) (w : World), (binOp .eql 30 (.slice a n c) (.slice none 0 0)).run Tryz.prog w = .ok (.bool a.isNone) w := fun a n c w => Lib.run_eql_slice_nil w _ _ a n c 0 0 tyEvt.under
  cases A with
  | none =>
    obtain rfl := Sl.nilOf hL
    obtain rfl := hc rfl
    go_enter Tryz.func22, Tryz.ntmps22
    go_wp2_with fail
    go_ret
    exact ⟨_, rfl, (Mem.start w).nil rEQ w.heap.size 56⟩
  | some ad =>
    have S := (Mem.start w).newAt #[] 56 w.heap.size rfl
    have S1 : Mem w (w.alloc (.cells #[] 56)) [.own rEQ w.heap.size 56 (.slice (some ⟨w.heap.size, 0, none⟩) 0 0) []] := S.room (r := rEQ) 0 rfl rfl (by decide) rfl
    have Hc := Lib.hid (Sl.flatCells flatEQ (fun _ => rfl) (hL.keepB S1.b))
    have hsz := S1.b.size
    have HS := Lib.hid S1
    have Hl := Lib.hid hl
    clear S S1 hL hl hc
    go_enter Tryz.func22, Tryz.ntmps22
    go_wp2_with (at_builtin; refine HS.out.appN flatEQ 0 rfl tyEvt rfl _ _ rfl l l.length c rfl rfl ad rfl Hc.out (fun y _ => oneEQ y) (fun _ => rfl) hsz (by simp only [List.length_nil]; have := Hl.out; omega) (by decide) ?_; intro v5 w5 S5)
    go_ret
    exact ⟨_, rfl, S5⟩
def cfE (a b : EQ) : Int := if befE a.e b.e = true then -1 else 1
def ordQ (a b : EQ) : Int := ordE a.e b.e
theorem ordQ_ok : CmpOk ordQ := by
  have h : ordQ = lexC (fun a b => Lib.compareInt a.e.at' b.e.at') (fun a b => cmpS a.e.id b.e.id) := rfl
  rw [h]
  exact (cmpOkI.of (fun q : EQ => q.e.at')).lex (cmpOkS.of (fun q : EQ => q.e.id))
theorem cfE_neg (a b : EQ) : cfE a b < 0 ↔ ordQ a b < 0 := by
  unfold cfE ordQ
  rw [ordE_neg]
  cases befE a.e b.e <;> simp
set_option maxHeartbeats 2000000 in
set_option maxRecDepth 100000 in
theorem sorted1_any (a b : EQ) (w : World) :
    Calls Tryz.prog 146 #[.agg (EQ.cells a).toArray, .agg (EQ.cells b).toArray] w fun e w' => e = .returned (.int .i64 (cfE a b)) ∧ Grew w w' := by
  obtain ⟨a, Aa, ca⟩ := a
  obtain ⟨b, Ab, cb⟩ := b
  show Calls Tryz.prog 146 #[.agg (evCs a Aa ca), .agg (evCs b Ab cb)] w fun e w' => e = .returned (.int .i64 (if befE a b = true then -1 else 1)) ∧ Grew w w'
  obtain ⟨R, HR⟩ : ∃ R, Hid ((if befE a b = true then (-1 : Int) else 1) = R) := ⟨_, Lib.hid rfl⟩
  rw [HR.out]
  have hC := two_evts w a b Aa Ab ca cb
  have Hb : Hid (Grew w ((w.alloc (.cells (evCs a Aa ca) 56)).alloc (.cells (evCs b Ab cb) 56))) := ((Grew.refl _).alloc _).alloc _
  go_enter Tryz.func146, Tryz.ntmps146
  go_upto_region 1 with fail
  generalize (w.alloc (.cells (evCs a Aa ca) 56)).alloc (.cells (evCs b Ab cb) 56) = w1 at *
  obtain ⟨Y, hY⟩ : ∃ Y, Y = w.heap.size + 1 := ⟨_, rfl⟩
  obtain ⟨X, hX⟩ : ∃ X, X = w.heap.size := ⟨_, rfl⟩
  rw [← hY, ← hX] at hC
  rw [← hY, ← hX]
  clear hY hX
  have c0 := LV.all hC.1
  have d0 := LV.all hC.2
  unfold befE ltS at HR
  by_cases h1 : a.at' < b.at'
  · have Hn : Hid (-1 = R) := by show _ = _; rw [← HR.out, decide_eq_true h1]; rfl
    clear HR hC
    go_wp2_with fail
    go_ret
    exact ⟨ret_i Hn.out, Hb.out⟩
  · by_cases h2 : a.at' = b.at'
    · have h2' : (a.at' == b.at') = true := by simpa using h2
      rw [decide_eq_false h1, decide_eq_true h2] at HR
      cases h3 : Op.bytesLess a.id.toList b.id.toList
      · have Hn : Hid (1 = R) := by show _ = _; rw [← HR.out, h3]; rfl
        clear HR hC h2
        go_wp2_with fail
        go_ret
        exact ⟨ret_i Hn.out, Hb.out⟩
      · have Hn : Hid (-1 = R) := by show _ = _; rw [← HR.out, h3]; rfl
        clear HR hC h2
        go_wp2_with fail
        go_ret
        exact ⟨ret_i Hn.out, Hb.out⟩
    · have Hn : Hid (1 = R) := by show _ = _; rw [← HR.out, decide_eq_false h1, decide_eq_false h2]; rfl
      have h2' : (a.at' == b.at') = false := by simpa using h2
      clear HR hC h2
      go_wp2_with fail
      go_ret
      exact ⟨ret_i Hn.out, Hb.out⟩
theorem sortE_any {w0 w : World} {cs : List Chunk} (S : Mem w0 w cs) (i : Nat) {B : Nat} {v : Value} {xs : List EQ} (hi : cs[i]? = some (.own rEQ B 56 v xs)) (hl : xs.length ≤ 1000000) :
    Calls Tryz.prog 145 #[v, .func (.func 146) #[] #[]] w (GivesSorted rEQ ordQ w0 cs i B 56 v xs) :=
  haveI : Inhabited EQ := ⟨⟨⟨⟨#[]⟩, ⟨#[]⟩, 0, 0, ⟨#[]⟩, []⟩, none, 0⟩⟩
  sortFn_own flatEQ (by decide) (fun _ => rfl) oneEQ Tryz.laysSf145 Tryz.isAgg56 Tryz.sizeOf56 (fun _ => True) cfE ordQ ordQ_ok cfE_neg 146 (enters_of Tryz.func146 (by kernel_rfl) rfl) (fun a b _ _ w => sorted1_any a b w) S i hi (fun _ _ => trivial) hl
def GivesSortedE (l : List EQ) (w : World) (e : Ending) (w' : World) : Prop := ∃ v ys, e = .returned v ∧ ys.Perm l ∧ Mem w w' [.own rEQ w.heap.size 56 v ys]
end Go.Proofs.YteabhkmhogmoiaaGreatDoor

/- What the generators eventId and Events make. -/
namespace Go.Proofs.YteabhkmhogmoiaaGreatDoor
open Go Go.RowKit
def DrawsEvs (b m n : Nat) (w : World) (e : Ending) (w' : World) : Prop := ∃ (v : Value) (qs : List EQ), e = .returned v ∧ qs.length = n ∧ (∀ q ∈ qs, EvSm q.e) ∧ St b m w w' [.own rEQ w.heap.size 56 v qs, .flds qs]
end Go.Proofs.YteabhkmhogmoiaaGreatDoor

/- Where a stream goes along, what a call without a stream does to the pieces is as where none does. -/
namespace Go.Proofs.YteabhkmhogmoiaaGreatDoor
open Go Go.RowKit
theorem take_get (a : Array Obj) {n k : Nat} (h : k < n) : (a.take n)[k]? = a[k]? := by
  rw [← Array.getElem?_toList, ← Array.getElem?_toList]
  simp only [Array.take_eq_extract, Array.toList_extract, List.extract_eq_take_drop, Nat.sub_zero, List.drop_zero]
  rw [List.getElem?_take_of_lt h]
theorem St.viaMem {b m : Nat} {w0 w : World} {cs : List Chunk} (S : St b m w0 w cs) : ∃ wb, wb.heap.size = w0.heap.size ∧ Mem wb w cs ∧ ∀ w' cs', Mem wb w' cs' → St b m w0 w' cs' := by
  have hsz := S.g.size
  have hb := S.b0
  refine ⟨{ w with heap := w.heap.take w0.heap.size }, ?_, ⟨⟨rfl, rfl, rfl, ?_, fun k hk => ?_⟩, ?_, ?_, S.sep⟩, fun w' cs' M => ?_⟩
  · show (w.heap.take w0.heap.size).size = _
    simp; omega
  · show (w.heap.take w0.heap.size).size ≤ _
    simp; omega
  · have hk' : k < (w.heap.take w0.heap.size).size := hk
    show w.heap[k]? = (w.heap.take w0.heap.size)[k]?
    simp at hk'
    rw [take_get _ (by omega)]
  · have e : (w.heap.take w0.heap.size).size = w0.heap.size := by simp; omega
    show ∀ c ∈ cs, c.ok (Mut (w.heap.take w0.heap.size).size cs) w
    rw [e]; exact S.ok
  · have e : (w.heap.take w0.heap.size).size = w0.heap.size := by simp; omega
    show ∀ c ∈ cs, ∀ k, c.blk = some k → (w.heap.take w0.heap.size).size ≤ k
    rw [e]; exact S.new
  · have e : (w.heap.take w0.heap.size).size = w0.heap.size := by simp; omega
    have hblk : ∀ k, k < w0.heap.size → w'.heap[k]? = w.heap[k]? := fun k hk => by
      have h1 := M.b.block k (by show k < (w.heap.take w0.heap.size).size; omega)
      rw [h1]
      show (w.heap.take w0.heap.size)[k]? = w.heap[k]?
      rw [take_get _ hk]
    have hsz' : w0.heap.size ≤ w'.heap.size := by
      have := M.b.size
      have h2 : (w.heap.take w0.heap.size).size ≤ w'.heap.size := this
      omega
    refine ⟨⟨⟨M.b.os.trans S.g.k.os, M.b.tape.trans S.g.k.tape, M.b.output.trans S.g.k.output, hsz', fun k hk hn => (hblk k hk).trans (S.g.k.block k hk hn)⟩, S.g.s.lower (fun k hk => hblk k (by omega))⟩, hb, ?_, ?_, M.sep⟩
    · have := M.ok
      rw [show World.heap { w with heap := w.heap.take w0.heap.size } = w.heap.take w0.heap.size from rfl, e] at this
      exact this
    · have := M.new
      rw [show World.heap { w with heap := w.heap.take w0.heap.size } = w.heap.take w0.heap.size from rfl, e] at this
      exact this
end Go.Proofs.YteabhkmhogmoiaaGreatDoor

/- What the generator RightEvents and handlaw2.some make. -/
namespace Go.Proofs.YteabhkmhogmoiaaGreatDoor
open Go Go.RowKit
theorem slE_one {N : Nat → Prop} {w : World} {Y : Nat} {e : Evt} {A : Option Addr} {c : Nat} (h : LV w Y (evCs e A c) 56) (hF : Sl rFld N w A e.flds) (hN : ¬ N Y) : Sl rEvt N w (some ⟨Y, 0, none⟩) [e] := fun i x hx => by
  cases i with
  | zero =>
    obtain rfl : e = x := by simpa using hx
    refine ⟨Y, 0, _, rfl, h.lt, hN, rEvt_mk (c := c) hF, fun j u hu => ?_⟩
    simp only [Nat.zero_mul, Nat.zero_add]
    exact h.cell j u (by rw [← Array.getElem?_toList]; exact hu)
  | succ i => simp at hx
def dropE (e : Evt) : Bool := (evsFault [e] != 0) || (e.id.size != 3) || decide (100000 < e.at')
set_option maxHeartbeats 4000000 in
set_option maxRecDepth 100000 in
theorem dropE_any (e : Evt) (A : Option Addr) (c : Nat) (w : World) (hF : Sl rFld (fun _ => False) w A e.flds) (hok : EvtOk e) (hT : Tabs w) (hM : MaxL w) :
    Calls Tryz.prog 69 #[.agg (evCs e A c)] w fun r w' => r = .returned (.bool (dropE e)) ∧ Below w.heap.size w w' := by
  obtain ⟨R, HR⟩ : ∃ R, Hid (dropE e = R) := ⟨_, Lib.hid rfl⟩
  rw [HR.out]
  obtain ⟨X, hX⟩ : ∃ X, X = w.heap.size := ⟨_, rfl⟩
  have S : Mem w (w.alloc (.cells (evCs e A c) 56)) [.loc X (evCs e A c) 56] := (Mem.start w).newAt (evCs e A c) 56 X hX
  have hF1 := hF.keepB S.b
  have HT := Lib.hid (fun w' (h : Below w.heap.size w w') => Utf8Tabs_below hT h)
  have HM := Lib.hid (fun w' (h : Below w.heap.size w w') => hM.below h)
  have Hok := Lib.hid hok
  clear hF hT hM hok
  go_enter Tryz.func69, Tryz.ntmps69
  go_upto_region 1 with fail
  rw [← hX]
  clear hX
  generalize w.alloc (.cells (evCs e A c) 56) = w1 at *
  have y0 := (S.lv 0 rfl).all
  obtain ⟨Y, hY⟩ : ∃ Y, Y = w1.heap.size := ⟨_, rfl⟩
  have S2 : Mem w (w1.alloc (.cells (evCs e A c) 56)) [.loc X (evCs e A c) 56, .loc Y (evCs e A c) 56] := S.newAt (evCs e A c) 56 Y hY
  have hF2 := hF1.keepB ((Below.refl _ w1).alloc (Nat.le_refl _) (.cells (evCs e A c) 56))
  have Hc := Lib.hid (refEvs_any (fun _ => False) (some ⟨Y, 0, none⟩) [e] 1 _ (slE_one (S2.lv 1 rfl) hF2 (fun h => h)) ⟨by simp, fun x hx => by rw [List.mem_singleton.1 hx]; exact Hok.out⟩ (HT.out _ S2.b) (HM.out _ S2.b))
  rw [show ([e] : List Evt).length = 1 from rfl] at Hc
  unfold dropE at HR
  generalize evsFault [e] = F at *
  go_wp2_with fail
  rw [← hY]
  clear hY hF1 hF2
  generalize w1.alloc (.cells (evCs e A c) 56) = w2 at *
  ((with_reducible refine (Hc.out).mono ?_); rintro r w3 ⟨rfl, hl3⟩)
  have S3 := S2.below hl3
  clear Hc hl3 y0 S2 S
  have y0 := (S3.lv 0 rfl).all
  by_cases h1 : F = 0
  · subst h1
    by_cases h2 : e.id.size = 3
    · have h2' : ((e.id.size : Int) != 3) = false := by simp; omega
      have Hn : Hid (decide (100000 < e.at') = R) := by show _ = _; rw [← HR.out, h2]; simp
      clear HR h2
      go_wp2_with fail
      go_ret
      exact ⟨ret_b (by first | exact Hn.out | (rw [← Hn.out]; simp)), S3.b⟩
    · have h2' : ((e.id.size : Int) != 3) = true := by simp; omega
      have Hn : Hid (true = R) := by show _ = _; rw [← HR.out]; simp [h2]
      clear HR h2
      go_wp2_with fail
      go_ret
      exact ⟨ret_b Hn.out, S3.b⟩
  · have h1' : (F != 0) = true := by simpa using h1
    have Hn : Hid (true = R) := by show _ = _; rw [← HR.out, h1']; simp
    clear HR h1
    go_wp2_with fail
    go_ret
    exact ⟨ret_b Hn.out, S3.b⟩
def DrawsList (b m n : Nat) (w : World) (e : Ending) (w' : World) : Prop := ∃ (A : Option Addr) (c : Nat) (xs : List Evt), e = .returned (.slice A xs.length c) ∧ xs.length ≤ n ∧ (∀ x ∈ xs, EvSm x) ∧ (A = none → c = 0) ∧ St b m w w' [.sl rEvt A xs]
def DrawsSome (b m n : Nat) (w : World) (e : Ending) (w' : World) : Prop := ∃ (A : Option Addr) (c : Nat) (xs : List Evt), e = .returned (.tuple #[.slice A xs.length c, .int .i64 (evsFault xs)]) ∧ xs.length ≤ n ∧ (∀ x ∈ xs, EvSm x) ∧ (A = none → c = 0) ∧ St b m w w' [.sl rEvt A xs]
end Go.Proofs.YteabhkmhogmoiaaGreatDoor
