/- Several texts in one: CompG, ValLaw, Sum, ValOrd, ValMem. -/
import Derived.Test.YtbbljokemhjkhaaGreatDoorPackQ
import Derived.Test.YtbbljokemhjkhaaGreatDoorPackW
import Derived.Test.YtbbljokemhjkhaaGreatDoorPackO
import Derived.Test.YtbbljokemhjkhaaGreatDoorPackV
import Derived.Test.YtbbljokemhjkhaaGreatDoorPackN
import Derived.Test.YtbbljokemhjkhaaGreatDoorSf
import Derived.Test.YtbbljokemhjkhaaGreatDoorPackM
import Derived.Test.YtbbljokemhjkhaaGreatDoorShelf
/- Compacting a list in order, for any order: what is level with the one ahead goes. -/
namespace Go.Proofs.YtbbljokemhjkhaaGreatDoor
open Go Go.RowKit
/-- each that is not level with the one ahead of it -/
def cmpGB {α : Type} (c : α → α → Int) (prev : Option α) (x : α) : Bool := !(prev.any fun p => decide (c x p = 0))
def compG {α : Type} (c : α → α → Int) (prev : Option α) : List α → List α
  | [] => []
  | x :: r => (if cmpGB c prev x = true then [x] else []) ++ compG c (some x) r
theorem compG_snoc {α : Type} (c : α → α → Int) : ∀ (l : List α) (prev : Option α) (x : α), compG c prev (l ++ [x]) = compG c prev l ++ (if cmpGB c (l.getLast?.or prev) x = true then [x] else [])
  | [], prev, x => by
    show (if cmpGB c prev x = true then [x] else []) ++ [] = _
    rw [List.append_nil]; rfl
  | y :: r, prev, x => by
    rw [List.cons_append, compG, compG_snoc c r (some y) x, compG, List.append_assoc]
    congr 3
    rw [List.getLast?_cons]
    cases r.getLast? <;> rfl
theorem compG_take {α : Type} {c : α → α → Int} {l : List α} {j : Nat} {p x : α} (hp : l[j]? = some p) (hx : l[j + 1]? = some x) : compG c none (l.take (j + 2)) = compG c none (l.take (j + 1)) ++ (if decide (c x p = 0) = true then [] else [x]) := by
  rw [take_snoc hx, compG_snoc]
  congr 1
  have e : (l.take (j + 1)).getLast? = some p := by
    rw [take_snoc hp, List.getLast?_concat]
  rw [e]
  have e2 : cmpGB c ((some p).or none) x = !decide (c x p = 0) := rfl
  rw [e2]
  cases decide (c x p = 0) <;> rfl
/-- in order: strictly so once compacted, and with the same keys -/
theorem compG_ord {α : Type} {c : α → α → Int} (ok : CmpOk c) : ∀ (l : List α) (prev : Option α), l.Pairwise (fun a b => c a b ≤ 0) → (∀ p, prev = some p → ∀ x ∈ l, c p x ≤ 0) → (compG c prev l).Pairwise (fun a b => c a b < 0) ∧ (∀ p, prev = some p → ∀ x ∈ compG c prev l, c p x < 0) ∧ (∀ x ∈ compG c prev l, x ∈ l) ∧ ∀ x ∈ l, (∃ y ∈ compG c prev l, c y x = 0) ∨ ∃ p, prev = some p ∧ c p x = 0
  | [], _, _, _ => ⟨List.Pairwise.nil, (fun _ _ _ h => by cases h), (fun _ h => by cases h), (fun _ h => by cases h)⟩
  | x :: r, prev, ho, hp => by
    obtain ⟨h1, h2⟩ := List.pairwise_cons.1 ho
    obtain ⟨g1, g2, g3, g4⟩ := compG_ord ok r (some x) h2 (fun p e y hy => by cases e; exact h1 y hy)
    have g2' := g2 x rfl
    rw [compG]
    by_cases hb : cmpGB c prev x = true
    · rw [if_pos hb]
      refine ⟨List.pairwise_cons.2 ⟨g2', g1⟩, fun p e y hy => ?_, fun y hy => ?_, fun y hy => ?_⟩
      · subst e
        have hpx : c p x < 0 := by
          have h3 := hp p rfl x (by simp)
          have h4 : ¬ c x p = 0 := by simpa [cmpGB] using hb
          have h5 : c p x ≠ 0 := fun e => h4 (ok.zero e)
          omega
        rcases List.mem_cons.1 hy with rfl | hy
        · exact hpx
        · exact ok.lt hpx (by have := g2' y hy; omega)
      · rcases List.mem_cons.1 hy with rfl | hy
        · simp
        · simp [g3 y hy]
      · rcases List.mem_cons.1 hy with rfl | hy
        · exact .inl ⟨y, by simp, ok.refl y⟩
        · rcases g4 y hy with ⟨z, hz, e⟩ | ⟨p, e1, e2⟩
          · exact .inl ⟨z, by simp [hz], e⟩
          · cases e1; exact .inl ⟨x, by simp, e2⟩
    · rw [if_neg hb, List.nil_append]
      obtain ⟨p, rfl, hpx⟩ : ∃ p, prev = some p ∧ c x p = 0 := by
        cases prev with
        | none => simp [cmpGB] at hb
        | some p => exact ⟨p, rfl, by simpa [cmpGB] using hb⟩
      refine ⟨g1, fun p' e y hy => ?_, fun y hy => by simp [g3 y hy], fun y hy => ?_⟩
      · cases e
        have h6 := g2' y hy
        exact ok.lt' (a := p) (b := x) (by have := ok.zero hpx; omega) h6
      · rcases List.mem_cons.1 hy with rfl | hy
        · exact .inr ⟨p, rfl, ok.zero hpx⟩
        · rcases g4 y hy with ⟨z, hz, e⟩ | ⟨p', e1, e2⟩
          · exact .inl ⟨z, hz, e⟩
          · cases e1; exact .inr ⟨p, rfl, by have h7 := ok.zero hpx; have h8 := ok.trans p x y (by omega) (by omega); have h9 := ok.trans y x p (by have := ok.zero e2; omega) (by omega); have h10 := ok.anti p y; omega⟩
/-- the front that is settled, and the rest as it was, from the one ahead of j on -/
structure CompGAt {α : Type} (c : α → α → Int) (xs ys : List α) (i j : Nat) : Prop where
  len : ys.length = xs.length
  front : ys.take i = compG c none (xs.take j)
  rest : ys.drop (j - 1) = xs.drop (j - 1)
  le : i < j
theorem CompGAt.get {α : Type} {c : α → α → Int} {xs ys : List α} {i j : Nat} (h : CompGAt c xs ys i j) {k : Nat} (hk : j ≤ k + 1) : ys[k]? = xs[k]? := by
  have h1 := congrArg (fun l : List α => l[k - (j - 1)]?) h.rest
  simp only [List.getElem?_drop] at h1
  rw [show j - 1 + (k - (j - 1)) = k by omega] at h1
  exact h1
theorem CompGAt.skip {α : Type} {c : α → α → Int} {xs ys : List α} {i j : Nat} (h : CompGAt c xs ys i (j + 1)) {p x : α} (hp : ys[j]? = some p) (hx : ys[j + 1]? = some x) (he : decide (c x p = 0) = true) : CompGAt c xs ys i (j + 2) := by
  have e1 := h.get (k := j) (by omega)
  have e2 := h.get (k := j + 1) (by omega)
  refine ⟨h.len, ?_, ?_, by have := h.le; omega⟩
  · rw [compG_take (e1 ▸ hp) (e2 ▸ hx), if_pos he, List.append_nil, h.front]
  · have h1 := congrArg (List.drop 1) h.rest
    rw [List.drop_drop, List.drop_drop] at h1
    exact h1
theorem CompGAt.put {α : Type} {c : α → α → Int} {xs ys : List α} {i j : Nat} (h : CompGAt c xs ys i (j + 1)) {p x : α} (hp : ys[j]? = some p) (hx : ys[j + 1]? = some x) (he : decide (c x p = 0) = false) : CompGAt c xs (ys.set i x) (i + 1) (j + 2) := by
  have e1 := h.get (k := j) (by omega)
  have e2 := h.get (k := j + 1) (by omega)
  have hle := h.le
  have hi : i < ys.length := by have := lt_of_get hx; omega
  refine ⟨by rw [List.length_set, h.len], ?_, ?_, by omega⟩
  · rw [compG_take (e1 ▸ hp) (e2 ▸ hx), if_neg (by simp [he]), ← h.front, List.take_set, take_snoc (x := ys[i]) (List.getElem?_eq_getElem hi)]
    have hl : (ys.take i).length = i := by rw [List.length_take]; omega
    rw [List.set_append_right _ _ (by omega), hl, Nat.sub_self]
    simp
  · rw [List.drop_set_of_lt (by omega)]
    have h1 := congrArg (List.drop 1) h.rest
    rw [List.drop_drop, List.drop_drop] at h1
    exact h1
theorem compG_len {α : Type} (c : α → α → Int) : ∀ (l : List α) (prev : Option α), (compG c prev l).length ≤ l.length
  | [], _ => Nat.le_refl _
  | x :: r, prev => by
    have := compG_len c r (some x)
    rw [compG, List.length_append, List.length_cons]
    split <;> simp <;> omega
/-- two roads to the same: sorted and compacted; each once, then sorted -/
theorem compG_eq {α : Type} {c : α → α → Int} (ok : CmpOk c) (hz : ∀ a b, c a b = 0 → a = b) {l ys zs ds : List α} (h1 : ys.Perm l) (h2 : ys.Pairwise (fun a b => c a b ≤ 0)) (h3 : zs.Perm ds) (h4 : zs.Pairwise (fun a b => c a b ≤ 0)) (d1 : ds.Nodup) (d2 : ∀ x, x ∈ ds ↔ x ∈ l) : compG c none ys = zs := by
  obtain ⟨c1, _, c3, c4⟩ := compG_ord ok ys none h2 (fun _ e => by cases e)
  have z1 : zs.Nodup := h3.nodup_iff.2 d1
  have z3 : zs.Pairwise (fun a b => c a b < 0) := by
    have h5 : zs.Pairwise (fun a b => c a b ≤ 0 ∧ a ≠ b) := h4.and z1
    refine h5.imp (fun {a b} h => ?_)
    rcases Int.lt_or_eq_of_le h.1 with h6 | h6
    · exact h6
    · exact absurd (hz _ _ h6) h.2
  refine strict_eq (fun a b => c a b < 0) (fun x h => ?_) (fun x y z h h' => ok.lt h (by omega)) _ _ c1 z3 fun x => ?_
  · have h' : c x x < 0 := h
    have := ok.refl x; omega
  · rw [h3.mem_iff, d2, ← h1.mem_iff]
    constructor
    · exact c3 x
    · intro hx
      rcases c4 x hx with ⟨z, hz', e⟩ | ⟨p, e, _⟩
      · rw [← hz _ _ e]; exact hz'
      · cases e
end Go.Proofs.YtbbljokemhjkhaaGreatDoor

/- Values in order: the program sorts and compacts them, the document takes each once and sorts; the same comes out. And the field of a name. -/
namespace Go.Proofs.YtbbljokemhjkhaaGreatDoor
open Go Go.RowKit Go.Sort
structure Vl where
  k : Int
  t : ByteArray
  n : Int
def Vl.cells (x : Vl) : List Value := [.int .i64 x.k, .string x.t, .int .i64 x.n]
def rVl : Rep Vl := .flat 3 Vl.cells (fun _ => rfl)
theorem flatVl : rVl.Flat Vl.cells := fun _ _ _ _ => Iff.rfl
abbrev vlCs (x : Vl) : Array Value := #[.int .i64 x.k, .string x.t, .int .i64 x.n]
def Fld.vl (f : Fld) : Vl := ⟨f.kind, f.text, f.num⟩
def ordV (a b : Vl) : Int := firstErr [Lib.compareInt a.k b.k, Lib.compareInt a.n b.n, cmpS a.t b.t]
theorem firstErr_one (a : Int) : firstErr [a] = a := by
  unfold firstErr
  split
  · rfl
  · rename_i h; exact (Decidable.not_not.1 h).symm
theorem ordV_lex : ordV = lexC (fun a b => Lib.compareInt a.k b.k) (lexC (fun a b => Lib.compareInt a.n b.n) (fun a b => cmpS a.t b.t)) := by
  funext a b
  unfold ordV
  rw [firstErr, firstErr, firstErr_one]
  rfl
theorem ordV_ok : CmpOk ordV := by
  rw [ordV_lex]
  exact (cmpOkI.of Vl.k).lex ((cmpOkI.of Vl.n).lex (cmpOkS.of Vl.t))
theorem lexC_nil {α : Type} {c d : α → α → Int} {a b : α} (h : lexC c d a b = 0) : c a b = 0 ∧ d a b = 0 := by
  unfold lexC at h
  split at h
  · rename_i h1; exact absurd h h1
  · rename_i h1; exact ⟨Decidable.not_not.1 h1, h⟩
theorem ordV_eq (a b : Vl) (h : ordV a b = 0) : a = b := by
  rw [ordV_lex] at h
  obtain ⟨h1, h⟩ := lexC_nil h
  obtain ⟨h2, h3⟩ := lexC_nil h
  obtain ⟨k1, t1, n1⟩ := a
  obtain ⟨k2, t2, n2⟩ := b
  obtain rfl : k1 = k2 := compareInt_zero h1
  obtain rfl : n1 = n2 := compareInt_zero h2
  obtain rfl : t1 = t2 := (cmpS_zero _ _).1 h3
  rfl
instance decVl : DecidableEq Vl := fun a b => decidable_of_iff (ordV a b = 0) ⟨ordV_eq a b, fun h => h ▸ ordV_ok.refl a⟩
/-- the document's order -/
def refV (a b : Vl) : Int := if ¬ a.k = b.k then a.k - b.k else if ¬ a.n = b.n then (if a.n < b.n then -1 else 1) else cmpS a.t b.t
theorem refV_neg (a b : Vl) : refV a b < 0 ↔ ordV a b < 0 := by
  rw [ordV_lex]
  unfold refV lexC Lib.compareInt
  by_cases h1 : a.k = b.k
  · by_cases h2 : a.n = b.n
    · simp [h1, h2]
    · by_cases h3 : a.n < b.n
      · simp [h1, h2, h3]
      · have h4 : b.n < a.n := by omega
        simp [h1, h2, h3, h4]
  · by_cases h3 : a.k < b.k
    · simp [h1, h3]; omega
    · have h4 : b.k < a.k := by omega
      simp [h1, h3]; omega
/-- each once -/
def onceV : List Vl → List Vl → List Vl
  | out, [] => out
  | out, x :: r => onceV (if x ∈ out then out else out ++ [x]) r
theorem onceV_snoc : ∀ (l out : List Vl) (x : Vl), onceV out (l ++ [x]) = if x ∈ onceV out l then onceV out l else onceV out l ++ [x]
  | [], _, _ => rfl
  | y :: r, out, x => by
    rw [List.cons_append, onceV, onceV_snoc r _ x]
    rfl
theorem onceV_spec : ∀ (l out : List Vl), out.Nodup → (onceV out l).Nodup ∧ ∀ x, x ∈ onceV out l ↔ x ∈ out ∨ x ∈ l
  | [], out, h => ⟨h, fun x => by simp [onceV]⟩
  | y :: r, out, h => by
    rw [onceV]
    by_cases hy : y ∈ out
    · rw [if_pos hy]
      obtain ⟨h1, h2⟩ := onceV_spec r out h
      refine ⟨h1, fun x => (h2 x).trans ?_⟩
      rw [List.mem_cons]
      constructor
      · rintro (h | h)
        · exact .inl h
        · exact .inr (.inr h)
      · rintro (h | rfl | h)
        · exact .inl h
        · exact .inl hy
        · exact .inr h
    · rw [if_neg hy]
      have hn : (out ++ [y]).Nodup := List.nodup_append.2 ⟨h, by simp, fun a ha b hb => by
        rw [List.mem_singleton.1 hb]
        rintro rfl; exact hy ha⟩
      obtain ⟨h1, h2⟩ := onceV_spec r _ hn
      refine ⟨h1, fun x => (h2 x).trans ?_⟩
      rw [List.mem_append, List.mem_singleton, List.mem_cons, or_assoc]
theorem onceV_len : ∀ (l out : List Vl), (onceV out l).length ≤ out.length + l.length
  | [], out => by simp [onceV]
  | y :: r, out => by
    rw [onceV]
    refine Nat.le_trans (onceV_len r _) ?_
    split <;> simp <;> omega
def leV (a b : Vl) : Bool := decide (ordV a b ≤ 0)
/-- the values in order, each once -/
def distV (l : List Vl) : List Vl := compG ordV none (l.mergeSort leV)
theorem srtV_ok (l : List Vl) : (l.mergeSort leV).Perm l ∧ (l.mergeSort leV).Pairwise (fun a b => ordV a b ≤ 0) := by
  refine ⟨List.mergeSort_perm _ _, ?_⟩
  have := List.pairwise_mergeSort (le := leV) (fun a b c h1 h2 => by simp only [leV, decide_eq_true_eq] at *; exact ordV_ok.trans a b c h1 h2) (fun a b => by
    simp only [leV, Bool.or_eq_true, decide_eq_true_eq]
    have := ordV_ok.anti b a
    omega) l
  exact this.imp (fun h => by simpa [leV] using h)
theorem dist_ref {l zs : List Vl} (h3 : zs.Perm (onceV [] l)) (h4 : zs.Pairwise (fun a b => ordV a b ≤ 0)) : zs = distV l := by
  obtain ⟨d1, d2⟩ := onceV_spec l [] List.nodup_nil
  exact (compG_eq ordV_ok ordV_eq (srtV_ok l).1 (srtV_ok l).2 h3 h4 d1 (fun x => (d2 x).trans (by simp))).symm
theorem dist_prog {l ys : List Vl} (h1 : ys.Perm l) (h2 : ys.Pairwise (fun a b => ordV a b ≤ 0)) : compG ordV none ys = distV l := by
  obtain ⟨d1, d2⟩ := onceV_spec l [] List.nodup_nil
  have h5 := srtV_ok (onceV [] l)
  rw [compG_eq ordV_ok ordV_eq h1 h2 h5.1 h5.2 d1 (fun x => (d2 x).trans (by simp))]
  exact dist_ref h5.1 h5.2
theorem distV_len (l : List Vl) : (distV l).length ≤ l.length := Nat.le_trans (compG_len _ _ _) (by simp)
/-- the field of a name -/
def fieldOf (nm : ByteArray) (xs : List Fld) : Option Fld := xs.find? (fun f => decide (f.name = nm))
theorem finds_is {xs : List Fld} {nm : ByteArray} {o : Option Fld} (hr : Rising xs) (h : FindsTo xs nm o) : o = fieldOf nm xs := by
  obtain ⟨h1, h2⟩ := h
  cases o with
  | none =>
    refine Eq.symm (List.find?_eq_none.2 fun f hf => ?_)
    simpa using h2 rfl f hf
  | some f =>
    obtain ⟨hf, hn⟩ := h1 f rfl
    refine Eq.symm (List.find?_eq_some_iff_getElem.2 ⟨by simpa using hn, ?_⟩)
    obtain ⟨i, hi, e⟩ := List.getElem_of_mem hf
    refine ⟨i, hi, e, fun j hj => ?_⟩
    have h5 := hr j i xs[j] f hj (List.getElem?_eq_getElem (by omega)) (by rw [List.getElem?_eq_getElem hi, e])
    have h6 : xs[j].name ≠ nm := fun e' => by
      rw [e', hn, ltS_irr] at h5; cases h5
    simpa using h6
/-- the values of a field -/
def valsE (field : ByteArray) (l : List Evt) : List Vl := l.filterMap (fun e => (fieldOf field e.flds).map Fld.vl)
theorem valsE_snoc {field : ByteArray} {l : List Evt} {k : Nat} {e : Evt} (h : l[k]? = some e) : valsE field (l.take (k + 1)) = valsE field (l.take k) ++ ((fieldOf field e.flds).map Fld.vl).toList := by
  rw [take_snoc h, valsE, List.filterMap_append]
  congr 1
theorem valsE_len (field : ByteArray) (l : List Evt) : (valsE field l).length ≤ l.length := List.length_filterMap_le _ _
theorem value_kind {k n : Int} {t : ByteArray} (h : valueFault k t n = 0) : 1 ≤ k ∧ k ≤ 4 := by
  unfold valueFault at h
  repeat' split at h
  all_goals first
    | (exfalso; omega)
    | omega
theorem fldsGo_kind : ∀ (l : List Fld) (p : Option ByteArray), fldsGo p l = 0 → ∀ f ∈ l, 1 ≤ f.kind ∧ f.kind ≤ 4
  | [], _, _ => fun _ h => by cases h
  | x :: r, p, h => by
    rw [fldsGo] at h
    split at h
    · cases h
    split at h
    · rename_i h2; exact absurd h h2
    rename_i h2
    split at h
    · cases h
    intro f hf
    rcases List.mem_cons.1 hf with rfl | hf
    · exact value_kind (Classical.not_not.1 h2)
    · exact fldsGo_kind r _ h f hf
def VlB (x : Vl) : Prop := 1 ≤ x.k ∧ x.k ≤ 4
theorem flds_kind {l : List Fld} (h : fldsFault l = 0) : ∀ f ∈ l, VlB f.vl := by
  unfold fldsFault at h
  split at h
  · cases h
  · exact fldsGo_kind l _ h
/-- the sum of a field, as the loops go -/
def sumStep (s : Int) (x : Vl) : Int := if ¬ x.k = 1 then wrap64 (s + x.n) else s
def sumV (l : List Vl) : Int := l.foldl sumStep 0
theorem sumV_snoc (l : List Vl) (x : Vl) : sumV (l ++ [x]) = sumStep (sumV l) x := by simp [sumV]
end Go.Proofs.YtbbljokemhjkhaaGreatDoor

/- What event.Sum returns. -/
namespace Go.Proofs.YtbbljokemhjkhaaGreatDoor
open Go Go.RowKit
theorem take_map_get {α β : Type} {l : List α} {f : α → β} {k : Nat} {x : α} (h : l[k]? = some x) : (l.map f)[k]? = some (f x) := by rw [List.getElem?_map, h]; rfl
def sumAns (xs : List Evt) (name field : ByteArray) (f t : Int) : Int := sumV (valsE field (namedE name f t xs))
set_option maxHeartbeats 8000000 in
set_option maxRecDepth 100000 in
theorem sum_any (N : Nat → Prop) (A : Option Addr) (xs : List Evt) (c : Nat) (name field : ByteArray) (f t : Int) (w : World) (hS : Sl rEvt N w A xs) (hok : EvsOk xs) (hT : Tabs w) (hM : MaxL w) (hl : xs.length ≤ 1000) (hname : name.size ≤ 1000000000) (hfield : field.size ≤ 1000000000) :
    Calls Tryz.prog 13 #[.slice A xs.length c, .string name, .string field, .agg #[.int .i64 f, .int .i64 t]] w fun e w' => e = .returned (.tuple #[.int .i64 (if namedErr xs [name, field] f t = 0 then sumAns xs name field f t else 0), .int .i64 (namedErr xs [name, field] f t)]) ∧ Below w.heap.size w w' := by
  have S : Mem w (w.alloc (.cells #[.int .i64 f, .int .i64 t] 34)) [.loc w.heap.size #[.int .i64 f, .int .i64 t] 34] := (Mem.start w).new' _ _
  have Hcn := Lib.hid (fun X w' (h : Below w.heap.size w w') (hX : LV w' X #[.string name, .string field] 9) => checkNamed_any N A xs c f t [name, field] X 2 w' (hS.keepB h) hok (Utf8Tabs_below hT h) (hM.below h) rfl hX (by simp) (by intro x hx; simp only [List.mem_cons, List.not_mem_nil, or_false] at hx; rcases hx with rfl | rfl <;> assumption))
  obtain ⟨qs, hqx, hR, hFl⟩ := evt_rows hS
  have hR' := hR.mono (M := fun _ => False) (fun _ _ h => h.elim)
  have hql : qs.length = xs.length := by rw [← hqx, List.length_map]
  have Hnm := Lib.hid (fun w' (h : Below w.heap.size w w') => named_any (fun _ => False) A qs c name f t w' (hR'.keepB h) (by omega))
  have HF : Hid (∀ w', Below w.heap.size w w' → FldsOk (fun _ => False) w' (qs.filter (inE name f t))) := fun w' h q hq => (((hFl q (List.mem_filter.1 hq).1).mono (M := fun _ => False) (fun _ _ h => h.elim))).keepB h
  have Hgd : Hid (namedErr xs [name, field] f t = 0 → ∀ q ∈ qs.filter (inE name f t), q.e.flds.length ≤ 1000 ∧ Rising q.e.flds) := fun h q hq => by
    have h1 := evs_good (namedErr_zero h).1
    have h2 := flds_ok (evt_good (h1.ok q.e (by rw [← hqx]; exact List.mem_map_of_mem (List.mem_filter.1 hq).1))).2.2.2.2
    exact ⟨by have := h2.1; omega, h2.2.2⟩
  have Hfq : Hid ((qs.filter (inE name f t)).length ≤ 1000) := by have := List.length_filter_le (inE name f t) qs; show _ ≤ _; omega
  have Hne : Hid ((qs.filter (inE name f t)).map EQ.e = namedE name f t xs) := by show _ = _; rw [namedE_rows, hqx]
  obtain ⟨E, HE⟩ : ∃ E, Hid (namedErr xs [name, field] f t = E) := ⟨_, Lib.hid rfl⟩
  rw [HE.out] at Hcn Hgd ⊢
  obtain ⟨n, hn⟩ : ∃ n, xs.length = n := ⟨_, rfl⟩
  rw [hn] at Hcn ⊢
  rw [hql, hn] at Hnm
  generalize qs.filter (inE name f t) = rs at *
  clear hS hok hT hM hl hname hfield hqx hR hFl hR' hql hn HE
  have hrl := Hfq.out
  obtain ⟨R, HR⟩ : ∃ R, Hid ((if E = 0 then sumAns xs name field f t else 0) = R) := ⟨_, Lib.hid rfl⟩
  rw [HR.out]
  unfold sumAns at HR
  rw [← Hne.out] at HR
  clear Hne
  obtain ⟨Wb, hWb⟩ : ∃ X, X = w.heap.size := ⟨_, rfl⟩
  rw [← hWb] at S
  go_enter Tryz.func13, Tryz.ntmps13
  go_upto_region 1 with fail
  rw [← hWb]
  clear hWb
  generalize w.alloc (.cells #[.int .i64 f, .int .i64 t] 34) = w1 at *
  have c0 := (S.lv 0 rfl).all
  have Hcn1 := Lib.hid (Hcn.out w1.heap.size (w1.alloc (.cells #[.string name, .string field] 9)) (S.alloc _).b (LV.new w1 w1.heap.size #[.string name, .string field] 9 rfl))
  replace S := S.alloc (.cells #[.string name, .string field] 9)
  clear Hcn
  go_wp2_with fail
  ((with_reducible refine (Hcn1.out).mono ?_); rintro e w2 ⟨rfl, hl2⟩)
  replace S := S.below hl2
  clear Hcn1 hl2 c0
  by_cases hE : E = 0
  · have Hgo : Hid (∀ q ∈ rs, q.e.flds.length ≤ 1000 ∧ Rising q.e.flds) := Hgd.out hE
    clear Hgd
    subst hE
    rw [if_pos rfl] at HR
    have c0 := (S.lv 0 rfl).all
    have Hnm2 := Lib.hid (Hnm.out w2 S.b)
    clear Hnm
    go_upto_region 5 with fail
    go_wp2_with fail
    ((with_reducible refine (Hnm2.out).mono ?_); rintro e w3 ⟨v, rfl, M⟩)
    obtain ⟨A3, c3, rfl, M3⟩ := M.frz 0 rfl
    have Hrs := Lib.hid ((M3.slc 0 rfl).mono (M := fun _ => False) (fun _ _ h => h.elim))
    have HS3 := Lib.hid (S.b.trans (M3.b.mono S.b.size))
    clear Hnm2 M M3 S c0
    go_wp2_with fail
    go_loopw [11, 30] (fun s i wr => ∃ j : Nat, j ≤ rs.length ∧ i = .int .i64 j ∧ s = .int .i64 (sumV (valsE field ((rs.map EQ.e).take j))) ∧ Below w3.heap.size w3 wr) (fun _ i _ => rs.length - (intOf i).toNat)
    case atStart => exact ⟨0, Nat.zero_le _, rfl, rfl, Below.refl _ _⟩
    case round =>
      obtain ⟨j, hj, rfl, rfl, hb⟩ := hrel
      by_cases hlt : j < rs.length
      · obtain ⟨q, hq⟩ : ∃ q, rs[j]? = some q := ⟨_, List.getElem?_eq_getElem hlt⟩
        obtain ⟨blk, off, l, hA, hblk, _, hrow, hcs⟩ := (Hrs.out.keepB hb) j q hq
        obtain rfl : l = EQ.cells q := hrow
        subst hA
        have d0 : wr.cell? ⟨blk, off + j * 6, none⟩ = some (.string q.e.id) := hcs 0 _ rfl
        have d1 : wr.cell? ⟨blk, off + j * 6 + 1, none⟩ = some (.string q.e.name) := hcs 1 _ rfl
        have d2 : wr.cell? ⟨blk, off + j * 6 + 2, none⟩ = some (.int .i64 q.e.at') := hcs 2 _ rfl
        have d3 : wr.cell? ⟨blk, off + j * 6 + 3, none⟩ = some (.int .i64 q.e.kind) := hcs 3 _ rfl
        have d4 : wr.cell? ⟨blk, off + j * 6 + 4, none⟩ = some (.string q.e.text) := hcs 4 _ rfl
        have d5 : wr.cell? ⟨blk, off + j * 6 + 5, none⟩ = some (.slice q.A q.e.flds.length q.c) := hcs 5 _ rfl
        have Hsn := Lib.hid (valsE_snoc (field := field) (take_map_get (f := EQ.e) hq))
        obtain ⟨hgl, hgr⟩ := Hgo.out q (List.mem_of_getElem? hq)
        have HfB := Lib.hid (fun w' (h : Below w3.heap.size w3 w') => HF.out w' (HS3.out.trans (h.mono HS3.out.size)) q (List.mem_of_getElem? hq))
        clear hcs hq
        go_upto_region 8 with fail
        clear d0 d1 d2 d3 d4 d5
        obtain ⟨Y, hY⟩ : ∃ Y, Y = wr.heap.size := ⟨_, rfl⟩
        have T := ((Mem.start w3).below hb).newAt (evCs q.e q.A q.c) 95 Y hY
        replace T : Mem w3 (wr.alloc (.cells (evCs q.e q.A q.c) 95)) [.loc Y (evCs q.e q.A q.c) 95] := T
        rw [← hY]
        clear hY
        generalize wr.alloc (.cells (evCs q.e q.A q.c) 95) = w4 at *
        have c0 := (T.lv 0 rfl).all
        have Hfd := Lib.hid (find_any (fun _ => False) q.A q.e.flds field q.c w4 (HfB.out w4 T.b) hgl hgr)
        go_wp2_with fail
        ((with_reducible refine (Hfd.out).mono ?_); rintro e w5 ⟨o, ho, rfl, hl5⟩)
        obtain rfl := finds_is hgr ho
        replace T := T.below hl5
        clear Hfd hl5 ho hgl hgr HfB c0
        generalize fieldOf field q.e.flds = o at *
        cases o with
        | none =>
          have Hs2 : Hid (valsE field ((rs.map EQ.e).take (j + 1)) = valsE field ((rs.map EQ.e).take j)) := by show _ = _; rw [Hsn.out]; exact List.append_nil _
          rw [show valOf none = .agg #[.int .i64 0, .string ⟨#[]⟩, .int .i64 0] from rfl]
          have hb6 := (T.alloc (.cells #[.int .i64 0, .string ⟨#[]⟩, .int .i64 0] 50)).b
          clear T Hsn hb
          go_wp2_with fail
          go_roundw
          case rel => exact ⟨j + 1, by omega, by go_num, by rw [Hs2.out], hb6⟩
          case measure => simp [intOf]; omega
        | some x =>
          have Hs2 : Hid (sumV (valsE field ((rs.map EQ.e).take (j + 1))) = sumStep (sumV (valsE field ((rs.map EQ.e).take j))) x.vl) := by show _ = _; rw [Hsn.out]; exact sumV_snoc _ _
          rw [show valOf (some x) = .agg #[.int .i64 x.kind, .string x.text, .int .i64 x.num] from rfl]
          obtain ⟨Z, hZ⟩ : ∃ Z, Z = w5.heap.size := ⟨_, rfl⟩
          replace T := T.newAt #[.int .i64 x.kind, .string x.text, .int .i64 x.num] 50 Z hZ
          go_upto_region 9 with fail
          rw [← hZ]
          clear hZ
          generalize w5.alloc (.cells #[.int .i64 x.kind, .string x.text, .int .i64 x.num] 50) = w6 at *
          have c0 := (T.lv 1 rfl).all
          have hb6 := T.b
          generalize sumV (valsE field ((rs.map EQ.e).take j)) = s0 at *
          clear T Hsn hb
          by_cases hk : x.kind = 1
          · have hk' : (x.kind != 1) = false := by simp [hk]
            have Hs3 : Hid (sumV (valsE field ((rs.map EQ.e).take (j + 1))) = s0) := by show _ = _; exact Hs2.out.trans (if_neg (not_not_intro hk))
            clear hk Hs2
            go_wp2_with fail
            go_roundw
            case rel => exact ⟨j + 1, by omega, by go_num, by rw [Hs3.out], hb6⟩
            case measure => simp [intOf]; omega
          · have hk' : (x.kind != 1) = true := by simpa using hk
            have Hs3 : Hid (sumV (valsE field ((rs.map EQ.e).take (j + 1))) = wrap64 (s0 + x.num)) := by show _ = _; exact Hs2.out.trans (if_pos hk)
            clear hk Hs2
            go_wp2_with fail
            go_roundw
            case rel => exact ⟨j + 1, by omega, by go_num, by rw [Hs3.out], hb6⟩
            case measure => simp [intOf]; omega
      · have HR2 : Hid (sumV (valsE field ((rs.map EQ.e).take j)) = R) := by show _ = _; rw [← HR.out, List.take_of_length_le (by rw [List.length_map]; omega)]
        rw [HR2.out]
        have Hbb := Lib.hid (HS3.out.trans (hb.mono HS3.out.size))
        clear HR HR2 hb
        go_wp2_with fail
        go_ret2
        exact ⟨rfl, Hbb.out⟩
  · have hE' : (E != 0) = true := by simpa using hE
    rw [if_neg hE] at HR
    obtain rfl : 0 = R := HR.out
    have HSb := Lib.hid S.b
    clear S hE HR Hgd
    go_wp2_with fail
    go_ret2
    exact ⟨rfl, HSb.out⟩
end Go.Proofs.YtbbljokemhjkhaaGreatDoor

/- How event.compareValues and the order in handref2.DistinctOf order values, and what slices.SortFunc makes with them. -/
namespace Go.Proofs.YtbbljokemhjkhaaGreatDoor
open Go Go.RowKit Go.Sort Go.Shelf
def TwoVls (X Y : Nat) (a b : Vl) (w : World) : Prop := LV w X (vlCs a) 50 ∧ LV w Y (vlCs b) 50
theorem TwoVls.grew {X Y : Nat} {a b : Vl} {w w' : World} (h : TwoVls X Y a b w) (k : Grew w w') : TwoVls X Y a b w' := ⟨LV.kb3 h.1 k.below h.1.lt, LV.kb3 h.2 k.below h.2.lt⟩
theorem oneVl (x : Vl) : ∀ u ∈ x.cells, u.oneCell' = true := fun u hu => by
  simp only [Vl.cells, List.mem_cons, List.not_mem_nil, or_false] at hu
  rcases hu with rfl | rfl | rfl <;> rfl
theorem valNe {a b : ByteArray} (h : a ≠ b) : (a.toList == b.toList) = false := by
  rw [ByteArray.toList_eq, ByteArray.toList_eq]
  exact beq_false_of_ne fun e => h (WideShapes.bytes_inj e)
set_option maxHeartbeats 4000000 in
set_option maxRecDepth 100000 in
theorem ordV_any (a b : Vl) (w : World) :
    Calls Tryz.prog 55 #[.agg (vlCs a), .agg (vlCs b)] w fun e w' => e = .returned (.int .i64 (ordV a b)) ∧ Grew w w' := by
  obtain ⟨R, HR⟩ : ∃ R, Hid (ordV a b = R) := ⟨_, Lib.hid rfl⟩
  rw [HR.out]
  have hC0 : TwoVls w.heap.size (w.heap.size + 1) a b ((w.alloc (.cells (vlCs a) 50)).alloc (.cells (vlCs b) 50)) :=
    ⟨(LV.new w w.heap.size (vlCs a) 50 rfl).alloc _, LV.new (w.alloc (.cells (vlCs a) 50)) (w.heap.size + 1) (vlCs b) 50 (by simp)⟩
  have Hb0 : Hid (Grew w ((w.alloc (.cells (vlCs a) 50)).alloc (.cells (vlCs b) 50))) := ((Grew.refl _).alloc _).alloc _
  go_enter Tryz.func55, Tryz.ntmps55
  go_wp2_with fail
  generalize (w.alloc (.cells (vlCs a) 50)).alloc (.cells (vlCs b) 50) = w1 at *
  refine wp_region_mixG 18 (TwoVls w.heap.size (w.heap.size + 1) a b) [.q 0, .q 1, .q 2, .q 3, .q 5, .q 6, .q 7, .q 8, .q 10, .q 11, .q 12, .q 13, .e 4, .e 9, .e 14, .e 15, .e 16, .q 17] (by kernel_rfl) (by kernel_rfl) (fun w' hd => hC0.grew ((Grew.refl _).ofDrewn hd)) (fun KK hKK wd hd => ?_)
  have hC : TwoVls w.heap.size (w.heap.size + 1) a b wd := hC0.grew ((Grew.refl _).ofDrewn hd)
  have Hbd : Hid (Grew w wd) := Hb0.out.ofDrewn hd
  clear hd hC0 Hb0
  repeat (refine mixG_p rfl (fun K hK => ?_); go_simp; (try go_bits); (try simp (disch := omega) only [if_pos]); (try simp (disch := omega) only [if_neg]); (try simp (disch := omega) only [dif_pos]); (try simp (disch := omega) only [dif_neg]); (try go_simp); (refine hK _ ?_; clear hK K))
  refine mixG_load (.int .i64 a.k) rfl rfl rfl rfl (fun _ => rfl) (fun w' h => h.1.cell 0 _ rfl) ?_
  repeat (refine mixG_p rfl (fun K hK => ?_); go_simp; (try go_bits); (try simp (disch := omega) only [if_pos]); (try simp (disch := omega) only [if_neg]); (try simp (disch := omega) only [dif_pos]); (try simp (disch := omega) only [dif_neg]); (try go_simp); (refine hK _ ?_; clear hK K))
  refine mixG_load (.int .i64 b.k) rfl rfl rfl rfl (fun _ => rfl) (fun w' h => h.2.cell 0 _ rfl) ?_
  repeat (refine mixG_p rfl (fun K hK => ?_); go_simp; (try go_bits); (try simp (disch := omega) only [if_pos]); (try simp (disch := omega) only [if_neg]); (try simp (disch := omega) only [dif_pos]); (try simp (disch := omega) only [dif_neg]); (try go_simp); (refine hK _ ?_; clear hK K))
  refine mixG_load (.int .i64 a.n) rfl rfl rfl rfl (fun _ => rfl) (fun w' h => h.1.cell 2 _ rfl) ?_
  repeat (refine mixG_p rfl (fun K hK => ?_); go_simp; (try go_bits); (try simp (disch := omega) only [if_pos]); (try simp (disch := omega) only [if_neg]); (try simp (disch := omega) only [dif_pos]); (try simp (disch := omega) only [dif_neg]); (try go_simp); (refine hK _ ?_; clear hK K))
  refine mixG_load (.int .i64 b.n) rfl rfl rfl rfl (fun _ => rfl) (fun w' h => h.2.cell 2 _ rfl) ?_
  repeat (refine mixG_p rfl (fun K hK => ?_); go_simp; (try go_bits); (try simp (disch := omega) only [if_pos]); (try simp (disch := omega) only [if_neg]); (try simp (disch := omega) only [dif_pos]); (try simp (disch := omega) only [dif_neg]); (try go_simp); (refine hK _ ?_; clear hK K))
  refine mixG_load (.string a.t) rfl rfl rfl rfl (fun _ => rfl) (fun w' h => h.1.cell 1 _ rfl) ?_
  repeat (refine mixG_p rfl (fun K hK => ?_); go_simp; (try go_bits); (try simp (disch := omega) only [if_pos]); (try simp (disch := omega) only [if_neg]); (try simp (disch := omega) only [dif_pos]); (try simp (disch := omega) only [dif_neg]); (try go_simp); (refine hK _ ?_; clear hK K))
  refine mixG_load (.string b.t) rfl rfl rfl rfl (fun _ => rfl) (fun w' h => h.2.cell 1 _ rfl) ?_
  refine mixG_l rfl rfl (fun K hK => ?_)
  go_wp2_with fail
  ((with_reducible refine (cmpInt_any _ _ _).mono ?_); rintro e _ ⟨rfl, rfl⟩)
  go_wp2_with fail
  refine ⟨fun _ => hC, ?_⟩
  refine mixG_l rfl rfl (fun K hK => ?_)
  go_wp2_with fail
  ((with_reducible refine (cmpInt_any _ _ _).mono ?_); rintro e _ ⟨rfl, rfl⟩)
  go_wp2_with fail
  refine ⟨fun _ => hC, ?_⟩
  refine mixG_l rfl rfl (fun K hK => ?_)
  go_wp2_with fail
  ((with_reducible refine (compareS_any _ _ _).mono ?_); rintro e _ ⟨rfl, rfl⟩)
  go_wp2_with fail
  refine ⟨fun _ => hC, ?_⟩
  refine mixG_l rfl rfl (fun K hK => ?_)
  go_wp2_with fail
  have hC2 := hC.grew ((Grew.refl _).alloc (.cells #[.int .i64 (Lib.compareInt a.k b.k), .int .i64 (Lib.compareInt a.n b.n), .int .i64 (cmpS a.t b.t)] 3))
  refine ⟨fun _ => hC2, ?_⟩
  have Hor := Lib.hid (orN_any wd.heap.size [Lib.compareInt a.k b.k, Lib.compareInt a.n b.n, cmpS a.t b.t] _ (LV.new wd wd.heap.size _ 3 rfl) (by simp))
  rw [show firstErr [Lib.compareInt a.k b.k, Lib.compareInt a.n b.n, cmpS a.t b.t] = R from HR.out] at Hor
  simp only [List.length_cons, List.length_nil, List.map_cons, List.map_nil, Nat.zero_add, Nat.reduceAdd] at Hor
  refine mixG_l rfl rfl (fun K hK => ?_)
  go_wp2_with fail
  ((with_reducible refine (Hor.out).mono ?_); rintro e _ ⟨rfl, rfl⟩)
  go_wp2_with fail
  refine ⟨fun _ => hC2, ?_⟩
  repeat (refine mixG_p rfl (fun K hK => ?_); go_simp; (try go_bits); (try simp (disch := omega) only [if_pos]); (try simp (disch := omega) only [if_neg]); (try simp (disch := omega) only [dif_pos]); (try simp (disch := omega) only [dif_neg]); (try go_simp); (refine hK _ ?_; clear hK K))
  refine mixG_nil ?_
  simp only [Exit.then]
  refine hKK _ _ ?_
  go_wp2_with fail
  go_ret
  exact ⟨rfl, Hbd.out.alloc _⟩
theorem cmpVBytes_is : ∀ l m : List UInt8, Lib.compareBytes l m = if l < m then -1 else if l = m then 0 else 1
  | [], [] => by simp [Lib.compareBytes]
  | [], b :: s => by simp [Lib.compareBytes]
  | a :: r, [] => by simp [Lib.compareBytes]
  | a :: r, b :: s => by
    unfold Lib.compareBytes
    by_cases h1 : a < b
    · rw [if_pos h1, if_pos (List.cons_lt_cons_iff.2 (.inl h1))]
    · rw [if_neg h1]
      by_cases h2 : b < a
      · have hne : a ≠ b := fun e => by subst e; exact h1 h2
        rw [if_pos h2, if_neg (fun h => ?_), if_neg (fun e => hne (List.cons.inj e).1)]
        rcases List.cons_lt_cons_iff.1 h with h | ⟨h, _⟩
        · exact h1 h
        · exact hne h
      · have he : a = b := by
          have h3 : ¬ a.toNat < b.toNat := h1
          have h4 : ¬ b.toNat < a.toNat := h2
          exact UInt8.toNat_inj.1 (by omega)
        subst he
        rw [if_neg h2, cmpVBytes_is r s]
        simp
theorem cmpSV_bytes (a b : ByteArray) : Lib.compareBytes a.data.toList b.data.toList = cmpS a b := by
  rw [cmpVBytes_is]
  unfold cmpS
  rw [bytesLess_eq, ByteArray.toList_eq, ByteArray.toList_eq]
  by_cases h1 : a.data.toList < b.data.toList
  · simp [h1]
  · by_cases h2 : a.data.toList = b.data.toList
    · simp [h2]
    · simp [h1, h2, show ¬ a.data = b.data from fun h => h2 (by rw [h])]
theorem strCmpV_any (a b : ByteArray) (w : World) : Calls Tryz.prog 64 #[.string a, .string b] w fun e w' => e = .returned (.int .i64 (cmpS a b)) ∧ w = w' :=
  (Tryz.strings_Compare a b w).mono fun _ _ ⟨h1, h2⟩ => ⟨by rw [h1, cmpSV_bytes], h2.symm⟩
set_option maxHeartbeats 4000000 in
set_option maxRecDepth 100000 in
theorem refV_any (a b : Vl) (ha : VlB a) (hb : VlB b) (w : World) :
    Calls Tryz.prog 63 #[.agg (vlCs a), .agg (vlCs b)] w fun e w' => e = .returned (.int .i64 (refV a b)) ∧ Grew w w' := by
  obtain ⟨R, HR⟩ : ∃ R, Hid (refV a b = R) := ⟨_, Lib.hid rfl⟩
  rw [HR.out]
  have hC0 : TwoVls w.heap.size (w.heap.size + 1) a b ((w.alloc (.cells (vlCs a) 50)).alloc (.cells (vlCs b) 50)) :=
    ⟨(LV.new w w.heap.size (vlCs a) 50 rfl).alloc _, LV.new (w.alloc (.cells (vlCs a) 50)) (w.heap.size + 1) (vlCs b) 50 (by simp)⟩
  have Hb0 : Hid (Grew w ((w.alloc (.cells (vlCs a) 50)).alloc (.cells (vlCs b) 50))) := ((Grew.refl _).alloc _).alloc _
  have HA := Lib.hid ha
  have HB := Lib.hid hb
  clear ha hb
  go_enter Tryz.func63, Tryz.ntmps63
  go_upto_region 1 with fail
  generalize (w.alloc (.cells (vlCs a) 50)).alloc (.cells (vlCs b) 50) = w1 at *
  have c0 := hC0.1.all
  have c1 := hC0.2.all
  clear hC0
  obtain ⟨k1, t1, n1⟩ := a
  obtain ⟨k2, t2, n2⟩ := b
  obtain ⟨hk1, hk1'⟩ : 1 ≤ k1 ∧ k1 ≤ 4 := HA.out
  obtain ⟨hk2, hk2'⟩ : 1 ≤ k2 ∧ k2 ≤ 4 := HB.out
  dsimp only [refV, vlCs] at *
  by_cases e1 : k1 = k2
  · have b1 : (k1 != k2) = false := by simpa using e1
    have HR1 : Hid ((if ¬ n1 = n2 then (if n1 < n2 then -1 else 1) else cmpS t1 t2) = R) := Eq.trans (Eq.symm (if_neg (not_not_intro e1))) HR.out
    clear e1 HR
    by_cases e2 : n1 = n2
    · have b2 : (n1 != n2) = false := by simpa using e2
      obtain rfl : cmpS t1 t2 = R := Eq.trans (Eq.symm (if_neg (not_not_intro e2))) HR1.out
      clear e2 HR1
      go_wp2_with fail
      ((with_reducible refine (strCmpV_any _ _ _).mono ?_); rintro e _ ⟨rfl, rfl⟩)
      go_wp2_with fail
      go_ret
      exact ⟨rfl, Hb0.out⟩
    · have b2 : (n1 != n2) = true := by simpa using e2
      have HR2 : Hid ((if n1 < n2 then (-1 : Int) else 1) = R) := Eq.trans (Eq.symm (if_pos e2)) HR1.out
      clear e2 HR1
      by_cases e3 : n1 < n2
      · obtain rfl : -1 = R := Eq.trans (Eq.symm (if_pos e3)) HR2.out
        clear HR2
        go_wp2_with fail
        go_ret
        exact ⟨rfl, Hb0.out⟩
      · obtain rfl : 1 = R := Eq.trans (Eq.symm (if_neg e3)) HR2.out
        clear HR2
        go_wp2_with fail
        go_ret
        exact ⟨rfl, Hb0.out⟩
  · have b1 : (k1 != k2) = true := by simpa using e1
    obtain rfl : k1 - k2 = R := Eq.trans (Eq.symm (if_pos e1)) HR.out
    clear e1 HR
    go_wp2_with fail
    go_ret
    exact ⟨rfl, Hb0.out⟩
theorem sortV_any {w0 w : World} {cs : List Chunk} (S : Mem w0 w cs) (i : Nat) {B : Nat} {v : Value} {xs : List Vl} (hi : cs[i]? = some (.own rVl B 50 v xs)) (hl : xs.length ≤ 1000000) :
    Calls Tryz.prog 54 #[v, .func (.func 55) #[] #[]] w (GivesSorted rVl ordV w0 cs i B 50 v xs) :=
  haveI : Inhabited Vl := ⟨⟨0, ⟨#[]⟩, 0⟩⟩
  sortFn_own flatVl (by decide) (fun _ => rfl) oneVl Tryz.laysSf54 Tryz.isAgg50 Tryz.sizeOf50 (fun _ => True) ordV ordV ordV_ok (fun _ _ => Iff.rfl) 55 (enters_of Tryz.func55 (by kernel_rfl) rfl) (fun a b _ _ w => ordV_any a b w) S i hi (fun _ _ => trivial) hl
theorem sortVR_any {w0 w : World} {cs : List Chunk} (S : Mem w0 w cs) (i : Nat) {B : Nat} {v : Value} {xs : List Vl} (hi : cs[i]? = some (.own rVl B 50 v xs)) (hP : ∀ x ∈ xs, VlB x) (hl : xs.length ≤ 1000000) :
    Calls Tryz.prog 54 #[v, .func (.func 63) #[] #[]] w (GivesSorted rVl ordV w0 cs i B 50 v xs) :=
  haveI : Inhabited Vl := ⟨⟨0, ⟨#[]⟩, 0⟩⟩
  sortFn_own flatVl (by decide) (fun _ => rfl) oneVl Tryz.laysSf54 Tryz.isAgg50 Tryz.sizeOf50 VlB refV ordV ordV_ok refV_neg 63 (enters_of Tryz.func63 (by kernel_rfl) rfl) (fun a b ha hb w => refV_any a b ha hb w) S i hi hP hl
end Go.Proofs.YtbbljokemhjkhaaGreatDoor

/- What slices.Index, slices.Contains, slices.Compact and slices.Equal make of values. -/
namespace Go.Proofs.YtbbljokemhjkhaaGreatDoor
open Go Go.RowKit Go.Sort
theorem tyVl : STy 39 50 rVl.size 32 (.agg #[.int .i64 0, .string ⟨#[]⟩, .int .i64 0]) := ⟨Tryz.underlying39, by kernel_rfl, rfl, by decide⟩
theorem zeroVl (w : World) : (zeroValue 50).run Tryz.prog w = .ok (.agg #[.int .i64 0, .string ⟨#[]⟩, .int .i64 0]) w := by kernel_rfl
theorem oneZVl (j : Nat) (h : j < rVl.size) : (((Value.agg #[.int .i64 0, .string ⟨#[]⟩, .int .i64 0]).cells)[j]!).oneCell' = true := by
  obtain rfl | rfl | rfl : j = 0 ∨ j = 1 ∨ j = 2 := by
    have : j < 3 := h
    omega
  all_goals rfl
theorem Own.vlAt {M : Nat → Prop} {B E g n cap : Nat} {w : World} {xs : List Vl} (h : Own rVl M B E w (.slice (some ⟨g, 0, none⟩) n cap) xs) (hn : n = xs.length) (k : Nat) (x : Vl) (hk : xs[k]? = some x) :
    (w.cell? ⟨g, k * 3, none⟩ = some (.int .i64 x.k) ∧ w.cell? ⟨g, k * 3 + 1, none⟩ = some (.string x.t) ∧ w.cell? ⟨g, k * 3 + 2, none⟩ = some (.int .i64 x.n)) ∧
    w.frozen? ⟨g, k * 3, none⟩ = false ∧ w.frozen? ⟨g, k * 3 + 1, none⟩ = false ∧ w.frozen? ⟨g, k * 3 + 2, none⟩ = false :=
  ⟨⟨(h.cellP flatVl hn k x hk 0 _ rfl).1, (h.cellP flatVl hn k x hk 1 _ rfl).1, (h.cellP flatVl hn k x hk 2 _ rfl).1⟩, (h.cellP flatVl hn k x hk 0 _ rfl).2, (h.cellP flatVl hn k x hk 1 _ rfl).2, (h.cellP flatVl hn k x hk 2 _ rfl).2⟩
theorem Sl.vl {N : Nat → Prop} {w : World} {A : Option Addr} {xs : List Vl} (h : Sl rVl N w A xs) (k : Nat) (s : Vl) (hk : xs[k]? = some s) : ∃ blk off, A = some ⟨blk, off, none⟩ ∧ blk < w.heap.size ∧
    w.cell? ⟨blk, off + k * 3, none⟩ = some (.int .i64 s.k) ∧ w.cell? ⟨blk, off + k * 3 + 1, none⟩ = some (.string s.t) ∧ w.cell? ⟨blk, off + k * 3 + 2, none⟩ = some (.int .i64 s.n) := by
  obtain ⟨blk, off, l, e, h1, _, h3, h4⟩ := h k s hk
  obtain rfl : l = Vl.cells s := h3
  exact ⟨blk, off, e, h1, h4 0 _ rfl, h4 1 _ rfl, h4 2 _ rfl⟩
theorem vl_ne {x y : Vl} (h : x ≠ y) : (x.k == y.k) = false ∨ ((x.k == y.k) = true ∧ ((x.t.toList == y.t.toList) = false ∨ ((x.t.toList == y.t.toList) = true ∧ (x.n == y.n) = false))) := by
  by_cases h1 : x.k = y.k
  · refine .inr ⟨by simpa using h1, ?_⟩
    by_cases h2 : x.t = y.t
    · refine .inr ⟨by rw [h2]; exact beq_self_eq_true _, ?_⟩
      by_cases h3 : x.n = y.n
      · refine absurd ?_ h
        obtain ⟨k1, t1, n1⟩ := x
        obtain ⟨k2, t2, n2⟩ := y
        obtain rfl : k1 = k2 := h1
        obtain rfl : t1 = t2 := h2
        obtain rfl : n1 = n2 := h3
        rfl
      · simpa using h3
    · exact .inl (valNe h2)
  · exact .inl (by simpa using h1)
theorem vl_eq {x y : Vl} (h : x = y) : (x.k == y.k) = true ∧ (x.t.toList == y.t.toList) = true ∧ (x.n == y.n) = true := by subst h; exact ⟨beq_self_eq_true _, beq_self_eq_true _, beq_self_eq_true _⟩
set_option maxHeartbeats 4000000 in
set_option maxRecDepth 100000 in
theorem idxVl_any {w0 w : World} {cs : List Chunk} {B g n cap : Nat} {xs : List Vl} (S : Mem w0 w (.own rVl B 50 (.slice (some ⟨g, 0, none⟩) n cap) xs :: cs)) (x : Vl) (hn : n = xs.length) (hl : n ≤ 1000000) :
    Calls Tryz.prog 125 #[.slice (some ⟨g, 0, none⟩) n cap, .agg (vlCs x)] w fun e w' => (∃ i : Int, e = .returned (.int .i64 i) ∧ (0 ≤ i ↔ x ∈ xs)) ∧ Below w.heap.size w w' := by
  have Hn := Lib.hid hn
  clear hn
  have HSb := Lib.hid (fun w' (h : Below w.heap.size w w') => S.below h)
  have T := (Mem.start w).new' (vlCs x) 50
  replace T : Mem w (w.alloc (.cells (vlCs x) 50)) [.loc w.heap.size (vlCs x) 50] := T
  clear S
  go_enter Tryz.func125, Tryz.ntmps125
  go_wp2_with fail
  generalize w.alloc (.cells (vlCs x) 50) = w1 at *
  go_loopw [8] (fun i wr => ∃ j : Nat, j ≤ n ∧ i = .int .i64 j ∧ Hid (¬ x ∈ xs.take j) ∧ Mem w wr [.loc w.heap.size (vlCs x) 50]) (fun i _ => n - (intOf i).toNat)
  case atStart => exact ⟨0, Nat.zero_le _, rfl, (by show ¬ _; simp), T⟩
  case round =>
    clear T
    obtain ⟨j, hj, rfl, HP, T⟩ := hrel
    by_cases hlt : j < n
    · obtain ⟨y, hy⟩ : ∃ y, xs[j]? = some y := ⟨_, List.getElem?_eq_getElem (by have := Hn.out; omega)⟩
      have Hy := Lib.hid hy
      clear hy
      have e0 := (T.lv 0 rfl).all
      obtain ⟨⟨d0, d1, d2⟩, _⟩ := ((HSb.out wr T.b).ow 0 rfl).vlAt Hn.out j y Hy.out
      by_cases hxy : x = y
      · have HG : Hid (x ∈ xs) := by rw [hxy]; exact List.mem_of_getElem? Hy.out
        obtain ⟨h0, h1, h2⟩ := vl_eq hxy
        clear hxy HP Hy
        go_wp2_with fail
        go_quiet (fail)
        go_wp2_with fail
        go_ret
        exact ⟨⟨j, rfl, ⟨fun _ => HG.out, fun _ => by omega⟩⟩, (T.below (below_drewN _ _ _)).b⟩
      · have HE : Hid (¬ x ∈ xs.take (j + 1)) := by
          show ¬ _
          rw [take_snoc Hy.out, List.mem_append, List.mem_singleton]
          rintro (h | h)
          · exact HP.out h
          · exact hxy h
        have hne := vl_ne hxy
        clear hxy HP Hy
        rcases hne with h0 | ⟨h0, h1 | ⟨h1, h2⟩⟩
        all_goals
          go_wp2_with fail
          go_quiet (fail)
          go_wp2_with fail
          go_roundw
          case rel => exact ⟨j + 1, by omega, by go_num, HE, T.below (below_drewN _ _ _)⟩
          case measure => simp [intOf]; omega
    · have HG : Hid (¬ x ∈ xs) := by
        have h1 := HP.out
        rw [List.take_of_length_le (by have := Hn.out; omega)] at h1
        exact h1
      go_wp2_with fail
      go_ret
      exact ⟨⟨-1, rfl, ⟨fun h => by omega, fun h => absurd h HG.out⟩⟩, T.b⟩
set_option maxHeartbeats 4000000 in
set_option maxRecDepth 100000 in
theorem idxNilVl_any (x : Vl) (w : World) : Calls Tryz.prog 125 #[.slice none 0 0, .agg (vlCs x)] w fun e w' => e = .returned (.int .i64 (-1)) ∧ Below w.heap.size w w' := by
  have T := (Mem.start w).new' (vlCs x) 50
  go_enter Tryz.func125, Tryz.ntmps125
  go_wp2_with fail
  generalize w.alloc (.cells (vlCs x) 50) = w1 at *
  go_loopw [8] (fun i wr => i = .int .i64 0 ∧ w1 = wr) (fun _ _ => 0)
  case atStart => exact ⟨rfl, rfl⟩
  case round =>
    obtain ⟨rfl, rfl⟩ := hrel
    go_wp2_with fail
    go_ret
    exact ⟨rfl, T.b⟩
set_option maxHeartbeats 4000000 in
set_option maxRecDepth 100000 in
theorem containsVl_any {w0 w : World} {cs : List Chunk} {B : Nat} {v : Value} {xs : List Vl} (S : Mem w0 w (.own rVl B 50 v xs :: cs)) (x : Vl) (hl : xs.length ≤ 1000000) :
    Calls Tryz.prog 62 #[v, .agg (vlCs x)] w fun e w' => e = .returned (.bool (decide (x ∈ xs))) ∧ Below w.heap.size w w' := by
  have T := (Mem.start w).new' (vlCs x) 50
  replace T : Mem w (w.alloc (.cells (vlCs x) 50)) [.loc w.heap.size (vlCs x) 50] := T
  obtain ⟨A, c, rfl⟩ := (S.ow 0 rfl).len
  have Hix : Hid (∀ w', Below w.heap.size w w' → Calls Tryz.prog 125 #[.slice A xs.length c, .agg (vlCs x)] w' fun e w'' => (∃ i : Int, e = .returned (.int .i64 i) ∧ (0 ≤ i ↔ x ∈ xs)) ∧ Below w'.heap.size w' w'') := fun w' h => by
    have S' := S.below h
    rcases (S'.ow 0 rfl).shape2 with ⟨e, e2⟩ | ⟨g, cap, e, _⟩
    · rw [e]
      refine (idxNilVl_any x w').mono ?_
      rintro e w'' ⟨rfl, hb⟩
      exact ⟨⟨-1, rfl, by rw [e2]; simp⟩, hb⟩
    · simp only [Value.slice.injEq] at e
      obtain ⟨rfl, _, rfl⟩ := e
      exact idxVl_any S' x rfl hl
  obtain ⟨bb, hbb⟩ : ∃ bb, bb = decide (x ∈ xs) := ⟨_, rfl⟩
  have Hbb : Hid (bb = true ↔ x ∈ xs) := by show _ ↔ _; rw [hbb, decide_eq_true_eq]
  rw [← hbb]
  clear S hbb
  go_enter Tryz.func62, Tryz.ntmps62
  go_upto_region 1 with fail
  generalize w.alloc (.cells (vlCs x) 50) = w1 at *
  have c0 := (T.lv 0 rfl).all
  go_wp2_with fail
  ((with_reducible refine (Hix.out w1 T.b).mono ?_); rintro e w2 ⟨⟨i, rfl, hi⟩, hl2⟩)
  have Hi := Lib.hid hi
  clear hi
  go_wp2_with fail
  go_ret
  refine ⟨ret_b ?_, (T.below hl2).b⟩
  rw [Bool.eq_iff_iff, Hbb.out, ← Hi.out]
  simp
theorem Mem.ldVl {w0 w : World} {cs : List Chunk} {B g n cap : Nat} {xs : List Vl} (S : Mem w0 w (.own rVl B 50 (.slice (some ⟨g, 0, none⟩) n cap) xs :: cs)) (hn : n = xs.length) (k : Nat) (x : Vl) (hk : xs[k]? = some x) :
    (Instr.loadAt 50 (.pointer (some ⟨g, k * 3, none⟩))).run Tryz.prog w = .ok (.agg (vlCs x)) w := by
  obtain ⟨⟨d0, d1, d2⟩, _⟩ := (S.ow 0 rfl).vlAt hn k x hk
  go_simp
theorem Mem.putVl {w0 w : World} {cs : List Chunk} {B g n cap : Nat} {ys : List Vl} (S : Mem w0 w (.own rVl B 50 (.slice (some ⟨g, 0, none⟩) n cap) ys :: cs)) (hn : n = ys.length) (k : Nat) (x y : Vl) (hx : ys[k]? = some x) :
    Mem w0 (((w.setCell ⟨g, k * 3, none⟩ (.int .i64 y.k)).setCell ⟨g, k * 3 + 1, none⟩ (.string y.t)).setCell ⟨g, k * 3 + 2, none⟩ (.int .i64 y.n)) (.own rVl B 50 (.slice (some ⟨g, 0, none⟩) n cap) (ys.set k y) :: cs) := by
  have hk := lt_of_get hx
  have S1 : Mem w0 (w.setCell ⟨g, k * 3, none⟩ (.int .i64 y.k)) (.own rVl B 50 (.slice (some ⟨g, 0, none⟩) n cap) (ys.set k ⟨y.k, x.t, x.n⟩) :: cs) := S.put flatVl 0 rfl hn k x ⟨y.k, x.t, x.n⟩ hx 0 (by decide) (.int .i64 y.k) rfl
  have S2 := S1.put flatVl 0 rfl (by rw [List.length_set]; exact hn) k ⟨y.k, x.t, x.n⟩ ⟨y.k, y.t, x.n⟩ (by rw [List.getElem?_set_self hk]) 1 (by decide) (.string y.t) rfl
  rw [List.set_cons_zero, List.set_set] at S2
  have S3 := S2.put flatVl 0 rfl (by rw [List.length_set]; exact hn) k ⟨y.k, y.t, x.n⟩ y (by rw [List.getElem?_set_self hk]) 2 (by decide) (.int .i64 y.n) rfl
  rw [List.set_cons_zero, List.set_set] at S3
  exact S3
end Go.Proofs.YtbbljokemhjkhaaGreatDoor
