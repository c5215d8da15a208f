/- Several texts in one: KeyOf, Memb, MembLaw, CompG, CompI, Tree, Members. -/
import Derived.Test.YtfdcgedcfafmcaaGreatDoorPackT
import Derived.Test.YtfdcgedcfafmcaaGreatDoorPackP
import Derived.Test.YtfdcgedcfafmcaaGreatDoorPackJ
import Derived.Test.YtfdcgedcfafmcaaGreatDoorPackQ
import Derived.Test.YtfdcgedcfafmcaaGreatDoorPackW
import Derived.Test.YtfdcgedcfafmcaaGreatDoorPackM
/- What (*group).keyOf returns: the first id of a touch that joins, else its first id. -/
namespace Go.Proofs.YtfdcgedcfafmcaaGreatDoor
open Go Go.RowKit
theorem loadIdV {w : World} {X : Nat} {a b : Value} (h : LV w X #[a, b] 41) : (loadVar 41 ⟨X, 0, none⟩).run Tryz.prog w = .ok (.agg #[a, b]) w := by
  have c0 := h.all
  go_simp
end Go.Proofs.YtfdcgedcfafmcaaGreatDoor

/- Persons on the way, in memory: rows of five cells, and for each one the slices of its touches, its ids and its places. -/
namespace Go.Proofs.YtfdcgedcfafmcaaGreatDoor
open Go Go.RowKit
section
variable {α β : Type}
end
structure MQ where
  key : IdV
  A : Option Addr
  a : Nat
  tch : List Int
  B : Option Addr
  b : Nat
  ids : List IdV
  C : Option Addr
  c : Nat
  at' : List Nat
def MQ.cells (q : MQ) : List Value := [.int .i64 q.key.k, .string q.key.t, .slice q.A q.tch.length q.a, .slice q.B q.ids.length q.b, .slice q.C q.at'.length q.c]
def rMQ : Rep MQ := .flat 5 MQ.cells (fun _ => rfl)
def mq3 (W : Nat) (q : MQ) : List Chunk := [.own rInt W 3 (.slice q.A q.tch.length q.a) q.tch, .own rId W 41 (.slice q.B q.ids.length q.b) q.ids, .own rInt W 3 (.slice q.C q.at'.length q.c) (iL q.at')]
def mqs3 (W : Nat) (qs : List MQ) : List Chunk := qs.flatMap (mq3 W)
abbrev MQ.fresh (x : IdV) : MQ := ⟨x, none, 0, [], none, 0, [], none, 0, []⟩
def MdOk (M : Nat → Prop) (w : World) (qs : List MQ) : Prop := ∀ q ∈ qs, Sl rInt M w q.A q.tch ∧ Sl rId M w q.B q.ids ∧ Sl rInt M w q.C (iL q.at')
def Chunk.mdat (qs : List MQ) : Chunk :=
  ⟨none, fun M w => MdOk M w qs, fun k hd _ h q hq => ⟨(h q hq).1.keep (k.mono hd), (h q hq).2.1.keep (k.mono hd), (h q hq).2.2.keep (k.mono hd)⟩,
    fun hm h q hq => ⟨(h q hq).1.mono (fun k hk e => (hm k hk e).resolve_right (by simp)), (h q hq).2.1.mono (fun k hk e => (hm k hk e).resolve_right (by simp)), (h q hq).2.2.mono (fun k hk e => (hm k hk e).resolve_right (by simp))⟩, fun _ _ e => by cases e⟩
end Go.Proofs.YtfdcgedcfafmcaaGreatDoor

/- Persons: the plain law of the walk over the touches that gathers them. -/
namespace Go.Proofs.YtfdcgedcfafmcaaGreatDoor
open Go Go.RowKit
theorem heads_len (c : Nat → Nat) (k : Nat) : (heads c k).length ≤ k := by
  unfold heads
  have := List.length_filter_le (fun i => c i == i) (List.range k)
  rw [List.length_range] at this
  exact this
def keyAt (r : Rul) (l : List Tch) (i : Nat) : IdV := match l[i]? with | some t => keyP r l t | none => ⟨0, ⟨#[]⟩⟩
theorem noAt_is {l : List Tch} {i : Nat} {t : Tch} (h : l[i]? = some t) : noAt l i = t.no := by unfold noAt; rw [h]
def mRow (r : Rul) (l : List Tch) (c : Nat → Nat) (k h : Nat) : IdV × List Int × List IdV × List Nat := (keyAt r l h, (partAt c k h).map (noAt l), (partAt c k h).flatMap (idsAt l), partAt c k h)
def mRows (r : Rul) (l : List Tch) (c : Nat → Nat) (k : Nat) : List (IdV × List Int × List IdV × List Nat) := (heads c k).map (mRow r l c k)
def MQ.raw (q : MQ) : IdV × List Int × List IdV × List Nat := (q.key, q.tch, q.ids, q.at')
def rawSet (x : IdV × List Int × List IdV × List Nat) : IdV × List Int × List IdV × List Nat := (x.1, x.2.1, srtId x.2.2.1, x.2.2.2)
def placeL (hs : List Nat) : List (Int × Value) := hs.zipIdx.map fun p => ((p.1 : Int), Value.int .i64 (p.2 : Nat))
def MQ.psn (q : MQ) : Psn := ⟨q.key, q.tch, q.ids⟩
def IsMembs (r : Rul) (l : List Tch) (c : Nat → Nat) (qs : List MQ) : Prop := qs.map MQ.raw = (mRows r l c l.length).map rawSet
theorem IsMembs.are {r : Rul} {l : List Tch} {c : Nat → Nat} {qs : List MQ} (h : IsMembs r l c qs) : qs.map MQ.psn = psns r l c := by
  have e : qs.map MQ.psn = (qs.map MQ.raw).map (fun x => (⟨x.1, x.2.1, x.2.2.1⟩ : Psn)) := by rw [List.map_map]; rfl
  rw [e, h]
  unfold mRows psns
  rw [List.map_map, List.map_map]
  exact List.map_congr_left fun i _ => rfl
end Go.Proofs.YtfdcgedcfafmcaaGreatDoor

/- Compacting a list in order, for any order: what is level with the one ahead goes. -/
namespace Go.Proofs.YtfdcgedcfafmcaaGreatDoor
open Go Go.RowKit
def cmpGB {α : Type} (c : α → α → Int) (prev : Option α) (x : α) : Bool := !(prev.any fun p => decide (c x p = 0))
def compG {α : Type} (c : α → α → Int) (prev : Option α) : List α → List α
  | [] => []
  | x :: r => (if cmpGB c prev x = true then [x] else []) ++ compG c (some x) r
theorem compG_snoc {α : Type} (c : α → α → Int) : ∀ (l : List α) (prev : Option α) (x : α), compG c prev (l ++ [x]) = compG c prev l ++ (if cmpGB c (l.getLast?.or prev) x = true then [x] else [])
  | [], prev, x => by
    show (if cmpGB c prev x = true then [x] else []) ++ [] = _
    rw [List.append_nil]; rfl
  | y :: r, prev, x => by
    rw [List.cons_append, compG, compG_snoc c r (some y) x, compG, List.append_assoc]
    congr 3
    rw [List.getLast?_cons]
    cases r.getLast? <;> rfl
theorem compG_take {α : Type} {c : α → α → Int} {l : List α} {j : Nat} {p x : α} (hp : l[j]? = some p) (hx : l[j + 1]? = some x) : compG c none (l.take (j + 2)) = compG c none (l.take (j + 1)) ++ (if decide (c x p = 0) = true then [] else [x]) := by
  rw [take_snoc hx, compG_snoc]
  congr 1
  have e : (l.take (j + 1)).getLast? = some p := by
    rw [take_snoc hp, List.getLast?_concat]
  rw [e]
  have e2 : cmpGB c ((some p).or none) x = !decide (c x p = 0) := rfl
  rw [e2]
  cases decide (c x p = 0) <;> rfl
structure CompGAt {α : Type} (c : α → α → Int) (xs ys : List α) (i j : Nat) : Prop where
  len : ys.length = xs.length
  front : ys.take i = compG c none (xs.take j)
  rest : ys.drop (j - 1) = xs.drop (j - 1)
  le : i < j
theorem CompGAt.get {α : Type} {c : α → α → Int} {xs ys : List α} {i j : Nat} (h : CompGAt c xs ys i j) {k : Nat} (hk : j ≤ k + 1) : ys[k]? = xs[k]? := by
  have h1 := congrArg (fun l : List α => l[k - (j - 1)]?) h.rest
  simp only [List.getElem?_drop] at h1
  rw [show j - 1 + (k - (j - 1)) = k by omega] at h1
  exact h1
theorem CompGAt.skip {α : Type} {c : α → α → Int} {xs ys : List α} {i j : Nat} (h : CompGAt c xs ys i (j + 1)) {p x : α} (hp : ys[j]? = some p) (hx : ys[j + 1]? = some x) (he : decide (c x p = 0) = true) : CompGAt c xs ys i (j + 2) := by
  have e1 := h.get (k := j) (by omega)
  have e2 := h.get (k := j + 1) (by omega)
  refine ⟨h.len, ?_, ?_, by have := h.le; omega⟩
  · rw [compG_take (e1 ▸ hp) (e2 ▸ hx), if_pos he, List.append_nil, h.front]
  · have h1 := congrArg (List.drop 1) h.rest
    rw [List.drop_drop, List.drop_drop] at h1
    exact h1
theorem CompGAt.put {α : Type} {c : α → α → Int} {xs ys : List α} {i j : Nat} (h : CompGAt c xs ys i (j + 1)) {p x : α} (hp : ys[j]? = some p) (hx : ys[j + 1]? = some x) (he : decide (c x p = 0) = false) : CompGAt c xs (ys.set i x) (i + 1) (j + 2) := by
  have e1 := h.get (k := j) (by omega)
  have e2 := h.get (k := j + 1) (by omega)
  have hle := h.le
  have hi : i < ys.length := by have := lt_of_get hx; omega
  refine ⟨by rw [List.length_set, h.len], ?_, ?_, by omega⟩
  · rw [compG_take (e1 ▸ hp) (e2 ▸ hx), if_neg (by simp [he]), ← h.front, List.take_set, take_snoc (x := ys[i]) (List.getElem?_eq_getElem hi)]
    have hl : (ys.take i).length = i := by rw [List.length_take]; omega
    rw [List.set_append_right _ _ (by omega), hl, Nat.sub_self]
    simp
  · rw [List.drop_set_of_lt (by omega)]
    have h1 := congrArg (List.drop 1) h.rest
    rw [List.drop_drop, List.drop_drop] at h1
    exact h1
end Go.Proofs.YtfdcgedcfafmcaaGreatDoor

/- What slices.Compact makes of ids: those level with the one ahead go. -/
namespace Go.Proofs.YtfdcgedcfafmcaaGreatDoor
open Go Go.RowKit Go.Sort
def GivesCompI (xs : List IdV) (B g cap : Nat) (w0 : World) (cs : List Chunk) (e : Ending) (w' : World) : Prop :=
  e = .returned (.slice (some ⟨g, 0, none⟩) (compG cmpId none xs).length cap) ∧ Mem w0 w' (.own rId B 41 (.slice (some ⟨g, 0, none⟩) (compG cmpId none xs).length cap) (compG cmpId none xs) :: cs)
end Go.Proofs.YtfdcgedcfafmcaaGreatDoor

/- Regions that draw their order, where two operations that act may be ready at once (the walk parts in two), and where some operations leave the class of worlds. No program is in sight. -/
namespace Go.Proofs.YtfdcgedcfafmcaaGreatDoor
open Go
section
variable {P : Program} {ops : Array Oper} {Q : Exit → Act → World → Prop} {md : Region.Mode} {C : World → Prop} {B : List Nat}
def brk (B : List Nat) (listed : Array Bool) : Bool := B.any fun b => listed.getD b false
theorem brk_set {listed : Array Bool} {j : Nat} (h : j ∉ B) : brk B (listed.setIfInBounds j true) = brk B listed := by
  have hjb : ∀ b ∈ B, j ≠ b := fun b hb e => h (by rw [e]; exact hb)
  unfold brk
  rw [Bool.eq_iff_iff, List.any_eq_true, List.any_eq_true]
  constructor
  · rintro ⟨b, hb, e⟩
    rw [getD_set_ne false (hjb b hb)] at e
    exact ⟨b, hb, e⟩
  · rintro ⟨b, hb, e⟩
    exact ⟨b, hb, by rw [getD_set_ne false (hjb b hb)]; exact e⟩
theorem brk_mono {listed : Array Bool} (j : Nat) (h : brk B listed = true) : brk B (listed.setIfInBounds j true) = true := by
  unfold brk at h ⊢
  obtain ⟨b, hb, e⟩ := List.any_eq_true.1 h
  exact List.any_eq_true.2 ⟨b, hb, getD_set_true e⟩
def waitsQ (md : Region.Mode) (ops : Array Oper) (listed : Array Bool) (i : Nat) : Nat → Nat → Bool
  | 0, _ => false
  | n + 1, j => match ops[j]? with
    | none => true
    | some o => o.after.any (fun e => Region.binds md e && (decide (e.on = i) || (!(listed.getD e.on false) && waitsQ md ops listed i n e.on)))
theorem waitsQ_spec {listed : Array Bool} {i : Nat} (hun : listed.getD i true = false) : ∀ (n j : Nat), waitsQ md ops listed i n j = true → j ∉ Region.ready md ops listed
  | 0, _, h => by cases h
  | n + 1, j, h => by
    intro hr
    obtain ⟨_, o, ho, hall⟩ := mem_ready.1 hr
    unfold waitsQ at h
    rw [ho] at h
    obtain ⟨k, hk, he⟩ := Array.any_eq_true.1 h
    simp only [Bool.and_eq_true, Bool.or_eq_true, decide_eq_true_eq] at he
    have h1 := hall _ (Array.getElem_mem hk) he.1
    rcases he.2 with he2 | he2
    · rw [he2] at h1
      exact listed_both h1 hun
    · rw [h1] at he2
      simp at he2
theorem waitsQ_step {listed : Array Bool} {i j : Nat} (hun : listed.getD i true = false) (hj : j ∈ Region.ready md ops listed) : ∀ (n b : Nat), waitsQ md ops listed i n b = true → waitsQ md ops (listed.setIfInBounds j true) i n b = true
  | 0, _, h => by cases h
  | n + 1, b, h => by
    unfold waitsQ at h ⊢
    cases ho : ops[b]? with
    | none => rfl
    | some o =>
      rw [ho] at h
      obtain ⟨k, hk, he⟩ := Array.any_eq_true.1 h
      refine Array.any_eq_true.2 ⟨k, hk, ?_⟩
      simp only [Bool.and_eq_true, Bool.or_eq_true, decide_eq_true_eq] at he ⊢
      refine ⟨he.1, ?_⟩
      rcases he.2 with he2 | he2
      · exact .inl he2
      · right
        by_cases hjk : j = (o.after[k]).on
        · exact absurd hj (by rw [hjk]; exact waitsQ_spec hun n _ he2.2)
        · rw [getD_set_ne false hjk]
          exact ⟨he2.1, waitsQ_step hun hj n _ he2.2⟩
def wpAnyB (P : Program) (md : Region.Mode) (ops : Array Oper) (B : List Nat) (C : World → Prop) (Q : Exit → Act → World → Prop) : Nat → Array Bool → Act → World → Prop
  | 0, listed, a, w => Region.ready md ops listed = [] ∧ Q .normal a w
  | fuel + 1, listed, a, w =>
    (Region.ready md ops listed = [] → Q .normal a w) ∧
    ∀ i ∈ Region.ready md ops listed, wpOp P ops Q i (fun a' w' => (brk B (listed.setIfInBounds i true) = false → C w') ∧ wpAnyB P md ops B C Q fuel (listed.setIfInBounds i true) a' w') a w
theorem wpAny_of_B : ∀ (fuel : Nat) (listed : Array Bool) (a : Act) (w : World), wpAnyB P md ops B C Q fuel listed a w → wpAny P md ops Q fuel listed a w
  | 0, _, _, _, h => h
  | fuel + 1, _, _, _, h => ⟨h.1, fun i hi => wpOp_mono (fun a' w' h' => wpAny_of_B fuel _ a' w' h'.2) (h.2 i hi)⟩
theorem wpAnyB_first {i : Nat} {oi : Oper} {v : Value} {C' : World → Prop} (hi : ops[i]? = some oi) (hsel : ∀ (j : Nat) (o : Oper) cs b, ops[j]? = some o → o.op ≠ .select cs b)
    (hQ : ∀ c a w, Q (.panic c) (a.put oi.dst v) w → Q (.panic c) a w) (br : Bool) (hC' : ∀ w, (br = false → C w) → C' w) :
    ∀ (fuel : Nat) (listed : Array Bool) (a : Act) (w : World), brk B listed = br → (br = false → i ∉ B ∧ C w ∧ ∀ b ∈ B, waitsQ md ops listed i 12 b = true) →
      (∀ j oj, ops[j]? = some oj → j ≠ i → listed.getD j true = false → (∀ e ∈ oj.after, Region.binds md e = true → e.on ≠ i) → oi.apart ops oj = true) →
      i ∈ Region.ready md ops listed → YieldsM P ops C' oi v a →
      wpAnyB P md ops B C Q fuel (listed.setIfInBounds i true) (a.put oi.dst v) w → wpAnyB P md ops B C Q (fuel + 1) listed a w := by
  intro fuel
  induction fuel with
  | zero =>
    intro listed a w hbr hC _ hr hy H
    refine ⟨fun h => (by rw [h] at hr; cases hr), fun j hj => ?_⟩
    by_cases hji : j = i
    · subst hji
      refine hy.wpOp hi (hC' w (fun h => (hC h).2.1)) ⟨fun h => ?_, H⟩
      cases hb : br with
      | false => exact (hC hb).2.1
      | true => rw [hb] at hbr; rw [brk_mono j hbr] at h; cases h
    · have := ready_mono hj hji
      rw [H.1] at this
      cases this
  | succ fuel ih =>
    intro listed a w hbr hC hfree hr hy H
    refine ⟨fun h => (by rw [h] at hr; cases hr), fun j hj => ?_⟩
    by_cases hji : j = i
    · subst hji
      refine hy.wpOp hi (hC' w (fun h => (hC h).2.1)) ⟨fun h => ?_, H⟩
      cases hb : br with
      | false => exact (hC hb).2.1
      | true => rw [hb] at hbr; rw [brk_mono j hbr] at h; cases h
    · have h1 := H.2 j (ready_mono hj hji)
      obtain ⟨hjun, oj, hoj, hall⟩ := mem_ready.1 hj
      have hiun := (mem_ready.1 hr).1
      have hnot : ∀ e ∈ oj.after, Region.binds md e = true → e.on ≠ i := fun e he hb heq => by
        have h1 := hall e he hb
        rw [heq] at h1
        exact listed_both h1 hiun
      have hjB : br = false → j ∉ B := fun hb hjb => waitsQ_spec hiun 12 j ((hC hb).2.2 j hjb) hj
      have h2 := wpOp_putM hoj (hfree j oj hoj hji hjun hnot) (fun cs b => hsel i oi cs b hi) (fun cs b => hsel j oj cs b hoj) hQ hy h1
      have hfree' : ∀ k ok, ops[k]? = some ok → k ≠ i → (listed.setIfInBounds j true).getD k true = false →
          (∀ e ∈ ok.after, Region.binds md e = true → e.on ≠ i) → oi.apart ops ok = true := fun k ok hk hki hun hno => by
        refine hfree k ok hk hki ?_ hno
        by_cases hjk : j = k
        · subst hjk; exact hjun
        · rw [getD_set_ne true hjk] at hun; exact hun
      have hbj : brk B (listed.setIfInBounds j true) = br := by
        cases hb : br with
        | false => rw [brk_set (hjB hb), hbr, hb]
        | true => exact brk_mono j (by rw [hbr, hb])
      have hbij : brk B ((listed.setIfInBounds i true).setIfInBounds j true) = br := by
        cases hb : br with
        | false => rw [brk_set (hjB hb), brk_set (hC hb).1, hbr, hb]
        | true => exact brk_mono j (brk_mono i (by rw [hbr, hb]))
      refine wpOp_mono (fun a' w' h3 => ⟨fun h => h3.2.1 (by rw [hbij, ← hbj]; exact h), ih (listed.setIfInBounds j true) a' w' hbj (fun hb => ⟨(hC hb).1, h3.2.1 (by rw [hbij]; exact hb), fun b hbB => waitsQ_step hiun hj 12 b ((hC hb).2.2 b hbB)⟩) hfree' (ready_mono hr (Ne.symm hji)) h3.1 ?_⟩) h2
      rw [Array.setIfInBounds_comm _ _ hji]
      exact h3.2.2
theorem wpAnyB_pure {i : Nat} {oi : Oper} {v : Value} (hi : ops[i]? = some oi) (hiB : i ∉ B) (hsel : ∀ (j : Nat) (o : Oper) cs b, ops[j]? = some o → o.op ≠ .select cs b)
    (hQ : ∀ c a w, Q (.panic c) (a.put oi.dst v) w → Q (.panic c) a w) :
    ∀ (fuel : Nat) (listed : Array Bool) (a : Act) (w : World), (brk B listed = false → C w) →
      (∀ j oj, ops[j]? = some oj → j ≠ i → listed.getD j true = false → (∀ e ∈ oj.after, Region.binds md e = true → e.on ≠ i) → oi.apart ops oj = true) →
      i ∈ Region.ready md ops listed → YieldsM P ops (fun _ => True) oi v a →
      wpAnyB P md ops B C Q fuel (listed.setIfInBounds i true) (a.put oi.dst v) w → wpAnyB P md ops B C Q (fuel + 1) listed a w := by
  intro fuel
  induction fuel with
  | zero =>
    intro listed a w hC _ hr hy H
    refine ⟨fun h => (by rw [h] at hr; cases hr), fun j hj => ?_⟩
    by_cases hji : j = i
    · subst hji
      exact hy.wpOp hi trivial ⟨fun h => hC (by rw [← brk_set hiB]; exact h), H⟩
    · have := ready_mono hj hji
      rw [H.1] at this
      cases this
  | succ fuel ih =>
    intro listed a w hC hfree hr hy H
    refine ⟨fun h => (by rw [h] at hr; cases hr), fun j hj => ?_⟩
    by_cases hji : j = i
    · subst hji
      exact hy.wpOp hi trivial ⟨fun h => hC (by rw [← brk_set hiB]; exact h), H⟩
    · have h1 := H.2 j (ready_mono hj hji)
      obtain ⟨hjun, oj, hoj, hall⟩ := mem_ready.1 hj
      have hiun := (mem_ready.1 hr).1
      have hnot : ∀ e ∈ oj.after, Region.binds md e = true → e.on ≠ i := fun e he hb heq => by
        have h1 := hall e he hb
        rw [heq] at h1
        exact listed_both h1 hiun
      have h2 := wpOp_putM hoj (hfree j oj hoj hji hjun hnot) (fun cs b => hsel i oi cs b hi) (fun cs b => hsel j oj cs b hoj) hQ hy h1
      have hfree' : ∀ k ok, ops[k]? = some ok → k ≠ i → (listed.setIfInBounds j true).getD k true = false →
          (∀ e ∈ ok.after, Region.binds md e = true → e.on ≠ i) → oi.apart ops ok = true := fun k ok hk hki hun hno => by
        refine hfree k ok hk hki ?_ hno
        by_cases hjk : j = k
        · subst hjk; exact hjun
        · rw [getD_set_ne true hjk] at hun; exact hun
      have hbij : brk B ((listed.setIfInBounds i true).setIfInBounds j true) = brk B (listed.setIfInBounds j true) := by
        rw [Array.setIfInBounds_comm _ _ (Ne.symm hji), brk_set hiB]
      refine wpOp_mono (fun a' w' h3 => ⟨fun h => h3.2.1 (by rw [hbij]; exact h), ih (listed.setIfInBounds j true) a' w' (fun h => h3.2.1 (by rw [hbij]; exact h)) hfree' (ready_mono hr (Ne.symm hji)) h3.1 ?_⟩) h2
      rw [Array.setIfInBounds_comm _ _ hji]
      exact h3.2.2
inductive OrdT where
  | z
  | q (i : Nat) (r : OrdT)
  | p (i : Nat) (r : OrdT)
  | e (i : Nat) (r : OrdT)
  | b (i : Nat) (r : OrdT)
  | e2 (i : Nat) (r : OrdT) (j : Nat) (s : OrdT)
def OrdT.len : OrdT → Nat
  | .z => 0
  | .q _ r => r.len + 1
  | .p _ r => r.len + 1
  | .e _ r => r.len + 1
  | .b _ r => r.len + 1
  | .e2 _ r _ _ => r.len + 1
def wpOneT (P : Program) (ops : Array Oper) (C D : World → Prop) (Q : Exit → Act → World → Prop) (i : Nat) (K : Act → World → Prop) (a : Act) (w : World) : Prop :=
  ∃ o, ops[i]? = some o ∧ (if Region.wanted o (yielded ops a.tmps) = true then o.wp P a w (fun a' w' => D w' ∧ K a' w') Q else (C w → D w) ∧ K (a.put o.dst undef) w)
def wpMixT (P : Program) (ops : Array Oper) (Q : Exit → Act → World → Prop) : (World → Prop) → OrdT → Act → World → Prop
  | _, .z, a, w => Q .normal a w
  | C, .q i r, a, w => ∃ o v, ops[i]? = some o ∧ YieldsM P ops C o v a ∧ wpMixT P ops Q C r (a.put o.dst v) w
  | C, .p i r, a, w => ∃ o v, ops[i]? = some o ∧ YieldsM P ops (fun _ => True) o v a ∧ wpMixT P ops Q C r (a.put o.dst v) w
  | C, .e i r, a, w => wpOneT P ops C C Q i (wpMixT P ops Q C r) a w
  | C, .b i r, a, w => wpOneT P ops C (fun _ => True) Q i (wpMixT P ops Q (fun _ => True) r) a w
  | C, .e2 i r j s, a, w => wpOneT P ops C C Q i (wpMixT P ops Q C r) a w ∧ wpOneT P ops C C Q j (wpMixT P ops Q C s) a w
def mixOkT (md : Region.Mode) (ops : Array Oper) (B : List Nat) : Bool → OrdT → Array Bool → Bool
  | _, .z, listed => (Region.ready md ops listed).isEmpty
  | br, .q i r, listed => (Region.ready md ops listed).contains i && Region.free md ops listed i && (br || (decide (i ∉ B) && B.all fun b => waitsQ md ops listed i 12 b)) && mixOkT md ops B br r (listed.setIfInBounds i true)
  | br, .p i r, listed => (Region.ready md ops listed).contains i && Region.free md ops listed i && decide (i ∉ B) && mixOkT md ops B br r (listed.setIfInBounds i true)
  | br, .e i r, listed => decide (Region.ready md ops listed = [i]) && (br || decide (i ∉ B)) && mixOkT md ops B br r (listed.setIfInBounds i true)
  | _, .b i r, listed => decide (Region.ready md ops listed = [i]) && decide (i ∈ B) && decide (i < listed.size) && mixOkT md ops B true r (listed.setIfInBounds i true)
  | br, .e2 i r j s, listed => decide (Region.ready md ops listed = [i, j]) && (br || decide (i ∉ B)) && mixOkT md ops B br r (listed.setIfInBounds i true) && (br || decide (j ∉ B)) && mixOkT md ops B br s (listed.setIfInBounds j true) && decide (s.len = r.len)
def clsB (br : Bool) (C : World → Prop) : World → Prop := if br = true then fun _ => True else C
theorem wpOneT_op {i : Nat} {n : Nat} {listed : Array Bool} {a : Act} {w : World} {D D' : World → Prop} {K : Act → World → Prop} (hD : D w) (hob : ∀ w, D' w → brk B (listed.setIfInBounds i true) = false → C w)
    (ih : ∀ a' w', D' w' → K a' w' → wpAnyB P md ops B C Q n (listed.setIfInBounds i true) a' w') (h : wpOneT P ops D D' Q i K a w) :
    wpOp P ops Q i (fun a' w' => (brk B (listed.setIfInBounds i true) = false → C w') ∧ wpAnyB P md ops B C Q n (listed.setIfInBounds i true) a' w') a w := by
  obtain ⟨o, hi, h⟩ := h
  unfold wpOp
  simp only [hi]
  split
  · rename_i hw
    simp only [hw, if_true] at h
    exact .inl (Oper.wp_mono (fun a' w' h' => ⟨hob w' h'.1, ih a' w' h'.1 h'.2⟩) h)
  · rename_i hw
    simp only [hw] at h
    exact ⟨hob w (h.1 hD), ih _ _ (h.1 hD) h.2⟩
theorem wpAnyB_mixT (hs : Region.noSelect ops = true) (hQ : ∀ c a w, ¬ Q (.panic c) a w) : ∀ (l : OrdT) (br : Bool) (listed : Array Bool) (a : Act) (w : World), brk B listed = br → clsB br C w →
    mixOkT md ops B br l listed = true → wpMixT P ops Q (clsB br C) l a w → wpAnyB P md ops B C Q l.len listed a w
  | .z, br, listed, a, w, _, _, hB, h => ⟨by simpa [mixOkT] using hB, h⟩
  | .q i r, br, listed, a, w, hbr, hC, hB, h => by
    obtain ⟨o, v, hi, hy, h⟩ := h
    simp only [mixOkT, Bool.and_eq_true, Bool.or_eq_true, decide_eq_true_eq] at hB
    obtain ⟨⟨⟨hr, hf⟩, hb⟩, hB'⟩ := hB
    have hnb : br = false → i ∉ B ∧ ∀ b ∈ B, waitsQ md ops listed i 12 b = true := fun e => by
      rcases hb with hb | hb
      · rw [e] at hb; cases hb
      · exact ⟨hb.1, fun b hbB => List.all_eq_true.1 hb.2 b hbB⟩
    have hset : brk B (listed.setIfInBounds i true) = br := by
      cases e : br with
      | false => rw [brk_set (hnb e).1, hbr, e]
      | true => exact brk_mono i (by rw [hbr, e])
    refine wpAnyB_first hi (Region.noSelect_spec hs) (fun c a w h => absurd h (hQ c _ w)) br (C' := clsB br C) (fun w h => ?_) r.len listed a w hbr (fun e => ⟨(hnb e).1, ?_, (hnb e).2⟩) (Region.free_spec hi hf) (by simpa using hr) hy
      (wpAnyB_mixT hs hQ r br _ _ w hset hC hB' h)
    · unfold clsB
      split
      · trivial
      · rename_i e; exact h (by simpa using e)
    · unfold clsB at hC
      rw [e, if_neg (by decide)] at hC
      exact hC
  | .p i r, br, listed, a, w, hbr, hC, hB, h => by
    obtain ⟨o, v, hi, hy, h⟩ := h
    simp only [mixOkT, Bool.and_eq_true, decide_eq_true_eq] at hB
    obtain ⟨⟨⟨hr, hf⟩, hb⟩, hB'⟩ := hB
    refine wpAnyB_pure hi hb (Region.noSelect_spec hs) (fun c a w h => absurd h (hQ c _ w)) r.len listed a w (fun e => ?_) (Region.free_spec hi hf) (by simpa using hr) hy
      (wpAnyB_mixT hs hQ r br _ _ w (by rw [brk_set hb, hbr]) hC hB' h)
    unfold clsB at hC
    rw [← hbr, e, if_neg (by decide)] at hC
    exact hC
  | .e i r, br, listed, a, w, hbr, hC, hB, h => by
    simp only [mixOkT, Bool.and_eq_true, Bool.or_eq_true, decide_eq_true_eq] at hB
    obtain ⟨⟨hr, hb⟩, hB'⟩ := hB
    have hset : brk B (listed.setIfInBounds i true) = br := by
      cases e : br with
      | false => rw [brk_set (hb.resolve_left (by rw [e]; decide)), hbr, e]
      | true => exact brk_mono i (by rw [hbr, e])
    refine ⟨fun h0 => (by rw [h0] at hr; cases hr), fun j hj => ?_⟩
    rw [hr, List.mem_singleton] at hj
    subst hj
    exact wpOneT_op hC (fun w hD e => by rw [hset] at e; unfold clsB at hD; rw [e, if_neg (by decide)] at hD; exact hD) (fun a' w' hD h' => wpAnyB_mixT hs hQ r br _ a' w' hset hD hB' h') h
  | .b i r, br, listed, a, w, hbr, hC, hB, h => by
    simp only [mixOkT, Bool.and_eq_true, decide_eq_true_eq] at hB
    obtain ⟨⟨⟨hr, hb⟩, hlt⟩, hB'⟩ := hB
    have hset : brk B (listed.setIfInBounds i true) = true := List.any_eq_true.2 ⟨i, hb, by simp [hlt]⟩
    refine ⟨fun h0 => (by rw [h0] at hr; cases hr), fun j hj => ?_⟩
    rw [hr, List.mem_singleton] at hj
    subst hj
    exact wpOneT_op hC (fun w _ e => by rw [hset] at e; cases e) (fun a' w' _ h' => wpAnyB_mixT hs hQ r true _ a' w' hset (by unfold clsB; rw [if_pos rfl]; trivial) hB' (by unfold clsB; rw [if_pos rfl]; exact h')) h
  | .e2 i r j s, br, listed, a, w, hbr, hC, hB, h => by
    simp only [mixOkT, Bool.and_eq_true, Bool.or_eq_true, decide_eq_true_eq] at hB
    obtain ⟨⟨⟨⟨⟨hr, hb1⟩, hB'⟩, hb2⟩, hB2⟩, hlen⟩ := hB
    have hset : ∀ k, (br = true ∨ k ∉ B) → brk B (listed.setIfInBounds k true) = br := fun k hb => by
      cases e : br with
      | false => rw [brk_set (hb.resolve_left (by rw [e]; decide)), hbr, e]
      | true => exact brk_mono k (by rw [hbr, e])
    refine ⟨fun h0 => (by rw [h0] at hr; cases hr), fun k hk => ?_⟩
    rw [hr] at hk
    rcases List.mem_cons.1 hk with rfl | hk
    · exact wpOneT_op hC (fun w hD e => by rw [hset k hb1] at e; unfold clsB at hD; rw [e, if_neg (by decide)] at hD; exact hD) (fun a' w' hD h' => wpAnyB_mixT hs hQ r br _ a' w' (hset k hb1) hD hB' h') h.1
    · rw [List.mem_singleton] at hk
      subst hk
      refine wpOneT_op hC (fun w hD e => by rw [hset k hb2] at e; unfold clsB at hD; rw [e, if_neg (by decide)] at hD; exact hD) (fun a' w' hD h' => ?_) h.2
      have := wpAnyB_mixT hs hQ s br _ a' w' (hset k hb2) hD hB2 h'
      rw [hlen] at this
      exact this
theorem wp_region_mixT {id : Nat} {a : Act} {w : World} {l : List Oper} (B : List Nat) (C : World → Prop) (ord : OrdT) (hm : P.follows .mixedOrders = true) (hB : (Region.noSelect l.toArray && !(brk B (Array.replicate l.length false)) && mixOkT .any l.toArray B false ord (Array.replicate l.length false) && decide (ord.len = l.length)) = true)
    (hC : ∀ w1, Drewn w w1 → C w1) (h : ∀ K : Act → World → Prop, (∀ a' w', Q .normal a' w' → K a' w') → ∀ w1, Drewn w w1 → wpMixT P l.toArray (Exit.then K (fun _ _ _ => False)) C ord a w1) : (Code.region id l.toArray true).wp P Q a w := by
  simp only [Bool.and_eq_true, decide_eq_true_eq, Bool.not_eq_true'] at hB
  obtain ⟨⟨⟨h1, h4⟩, h2⟩, h3⟩ := hB
  have H := h (fun a' w' => Q .normal a' w') (fun _ _ h => h) w.drew rfl
  have H2 := wpAnyB_mixT (md := .any) (C := C) h1 (Q := Exit.then (fun a' w' => Q .normal a' w') (fun _ _ _ => False)) (fun _ _ _ h => h) ord false (Array.replicate l.length false) a w.drew h4 (by unfold clsB; rw [if_neg (by decide)]; exact hC _ rfl) h2 (by unfold clsB; rw [if_neg (by decide)]; exact H)
  refine Code.wp_mono (Q := Exit.then (fun a' w' => Q .normal a' w') (fun _ _ _ => False)) (fun e a w q => by cases e <;> first | exact q | exact q.elim) ?_
  refine wp_region_any hm ?_
  have H3 := wpAny_of_B _ _ _ _ H2
  rw [h3] at H3
  simpa using H3
theorem mixT_p {i : Nat} {r : OrdT} {o : Oper} {a : Act} {w : World} (hi : ops[i]? = some o)
    (h : ∀ K : Act → Prop, (∀ a', wpMixT P ops Q C r a' w → K a') → if Region.wanted o (yielded ops a.tmps) then ∃ v, (∀ w, Oper.quietUpon P (fun w'' => w'' = w) w v ((execOp a.eval o).run P w)) ∧ K (a.put o.dst v) else K (a.put o.dst undef)) :
    wpMixT P ops Q C (.q i r) a w := by
  have := h (fun a' => wpMixT P ops Q C r a' w) (fun _ h => h)
  by_cases hw : Region.wanted o (yielded ops a.tmps) = true
  · rw [if_pos hw] at this
    obtain ⟨v, h1, h2⟩ := this
    exact ⟨o, v, hi, .inl ⟨hw, fun w _ => h1 w⟩, h2⟩
  · rw [if_neg hw] at this
    exact ⟨o, undef, hi, .inr ⟨by simpa using hw, rfl⟩, this⟩
theorem mixT_pp {i : Nat} {r : OrdT} {o : Oper} {a : Act} {w : World} (hi : ops[i]? = some o)
    (h : ∀ K : Act → Prop, (∀ a', wpMixT P ops Q C r a' w → K a') → if Region.wanted o (yielded ops a.tmps) then ∃ v, (∀ w, Oper.quietUpon P (fun w'' => w'' = w) w v ((execOp a.eval o).run P w)) ∧ K (a.put o.dst v) else K (a.put o.dst undef)) :
    wpMixT P ops Q C (.p i r) a w := by
  have := h (fun a' => wpMixT P ops Q C r a' w) (fun _ h => h)
  by_cases hw : Region.wanted o (yielded ops a.tmps) = true
  · rw [if_pos hw] at this
    obtain ⟨v, h1, h2⟩ := this
    exact ⟨o, v, hi, .inl ⟨hw, fun w _ => h1 w⟩, h2⟩
  · rw [if_neg hw] at this
    exact ⟨o, undef, hi, .inr ⟨by simpa using hw, rfl⟩, this⟩
theorem mixT_loadR {i : Nat} {r : OrdT} {o : Oper} {a : Act} {w : World} {t : TypeId} {x : Operand} {p : Value} (v : Value) (hi : ops[i]? = some o) (hg : o.guard = none) (ho : o.op = .load t x) (hx : a.eval x = p)
    (hr : ∀ w', C w' → (Instr.loadAt t p).run P w' = .ok v w') (h : wpMixT P ops Q C r (a.put o.dst v) w) : wpMixT P ops Q C (.q i r) a w := by
  refine ⟨o, v, hi, .inl ⟨by simp [Region.wanted, hg], fun w hC => ?_⟩, h⟩
  have h2 := hr w hC
  unfold execOp
  simp only [ho, hx, Sem.run_bind, h2, Result.andThen_ok, Sem.run_pure, Oper.quietUpon, and_self]
theorem mixT_one {K0 K1 : Act → World → Prop} {D : World → Prop} {i : Nat} {o : Oper} {a : Act} {w : World} (hi : ops[i]? = some o) (hg : o.guard = none)
    (h : ∀ K : Act → World → Prop, (∀ a' w', (D w' ∧ K1 a' w') → K a' w') → wpList P ops (Exit.then K (fun _ _ _ => False)) [o] a w) :
    wpOneT P ops C D (Exit.then K0 (fun _ _ _ => False)) i K1 a w := by
  have := h _ (fun _ _ h => h)
  have hw : Region.wanted o (yielded ops a.tmps) = true := by simp [Region.wanted, hg]
  refine ⟨o, hi, ?_⟩
  rw [if_pos hw]
  exact wp_of_list hg this
theorem mixT_l {K0 : Act → World → Prop} {i : Nat} {r : OrdT} {o : Oper} {a : Act} {w : World} (hi : ops[i]? = some o) (hg : o.guard = none)
    (h : ∀ K : Act → World → Prop, (∀ a' w', (C w' ∧ wpMixT P ops (Exit.then K0 (fun _ _ _ => False)) C r a' w') → K a' w') → wpList P ops (Exit.then K (fun _ _ _ => False)) [o] a w) :
    wpMixT P ops (Exit.then K0 (fun _ _ _ => False)) C (.e i r) a w := mixT_one hi hg h
theorem mixT_b {K0 : Act → World → Prop} {i : Nat} {r : OrdT} {o : Oper} {a : Act} {w : World} (hi : ops[i]? = some o) (hg : o.guard = none)
    (h : ∀ K : Act → World → Prop, (∀ a' w', (True ∧ wpMixT P ops (Exit.then K0 (fun _ _ _ => False)) (fun _ => True) r a' w') → K a' w') → wpList P ops (Exit.then K (fun _ _ _ => False)) [o] a w) :
    wpMixT P ops (Exit.then K0 (fun _ _ _ => False)) C (.b i r) a w := mixT_one hi hg h
theorem mixT_2 {i j : Nat} {r s : OrdT} {a : Act} {w : World} (h1 : wpOneT P ops C C Q i (wpMixT P ops Q C r) a w) (h2 : wpOneT P ops C C Q j (wpMixT P ops Q C s) a w) : wpMixT P ops Q C (.e2 i r j s) a w := ⟨h1, h2⟩
theorem mixT_nil {a : Act} {w : World} (h : Q .normal a w) : wpMixT P ops Q C .z a w := h
end
end Go.Proofs.YtfdcgedcfafmcaaGreatDoor

/- What (*group).members returns: all persons, with the places of their touches. -/
namespace Go.Proofs.YtfdcgedcfafmcaaGreatDoor
open Go Go.RowKit
def GivesMembs (r : Rul) (ts : List Tch) (w : World) (e : Ending) (w' : World) : Prop :=
  ∃ (A : Option Addr) (c : Nat) (cc : Nat → Nat) (qs : List MQ), e = .returned (.slice A qs.length c) ∧ IsPart ts.length (Edge r ts) cc ∧ IsMembs r ts cc qs ∧ Mem w w' [.sl rMQ A qs, .mdat qs]
theorem flat_len {α β : Type} {f : α → List β} {m : Nat} : ∀ (l : List α), (∀ x, (f x).length ≤ m) → (l.flatMap f).length ≤ m * l.length
  | [], _ => by simp
  | x :: r, h => by
    have := flat_len r h
    have := h x
    rw [List.flatMap_cons, List.length_append, List.length_cons, Nat.mul_succ]
    omega
abbrev mCs (B X : Nat) (cc : Nat → Nat) (k : Nat) (Ap : Option Addr) (row : List Int) (V : Value) (ys qs : List MQ) : List Chunk := .mapG keyInt X (placeL (heads cc k)) :: .sl rInt Ap row :: .own rMQ B 101 V ys :: mqs3 B qs
end Go.Proofs.YtfdcgedcfafmcaaGreatDoor
