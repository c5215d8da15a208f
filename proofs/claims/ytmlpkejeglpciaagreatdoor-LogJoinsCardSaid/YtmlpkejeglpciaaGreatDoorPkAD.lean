/- Several texts in one: EvLaw, St, StMore. -/
import Derived.Test.YtmlpkejeglpciaaGreatDoorPkAC
import Derived.Test.YtmlpkejeglpciaaGreatDoorPkAB
import Derived.Laws.OwnMore
/- Events and schemas: how they lie in memory, and their faults in plain words. -/
namespace Go.Proofs.YtmlpkejeglpciaaGreatDoor
open Go.RowKit
structure Evt where
  id : ByteArray
  name : ByteArray
  at' : Int
  kind : Int
  text : ByteArray
  flds : List Fld
def Evt.cells (e : Evt) : List Value := [.string e.id, .string e.name, .int .i64 e.at', .int .i64 e.kind, .string e.text]
def rEvt : Rep Evt := ((Rep.flat 5 Evt.cells (fun _ => rfl)).app rFld.list).via (fun e => (e, e.flds))
abbrev evCs (e : Evt) (A : Option Addr) (c : Nat) : Array Value := #[.string e.id, .string e.name, .int .i64 e.at', .int .i64 e.kind, .string e.text, .slice A e.flds.length c]
theorem rEvt_mk {N : Nat → Prop} {w : World} {e : Evt} {A : Option Addr} {c : Nat} (h : Sl rFld N w A e.flds) : rEvt.rel N w e (evCs e A c).toList := ⟨Evt.cells e, [.slice A e.flds.length c], rfl, rfl, A, c, rfl, h⟩
theorem rEvt_of {N : Nat → Prop} {w : World} {e : Evt} {l : List Value} (h : rEvt.rel N w e l) : ∃ A c, l = (evCs e A c).toList ∧ Sl rFld N w A e.flds := by
  obtain ⟨l1, l2, rfl, h1, A, c, rfl, h2⟩ := h
  obtain rfl : l1 = Evt.cells e := h1
  exact ⟨A, c, rfl, h2⟩
theorem Sl.evt {N : Nat → Prop} {w : World} {A : Option Addr} {xs : List Evt} (h : Sl rEvt N w A xs) (k : Nat) (e : Evt) (hk : xs[k]? = some e) : ∃ blk off Af cf, A = some ⟨blk, off, none⟩ ∧ blk < w.heap.size ∧
    w.cell? ⟨blk, off + k * 6, none⟩ = some (.string e.id) ∧ w.cell? ⟨blk, off + k * 6 + 1, none⟩ = some (.string e.name) ∧ w.cell? ⟨blk, off + k * 6 + 2, none⟩ = some (.int .i64 e.at') ∧ w.cell? ⟨blk, off + k * 6 + 3, none⟩ = some (.int .i64 e.kind) ∧
    w.cell? ⟨blk, off + k * 6 + 4, none⟩ = some (.string e.text) ∧ w.cell? ⟨blk, off + k * 6 + 5, none⟩ = some (.slice Af e.flds.length cf) ∧ Sl rFld N w Af e.flds := by
  obtain ⟨blk, off, l, e1, h1, _, h3, h4⟩ := h k e hk
  obtain ⟨Af, cf, rfl, hf⟩ := rEvt_of h3
  exact ⟨blk, off, Af, cf, e1, h1, h4 0 _ rfl, h4 1 _ rfl, h4 2 _ rfl, h4 3 _ rfl, h4 4 _ rfl, h4 5 _ rfl, hf⟩
theorem Sl.nin {α : Type} {r : Rep α} {N : Nat → Prop} {w : World} {A : Option Addr} {xs : List α} {k : Nat} {x : α} (h : Sl r N w A xs) (hx : xs[k]? = some x) : ∀ blk off, A = some ⟨blk, off, none⟩ → ¬ N blk := fun blk off e => by
  obtain ⟨blk', off', l, e', _, h2, _⟩ := h k x hx
  rw [e] at e'
  cases e'
  exact h2
structure EvtOk (e : Evt) : Prop where
  id : e.id.size ≤ 1000000
  nm : e.name.size ≤ 1000000
  tx : e.text.size ≤ 1000000
  fl : e.flds.length ≤ 1000000
  fs : ∀ f ∈ e.flds, f.small
def evtE (K1 K2 D : Bool) (F G : Int) : Int := if K1 = false ∨ K2 = false then 5 else if D = false then 1 else if F ≠ 0 then F else G
def evtFault (e : Evt) : Int := evtE (L.isKey e.id) (L.isKey e.name) (decide (0 ≤ e.at' ∧ e.at' ≤ 4321439)) (L.idFault e.kind e.text) (fldsFault e.flds)
structure Nd where
  name : ByteArray
  kind : Int
  must : Bool
def Nd.cells (n : Nd) : List Value := [.string n.name, .int .i64 n.kind, .bool n.must]
def rNd : Rep Nd := .flat 3 Nd.cells (fun _ => rfl)
structure Scm where
  name : ByteArray
  needs : List Nd
def Scm.cells (s : Scm) : List Value := [.string s.name]
def rScm : Rep Scm := ((Rep.flat 1 Scm.cells (fun _ => rfl)).app rNd.list).via (fun s => (s, s.needs))
theorem Sl.nd {N : Nat → Prop} {w : World} {A : Option Addr} {xs : List Nd} (h : Sl rNd N w A xs) (k : Nat) (n : Nd) (hk : xs[k]? = some n) : ∃ blk off, A = some ⟨blk, off, none⟩ ∧ blk < w.heap.size ∧
    w.cell? ⟨blk, off + k * 3, none⟩ = some (.string n.name) ∧ w.cell? ⟨blk, off + k * 3 + 1, none⟩ = some (.int .i64 n.kind) ∧ w.cell? ⟨blk, off + k * 3 + 2, none⟩ = some (.bool n.must) := by
  obtain ⟨blk, off, l, e, h1, _, h3, h4⟩ := h k n hk
  obtain rfl : l = Nd.cells n := h3
  exact ⟨blk, off, e, h1, h4 0 _ rfl, h4 1 _ rfl, h4 2 _ rfl⟩
theorem Sl.scm {N : Nat → Prop} {w : World} {A : Option Addr} {xs : List Scm} (h : Sl rScm N w A xs) (k : Nat) (s : Scm) (hk : xs[k]? = some s) : ∃ blk off An cn, A = some ⟨blk, off, none⟩ ∧ blk < w.heap.size ∧
    w.cell? ⟨blk, off + k * 2, none⟩ = some (.string s.name) ∧ w.cell? ⟨blk, off + k * 2 + 1, none⟩ = some (.slice An s.needs.length cn) ∧ Sl rNd N w An s.needs := by
  obtain ⟨blk, off, l, e, h1, _, ⟨l1, l2, rfl, h3, An, cn, rfl, h5⟩, h4⟩ := h k s hk
  obtain rfl : l1 = Scm.cells s := h3
  exact ⟨blk, off, An, cn, e, h1, h4 0 _ rfl, h4 1 _ rfl, h5⟩
def ndE (K C B : Bool) : Int := if K = false then 5 else if C = false then 4 else if B = true then 7 else 0
def ndF (prev : Option ByteArray) (n : Nd) : Int := ndE (L.isKey n.name) (isCh n.kind) (prev.any (fun p => leS n.name p))
def ndsGo (prev : Option ByteArray) : List Nd → Int
  | [] => 0
  | n :: r => if ndF prev n ≠ 0 then ndF prev n else ndsGo (some n.name) r
def ndsFault (l : List Nd) : Int := if 30 < l.length then 2 else ndsGo none l
def scmE (K B : Bool) (F : Int) : Int := if K = false then 5 else if B = true then 7 else F
def scmF (prev : Option ByteArray) (s : Scm) : Int := scmE (L.isKey s.name) (prev.any (fun p => leS s.name p)) (ndsFault s.needs)
def scmsGo (prev : Option ByteArray) : List Scm → Int
  | [] => 0
  | s :: r => if scmF prev s ≠ 0 then scmF prev s else scmsGo (some s.name) r
def scmsFault (l : List Scm) : Int := if 60 < l.length then 2 else scmsGo none l
structure ScmOk (l : List Scm) : Prop where
  len : l.length ≤ 1000000
  nm : ∀ s ∈ l, s.name.size ≤ 1000000
  nl : ∀ s ∈ l, s.needs.length ≤ 1000000
  nn : ∀ s ∈ l, ∀ n ∈ s.needs, n.name.size ≤ 1000000
abbrev ndIs (nm : ByteArray) (n : Nd) : Bool := n.name.toList == nm.toList
abbrev scmIs (nm : ByteArray) (s : Scm) : Bool := s.name.toList == nm.toList
abbrev fldIs (nm : ByteArray) (f : Fld) : Bool := f.name.toList == nm.toList
def ndAt (l : List Nd) (nm : ByteArray) : Option Nd := l.find? (ndIs nm)
def scmAt (l : List Scm) (nm : ByteArray) : Option Scm := l.find? (scmIs nm)
def suitF (ns : List Nd) (f : Fld) : Int := match ndAt ns f.name with | none => 8 | some n => if n.kind = f.kind then 0 else 10
def suitFs (ns : List Nd) : List Fld → Int
  | [] => 0
  | f :: r => if suitF ns f ≠ 0 then suitF ns f else suitFs ns r
def suitN (fs : List Fld) (n : Nd) : Int := if (n.must && !fs.any (fldIs n.name)) = true then 3 else 0
def suitNs (fs : List Fld) : List Nd → Int
  | [] => 0
  | n :: r => if suitN fs n ≠ 0 then suitN fs n else suitNs fs r
def suitS (s : Scm) (fs : List Fld) : Int := if suitFs s.needs fs ≠ 0 then suitFs s.needs fs else suitNs fs s.needs
def suit (l : List Scm) (e : Evt) : Int := match scmAt l e.name with | none => 8 | some s => suitS s e.flds
def evFault (l : List Scm) (e : Evt) : Int := first3 (scmsFault l) (evtFault e) (suit l e)
def RiseN (xs : List Nd) : Prop := ∀ (i j : Nat) (p q : Nd), i < j → xs[i]? = some p → xs[j]? = some q → ltS p.name q.name = true
def RiseS (xs : List Scm) : Prop := ∀ (i j : Nat) (p q : Scm), i < j → xs[i]? = some p → xs[j]? = some q → ltS p.name q.name = true
theorem any_lt {prev : Option ByteArray} {nm : ByteArray} (h : prev.any (fun p => leS nm p) = false) : ∀ q, prev = some q → ltS q nm = true := fun q hq => by
  subst hq
  exact ltS_of_not_le (by simpa using h)
theorem ndF_ok {prev : Option ByteArray} {n : Nd} (h : ndF prev n = 0) : ∀ q, prev = some q → ltS q n.name = true := by
  unfold ndF ndE at h
  split at h
  · cases h
  · split at h
    · cases h
    · split at h
      · cases h
      · rename_i h3
        exact any_lt (by simpa using h3)
theorem ndsGo_ok : ∀ {l : List Nd} {prev : Option ByteArray}, ndsGo prev l = 0 → (∀ q, prev = some q → ∀ n ∈ l, ltS q n.name = true) ∧ RiseN l
  | [], _, _ => ⟨(fun _ _ _ h => by cases h), (fun _ _ _ _ _ h => by simp at h)⟩
  | x :: r, prev, h => by
    have hx : ndF prev x = 0 := by
      by_cases e : ndF prev x = 0
      · exact e
      · exact absurd (step_no h e) e
    have hp := ndF_ok hx
    obtain ⟨i2, i3⟩ := ndsGo_ok (l := r) (prev := some x.name) (step_go h hx)
    refine ⟨fun q he t ht => ?_, fun i j s t hij hs ht => ?_⟩
    · rcases List.mem_cons.1 ht with rfl | ht
      · exact hp q he
      · exact ltS_trans (hp q he) (i2 _ rfl t ht)
    · cases j with
      | zero => omega
      | succ j =>
        have ht : r[j]? = some t := by simpa using ht
        cases i with
        | zero =>
          obtain rfl : x = s := by simpa using hs
          exact i2 _ rfl t (List.mem_of_getElem? ht)
        | succ i => exact i3 i j s t (by omega) (by simpa using hs) ht
theorem nds_ok {l : List Nd} (h : ndsFault l = 0) : l.length ≤ 30 ∧ RiseN l := by
  unfold ndsFault at h
  split at h
  · cases h
  · exact ⟨by omega, (ndsGo_ok h).2⟩
theorem scmF_ok {prev : Option ByteArray} {s : Scm} (h : scmF prev s = 0) : (∀ q, prev = some q → ltS q s.name = true) ∧ ndsFault s.needs = 0 := by
  unfold scmF scmE at h
  split at h
  · cases h
  · split at h
    · cases h
    · rename_i h3
      exact ⟨any_lt (by simpa using h3), h⟩
theorem scmsGo_ok : ∀ {l : List Scm} {prev : Option ByteArray}, scmsGo prev l = 0 → (∀ s ∈ l, ndsFault s.needs = 0) ∧ (∀ q, prev = some q → ∀ n ∈ l, ltS q n.name = true) ∧ RiseS l
  | [], _, _ => ⟨(fun _ h => by cases h), (fun _ _ _ h => by cases h), (fun _ _ _ _ _ h => by simp at h)⟩
  | x :: r, prev, h => by
    have hx : scmF prev x = 0 := by
      by_cases e : scmF prev x = 0
      · exact e
      · exact absurd (step_no h e) e
    obtain ⟨hp, hn⟩ := scmF_ok hx
    obtain ⟨i1, i2, i3⟩ := scmsGo_ok (l := r) (prev := some x.name) (step_go h hx)
    refine ⟨fun s hs => ?_, fun q he t ht => ?_, fun i j s t hij hs ht => ?_⟩
    · rcases List.mem_cons.1 hs with rfl | hs
      · exact hn
      · exact i1 s hs
    · rcases List.mem_cons.1 ht with rfl | ht
      · exact hp q he
      · exact ltS_trans (hp q he) (i2 _ rfl t ht)
    · cases j with
      | zero => omega
      | succ j =>
        have ht : r[j]? = some t := by simpa using ht
        cases i with
        | zero =>
          obtain rfl : x = s := by simpa using hs
          exact i2 _ rfl t (List.mem_of_getElem? ht)
        | succ i => exact i3 i j s t (by omega) (by simpa using hs) ht
structure GoodScm (l : List Scm) : Prop where
  len : l.length ≤ 60
  nl : ∀ s ∈ l, s.needs.length ≤ 30
  nr : ∀ s ∈ l, RiseN s.needs
  rise : RiseS l
theorem scms_good {l : List Scm} (h : scmsFault l = 0) : GoodScm l := by
  unfold scmsFault at h
  split at h
  · cases h
  · obtain ⟨h1, _, h3⟩ := scmsGo_ok h
    exact ⟨by omega, fun s hs => (nds_ok (h1 s hs)).1, fun s hs => (nds_ok (h1 s hs)).2, h3⟩
theorem evtFault_flds {e : Evt} (h : evtFault e = 0) : fldsFault e.flds = 0 := by
  unfold evtFault evtE at h
  split at h
  · cases h
  · split at h
    · cases h
    · split at h
      · rename_i h3; exact absurd h h3
      · exact h
theorem find_rise {α : Type} {nm : α → ByteArray} {xs : List α} {k : Nat} {x : α} {q : ByteArray} (hr : ∀ (i j : Nat) (a b : α), i < j → xs[i]? = some a → xs[j]? = some b → ltS (nm a) (nm b) = true) (hk : xs[k]? = some x) (hn : nm x = q) : xs.find? (fun y => (nm y).toList == q.toList) = some x := by
  rw [List.find?_eq_some_iff_getElem]
  obtain ⟨hlt, rfl⟩ := List.getElem?_eq_some_iff.1 hk
  refine ⟨beqS.2 hn, k, hlt, rfl, fun j hj => ?_⟩
  simp only [Bool.not_eq_true', Bool.eq_false_iff]
  intro h
  have h1 := hr j k xs[j] xs[k] hj (List.getElem?_eq_getElem (by omega)) hk
  rw [beqS.1 h, hn, ltS_irr] at h1
  cases h1
theorem find_no {α : Type} {nm : α → ByteArray} {xs : List α} {q : ByteArray} (h : ∀ x ∈ xs, nm x ≠ q) : xs.find? (fun y => (nm y).toList == q.toList) = none := by
  rw [List.find?_eq_none]
  exact fun x hx hb => h x hx (beqS.1 hb)
end Go.Proofs.YtmlpkejeglpciaaGreatDoor

/- Memory in pieces: local blocks, slices of the call's own, and data that stay. Each piece keeps while others turn. -/
namespace Go.Proofs.YtmlpkejeglpciaaGreatDoor
open Go Go.RowKit
structure Chunk where
  blk : Option Nat
  ok : (Nat → Prop) → World → Prop
  keep : ∀ {M D : Nat → Prop} {w w' : World}, SKN D w w' → (∀ k, D k → M k) → (∀ k, blk = some k → ¬ D k) → ok M w → ok M w'
  mono : ∀ {M M' : Nat → Prop} {w : World}, (∀ k, k < w.heap.size → M' k → M k ∨ blk = some k) → ok M w → ok M' w
  lt : ∀ {M : Nat → Prop} {w : World}, ok M w → ∀ k, blk = some k → k < w.heap.size
def Chunk.loc (X : Nat) (cs : Array Value) (T : TypeId) : Chunk :=
  ⟨some X, fun _ w => LV w X cs T, fun k _ hd h => (k.block X h.lt (hd X rfl)).trans h, fun _ h => h, fun h k e => by cases e; exact h.lt⟩
theorem Own.lt {α : Type} {r : Rep α} {N : Nat → Prop} {B E : Nat} {w : World} {v : Value} {xs : List α} (h : Own r N B E w v xs) (k : Nat) (e : v.ownBlock = some k) : B ≤ k ∧ k < w.heap.size := by
  obtain ⟨ls, hl, hr, ho⟩ := h
  exact ho.lt k e
theorem Own.keepD {α : Type} {r : Rep α} {M D : Nat → Prop} {B E : Nat} {w w' : World} {v : Value} {xs : List α} (k : SKN D w w') (hd : ∀ k, D k → M k) (hb : ∀ k, v.ownBlock = some k → ¬ D k) (h : Own r M B E w v xs) : Own r M B E w' v xs := by
  obtain ⟨ls, hl, hr, ho⟩ := h
  refine ⟨ls, hl, fun i x l h1 h2 => r.keep (k.mono fun j h => .inl (hd j h)) (hr i x l h1 h2), ho.1, ?_⟩
  rcases ho.2 with h0 | ⟨g, cap, cur, rfl, hB, hg, h5, h6, h7, h8⟩
  · exact .inl h0
  · exact .inr ⟨g, cap, cur, rfl, hB, by rw [k.block g (ho.lt g rfl).2 (hb g rfl)]; exact hg, h5, h6, h7, h8⟩
theorem Own.monoD {α : Type} {r : Rep α} {M M' : Nat → Prop} {B E : Nat} {w : World} {v : Value} {xs : List α} (hm : ∀ k, k < w.heap.size → M' k → M k ∨ v.ownBlock = some k) (h : Own r M B E w v xs) : Own r M' B E w v xs := by
  obtain ⟨ls, hl, hr, ho⟩ := h
  refine ⟨ls, hl, fun i x l h1 h2 => r.mono (fun k hk e => ?_) (hr i x l h1 h2), ho⟩
  rcases e with e | e
  · exact hm k hk e
  · exact .inr e
def Chunk.own {α : Type} (r : Rep α) (B E : Nat) (v : Value) (xs : List α) : Chunk :=
  ⟨v.ownBlock, fun M w => Own r M B E w v xs, fun k hd hb h => Own.keepD k hd hb h, fun hm h => Own.monoD hm h, fun h k e => (h.lt k e).2⟩
def Chunk.sl {α : Type} (r : Rep α) (A : Option Addr) (xs : List α) : Chunk :=
  ⟨none, fun M w => Sl r M w A xs, fun k hd _ h => h.keep (k.mono hd), fun hm h => h.mono (fun k hk e => (hm k hk e).resolve_right (by simp)), fun _ _ e => by cases e⟩
def Mut (B0 : Nat) (cs : List Chunk) (k : Nat) : Prop := k < B0 ∨ ∃ c ∈ cs, c.blk = some k
def Lt (B k : Nat) : Prop := k < B
structure St (b m : Nat) (w0 w : World) (cs : List Chunk) : Prop where
  g : G b m w0 w
  b0 : b < w0.heap.size
  ok : ∀ c ∈ cs, c.ok (Mut w0.heap.size cs) w
  new : ∀ c ∈ cs, ∀ k, c.blk = some k → w0.heap.size ≤ k
  sep : cs.Pairwise fun c d => ∀ k, c.blk = some k → d.blk ≠ some k
section
variable {b m n : Nat} {w0 w w' : World} {cs : List Chunk}
theorem St.start (h : Strm b m w) : St b m w w [] := ⟨G.start h, h.lt, (fun c hc => by cases hc), (fun c hc => by cases hc), List.Pairwise.nil⟩
theorem St.lt (S : St b m w0 w cs) {c : Chunk} (hc : c ∈ cs) {k : Nat} (e : c.blk = some k) : k < w.heap.size := c.lt (S.ok c hc) k e
theorem St.step (S : St b m w0 w cs) (hk : SK b w w') (hs : Strm b n w') : St b n w0 w' cs :=
  ⟨S.g.step hk hs, S.b0, fun c hc => c.keep hk.n (fun k e => by unfold Off at e; subst e; exact .inl S.b0) (fun k e ho => by unfold Off at ho; subst ho; have := S.new c hc _ e; have := S.b0; omega) (S.ok c hc), S.new, S.sep⟩
theorem St.mono (S : St b m w0 w cs) (h : m ≤ n) : St b n w0 w cs := ⟨S.g.mono h, S.b0, S.ok, S.new, S.sep⟩
theorem St.alloc (S : St b m w0 w cs) (o : Obj) : St b m w0 (w.alloc o) cs := S.step ((SK.refl b w).alloc o) (S.g.s.alloc o)
theorem St.below (S : St b m w0 w cs) (k : Below w.heap.size w w') : St b m w0 w' cs := S.step (SK.ofBelow k) (S.g.s.keep k)
theorem St.call (S : St b m w0 w cs) (g : G b n w w') (c : Chunk) (hc : c.ok (Lt w.heap.size) w') (hb : ∀ k, c.blk = some k → w.heap.size ≤ k) : St b n w0 w' (cs ++ [c]) := by
  have hsz := S.g.size
  refine ⟨S.g.step g.k g.s, S.b0, fun d hd => ?_, fun d hd k e => ?_, ?_⟩
  · rcases List.mem_append.1 hd with hd | hd
    · have h1 := d.mono (M' := Mut w0.heap.size (cs ++ [c])) (fun k hk e => ?_) (S.ok d hd)
      · exact d.keep g.k.n (fun k e => by unfold Off at e; subst e; exact .inl S.b0) (fun k e ho => by unfold Off at ho; subst ho; have := S.new d hd _ e; have := S.b0; omega) h1
      · rcases e with e | ⟨x, hx, e⟩
        · exact .inl (.inl e)
        · rcases List.mem_append.1 hx with hx | hx
          · exact .inl (.inr ⟨x, hx, e⟩)
          · rw [List.mem_singleton.1 hx] at e
            have := hb k e
            omega
    · rw [List.mem_singleton.1 hd]
      refine c.mono (fun k hk e => ?_) hc
      rcases e with e | ⟨x, hx, e⟩
      · left; unfold Lt; omega
      · rcases List.mem_append.1 hx with hx | hx
        · exact .inl (S.lt hx e)
        · rw [List.mem_singleton.1 hx] at e
          exact .inr e
  · rcases List.mem_append.1 hd with hd | hd
    · exact S.new d hd k e
    · rw [List.mem_singleton.1 hd] at e
      have := hb k e
      omega
  · refine List.pairwise_append.2 ⟨S.sep, List.pairwise_singleton _ _, fun x hx y hy k e1 e2 => ?_⟩
    rw [List.mem_singleton.1 hy] at e2
    have := hb k e2
    have := S.lt hx e1
    omega
theorem St.new' (S : St b m w0 w cs) (cells : Array Value) (T : TypeId) : St b m w0 (w.alloc (.cells cells T)) (cs ++ [.loc w.heap.size cells T]) :=
  S.call ⟨(SK.refl b w).alloc _, S.g.s.alloc _⟩ _ (LV.new w w.heap.size cells T rfl) (fun k e => by cases e; exact Nat.le_refl _)
theorem St.newAt (S : St b m w0 w cs) (cells : Array Value) (T : TypeId) (X : Nat) (hX : X = w.heap.size) : St b m w0 (w.alloc (.cells cells T)) (cs ++ [.loc X cells T]) := by subst hX; exact S.new' cells T
theorem St.nil {α : Type} (S : St b m w0 w cs) (r : Rep α) (B E : Nat) : St b m w0 w (cs ++ [.own r B E (.slice none 0 0) []]) :=
  S.call ⟨SK.refl b w, S.g.s⟩ (.own r B E (.slice none 0 0) []) (Own.nil r _ B E w) (fun k e => by cases e)
theorem mem_set_cases {α : Type} {l : List α} {i : Nat} {a x : α} (h : x ∈ l.set i a) : x = a ∨ ∃ j, j ≠ i ∧ l[j]? = some x := by
  obtain ⟨j, hj⟩ := List.mem_iff_getElem?.1 h
  rw [List.getElem?_set] at hj
  split at hj
  · split at hj
    · exact .inl (Option.some.inj hj).symm
    · cases hj
  · exact .inr ⟨j, fun e => by subst e; simp_all, hj⟩
theorem St.apart (S : St b m w0 w cs) {i j : Nat} {c d : Chunk} (hi : cs[i]? = some c) (hj : cs[j]? = some d) (hij : j ≠ i) {k : Nat} (e : c.blk = some k) : d.blk ≠ some k := by
  have hsep := List.pairwise_iff_getElem.1 S.sep
  obtain ⟨hi', rfl⟩ := List.getElem?_eq_some_iff.1 hi
  obtain ⟨hj', rfl⟩ := List.getElem?_eq_some_iff.1 hj
  rcases Nat.lt_or_gt_of_ne hij with h | h
  · exact fun e2 => hsep j i hj' hi' h k e2 e
  · exact hsep i j hi' hj' h k e
theorem St.upd (S : St b m w0 w cs) (i : Nat) {c : Chunk} (hi : cs[i]? = some c) (c' : Chunk) (hk : SKN (fun k => c.blk = some k) w w') (hg : G b n w0 w') (hnew : ∀ k, c'.blk = some k → c.blk = some k ∨ w.heap.size ≤ k) (hok : c'.ok (Mut w0.heap.size (cs.set i c')) w') : St b n w0 w' (cs.set i c') := by
  have hsz := S.g.size
  have hc := List.mem_of_getElem? hi
  have hmem : ∀ d ∈ cs.set i c', d = c' ∨ ∃ j, j ≠ i ∧ cs[j]? = some d := fun d hd => mem_set_cases hd
  refine ⟨hg, S.b0, fun d hd => ?_, fun d hd k e => ?_, ?_⟩
  · rcases hmem d hd with rfl | ⟨j, hj, hdj⟩
    · exact hok
    · have hdm := List.mem_of_getElem? hdj
      have h1 := d.mono (M' := fun k => Mut w0.heap.size cs k ∨ Mut w0.heap.size (cs.set i c') k) (fun k hk e => ?_) (S.ok d hdm)
      · have h2 := d.keep hk (fun k e => .inl (.inr ⟨c, hc, e⟩)) (fun k e1 e2 => S.apart hi hdj hj e2 e1) h1
        exact d.mono (fun k _ e => .inl (.inr e)) h2
      · rcases e with e | e
        · exact .inl e
        · rcases e with e | ⟨x, hx, e⟩
          · exact .inl (.inl e)
          · rcases hmem x hx with rfl | ⟨j', _, hx'⟩
            · rcases hnew k e with e | e
              · exact .inl (.inr ⟨c, hc, e⟩)
              · omega
            · exact .inl (.inr ⟨x, List.mem_of_getElem? hx', e⟩)
  · rcases hmem d hd with rfl | ⟨j, hj, hdj⟩
    · rcases hnew k e with e | e
      · exact S.new c hc k e
      · omega
    · exact S.new d (List.mem_of_getElem? hdj) k e
  · refine List.pairwise_iff_getElem.2 fun p q hp hq hpq k e1 e2 => ?_
    have e1' : (cs.set i c')[p]? = some ((cs.set i c')[p]) := List.getElem?_eq_getElem hp
    have e2' : (cs.set i c')[q]? = some ((cs.set i c')[q]) := List.getElem?_eq_getElem hq
    rw [List.length_set] at hp hq
    rw [List.getElem_set] at e1 e2
    have hlt : ∀ j (hj : j < cs.length), cs[j].blk = some k → k < w.heap.size := fun j hj e => S.lt (List.getElem_mem hj) e
    split at e1 <;> split at e2
    · omega
    · rename_i h1 h2
      subst h1
      rcases hnew k e1 with e | e
      · exact S.apart hi (List.getElem?_eq_getElem hq) (fun h => h2 h.symm) e e2
      · have := hlt q hq e2; omega
    · rename_i h1 h2
      subst h2
      rcases hnew k e2 with e | e
      · exact S.apart hi (List.getElem?_eq_getElem hp) (fun h => h1 h.symm) e e1
      · have := hlt p hp e1; omega
    · exact List.pairwise_iff_getElem.1 S.sep p q hp hq hpq k e1 e2
theorem St.lv (S : St b m w0 w cs) (i : Nat) {X : Nat} {cells : Array Value} {T : TypeId} (hi : cs[i]? = some (.loc X cells T)) : LV w X cells T := S.ok _ (List.mem_of_getElem? hi)
theorem St.ge (S : St b m w0 w cs) (i : Nat) {X : Nat} {cells : Array Value} {T : TypeId} (hi : cs[i]? = some (.loc X cells T)) : w0.heap.size ≤ X ∧ X < w.heap.size := ⟨S.new _ (List.mem_of_getElem? hi) X rfl, (S.lv i hi).lt⟩
theorem St.set (S : St b m w0 w cs) (i j : Nat) (u : Value) {X : Nat} {cells : Array Value} {T : TypeId} (hi : cs[i]? = some (.loc X cells T)) : St b m w0 (w.setCell ⟨X, j, none⟩ u) (cs.set i (.loc X (cells.setIfInBounds j u) T)) := by
  have h1 := S.ge i hi
  have hb := S.b0
  refine S.upd i hi _ ⟨by simp [World.setCell], fun k _ hn => Below.heap_setCell _ _ _ _ (fun e => hn (by rw [e]; rfl))⟩ (S.g.set (by omega) h1.1 j u) (fun k e => .inl e) ?_
  exact (S.lv i hi).set j u _ rfl
theorem St.ow {α : Type} {r : Rep α} {B E : Nat} {v : Value} {xs : List α} (S : St b m w0 w cs) (i : Nat) (hi : cs[i]? = some (.own r B E v xs)) : Own r (Mut w0.heap.size cs) B E w v xs := S.ok _ (List.mem_of_getElem? hi)
theorem St.slc {α : Type} {r : Rep α} {A : Option Addr} {xs : List α} (S : St b m w0 w cs) (i : Nat) (hi : cs[i]? = some (.sl r A xs)) : Sl r (Mut w0.heap.size cs) w A xs := S.ok _ (List.mem_of_getElem? hi)
theorem St.del (S : St b m w0 w cs) (i : Nat) : St b m w0 w (cs.eraseIdx i) := by
  have hs := List.eraseIdx_sublist cs i
  refine ⟨S.g, S.b0, fun c hc => c.mono (fun k _ e => ?_) (S.ok c (hs.subset hc)), fun c hc => S.new c (hs.subset hc), S.sep.sublist hs⟩
  rcases e with e | ⟨x, hx, e⟩
  · exact .inl (.inl e)
  · exact .inl (.inr ⟨x, hs.subset hx, e⟩)
theorem St.frz {α : Type} {r : Rep α} {B E : Nat} {v : Value} {xs : List α} (S : St b m w0 w cs) (i : Nat) (hi : cs[i]? = some (.own r B E v xs)) : ∃ A c, v = .slice A xs.length c ∧ St b m w0 w (cs.set i (.sl r A xs)) := by
  have ho := S.ow i hi
  obtain ⟨A, c, e⟩ := ho.len
  refine ⟨A, c, e, S.upd i hi _ ⟨Nat.le_refl _, fun _ _ _ => rfl⟩ S.g (fun k e => by cases e) ?_⟩
  have hnm : ∀ k, v.ownBlock = some k → ¬ Mut w0.heap.size (cs.set i (.sl r A xs)) k := fun k ek hm => by
    rcases hm with hm | ⟨x, hx, ex⟩
    · have := S.new _ (List.mem_of_getElem? hi) k ek; omega
    · rcases mem_set_cases hx with rfl | ⟨j, hj, hx⟩
      · cases ex
      · exact S.apart hi hx hj ek ex
  have hmm : ∀ k, Mut w0.heap.size (cs.set i (.sl r A xs)) k → Mut w0.heap.size cs k := fun k hm => by
    rcases hm with hm | ⟨x, hx, ex⟩
    · exact .inl hm
    · rcases mem_set_cases hx with rfl | ⟨j, hj, hx⟩
      · cases ex
      · exact .inr ⟨x, List.mem_of_getElem? hx, ex⟩
  obtain ⟨ls, hl, hr, hown⟩ := ho
  have hlen : ∀ l ∈ ls, l.length = r.size := fun l hm => by
    obtain ⟨i, hi, e⟩ := List.getElem_of_mem hm
    exact r.len (hr i (xs[i]'(by omega)) l (by simp) (by rw [List.getElem?_eq_getElem hi, e]))
  rcases hown.2 with ⟨rfl, h0⟩ | ⟨g, cap, cur, rfl, hB, hg, _, _, _, _⟩
  · rw [List.length_eq_zero_iff.1 h0]
    exact Sl.nil
  · cases e
    intro j x hx
    have hj : j < ls.length := by rw [hl]; exact lt_of_get hx
    refine ⟨g, 0, ls[j], rfl, (hown.lt g rfl).2, hnm g rfl, r.mono (fun k _ h => .inl (hmm k h)) (hr j x _ hx (List.getElem?_eq_getElem hj)), fun p u hu => ?_⟩
    have := hown.cells (g := g) rfl _ u (flatten_at hlen j p _ u (List.getElem?_eq_getElem hj) hu)
    rw [add_at] at this
    rw [Nat.add_assoc]
    exact this
end
section
variable {P : Program} (w : World)
theorem run_append_where (base : Nat) (t ty e : TypeId) (i : TypeInfo) (z : Value) (size bytes : Nat) (ht : P.underlying t = some (.slice e)) (hi : P.info? e = some i) (hz : i.zero = some z)
    (hsize : i.size = size) (hby : i.bytes = bytes) (hzs : z.cells.size = size) (hsz : 0 < size)
    (v : Value) (n : Nat) (xs : List Value) (hown : w.ownsRow base e size v n xs)
    (a : Addr) (m c : Nat) (news : List Value) (hl : news.length = m * size) (hnews : ∀ j u, news[j]? = some u → w.cell? (a.add j) = some u) (h1 : ∀ u ∈ news, u.oneCell' = true)
    (h63 : n + m ≤ maxLen) (hbytes : (n + m) * bytes ≤ 140737488355328) {v' : Value} {w' : World}
    (hr : (Builtin.append_ #[t, t] ty #[v, .slice (some a) m c]).run P w = .ok v' w') : ∀ k, v'.ownBlock = some k → v.ownBlock = some k ∨ w.heap.size ≤ k := by
  rcases hown.2 with ⟨rfl, rfl⟩ | ⟨g, cap, cur, rfl, hB, hg, h5, h6, h7, h8⟩
  · have hown' : w.ownsRow w.heap.size e size (.slice none 0 0) 0 xs := ⟨hown.1, .inl ⟨rfl, rfl⟩⟩
    obtain ⟨v2, w2, hr2, ho2, _⟩ := run_append_own (P := P) w w.heap.size t ty e i z size bytes ht hi hz hsize hby hzs hsz _ 0 xs hown' a m c news hl hnews h1 h63 hbytes (Nat.le_refl _)
    rw [hr] at hr2
    injection hr2 with e1 e2
    subst e1
    exact fun k hk => .inr (ho2.lt k hk).1
  · subst hsize hby
    by_cases hroom : n + m ≤ cap
    · obtain ⟨w2, hr2, ho2, _⟩ := run_append_fits (P := P) w base t ty e i i.size ht hi rfl g n cap xs hown a m c news hl hnews h1 hroom
      rw [hr] at hr2
      injection hr2 with e1 e2
      subst e1
      exact fun k hk => .inl hk
    · have hr2 := run_append_grow (P := P) w t ty e i z ht hi hz ⟨g, 0, none⟩ n cap xs hown.1 (hown.cells (g := g) rfl) a m c news hl hnews (by omega) (by simp only [maxLen] at h63; omega) (growslice_fits (by omega) hbytes)
      rw [hr] at hr2
      injection hr2 with e1 e2
      subst e1
      exact fun k hk => .inr (by cases hk; simp)
end
section
variable {ops : Array Oper} {rest : List Oper} {o : Oper} {a : Act} {Q : Exit → Act → World → Prop}
theorem St.app {α : Type} {r : Rep α} {b m : Nat} {w0 w : World} {cs : List Chunk} (S : St b m w0 w cs) (i : Nat) {B E : Nat} {v : Value} {xs : List α} (hi : cs[i]? = some (.own r B E v xs)) {T bytes : Nat} {z : Value} (ty : STy T E r.size bytes z) {arr : Array Value}
    (hgd : o.guard = none) (s x : Operand) (ho : o.op = .call { callee := .builtin .append, args := #[s, x], argTypes := #[T, T] }) (y : α) (c : Nat) (hs : a.eval s = v) (hx : a.eval x = .slice (some ⟨w.heap.size, 0, none⟩) 1 c)
    (hy : r.rel (Mut w0.heap.size cs) w y arr.toList) (h1 : ∀ u ∈ arr.toList, u.oneCell' = true) (hB : B ≤ w.heap.size) (hlen : xs.length ≤ 100000000) (hby : bytes ≤ 1000)
    (h : ∀ v' w', St b m w0 w' (cs.set i (.own r B E v' (xs ++ [y]))) → wpList Tryz.prog ops Q rest (a.put o.dst v') w') : wpList Tryz.prog ops Q (o :: rest) a (w.alloc (.cells arr E)) := by
  have hown := S.ow i hi
  obtain ⟨ls, hl, hr, ho2⟩ := hown
  have hsz : arr.toList.length = r.size := r.len hy
  obtain ⟨i0, hi0, hz0, hz1, hz2⟩ := info_parts ty.info
  have hnews : ∀ j u, arr.toList[j]? = some u → (w.alloc (.cells arr E)).cell? ((⟨w.heap.size, 0, none⟩ : Addr).add j) = some u := by
    intro j u hj
    rw [add_at, World.cell?_alloc_at _ _ _ _ rfl]
    simpa using hj
  have hb3 : (xs.length + 1) * bytes ≤ 140737488355328 := by
    have := Nat.mul_le_mul (show xs.length + 1 ≤ 100000001 by omega) hby
    omega
  have h63 : xs.length + 1 ≤ maxLen := by unfold maxLen; omega
  obtain ⟨v', w', hrun, g1, g2, _⟩ := run_append_own (P := Tryz.prog) (w.alloc (.cells arr E)) B T o.type E i0 z r.size bytes ty.under hi0 hz0 hz1 hz2 ty.zsize ty.pos _ xs.length _ (ho2.alloc _) ⟨w.heap.size, 0, none⟩ 1 c arr.toList (by omega) hnews h1 h63 hb3 (by simp; omega)
  have hwh := run_append_where (P := Tryz.prog) (w.alloc (.cells arr E)) B T o.type E i0 z r.size bytes ty.under hi0 hz0 hz1 hz2 ty.zsize ty.pos _ xs.length _ (ho2.alloc _) ⟨w.heap.size, 0, none⟩ 1 c arr.toList (by omega) hnews h1 h63 hb3 hrun
  have hg : w.grownBy w' v.ownBlock := ⟨g2.os, g2.tape, g2.output, by have := g2.size; simp at this; omega, fun k hk hn => by rw [g2.block k (by simp; omega) hn]; exact Below.heap_alloc _ _ _ hk⟩
  have hbl : Below w0.heap.size w w' := (Below.refl _ w).grown hg S.g.size (fun k hk => S.new _ (List.mem_of_getElem? hi) k hk)
  have hskn : SKN (fun k => v.ownBlock = some k) w w' := ⟨hg.size, fun k hk hn => hg.block k hk (fun e => hn e.symm)⟩
  refine wpList_plain hgd fun _ hK => ?_
  unfold Oper.wp execOp
  simp only [ho, resolve, invoke, builtin, Sem.run_bind, Sem.run_pure, Result.andThen_ok, List.map_toArray, List.map_cons, List.map_nil, hs, hx, hrun]
  refine hK _ _ (h v' w' (S.upd i hi _ hskn (S.g.belowB hbl S.b0) (fun k e => ?_) ?_))
  · rcases hwh k e with e | e
    · exact .inl e
    · right; simp at e; omega
  · have hc := List.mem_of_getElem? hi
    have up : ∀ x l, r.rel (NOr (Mut w0.heap.size cs) v) w x l → r.rel (NOr (Mut w0.heap.size (cs.set i (.own r B E v' (xs ++ [y])))) v') w' x l := fun x l hx => by
      have h1 := r.mono (M := fun k => NOr (Mut w0.heap.size cs) v k ∨ NOr (Mut w0.heap.size (cs.set i (.own r B E v' (xs ++ [y])))) v' k) (fun k hk e => ?_) hx
      · exact r.mono (fun k _ e => .inr e) (r.keep (hskn.mono fun k e => .inl (.inr e)) h1)
      · have nw : v'.ownBlock = some k → NOr (Mut w0.heap.size cs) v k := fun e => by
          rcases hwh k e with e | e
          · exact .inr e
          · simp at e; omega
        rcases e with e | e | e
        · exact e
        · rcases e with e | ⟨q, hq, e⟩
          · exact .inl (.inl e)
          · rcases mem_set_cases hq with rfl | ⟨j, _, hq⟩
            · exact nw e
            · exact .inl (.inr ⟨q, List.mem_of_getElem? hq, e⟩)
        · exact nw e
    refine ⟨ls ++ [arr.toList], by simp [hl], fun j x l e1 e2 => ?_, ?_⟩
    · rcases Nat.lt_or_ge j xs.length with hj | hj
      · rw [List.getElem?_append_left hj] at e1
        rw [List.getElem?_append_left (by omega)] at e2
        exact up x l (hr j x l e1 e2)
      · rw [List.getElem?_append_right hj] at e1
        rw [List.getElem?_append_right (by omega), hl] at e2
        cases hk : j - xs.length with
        | zero =>
          rw [hk] at e1 e2
          simp at e1 e2
          subst e1 e2
          refine up y _ (r.mono (fun k _ e => ?_) hy)
          rcases e with e | e
          · exact e
          · exact .inr ⟨_, hc, e⟩
        | succ k => rw [hk] at e1; simp at e1
    · rw [List.length_append, List.flatten_append]
      simpa using g1
end
theorem flatten_set {ls : List (List Value)} {n : Nat} (h : ∀ l ∈ ls, l.length = n) (p j : Nat) (l : List Value) (u : Value) (hl : ls[p]? = some l) (hj : j < n) : ls.flatten.set (p * n + j) u = (ls.set p (l.set j u)).flatten := by
  induction ls generalizing p with
  | nil => simp at hl
  | cons a t ih =>
    have ha := h a (by simp)
    cases p with
    | zero =>
      simp at hl
      subst hl
      rw [List.flatten_cons, Nat.zero_mul, Nat.zero_add, List.set_append_left _ _ (by omega), List.set_cons_zero, List.flatten_cons]
    | succ p =>
      rw [List.flatten_cons, List.set_append_right _ _ (by rw [ha, Nat.succ_mul]; omega), ha, show (p + 1) * n + j - n = p * n + j by rw [Nat.succ_mul]; omega, List.set_cons_succ, List.flatten_cons,
        ih (fun l hl' => h l (by simp [hl'])) p (by simpa using hl)]
theorem Own.put {α : Type} {r : Rep α} {f : α → List Value} (hf : r.Flat f) {M : Nat → Prop} {B E g n cap : Nat} {w : World} {xs : List α} (h : Own r M B E w (.slice (some ⟨g, 0, none⟩) n cap) xs) (hn : n = xs.length) (p : Nat) (x x' : α) (hx : xs[p]? = some x) (j : Nat) (hj : j < r.size) (u : Value) (hu : f x' = (f x).set j u) :
    Own r M B E (w.setCell ⟨g, p * r.size + j, none⟩ u) (.slice (some ⟨g, 0, none⟩) n cap) (xs.set p x') := by
  subst hn
  obtain ⟨ls, hl, hr, ho⟩ := h
  have hlen : ∀ l ∈ ls, l.length = r.size := fun l hm => by
    obtain ⟨i, hi, e⟩ := List.getElem_of_mem hm
    exact r.len (hr i (xs[i]'(by omega)) l (by simp) (by rw [List.getElem?_eq_getElem hi, e]))
  have hp : p < xs.length := lt_of_get hx
  have hlp : ls[p]? = some (ls[p]'(by omega)) := List.getElem?_eq_getElem (by omega)
  have hfx := (hf _ _ _ _).1 (hr p x _ hx hlp)
  have hst := (World.ownsRow.stored ho (p * r.size + j) u).1
  refine ⟨ls.set p (f x'), by simp [hl], fun i y l e1 e2 => (hf _ _ _ _).2 ?_, ?_⟩
  · rw [List.getElem?_set] at e1 e2
    by_cases hip : p = i
    · subst hip
      rw [if_pos rfl, if_pos hp] at e1
      rw [if_pos rfl, if_pos (by omega)] at e2
      rw [← Option.some.inj e1, ← Option.some.inj e2]
    · rw [if_neg hip] at e1 e2
      exact (hf _ _ _ _).1 (hr i y l e1 e2)
  · rw [List.length_set, hu, ← hfx, ← flatten_set hlen p j _ u hlp hj]
    exact hst
theorem Own.cellP {α : Type} {r : Rep α} {f : α → List Value} (hf : r.Flat f) {M : Nat → Prop} {B E g n cap : Nat} {w : World} {xs : List α} (h : Own r M B E w (.slice (some ⟨g, 0, none⟩) n cap) xs) (hn : n = xs.length) (p : Nat) (x : α) (hx : xs[p]? = some x) (j : Nat) (u : Value) (hu : (f x)[j]? = some u) :
    w.cell? ⟨g, p * r.size + j, none⟩ = some u ∧ w.frozen? ⟨g, p * r.size + j, none⟩ = false := by
  subst hn
  obtain ⟨ls, hl, hr, ho⟩ := h
  have hlen : ∀ l ∈ ls, l.length = r.size := fun l hm => by
    obtain ⟨i, hi, e⟩ := List.getElem_of_mem hm
    exact r.len (hr i (xs[i]'(by omega)) l (by simp) (by rw [List.getElem?_eq_getElem hi, e]))
  have hp : p < xs.length := lt_of_get hx
  have hlp : ls[p]? = some (ls[p]'(by omega)) := List.getElem?_eq_getElem (by omega)
  have hfx := (hf _ _ _ _).1 (hr p x _ hx hlp)
  have hc := ho.cells (g := g) rfl _ u (flatten_at hlen p j _ u hlp (by rw [hfx]; exact hu))
  rw [add_at, Nat.zero_add] at hc
  exact ⟨hc, ho.frozenAt _⟩
theorem Own.form {α : Type} {r : Rep α} {N : Nat → Prop} {B E : Nat} {w : World} {v : Value} {xs : List α} (h : Own r N B E w v xs) (hx : 1 ≤ xs.length) : ∃ g cap, v = .slice (some ⟨g, 0, none⟩) xs.length cap ∧ xs.length ≤ cap := by
  obtain ⟨ls, hl, hr, ho⟩ := h
  rcases ho.2 with ⟨_, h0⟩ | ⟨g, cap, cur, rfl, hB, _, h5, _⟩
  · omega
  · exact ⟨g, cap, rfl, h5⟩
theorem St.callN {b m n : Nat} {w0 w w' : World} {cs : List Chunk} (S : St b m w0 w cs) (g : G b n w w') (ds : List Chunk) (hok : ∀ d ∈ ds, d.ok (fun k => k < w.heap.size ∨ ∃ e ∈ ds, e.blk = some k) w') (hb : ∀ d ∈ ds, ∀ k, d.blk = some k → w.heap.size ≤ k)
    (hsep : ds.Pairwise fun c d => ∀ k, c.blk = some k → d.blk ≠ some k) : St b n w0 w' (cs ++ ds) := by
  have hsz := S.g.size
  refine ⟨S.g.step g.k g.s, S.b0, fun d hd => ?_, fun d hd k e => ?_, ?_⟩
  · rcases List.mem_append.1 hd with hd | hd
    · have h1 := d.mono (M' := Mut w0.heap.size (cs ++ ds)) (fun k hk e => ?_) (S.ok d hd)
      · exact d.keep g.k.n (fun k e => by unfold Off at e; subst e; exact .inl S.b0) (fun k e ho => by unfold Off at ho; subst ho; have := S.new d hd _ e; have := S.b0; omega) h1
      · rcases e with e | ⟨x, hx, e⟩
        · exact .inl (.inl e)
        · rcases List.mem_append.1 hx with hx | hx
          · exact .inl (.inr ⟨x, hx, e⟩)
          · have := hb x hx k e
            omega
    · refine d.mono (fun k hk e => ?_) (hok d hd)
      rcases e with e | ⟨x, hx, e⟩
      · left; left; omega
      · rcases List.mem_append.1 hx with hx | hx
        · exact .inl (.inl (S.lt hx e))
        · exact .inl (.inr ⟨x, hx, e⟩)
  · rcases List.mem_append.1 hd with hd | hd
    · exact S.new d hd k e
    · have := hb d hd k e
      omega
  · refine List.pairwise_append.2 ⟨S.sep, hsep, fun x hx y hy k e1 e2 => ?_⟩
    have := hb y hy k e2
    have := S.lt hx e1
    omega
theorem Own.flatM {α : Type} {r : Rep α} {f : α → List Value} (hf : r.Flat f) {M M' : Nat → Prop} {B E : Nat} {w : World} {v : Value} {xs : List α} (h : Own r M B E w v xs) : Own r M' B E w v xs := by
  obtain ⟨ls, h1, h2, ho⟩ := h
  exact ⟨ls, h1, fun i x l e1 e2 => (hf _ _ _ _).2 ((hf _ _ _ _).1 (h2 i x l e1 e2)), ho⟩
theorem Own.ofLV {α : Type} {r : Rep α} {f : α → List Value} (hf : r.Flat f) {M : Nat → Prop} {B E X : Nat} {w : World} {xs : List α} {cs : Array Value} (h : LV w X cs E) (hB : B ≤ X) (hcs : cs.toList = (xs.map f).flatten) (hs : cs.size = xs.length * r.size) (hl : xs.length ≤ 1000000) : Own r M B E w (.slice (some ⟨X, 0, none⟩) xs.length xs.length) xs := by
  refine ⟨xs.map f, by simp, fun i x l h1 h2 => (hf _ _ _ _).2 ?_, ?_, .inr ⟨X, xs.length, cs, rfl, hB, h, Nat.le_refl _, by unfold maxLen; omega, hs, ?_⟩⟩
  · rw [List.getElem?_map, h1] at h2
    exact (Option.some.inj h2).symm
  · rw [← hcs]; simpa using hs
  · rw [List.take_of_length_le (by simp [hs]), hcs]
theorem Own.toSlC {α : Type} {r : Rep α} {N : Nat → Prop} {B E : Nat} {w : World} {v : Value} {xs : List α} (h : Own r N B E w v xs) (hb : ∀ k, B ≤ k → ¬ N k) : ∃ A c, v = .slice A xs.length c ∧ xs.length ≤ c ∧ Sl r N w A xs := by
  obtain ⟨A, c, e, hS⟩ := h.toSl hb
  refine ⟨A, c, e, ?_, hS⟩
  obtain ⟨ls, hl, hr, ho⟩ := h
  rcases ho.2 with ⟨rfl, h0⟩ | ⟨g, cap, cur, rfl, _, _, h5, _⟩
  · omega
  · cases e; exact h5
theorem Own.blkTag {α : Type} {r : Rep α} {N : Nat → Prop} {B E X : Nat} {w : World} {v : Value} {xs : List α} {cs : Array Value} {T : TypeId} (h : Own r N B E w v xs) (l : LV w X cs T) (hT : T ≠ E) : ∀ k, v.ownBlock = some k → k ≠ X := by
  intro k e hk
  subst hk
  obtain ⟨ls, _, _, ho⟩ := h
  rcases ho.2 with ⟨rfl, _⟩ | ⟨g, cap, cur, rfl, _, hg, _⟩
  · cases e
  · obtain rfl : g = k := by simpa [Value.ownBlock] using e
    unfold LV at l
    rw [l] at hg
    cases hg
    exact hT rfl
end Go.Proofs.YtmlpkejeglpciaaGreatDoor

/- Memory in pieces, more: the pieces in another order; what a call has made, told as pieces itself. -/
namespace Go.Proofs.YtmlpkejeglpciaaGreatDoor
open Go.RowKit
theorem pairwise_perm {cs ds : List Chunk} (h : cs.Perm ds) (hp : cs.Pairwise fun c d => ∀ k, c.blk = some k → d.blk ≠ some k) : ds.Pairwise fun c d => ∀ k, c.blk = some k → d.blk ≠ some k :=
  (h.pairwise_iff (fun {_ _} hxy k e1 e2 => hxy k e2 e1)).1 hp
theorem St.perm {b m : Nat} {w0 w : World} {cs ds : List Chunk} (S : St b m w0 w cs) (h : cs.Perm ds) : St b m w0 w ds := by
  refine ⟨S.g, S.b0, fun c hc => c.mono (fun k _ e => .inl ?_) (S.ok c (h.mem_iff.2 hc)), fun c hc => S.new c (h.mem_iff.2 hc), pairwise_perm h S.sep⟩
  rcases e with e | ⟨x, hx, e⟩
  · exact .inl e
  · exact .inr ⟨x, h.mem_iff.2 hx, e⟩
theorem St.join {b m n : Nat} {w0 w w' : World} {cs ds : List Chunk} (S : St b m w0 w cs) (T : St b n w w' ds) : St b n w0 w' (cs ++ ds) :=
  S.callN T.g ds (fun d hd => T.ok d hd) (fun d hd => T.new d hd) T.sep
theorem St.front {b m : Nat} {w0 w : World} {cs : List Chunk} {c : Chunk} (S : St b m w0 w (cs ++ [c])) : St b m w0 w (c :: cs) := S.perm List.perm_append_comm
theorem perm_erase {α : Type} : ∀ (l : List α) (i : Nat) (h : i < l.length), (l[i] :: l.eraseIdx i).Perm l
  | [], i, h => by simp at h
  | x :: r, 0, _ => by simp
  | x :: r, i + 1, h => by
    simp only [List.getElem_cons_succ, List.eraseIdx_cons_succ]
    exact (List.Perm.swap _ _ _).trans ((perm_erase r i (by simpa using h)).cons x)
end Go.Proofs.YtmlpkejeglpciaaGreatDoor
