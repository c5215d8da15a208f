/- Several texts in one: MapG, MapDel, LogMem, By, IdPreds. -/
import Derived.Test.YtmlpkejeglpciaaGreatDoorPkAE
import Derived.Test.YtmlpkejeglpciaaGreatDoorPkAD
import Derived.Test.YtmlpkejeglpciaaGreatDoorPkAC
import Derived.Maps.OwnOps
import Derived.Maps.RangeRun
import Derived.Carry
import Derived.WideKeyRuns
import Derived.Test.YtmlpkejeglpciaaGreatDoorPkAH
import Derived.Test.YtmlpkejeglpciaaGreatDoorPkAG
import Derived.Test.YtmlpkejeglpciaaGreatDoorPkAA
import Derived.Test.YtmlpkejeglpciaaGreatDoorShelf
import Derived.Lib.SplitLaws
/- Maps of the call's own, whatever their keys and elements are: a piece of memory; lookups, puts, and loops over them. -/
namespace Go.Proofs.YtmlpkejeglpciaaGreatDoor
open Go Go.RowKit Go.MapKept
structure KeyL (κ : Type) where
  kv : κ → Value
  ty : TypeId
  chk : ∀ (b : Bool) (x : κ) (w : World), (Instr.checkKey b 10000 ty (kv x)).run Tryz.prog w = .ok () w
  find : ∀ (x : κ) (es : List MapEntry) (L : List κ) (w : World), es.map MapEntry.key = L.map kv → ∃ r, (Instr.findKey ty (kv x) es).run Tryz.prog w = .ok r w ∧ ((x ∉ L ∧ r = none) ∨ ∃ j e, es[j]? = some e ∧ L[j]? = some x ∧ r = some (j, e.val))
  same : ∀ x, Instr.sameBits 10000 (kv x) (kv x) = true
def KeyL.basic {κ : Type} (ty : TypeId) (d : TypeDesc) (hd : Tryz.prog.underlying ty = some d) (kv : κ → Value) (inj : ∀ x y, kv x = kv y → x = y) (hk : ∀ x, IsKey d (kv x)) (same : ∀ x, Instr.sameBits 10000 (kv x) (kv x) = true) : KeyL κ where
  kv := kv
  ty := ty
  chk b x w := run_checkKey hd (hk x) b 9999
  same := same
  find x es L w h := by
    have hl : ∀ e ∈ es, ∃ y ∈ L, e.key = kv y := fun e he => by
      have : e.key ∈ L.map kv := by rw [← h]; exact List.mem_map_of_mem he
      obtain ⟨y, hy, e2⟩ := List.mem_map.1 this
      exact ⟨y, hy, e2.symm⟩
    rcases findNow_spec (hk x) es 0 (fun e he => by obtain ⟨y, _, e2⟩ := hl e he; rw [e2]; exact hk y) with ⟨h1, h2⟩ | ⟨j, e, h1, h2, h3⟩
    · refine ⟨none, run_findKey hd h1, .inl ⟨fun hx => ?_, rfl⟩⟩
      have : kv x ∈ es.map MapEntry.key := by rw [h]; exact List.mem_map_of_mem hx
      obtain ⟨e, he, e2⟩ := List.mem_map.1 this
      exact h2 e he e2
    · rw [Nat.zero_add] at h1
      refine ⟨some (j, e.val), run_findKey hd h1, .inr ⟨j, e, h2, ?_, rfl⟩⟩
      have h4 := congrArg (fun l => l[j]?) h
      simp only [List.getElem?_map, h2, Option.map_some] at h4
      cases hj : L[j]? with
      | none => rw [hj] at h4; cases h4
      | some y =>
        rw [hj] at h4
        simp only [Option.map_some, Option.some.injEq] at h4
        rw [inj y x (by rw [← h4, h3])]
def keyStr : KeyL ByteArray := .basic 9 .string Tryz.underlying9 (fun s => .string s) (fun x y h => by simpa using h) (fun x => trivial) (fun x => by show (x.data == x.data) = true; exact beq_self_eq_true _)
section
variable {κ : Type} [DecidableEq κ] {β : Type}
def updG (k : κ) (v : β) : List (κ × β) → List (κ × β)
  | [] => [(k, v)]
  | p :: r => if p.1 = k then (k, v) :: r else p :: updG k v r
def getG (k : κ) : List (κ × β) → Option β
  | [] => none
  | p :: r => if p.1 = k then some p.2 else getG k r
theorem getG_upd (k k' : κ) (v : β) : ∀ L, getG k' (updG k v L) = if k' = k then some v else getG k' L
  | [] => by simp only [updG, getG]; by_cases h : k = k' <;> simp [h, eq_comm]
  | p :: r => by
    rw [updG]
    split
    · rename_i h
      rw [getG, getG, h]
      by_cases h2 : k = k' <;> simp [h2, eq_comm]
    · rename_i h
      rw [getG, getG, getG_upd k k' v r]
      by_cases h2 : p.1 = k'
      · rw [if_pos h2, if_neg (fun e => h (h2.trans e)), if_pos h2]
      · rw [if_neg h2, if_neg h2]
theorem getG_none {k : κ} : ∀ {L : List (κ × β)}, getG k L = none ↔ k ∉ L.map Prod.fst
  | [] => by simp [getG]
  | p :: r => by
    rw [getG, List.map_cons, List.mem_cons, not_or]
    by_cases h : p.1 = k
    · simp [h]
    · rw [if_neg h, getG_none]
      exact ⟨fun e => ⟨fun e2 => h e2.symm, e⟩, fun e => e.2⟩
theorem getG_mem {k : κ} {v : β} : ∀ {L : List (κ × β)}, getG k L = some v → (k, v) ∈ L
  | [], h => by simp [getG] at h
  | p :: r, h => by
    rw [getG] at h
    by_cases e : p.1 = k
    · rw [if_pos e] at h
      obtain rfl : p.2 = v := by simpa using h
      rw [← e]; exact List.mem_cons_self
    · rw [if_neg e] at h
      exact List.mem_cons_of_mem _ (getG_mem h)
theorem updG_new {k : κ} {v : β} : ∀ {L : List (κ × β)}, k ∉ L.map Prod.fst → updG k v L = L ++ [(k, v)]
  | [], _ => rfl
  | p :: r, h => by
    rw [List.map_cons, List.mem_cons, not_or] at h
    rw [updG, if_neg (fun e => h.1 e.symm), updG_new h.2]
    rfl
theorem getG_at {k : κ} {v : β} : ∀ {L : List (κ × β)} {j : Nat}, (L.map Prod.fst).Nodup → L[j]? = some (k, v) → getG k L = some v ∧ ∀ u, updG k u L = L.set j (k, u)
  | [], j, _, h => by simp at h
  | p :: r, 0, _, h => by
    obtain rfl : p = (k, v) := by simpa using h
    exact ⟨by simp [getG], fun u => by simp [updG]⟩
  | p :: r, j + 1, hn, h => by
    have h2 : r[j]? = some (k, v) := by simpa using h
    rw [List.map_cons, List.nodup_cons] at hn
    have hne : ¬ p.1 = k := fun e => hn.1 (by rw [e]; exact List.mem_map.2 ⟨(k, v), List.mem_of_getElem? h2, rfl⟩)
    obtain ⟨a1, a2⟩ := getG_at hn.2 h2
    exact ⟨by rw [getG, if_neg hne]; exact a1, fun u => by rw [updG, if_neg hne, a2 u]; rfl⟩
theorem updG_keys {k : κ} {v : β} {L : List (κ × β)} (hn : (L.map Prod.fst).Nodup) : ((updG k v L).map Prod.fst).Nodup := by
  by_cases h : k ∈ L.map Prod.fst
  · obtain ⟨p, hp, e⟩ := List.mem_map.1 h
    obtain ⟨j, hj, e2⟩ := List.getElem_of_mem hp
    have hj2 : L[j]? = some (k, p.2) := by rw [List.getElem?_eq_getElem hj, e2, ← e]
    rw [(getG_at hn hj2).2 v, List.map_set]
    have : (L.map Prod.fst).set j k = L.map Prod.fst := by
      apply List.ext_getElem?
      intro i
      rw [List.getElem?_set]
      by_cases e3 : j = i
      · subst e3
        rw [if_pos rfl, List.getElem?_map, hj2]
        simp [hj]
      · rw [if_neg e3]
    rw [this]; exact hn
  · rw [updG_new h, List.map_append, List.nodup_append]
    refine ⟨hn, by simp, fun a ha b hb => ?_⟩
    simp at hb
    subst hb
    exact fun e => h (e ▸ ha)
end
section
variable {κ : Type}
abbrev kvG (e : MapEntry) : Value × Value := (e.key, e.val)
abbrev kvP (K : KeyL κ) (p : κ × Value) : Value × Value := (K.kv p.1, p.2)
structure EsOk (K : KeyL κ) (es : Array MapEntry) (clock : Nat) (L : List (κ × Value)) : Prop where
  kv : es.toList.map kvG = L.map (kvP K)
  nd : (L.map Prod.fst).Nodup
  lt : ∀ e ∈ es.toList, e.born < clock
  bn : (es.toList.map MapEntry.born).Nodup
def MapG (K : KeyL κ) (w : World) (X : Nat) (L : List (κ × Value)) : Prop := ∃ es clock, w.heap[X]? = some (.map es clock) ∧ EsOk K es clock L
def Chunk.mapG (K : KeyL κ) (X : Nat) (L : List (κ × Value)) : Chunk :=
  ⟨some X, fun _ w => MapG K w X L, fun k _ hd ⟨es, c, h, e⟩ => ⟨es, c, (k.block X (Array.getElem?_eq_some_iff.1 h).1 (hd X rfl)).trans h, e⟩, fun _ h => h, fun ⟨_, _, h, _⟩ k e => by cases e; exact (Array.getElem?_eq_some_iff.1 h).1⟩
def Chunk.iter (R X : Nat) (since : Nat) (seen : Array Nat) (c0 : Nat) : Chunk :=
  ⟨some R, fun _ w => w.heap[R]? = some (.mapIter (some X) since seen c0), fun k _ hd h => (k.block R (Array.getElem?_eq_some_iff.1 h).1 (hd R rfl)).trans h, fun _ h => h, fun h k e => by cases e; exact (Array.getElem?_eq_some_iff.1 h).1⟩
theorem EsOk.keys {K : KeyL κ} {es : Array MapEntry} {clock : Nat} {L : List (κ × Value)} (h : EsOk K es clock L) : es.toList.map MapEntry.key = (L.map Prod.fst).map K.kv := by
  have := congrArg (List.map Prod.fst) h.kv
  simpa [Function.comp_def] using this
theorem EsOk.at' {K : KeyL κ} {es : Array MapEntry} {clock : Nat} {L : List (κ × Value)} (h : EsOk K es clock L) {j : Nat} {e : MapEntry} {k : κ} (he : es.toList[j]? = some e) (hk : (L.map Prod.fst)[j]? = some k) : L[j]? = some (k, e.val) ∧ e.key = K.kv k := by
  have h1 := congrArg (fun l => l[j]?) h.kv
  simp only [List.getElem?_map, he, Option.map_some] at h1
  rw [List.getElem?_map] at hk
  cases hj : L[j]? with
  | none => rw [hj] at h1; cases h1
  | some p =>
    rw [hj] at h1 hk
    simp only [Option.map_some, Option.some.injEq, Prod.mk.injEq] at h1 hk
    obtain ⟨p1, p2⟩ := p
    simp only at h1 hk
    subst hk
    exact ⟨by rw [h1.2], h1.1⟩
theorem look_g [DecidableEq κ] {K : KeyL κ} {w : World} {X : Nat} {L : List (κ × Value)} {T E : TypeId} (h : MapG K w X L) (hT : Tryz.prog.underlying T = some (.map K.ty E)) {z : Value} (hz : (zeroValue E).run Tryz.prog w = .ok z w) (k : κ) (ok : Bool) :
    (Instr.lookup T (.map (some X)) (K.kv k) ok).run Tryz.prog w = .ok (if ok then .tuple #[(getG k L).getD z, .bool (getG k L).isSome] else (getG k L).getD z) w := by
  obtain ⟨es, clock, hb, he⟩ := h
  have hck := K.chk es.isEmpty k w
  obtain ⟨r, hr, hc⟩ := K.find k es.toList (L.map Prod.fst) w he.keys
  rcases hc with ⟨h4, rfl⟩ | ⟨j, e, h4, h5, rfl⟩
  · have hg := getG_none.2 h4
    cases ok <;> simp [Instr.lookup, run_underlying hT, Go.MapKept.run_getObj_map hb, hck, hr, hz, hg, Result.andThen]
  · have hg := (getG_at he.nd (he.at' h4 h5).1).1
    cases ok <;> simp [Instr.lookup, run_underlying hT, Go.MapKept.run_getObj_map hb, hck, hr, hg, Result.andThen]
theorem put_g [DecidableEq κ] {K : KeyL κ} {w : World} {X : Nat} {L : List (κ × Value)} {T E : TypeId} (h : MapG K w X L) (hT : Tryz.prog.underlying T = some (.map K.ty E)) (k : κ) (u : Value) :
    ∃ w', (Instr.mapUpdate T (.map (some X)) (K.kv k) u).run Tryz.prog w = .ok () w' ∧ MapG K w' X (updG k u L) ∧ w.grownBy w' (some X) := by
  obtain ⟨es, clock, hb, he⟩ := h
  have hck := K.chk false k w
  have gr : ∀ o, w.grownBy { w with heap := w.heap.setIfInBounds X o } (some X) := fun o => ⟨rfl, rfl, rfl, by simp, fun j hj hne => (heap_set hb).2 j (fun e => hne (by rw [e]))⟩
  obtain ⟨r, hr, hc⟩ := K.find k es.toList (L.map Prod.fst) w he.keys
  rcases hc with ⟨h4, rfl⟩ | ⟨j, e, h4, h5, rfl⟩
  · refine ⟨{ w with heap := w.heap.setIfInBounds X (.map (es.push ⟨K.kv k, u, clock⟩) (clock + 1)) }, ?_, ⟨_, _, (heap_set hb).1, ?_⟩, gr _⟩
    · simp [Instr.mapUpdate, run_underlying hT, Go.MapKept.run_getObj_map hb, hck, hr, run_setObj_map _ hb, Result.andThen]
    · refine ⟨?_, updG_keys he.nd, fun x hx => ?_, ?_⟩
      · rw [Array.toList_push, List.map_append, he.kv, updG_new h4, List.map_append]
        rfl
      · rw [Array.toList_push, List.mem_append] at hx
        rcases hx with hx | hx
        · have := he.lt x hx; omega
        · rw [List.mem_singleton.1 hx]; exact Nat.lt_succ_self _
      · rw [Array.toList_push, List.map_append, List.nodup_append]
        refine ⟨he.bn, by simp, fun a ha b hb' => ?_⟩
        obtain ⟨x, hx, rfl⟩ := List.mem_map.1 ha
        have h6 := he.lt x hx
        simp at hb'
        omega
  · obtain ⟨a1, a2⟩ := he.at' h4 h5
    have h3' : es[j]? = some e := by rw [← Array.getElem?_toList]; exact h4
    have hs := K.same k
    refine ⟨{ w with heap := w.heap.setIfInBounds X (.map (es.modify j fun e => { e with key := K.kv k, val := u }) clock) }, ?_, ⟨_, _, (heap_set hb).1, ?_⟩, gr _⟩
    · simp [Instr.mapUpdate, run_underlying hT, Go.MapKept.run_getObj_map hb, hck, hr, run_setObj_map _ hb, Result.andThen, h3', a2, Instr.keyThatStays, hs]
    · have hm : (es.modify j fun e => { e with key := K.kv k, val := u }).toList = es.toList.set j { e with key := K.kv k, val := u } := by
        rw [Array.toList_modify]
        apply List.ext_getElem?
        intro i
        rw [List.getElem?_modify, List.getElem?_set]
        by_cases hij : j = i
        · subst hij
          rw [if_pos rfl, h4, if_pos (lt_of_get h4)]
          simp
        · rw [if_neg hij]
          simp [hij]
      refine ⟨?_, updG_keys he.nd, fun x hx => ?_, ?_⟩
      · rw [hm, List.map_set, he.kv, (getG_at he.nd a1).2 u, List.map_set]
      · rw [hm] at hx
        rcases List.mem_or_eq_of_mem_set hx with hx | rfl
        · exact he.lt x hx
        · exact he.lt e (List.mem_of_getElem? h4)
      · rw [hm, List.map_set]
        have : (es.toList.map MapEntry.born).set j e.born = es.toList.map MapEntry.born := by
          apply List.ext_getElem?
          intro i
          rw [List.getElem?_set]
          by_cases hij : j = i
          · subst hij
            have hj := lt_of_get h4
            rw [if_pos rfl, List.getElem?_map, h4, if_pos (by rw [List.length_map]; exact hj)]
            rfl
          · rw [if_neg hij]
        rw [this]; exact he.bn
structure RngOk (K : KeyL κ) (es : Array MapEntry) (clock : Nat) (seen : Array Nat) (L done left : List (κ × Value)) : Prop where
  ok : EsOk K es clock L
  lft : (leftOf es seen).toList.map kvG = left.map (kvP K)
  perm : (done ++ left).Perm L
theorem RngOk.start {K : KeyL κ} {es : Array MapEntry} {clock : Nat} {L : List (κ × Value)} (h : EsOk K es clock L) : RngOk K es clock #[] L [] L :=
  ⟨h, by
    have : leftOf es #[] = es := by unfold leftOf; simp
    rw [this]; exact h.kv, List.Perm.refl _⟩
theorem leftOf_push (es : Array MapEntry) (seen : Array Nat) (x : Nat) : leftOf es (seen.push x) = (leftOf es seen).filter (fun e => e.born != x) := by
  unfold leftOf
  rw [Array.filter_filter]
  congr 1
  funext e
  have : (seen.push x).contains e.born = (seen.contains e.born || e.born == x) := by
    rw [Bool.eq_iff_iff, Bool.or_eq_true, Array.contains_iff_mem, Array.contains_iff_mem, Array.mem_push, beq_iff_eq]
  rw [this]
  cases seen.contains e.born <;> cases h : (e.born == x) <;> simp [bne, h]
theorem map_erase {α β : Type} (f : α → β) : ∀ (l : List α) (i : Nat), (l.eraseIdx i).map f = (l.map f).eraseIdx i
  | [], i => by simp
  | a :: r, 0 => by simp
  | a :: r, i + 1 => by simp [map_erase f r i]
theorem filter_born {l : List MapEntry} (hn : (l.map MapEntry.born).Nodup) {i : Nat} {e : MapEntry} (he : l[i]? = some e) : l.filter (fun x => x.born != e.born) = l.eraseIdx i := by
  induction l generalizing i with
  | nil => simp at he
  | cons a r ih =>
    rw [List.map_cons, List.nodup_cons] at hn
    cases i with
    | zero =>
      obtain rfl : a = e := by simpa using he
      rw [List.filter_cons_of_neg (by simp), List.eraseIdx_cons_zero, List.filter_eq_self.2]
      intro x hx
      simp only [bne_iff_ne, ne_eq]
      exact fun e2 => hn.1 (by rw [← e2]; exact List.mem_map_of_mem hx)
    | succ i =>
      have he2 : r[i]? = some e := by simpa using he
      have hne : ¬ a.born = e.born := fun e2 => hn.1 (by rw [e2]; exact List.mem_map_of_mem (List.mem_of_getElem? he2))
      rw [List.filter_cons_of_pos (by simpa using hne), List.eraseIdx_cons_succ, ih hn.2 he2]
theorem RngOk.step {K : KeyL κ} {es : Array MapEntry} {clock : Nat} {seen : Array Nat} {L done left : List (κ × Value)} (h : RngOk K es clock seen L done left) {e : MapEntry} (he : e ∈ (leftOf es seen).toList) :
    ∃ p left', e.key = K.kv p.1 ∧ e.val = p.2 ∧ p ∈ left ∧ RngOk K es clock (seen.push e.born) L (done ++ [p]) left' ∧ left'.length + 1 = left.length ∧ e ∈ es.toList := by
  obtain ⟨i, hi, hie⟩ := List.getElem_of_mem he
  have hi2 : (leftOf es seen).toList[i]? = some e := by rw [List.getElem?_eq_getElem hi, hie]
  have hbn : ((leftOf es seen).toList.map MapEntry.born).Nodup := by
    unfold leftOf
    rw [Array.toList_filter]
    exact h.ok.bn.sublist (List.Sublist.map _ List.filter_sublist)
  have h1 := congrArg (fun l => l[i]?) h.lft
  simp only [List.getElem?_map, hi2, Option.map_some] at h1
  cases hp : left[i]? with
  | none => rw [hp] at h1; cases h1
  | some p =>
    rw [hp] at h1
    simp only [Option.map_some, Option.some.injEq, Prod.mk.injEq] at h1
    have hpl := lt_of_get hp
    refine ⟨p, left.eraseIdx i, h1.1, h1.2, List.mem_of_getElem? hp, ⟨h.ok, ?_, ?_⟩, ?_, ?_⟩
    · rw [leftOf_push, Array.toList_filter, filter_born hbn hi2]
      rw [map_erase, map_erase, h.lft]
    · refine List.Perm.trans ?_ h.perm
      rw [List.append_assoc]
      refine List.Perm.append_left _ ?_
      obtain ⟨_, rfl⟩ := List.getElem?_eq_some_iff.1 hp
      exact perm_erase left i hpl
    · rw [List.length_eraseIdx, if_pos hpl]; omega
    · unfold leftOf at he
      simp at he
      simpa using he.1
theorem RngOk.fin {K : KeyL κ} {es : Array MapEntry} {clock : Nat} {seen : Array Nat} {L done left : List (κ × Value)} (h : RngOk K es clock seen L done left) (h0 : (leftOf es seen).size = 0) : left = [] ∧ done.Perm L := by
  have h1 : left = [] := by
    have := congrArg List.length h.lft
    rw [List.length_map, List.length_map, Array.length_toList, h0] at this
    exact List.length_eq_zero_iff.1 this.symm
  subst h1
  exact ⟨rfl, by simpa using h.perm⟩
end
section
variable {κ : Type} {w0 w : World} {cs : List Chunk}
theorem Mem.newMapG (K : KeyL κ) (S : Mem w0 w cs) (X : Nat) (hX : X = w.heap.size) : Mem w0 (w.alloc (.map #[] 0)) (cs ++ [.mapG K X []]) := by
  subst hX
  exact S.call ((Below.refl _ _).alloc (Nat.le_refl _) _) _ ⟨#[], 0, by show (w.heap.push (.map #[] 0))[w.heap.size]? = _; simp, ⟨rfl, by simp, by simp, by simp⟩⟩ (fun k e => by cases e; exact Nat.le_refl _)
theorem Mem.rangeO (S : Mem w0 w cs) {X : Nat} {es : Array MapEntry} {clock : Nat} (hb : w.heap[X]? = some (.map es clock)) {T k e : TypeId} (hT : Tryz.prog.underlying T = some (.map k e)) :
    (Instr.range T (.map (some X))).run Tryz.prog w = .ok (.pointer (some ⟨w.heap.size, 0, none⟩)) (w.alloc (.mapIter (some X) clock #[] clock)) ∧ Mem w0 (w.alloc (.mapIter (some X) clock #[] clock)) (cs ++ [.iter w.heap.size X clock #[] clock]) :=
  ⟨run_range_map w T k e X es clock hT hb, S.call ((Below.refl _ _).alloc (Nat.le_refl _) _) _ (by show (w.heap.push _)[w.heap.size]? = _; simp) (fun k e => by cases e; exact Nat.le_refl _)⟩
theorem Mem.nextO {K : KeyL κ} (S : Mem w0 w cs) (j : Nat) {X R clock c0 : Nat} {es : Array MapEntry} {seen : Array Nat} {L done left : List (κ × Value)} (hb : w.heap[X]? = some (.map es clock)) (hj : cs[j]? = some (.iter R X clock seen c0)) (hc : clock ≤ c0) (hr : RngOk K es clock seen L done left) :
    (left = [] ∧ done.Perm L ∧ ∀ ty, (Instr.next (.pointer (some ⟨R, 0, none⟩)) false ty).run Tryz.prog w = .ok (.tuple #[.bool false]) w) ∨
    ∃ p left' seen' w', p ∈ left ∧ left'.length + 1 = left.length ∧ RngOk K es clock seen' L (done ++ [p]) left' ∧ (∀ ty, (Instr.next (.pointer (some ⟨R, 0, none⟩)) false ty).run Tryz.prog w = .ok (.tuple #[.bool true, K.kv p.1, p.2]) w') ∧
      (Instr.entry (.pointer (some ⟨R, 0, none⟩))).run Tryz.prog w' = .ok (.tuple #[K.kv p.1, p.2]) w' ∧ Mem w0 w' (cs.set j (.iter R X clock seen' clock)) := by
  have hR : w.heap[R]? = some (.mapIter (some X) clock seen c0) := S.ok _ (List.mem_of_getElem? hj)
  have hRn := S.new _ (List.mem_of_getElem? hj) R rfl
  by_cases h0 : (leftOf es seen).size = 0
  · obtain ⟨h1, h2⟩ := hr.fin h0
    refine .inl ⟨h1, h2, fun ty => ?_⟩
    rcases run_next_at (P := Tryz.prog) w ty R X clock c0 seen es clock hR hb hr.ok.lt hc with ⟨_, h⟩ | ⟨e, he, _⟩
    · exact h
    · exact absurd h0 (by
        have : 0 < (leftOf es seen).toList.length := List.length_pos_of_mem he
        rw [Array.length_toList] at this
        omega)
  · have key : ∀ ty, ∃ e ∈ (leftOf es seen).toList, ∃ w1 : World, (w1 = w ∨ w1 = w.drew) ∧ (Instr.next (.pointer (some ⟨R, 0, none⟩)) false ty).run Tryz.prog w = .ok (.tuple #[.bool true, e.key, e.val]) (Go.ChangeMaps.setBlock w1 R (.mapIter (some X) clock (seen.push e.born) clock)) := fun ty => by
      rcases run_next_at (P := Tryz.prog) w ty R X clock c0 seen es clock hR hb hr.ok.lt hc with ⟨h, _⟩ | h
      · exact absurd h h0
      · exact h
    have hty : ∀ ty, (Instr.next (.pointer (some ⟨R, 0, none⟩)) false ty) = (Instr.next (.pointer (some ⟨R, 0, none⟩)) false 0) := fun ty => rfl
    obtain ⟨e, he, w1, hw1, hrun⟩ := key 0
    obtain ⟨p, left', h1, h2, h3, h4, h5, h6⟩ := hr.step he
    right
    have hR1 : w1.heap[R]? = some (.mapIter (some X) clock seen c0) := by rcases hw1 with rfl | rfl <;> exact hR
    have hX1 : w1.heap[X]? = some (.map es clock) := by rcases hw1 with rfl | rfl <;> exact hb
    have hXR : X ≠ R := fun e => by rw [e, hR1] at hX1; cases hX1
    have hset : (Go.ChangeMaps.setBlock w1 R (.mapIter (some X) clock (seen.push e.born) clock)).heap[R]? = some (.mapIter (some X) clock (seen.push e.born) clock) := (heap_set hR1).1
    have hoth : ∀ k, k ≠ R → (Go.ChangeMaps.setBlock w1 R (.mapIter (some X) clock (seen.push e.born) clock)).heap[k]? = w.heap[k]? := fun k hk => by
      rw [show (Go.ChangeMaps.setBlock w1 R (.mapIter (some X) clock (seen.push e.born) clock)).heap[k]? = w1.heap[k]? from (heap_set hR1).2 k hk]
      rcases hw1 with rfl | rfl <;> rfl
    have hsz : (Go.ChangeMaps.setBlock w1 R (.mapIter (some X) clock (seen.push e.born) clock)).heap.size = w.heap.size := by
      show (w1.heap.setIfInBounds _ _).size = _
      rw [Array.size_setIfInBounds]
      rcases hw1 with rfl | rfl <;> rfl
    have hent := run_entry_at (P := Tryz.prog) _ R X clock seen es clock e hset ((hoth X hXR).trans hb) h6 hr.ok.bn
    refine ⟨p, left', seen.push e.born, _, h3, h5, h4, fun ty => by rw [hty ty, hrun, h1, h2], by rw [hent, h1, h2], ?_⟩
    have hbl : Below w0.heap.size w (Go.ChangeMaps.setBlock w1 R (.mapIter (some X) clock (seen.push e.born) clock)) :=
      ⟨by rcases hw1 with rfl | rfl <;> rfl, by rcases hw1 with rfl | rfl <;> rfl, by rcases hw1 with rfl | rfl <;> rfl, by rw [hsz]; exact Nat.le_refl _, fun k hk => hoth k (by omega)⟩
    exact S.upd j hj (.iter R X clock (seen.push e.born) clock) ⟨by rw [hsz]; exact Nat.le_refl _, fun k _ hn => hoth k (fun e2 => hn (by rw [e2]; rfl))⟩ (S.b.trans hbl) (fun k e => .inl e) hset
end
section
variable {κ : Type} [DecidableEq κ] {w0 w : World} {cs : List Chunk} {ops : Array Oper} {rest : List Oper} {o : Oper} {a : Act} {Q : Exit → Act → World → Prop}
theorem Mem.putG {K : KeyL κ} (S : Mem w0 w cs) (i : Nat) {X : Nat} {L : List (κ × Value)} (hi : cs[i]? = some (.mapG K X L)) {T E : TypeId} (hT : Tryz.prog.underlying T = some (.map K.ty E))
    (hgd : o.guard = none) (m x v : Operand) (hop : o.op = .mapUpdate T m x v) (hm : a.eval m = .map (some X)) (y : κ) (hx : a.eval x = K.kv y) (u : Value) (hv : a.eval v = u)
    (h : ∀ w', Mem w0 w' (cs.set i (.mapG K X (updG y u L))) → wpList Tryz.prog ops Q rest (a.put o.dst undef) w') : wpList Tryz.prog ops Q (o :: rest) a w := by
  obtain ⟨w', hrun, hm', hgr⟩ := put_g (S.ok _ (List.mem_of_getElem? hi)) hT y u
  have hX := S.new _ (List.mem_of_getElem? hi) X rfl
  have hbl : Below w0.heap.size w w' := (Below.refl _ w).grown hgr S.b.size (fun k hk => by cases hk; exact hX)
  have S2 := S.upd i hi (.mapG K X (updG y u L)) ⟨hgr.size, fun k hk hn => hgr.block k hk (fun e => hn e.symm)⟩ (S.b.trans hbl) (fun k e => .inl e) hm'
  refine wpList_plain hgd fun K' hK' => ?_
  unfold Oper.wp
  simp [execOp, hop, hm, hx, hv, hrun, Result.andThen]
  exact hK' _ _ (h w' S2)
end
end Go.Proofs.YtmlpkejeglpciaaGreatDoor

/- delete of a key of a map. -/
namespace Go.Proofs.YtmlpkejeglpciaaGreatDoor
open Go Go.RowKit Go.MapKept
section
variable {κ : Type} [DecidableEq κ] {β : Type}
def delG (k : κ) : List (κ × β) → List (κ × β)
  | [] => []
  | p :: r => if p.1 = k then r else p :: delG k r
theorem delG_no {k : κ} : ∀ {L : List (κ × β)}, k ∉ L.map Prod.fst → delG k L = L
  | [], _ => rfl
  | p :: r, h => by
    rw [List.map_cons, List.mem_cons, not_or] at h
    rw [delG, if_neg (fun e => h.1 e.symm), delG_no h.2]
theorem delG_at {k : κ} {v : β} : ∀ {L : List (κ × β)} {j : Nat}, (L.map Prod.fst).Nodup → L[j]? = some (k, v) → delG k L = L.eraseIdx j
  | [], j, _, h => by simp at h
  | p :: r, 0, _, h => by
    obtain rfl : p = (k, v) := by simpa using h
    rw [delG, if_pos rfl]; rfl
  | p :: r, j + 1, hn, h => by
    have h2 : r[j]? = some (k, v) := by simpa using h
    rw [List.map_cons, List.nodup_cons] at hn
    have hne : ¬ p.1 = k := fun e => hn.1 (by rw [e]; exact List.mem_map.2 ⟨(k, v), List.mem_of_getElem? h2, rfl⟩)
    rw [delG, if_neg hne, delG_at hn.2 h2]; rfl
theorem getG_del {k k' : κ} : ∀ {L : List (κ × β)}, (L.map Prod.fst).Nodup → getG k' (delG k L) = if k' = k then none else getG k' L
  | [], _ => by simp [delG, getG]
  | p :: r, hn => by
    rw [List.map_cons, List.nodup_cons] at hn
    rw [delG]
    by_cases h : p.1 = k
    · rw [if_pos h, getG]
      by_cases h2 : k' = k
      · subst h2
        rw [if_pos rfl]
        exact getG_none.2 (by rw [← h]; exact hn.1)
      · rw [if_neg h2, if_neg (fun e => h2 (e.symm.trans h))]
    · rw [if_neg h, getG, getG, getG_del hn.2]
      by_cases h2 : p.1 = k'
      · rw [if_pos h2, if_pos h2, if_neg (fun e => h (h2.trans e))]
      · rw [if_neg h2, if_neg h2]
theorem del_g {K : KeyL κ} {w : World} {X : Nat} {L : List (κ × Value)} {T T2 E : TypeId} (h : MapG K w X L) (hT : Tryz.prog.underlying T = some (.map K.ty E)) (k : κ) (ty : TypeId) :
    ∃ w', (Builtin.delete_ #[T, T2] ty #[.map (some X), K.kv k]).run Tryz.prog w = .ok (.tuple #[]) w' ∧ MapG K w' X (delG k L) ∧ w.grownBy w' (some X) := by
  obtain ⟨es, clock, hb, he⟩ := h
  have hck := K.chk es.isEmpty k w
  have gr : ∀ o, w.grownBy { w with heap := w.heap.setIfInBounds X o } (some X) := fun o => ⟨rfl, rfl, rfl, by simp, fun j hj hne => (heap_set hb).2 j (fun e => hne (by rw [e]))⟩
  obtain ⟨r, hr, hc⟩ := K.find k es.toList (L.map Prod.fst) w he.keys
  rcases hc with ⟨h4, rfl⟩ | ⟨j, e, h4, h5, rfl⟩
  · refine ⟨{ w with heap := w.heap.setIfInBounds X (.map es clock) }, ?_, ⟨_, _, (heap_set hb).1, ?_⟩, gr _⟩
    · simp [Builtin.delete_, run_underlying hT, Go.MapKept.run_getObj_map hb, hck, hr, run_setObj_map _ hb, Result.andThen]
    · rw [delG_no h4]; exact he
  · obtain ⟨a1, a2⟩ := he.at' h4 h5
    have hm : (es.eraseIdxIfInBounds j).toList = es.toList.eraseIdx j := by
      have hjl : j < es.size := by have := lt_of_get h4; simpa using this
      rw [Array.eraseIdxIfInBounds_eq, dif_pos hjl, Array.toList_eraseIdx]
    refine ⟨{ w with heap := w.heap.setIfInBounds X (.map (es.eraseIdxIfInBounds j) clock) }, ?_, ⟨_, _, (heap_set hb).1, ?_⟩, gr _⟩
    · simp [Builtin.delete_, run_underlying hT, Go.MapKept.run_getObj_map hb, hck, hr, run_setObj_map _ hb, Result.andThen]
    · rw [delG_at he.nd a1]
      refine ⟨?_, ?_, fun x hx => ?_, ?_⟩
      · rw [hm, map_erase, he.kv, map_erase]
      · exact he.nd.sublist ((List.eraseIdx_sublist _ _).map _)
      · rw [hm] at hx; exact he.lt x (List.mem_of_mem_eraseIdx hx)
      · rw [hm]; exact he.bn.sublist ((List.eraseIdx_sublist _ _).map _)
variable {w0 w : World} {cs : List Chunk} {ops : Array Oper} {rest : List Oper} {o : Oper} {a : Act} {Q : Exit → Act → World → Prop}
theorem Mem.delG {K : KeyL κ} (S : Mem w0 w cs) (i : Nat) {X : Nat} {L : List (κ × Value)} (hi : cs[i]? = some (.mapG K X L)) {T T2 E : TypeId} (hT : Tryz.prog.underlying T = some (.map K.ty E))
    (hgd : o.guard = none) (m x : Operand) (ho : o.op = .call { callee := .builtin .delete, args := #[m, x], argTypes := #[T, T2] }) (hm : a.eval m = .map (some X)) (y : κ) (hx : a.eval x = K.kv y)
    (h : ∀ w', Mem w0 w' (cs.set i (.mapG K X (Proofs.YtmlpkejeglpciaaGreatDoor.delG y L))) → wpList Tryz.prog ops Q rest (a.put o.dst (.tuple #[])) w') : wpList Tryz.prog ops Q (o :: rest) a w := by
  obtain ⟨w', hrun, hm', hgr⟩ := del_g (T2 := T2) (S.ok _ (List.mem_of_getElem? hi)) hT y o.type
  have hX := S.new _ (List.mem_of_getElem? hi) X rfl
  have hbl : Below w0.heap.size w w' := (Below.refl _ w).grown hgr S.b.size (fun k hk => by cases hk; exact hX)
  have S2 := S.upd i hi (.mapG K X (Proofs.YtmlpkejeglpciaaGreatDoor.delG y L)) ⟨hgr.size, fun k hk hn => hgr.block k hk (fun e => hn e.symm)⟩ (S.b.trans hbl) (fun k e => .inl e) hm'
  refine wpList_plain hgd fun K' hK' => ?_
  unfold Oper.wp execOp
  simp only [ho, resolve, invoke, builtin, Sem.run_bind, Sem.run_pure, Result.andThen_ok, List.map_toArray, List.map_cons, List.map_nil, hm, hx, hrun]
  exact hK' _ _ (h w' S2)
end
end Go.Proofs.YtmlpkejeglpciaaGreatDoor

/- A log of events in memory: its map of times, its map of what is gone, and how they go along with the events. -/
namespace Go.Proofs.YtmlpkejeglpciaaGreatDoor
open Go Go.RowKit
abbrev logCs (K : Option Addr) (n ck : Nat) (v : Value) (AT GN : Nat) : Array Value := #[.slice K n ck, v, .map (some AT), .map (some GN)]
def hasE (s : ByteArray) (qs : List EQ) : Option EQ := qs.find? (fun q => decide (q.e.id = s))
theorem hasE_none {s : ByteArray} {qs : List EQ} : hasE s qs = none ↔ ∀ q ∈ qs, q.e.id ≠ s := by
  unfold hasE
  rw [List.find?_eq_none]
  exact ⟨fun h q hq e => h q hq (decide_eq_true e), fun h q hq e => h q hq (of_decide_eq_true e)⟩
theorem hasE_some {s : ByteArray} {qs : List EQ} {q : EQ} (h : hasE s qs = some q) : ∃ i : Nat, qs[i]? = some q ∧ q.e.id = s := by
  unfold hasE at h
  have h1 := List.mem_of_find?_eq_some h
  have h2 := List.find?_some h
  obtain ⟨i, hi⟩ := List.mem_iff_getElem?.1 h1
  exact ⟨i, hi, of_decide_eq_true h2⟩
theorem hasE_ins {s : ByteArray} {qs : List EQ} {x : EQ} (hn : ∀ q ∈ qs, q.e.id ≠ x.e.id) (i : Nat) : hasE s (qs.take i ++ x :: qs.drop i) = if s = x.e.id then some x else hasE s qs := by
  unfold hasE
  rw [List.find?_append]
  by_cases e : s = x.e.id
  · rw [if_pos e]
    have h1 : (qs.take i).find? (fun q => decide (q.e.id = s)) = none := List.find?_eq_none.2 fun q hq he => hn q (List.mem_of_mem_take hq) (by rw [of_decide_eq_true he, e])
    rw [h1, List.find?_cons_of_pos (by simp [e])]
    rfl
  · rw [if_neg e, List.find?_cons_of_neg (by simpa using fun h => e h.symm)]
    conv => rhs; rw [← List.take_append_drop i qs, List.find?_append]
theorem hasE_del {s : ByteArray} {qs : List EQ} {x : EQ} {i : Nat} (hid : (qs.map (fun q => q.e.id)).Nodup) (hi : qs[i]? = some x) : hasE s (qs.take i ++ qs.drop (i + 1)) = if s = x.e.id then none else hasE s qs := by
  obtain ⟨hl, e0⟩ := List.getElem?_eq_some_iff.1 hi
  have hq : qs = qs.take i ++ x :: qs.drop (i + 1) := by
    conv => lhs; rw [← List.take_append_drop i qs, List.drop_eq_getElem_cons hl, e0]
  by_cases e : s = x.e.id
  · rw [if_pos e, hasE_none]
    intro q hm he
    have hp := perm_del hi
    have h1 : ((x :: (qs.take i ++ qs.drop (i + 1))).map (fun q => q.e.id)).Nodup := by rw [(hp.map _).nodup_iff]; exact hid
    rw [List.map_cons, List.nodup_cons] at h1
    exact h1.1 (List.mem_map.2 ⟨q, hm, by rw [he, e]⟩)
  · rw [if_neg e]
    unfold hasE
    conv => rhs; rw [hq]
    rw [List.find?_append, List.find?_append, List.find?_cons_of_neg (by simpa using fun h => e h.symm)]
def AtOk (qs : List EQ) (La : List (ByteArray × Value)) : Prop := ∀ s : ByteArray, getG s La = (hasE s qs).map (fun q => Value.int .i64 q.e.at')
theorem AtOk.nil : AtOk [] [] := fun _ => rfl
theorem AtOk.put {qs : List EQ} {La : List (ByteArray × Value)} {x : EQ} (h : AtOk qs La) (hn : ∀ q ∈ qs, q.e.id ≠ x.e.id) (i : Nat) : AtOk (qs.take i ++ x :: qs.drop i) (updG x.e.id (.int .i64 x.e.at') La) := fun s => by
  rw [getG_upd, hasE_ins hn, h s]
  split <;> rfl
theorem AtOk.del {qs : List EQ} {La : List (ByteArray × Value)} {x : EQ} {i : Nat} (h : AtOk qs La) (hid : (qs.map (fun q => q.e.id)).Nodup) (hnd : (La.map Prod.fst).Nodup) (hi : qs[i]? = some x) : AtOk (qs.take i ++ qs.drop (i + 1)) (delG x.e.id La) := fun s => by
  rw [getG_del hnd, hasE_del hid hi, h s]
  split <;> rfl
def GnOk (Lg : List (ByteArray × Value)) : Prop := ∀ p ∈ Lg, p.2 = Value.bool true
theorem GnOk.nil : GnOk [] := fun _ h => (by cases h)
theorem GnOk.get {Lg : List (ByteArray × Value)} (h : GnOk Lg) (s : ByteArray) : (getG s Lg).getD (.bool false) = .bool (hasId (Lg.map Prod.fst) s) := by
  cases hg : getG s Lg with
  | none => rw [hasId_not (getG_none.1 hg)]; rfl
  | some v =>
    have h1 := getG_mem hg
    have h2 := h _ h1
    simp only at h2
    rw [h2, (hasId_iff _ s).2 (List.mem_map.2 ⟨_, h1, rfl⟩)]
    rfl
theorem mem_updG {k x : ByteArray} {v : Value} : ∀ {L : List (ByteArray × Value)}, x ∈ (updG k v L).map Prod.fst ↔ x ∈ L.map Prod.fst ∨ x = k
  | [] => by simp [updG]
  | p :: r => by
    rw [updG]
    by_cases e : p.1 = k
    · rw [if_pos e, List.map_cons, List.map_cons, List.mem_cons, List.mem_cons, e]
      constructor
      · rintro (h | h)
        · exact .inr h
        · exact .inl (.inr h)
      · rintro ((h | h) | h)
        · exact .inl h
        · exact .inr h
        · exact .inl h
    · rw [if_neg e, List.map_cons, List.map_cons, List.mem_cons, List.mem_cons, mem_updG, or_assoc]
theorem updG_vals {k : ByteArray} {v : Value} : ∀ {L : List (ByteArray × Value)} {p : ByteArray × Value}, p ∈ updG k v L → p ∈ L ∨ p = (k, v)
  | [], p, h => by rw [updG, List.mem_singleton] at h; exact .inr h
  | q :: r, p, h => by
    rw [updG] at h
    by_cases e : q.1 = k
    · rw [if_pos e, List.mem_cons] at h
      rcases h with h | h
      · exact .inr h
      · exact .inl (List.mem_cons_of_mem _ h)
    · rw [if_neg e, List.mem_cons] at h
      rcases h with h | h
      · exact .inl (by rw [h]; exact List.mem_cons_self)
      · rcases updG_vals h with h | h
        · exact .inl (List.mem_cons_of_mem _ h)
        · exact .inr h
theorem GnOk.put {Lg : List (ByteArray × Value)} (h : GnOk Lg) (s : ByteArray) : GnOk (updG s (.bool true) Lg) := fun p hp => by
  rcases updG_vals hp with hp | rfl
  · exact h p hp
  · rfl
theorem Mem.insFl {w0 w : World} {cs : List Chunk} (S : Mem w0 w cs) (i j : Nat) {qs qs' : List EQ} {A : Option Addr} {fs : List Fld} (hi : cs[i]? = some (.flds qs)) (hj : cs[j]? = some (.sl rFld A fs)) (x : EQ) (hA : x.A = A) (hf : x.e.flds = fs) (hq : ∀ q ∈ qs', q ∈ qs ∨ q = x) : Mem w0 w (cs.set i (.flds qs')) := by
  refine S.turn i hi (.flds qs') rfl (fun q hm => ?_)
  rcases hq q hm with h | rfl
  · exact S.fl i hi q h
  · rw [hA, hf]; exact S.slc j hj
theorem ins_mem {qs : List EQ} {x : EQ} {i : Nat} : ∀ q ∈ qs.take i ++ x :: qs.drop i, q ∈ qs ∨ q = x := fun q hq => by
  rcases List.mem_append.1 hq with h | h
  · exact .inl (List.mem_of_mem_take h)
  · rcases List.mem_cons.1 h with h | h
    · exact .inr h
    · exact .inl (List.mem_of_mem_drop h)
theorem del_mem {qs : List EQ} {i : Nat} : ∀ q ∈ qs.take i ++ qs.drop (i + 1), q ∈ qs := fun q hq => by
  rcases List.mem_append.1 hq with h | h
  · exact List.mem_of_mem_take h
  · exact List.mem_of_mem_drop h
theorem logE_q {qs : List EQ} (h : LogE (qs.map EQ.e)) : qs.Pairwise (fun a b => ordE a.e b.e < 0) := by
  have := h.so
  rwa [List.pairwise_map] at this
theorem logE_id {qs : List EQ} (h : LogE (qs.map EQ.e)) : (qs.map (fun q => q.e.id)).Nodup := by
  have := h.id
  rwa [List.map_map] at this
theorem at_own {qs : List EQ} (h : LogE (qs.map EQ.e)) {i j : Nat} {q : EQ} {y : Evt} (hj : qs[j]? = some q) (h1 : y.at' = q.e.at') (h2 : y.id = q.e.id) (hlo : ∀ (p : Nat) f, p < i → qs[p]? = some f → ordE f.e y < 0) (hhi : ∀ (p : Nat) f, i ≤ p → qs[p]? = some f → 0 ≤ ordE f.e y) : i = j := by
  have h0 : ordE q.e y = 0 := ordE_of h1.symm h2.symm
  rcases Nat.lt_trichotomy i j with hl | hl | hl
  · have hil : i < qs.length := by have := (List.getElem?_eq_some_iff.1 hj).1; omega
    have h3 := hhi i _ (Nat.le_refl _) (List.getElem?_eq_getElem hil)
    obtain ⟨hjl, e⟩ := List.getElem?_eq_some_iff.1 hj
    have h4 := List.pairwise_iff_getElem.1 (logE_q h) i j hil hjl hl
    rw [e] at h4
    have h5 := ordE_ok.trans qs[i].e q.e y (by omega) (by omega)
    have h6 : ordE qs[i].e y = 0 := by omega
    have h7 := ordE_zero h6
    have h8 := ordE_zero h0
    have h9 : ordE qs[i].e q.e = 0 := ordE_of (h7.1.trans h8.1.symm) (h7.2.trans h8.2.symm)
    omega
  · exact hl
  · have := hlo j q hl hj; omega
theorem plE_of {qs : List EQ} {y : Evt} {i : Nat} (hi : i ≤ qs.length) (hlo : ∀ (p : Nat) f, p < i → qs[p]? = some f → ordE f.e y < 0) (hhi : ∀ (p : Nat) f, i ≤ p → qs[p]? = some f → 0 ≤ ordE f.e y) : IsPlE (qs.map EQ.e) y i := by
  refine ⟨by rw [List.length_map]; exact hi, fun p s hp hs => ?_, fun p s hp hs => ?_⟩
  · rw [List.getElem?_map, Option.map_eq_some_iff] at hs
    obtain ⟨f, hf, rfl⟩ := hs
    exact hlo p f hp hf
  · rw [List.getElem?_map, Option.map_eq_some_iff] at hs
    obtain ⟨f, hf, rfl⟩ := hs
    have := hhi p f hp hf
    omega
end Go.Proofs.YtmlpkejeglpciaaGreatDoor

/- Where something stands, or would stand, in a list that rises. -/
namespace Go.Proofs.YtmlpkejeglpciaaGreatDoor
open Go Go.RowKit
def GivesBy {α : Type} (cf : α → Int) (xs : List α) (w : World) (e : Ending) (w' : World) : Prop :=
  ∃ (i : Nat) (b : Bool), e = .returned (.tuple #[.int .i64 i, .bool b]) ∧ i ≤ xs.length ∧ (∀ p f, p < i → xs[p]? = some f → cf f < 0) ∧ (∀ p f, i ≤ p → xs[p]? = some f → 0 ≤ cf f) ∧ (b = true ↔ ∃ f, xs[i]? = some f ∧ cf f = 0) ∧ Below w.heap.size w w'
def GivesIF {α : Type} (P : α → Bool) (xs : List α) (w : World) (e : Ending) (w' : World) : Prop :=
  ∃ i : Int, e = .returned (.int .i64 i) ∧ Below w.heap.size w w' ∧ ((i = -1 ∧ ∀ y ∈ xs, P y = false) ∨ ∃ (j : Nat) (y : α), i = j ∧ xs[j]? = some y ∧ P y = true ∧ ∀ z ∈ xs.take j, P z = false)
end Go.Proofs.YtmlpkejeglpciaaGreatDoor

/- What isLabel, isPhone, isMember, isDevice of package person return. -/
namespace Go.Proofs.YtmlpkejeglpciaaGreatDoor
open Go.RowKit
theorem u8_ne (x c : UInt8) (n : Int) (h : (c.toNat : Int) = n) : (x != c) = ((x.toNat : Int) != n) := by
  subst h
  rw [Bool.eq_iff_iff, bne_iff_ne, bne_iff_ne, ne_eq, ne_eq, ← UInt8.toNat_inj]
  omega
theorem isLabel1_pb : PB 305 L.labelByte := by
  intro c w
  obtain ⟨R, HR⟩ : ∃ R, Hid (L.labelByte c = R) := ⟨_, Lib.hid rfl⟩
  rw [HR.out]
  go_enter Tryz.func305, Tryz.ntmps305
  go_wp2_with (first | (go_at_call 160; refine (small_pb c _).mono ?_; rintro e _ ⟨rfl, rfl⟩) | (go_at_call 163; refine (digit_pb c _).mono ?_; rintro e _ ⟨rfl, rfl⟩))
  all_goals (go_ret; refine ⟨ret_b ?_, rfl⟩; rw [← HR.out]; unfold L.labelByte; rw [Bool.eq_iff_iff]; simp_all; try omega)
theorem isMail1_pb : PB 276 L.mailByte := by
  intro c w
  obtain ⟨R, HR⟩ : ∃ R, Hid (L.mailByte c = R) := ⟨_, Lib.hid rfl⟩
  rw [HR.out]
  go_enter Tryz.func276, Tryz.ntmps276
  go_wp2_with (first | (go_at_call 160; refine (small_pb c _).mono ?_; rintro e _ ⟨rfl, rfl⟩) | (go_at_call 163; refine (digit_pb c _).mono ?_; rintro e _ ⟨rfl, rfl⟩))
  all_goals (go_ret; refine ⟨ret_b ?_, rfl⟩; rw [← HR.out]; unfold L.mailByte; rw [Bool.eq_iff_iff]; simp_all; try omega)
theorem isMember1_pb : PB 278 L.memberByte := by
  intro c w
  obtain ⟨R, HR⟩ : ∃ R, Hid (L.memberByte c = R) := ⟨_, Lib.hid rfl⟩
  rw [HR.out]
  go_enter Tryz.func278, Tryz.ntmps278
  go_wp2_with (first | (go_at_call 279; refine (capital_pb c _).mono ?_; rintro e _ ⟨rfl, rfl⟩) | (go_at_call 163; refine (digit_pb c _).mono ?_; rintro e _ ⟨rfl, rfl⟩))
  all_goals (go_ret; refine ⟨ret_b ?_, rfl⟩; rw [← HR.out]; unfold L.memberByte; rw [Bool.eq_iff_iff]; simp_all; try omega)
theorem isDevice1_pb : PB 280 L.deviceByte := by
  intro c w
  obtain ⟨R, HR⟩ : ∃ R, Hid (L.deviceByte c = R) := ⟨_, Lib.hid rfl⟩
  rw [HR.out]
  go_enter Tryz.func280, Tryz.ntmps280
  go_wp2_with (first | (go_at_call 163; refine (digit_pb c _).mono ?_; rintro e _ ⟨rfl, rfl⟩))
  all_goals (go_ret; refine ⟨ret_b ?_, rfl⟩; rw [← HR.out]; unfold L.deviceByte; rw [Bool.eq_iff_iff]; simp_all; try omega)
theorem lastD_at (s : ByteArray) (h : 0 < s.size) : s.data.toList.getLastD 0 = s[s.size - 1] := by
  obtain ⟨⟨l⟩⟩ := s
  cases l with
  | nil => simp [ByteArray.size] at h
  | cons a t =>
    show List.getLastD (a :: t) 0 = (a :: t)[(a :: t).length - 1]
    rw [List.getLastD_eq_getLast?, List.getLast?_eq_getElem?, List.getElem?_eq_getElem (by simp)]
    rfl
theorem isMember_any (s : ByteArray) (w : World) (hs : s.size ≤ 1000000000) :
    Calls Tryz.prog 235 #[.string s] w fun e w' => e = .returned (.bool (L.memberOk s)) ∧ w = w' := by
  obtain ⟨R, HR⟩ : ∃ R, Hid (L.memberOk s = R) := ⟨_, Lib.hid rfl⟩
  rw [HR.out]
  obtain ⟨M, HM⟩ : ∃ M, Hid (s.data.toList.all L.memberByte = M) := ⟨_, Lib.hid rfl⟩
  have Ha : Hid (∀ w, Calls Tryz.prog 161 #[.string s, .func (.func 278) #[] #[]] w fun e w' => e = .returned (.bool M) ∧ w = w') := fun w => HM.out ▸ all_any _ _ isMember1_pb s w hs (fun _ _ => by kernel_rfl)
  go_enter Tryz.func235, Tryz.ntmps235
  go_wp2_with (first | (go_at_call 159; refine (within_any _ _ _ _).mono ?_; rintro e _ ⟨rfl, rfl⟩) | (go_at_call 161; refine (Ha.out _).mono ?_; rintro e _ ⟨rfl, rfl⟩))
  all_goals (go_ret; refine ⟨ret_b ?_, rfl⟩; rw [← HR.out]; unfold L.memberOk; rw [HM.out]; clear HR Ha HM; simp_all; try omega)
theorem isDevice_any (s : ByteArray) (w : World) (hs : s.size ≤ 1000000000) :
    Calls Tryz.prog 236 #[.string s] w fun e w' => e = .returned (.bool (L.deviceOk s)) ∧ w = w' := by
  obtain ⟨R, HR⟩ : ∃ R, Hid (L.deviceOk s = R) := ⟨_, Lib.hid rfl⟩
  rw [HR.out]
  obtain ⟨M, HM⟩ : ∃ M, Hid (s.data.toList.all L.deviceByte = M) := ⟨_, Lib.hid rfl⟩
  have Ha : Hid (∀ w, Calls Tryz.prog 161 #[.string s, .func (.func 280) #[] #[]] w fun e w' => e = .returned (.bool M) ∧ w = w') := fun w => HM.out ▸ all_any _ _ isDevice1_pb s w hs (fun _ _ => by kernel_rfl)
  go_enter Tryz.func236, Tryz.ntmps236
  go_wp2_with (first | (go_at_call 161; refine (Ha.out _).mono ?_; rintro e _ ⟨rfl, rfl⟩))
  all_goals (go_ret; refine ⟨ret_b ?_, rfl⟩; rw [← HR.out]; unfold L.deviceOk; rw [HM.out]; clear HR Ha HM; simp_all; try omega)
theorem isLabel_any (s : ByteArray) (w : World) (hs : s.size ≤ 1000000000) :
    Calls Tryz.prog 277 #[.string s] w fun e w' => e = .returned (.bool (L.labelOk s)) ∧ w = w' := by
  obtain ⟨R, HR⟩ : ∃ R, Hid (L.labelOk s = R) := ⟨_, Lib.hid rfl⟩
  rw [HR.out]
  obtain ⟨M, HM⟩ : ∃ M, Hid (s.data.toList.all L.labelByte = M) := ⟨_, Lib.hid rfl⟩
  have Ha : Hid (∀ w, Calls Tryz.prog 161 #[.string s, .func (.func 305) #[] #[]] w fun e w' => e = .returned (.bool M) ∧ w = w') := fun w => HM.out ▸ all_any _ _ isLabel1_pb s w hs (fun _ _ => by kernel_rfl)
  by_cases hz : 1 ≤ s.size ∧ s.size ≤ 30
  · have e1 : decide ((1 : Int) ≤ s.size ∧ (s.size : Int) ≤ 30) = true := by simp; omega
    have Hh := Lib.hid (headD_at s (by omega))
    have Hl := Lib.hid (lastD_at s (by omega))
    have hz1 : s.size - 1 < s.size := by omega
    have hz0 : 0 < s.size := by omega
    have ez : (s.size : Int) - 1 = ((s.size - 1 : Nat) : Int) := by omega
    go_enter Tryz.func277, Tryz.ntmps277
    go_wp2_with (first | (go_at_call 159; refine (within_any _ _ _ _).mono ?_; rintro e _ ⟨rfl, rfl⟩; rw [e1]) | (go_at_call 161; refine (Ha.out _).mono ?_; rintro e _ ⟨rfl, rfl⟩))
    all_goals (go_ret; refine ⟨ret_b ?_, rfl⟩; rw [← HR.out]; unfold L.labelOk L.ends; rw [HM.out, Hh.out, Hl.out, u8_ne _ 45 45 rfl, u8_ne _ 45 45 rfl]; clear HR Ha HM Hh Hl; simp_all)
  · have e1 : decide ((1 : Int) ≤ s.size ∧ (s.size : Int) ≤ 30) = false := by simp; omega
    have E2 : Hid ((decide (1 ≤ s.size) && decide (s.size ≤ 30)) = false) := by show _ = _; simp; omega
    go_enter Tryz.func277, Tryz.ntmps277
    go_wp2_with (first | (go_at_call 159; refine (within_any _ _ _ _).mono ?_; rintro e _ ⟨rfl, rfl⟩; rw [e1]))
    go_ret
    exact ⟨ret_b (by rw [← HR.out, L.labelOk, E2.out]; rfl), rfl⟩
theorem hasPrefix_any (s p : ByteArray) (w : World) : Calls Tryz.prog 221 #[.string s, .string p] w fun e w' => e = .returned (.bool (Lib.hasPrefix s.data.toList p.data.toList)) ∧ w = w' := (Tryz.strings_HasPrefix s p w).mono fun _ _ ⟨h1, h2⟩ => ⟨h1, h2.symm⟩
theorem ext1 (s : ByteArray) : (s.extract 1 s.size).data.toList = s.data.toList.drop 1 := by
  rw [Lib.extract_data, List.take_of_length_le (by rw [List.length_drop, ← Lib.size_eq]; omega)]
theorem drop1_at (s : ByteArray) (h : 1 < s.size) : (s.data.toList.drop 1).headD 0 = s[1] := by
  obtain ⟨⟨l⟩⟩ := s
  match l, h with
  | a :: b :: t, _ => rfl
  | [a], h => simp [ByteArray.size] at h
  | [], h => simp [ByteArray.size] at h
theorem isPhone_any (s : ByteArray) (w : World) (hs : s.size ≤ 1000000000) :
    Calls Tryz.prog 234 #[.string s] w fun e w' => e = .returned (.bool (L.phoneOk s)) ∧ w = w' := by
  obtain ⟨R, HR⟩ : ∃ R, Hid (L.phoneOk s = R) := ⟨_, Lib.hid rfl⟩
  rw [HR.out]
  obtain ⟨M, HM⟩ : ∃ M, Hid ((s.data.toList.drop 1).all L.isDigit = M) := ⟨_, Lib.hid rfl⟩
  obtain ⟨P, HP⟩ : ∃ P, Hid (Lib.hasPrefix s.data.toList [43] = P) := ⟨_, Lib.hid rfl⟩
  have Hp : Hid (∀ w, Calls Tryz.prog 221 #[.string s, .string ⟨#[43]⟩] w fun e w' => e = .returned (.bool P) ∧ w = w') := fun w => HP.out ▸ hasPrefix_any s ⟨#[43]⟩ w
  have Ha : Hid (∀ w, Calls Tryz.prog 161 #[.string (s.extract 1 s.size), .func (.func 163) #[] #[]] w fun e w' => e = .returned (.bool M) ∧ w = w') := fun w => HM.out ▸ ext1 s ▸ all_any _ _ digit_pb (s.extract 1 s.size) w (by rw [ByteArray.size_extract]; omega) (fun _ _ => by kernel_rfl)
  by_cases hz : 8 ≤ s.size ∧ s.size ≤ 16
  · have e1 : decide ((8 : Int) ≤ s.size ∧ (s.size : Int) ≤ 16) = true := by simp; omega
    have E2 : Hid ((decide (8 ≤ s.size) && decide (s.size ≤ 16)) = true) := by show _ = _; simp; omega
    have Hh := Lib.hid (drop1_at s (by omega))
    have hz1 : 1 < s.size := by omega
    have hz0 : 1 ≤ s.size := by omega
    go_enter Tryz.func234, Tryz.ntmps234
    go_wp2_with (first | (go_at_call 221; refine (Hp.out _).mono ?_; rintro e _ ⟨rfl, rfl⟩) | (go_at_call 159; refine (within_any _ _ _ _).mono ?_; rintro e _ ⟨rfl, rfl⟩; rw [e1]) | (go_at_call 161; refine (Ha.out _).mono ?_; rintro e _ ⟨rfl, rfl⟩))
    all_goals (go_ret; refine ⟨ret_b ?_, rfl⟩; rw [← HR.out]; unfold L.phoneOk; rw [Bool.and_assoc (Lib.hasPrefix _ _), E2.out, HM.out, HP.out, Hh.out, u8_ne _ 48 48 rfl]; clear HR Ha HM Hh Hp HP; simp_all)
  · have e1 : decide ((8 : Int) ≤ s.size ∧ (s.size : Int) ≤ 16) = false := by simp; omega
    have E2 : Hid ((decide (8 ≤ s.size) && decide (s.size ≤ 16)) = false) := by show _ = _; simp; omega
    go_enter Tryz.func234, Tryz.ntmps234
    go_wp2_with (first | (go_at_call 221; refine (Hp.out _).mono ?_; rintro e _ ⟨rfl, rfl⟩) | (go_at_call 159; refine (within_any _ _ _ _).mono ?_; rintro e _ ⟨rfl, rfl⟩; rw [e1]))
    all_goals (go_ret; exact ⟨ret_b (by rw [← HR.out, L.phoneOk, Bool.and_assoc (Lib.hasPrefix _ _), E2.out]; simp), rfl⟩)
def MaxL (w : World) : Prop := ∃ m : Int, w.cell? ⟨4, 0, none⟩ = some (.int .i64 m)
theorem MaxL.below {w w' : World} (h : MaxL w) (k : Below w.heap.size w w') : MaxL w' := by
  obtain ⟨m, hm⟩ := h
  exact ⟨m, by rw [k.cell (p := ⟨4, 0, none⟩) (World.block_lt_of_cell? w _ hm)]; exact hm⟩
theorem cut_any (s : ByteArray) (w : World) (hs : s.size ≤ 1000000000) (hM : MaxL w) (sep : ByteArray) :
    Calls Tryz.prog 151 #[.string s, .string sep] w fun e w' => e = .returned (.tuple #[.string ⟨(Lib.cut s.data.toList sep.data.toList).1.toArray⟩, .string ⟨(Lib.cut s.data.toList sep.data.toList).2.1.toArray⟩, .bool (Lib.cut s.data.toList sep.data.toList).2.2]) ∧ Below w.heap.size w w' := by
  obtain ⟨m, hm⟩ := hM
  exact (Tryz.strings_Cut s sep m w (by omega) hm).mono fun e w' ⟨h1, n, h2⟩ => ⟨h1, by subst h2; exact ⟨rfl, rfl, rfl, Nat.le_refl _, fun _ _ => rfl⟩⟩
theorem contains_any (s sub : ByteArray) (w : World) (hs : s.size ≤ 1000000000) (hM : MaxL w) :
    Calls Tryz.prog 241 #[.string s, .string sub] w fun e w' => e = .returned (.bool (Lib.contains s.data.toList sub.data.toList)) ∧ w = w' := by
  obtain ⟨m, hm⟩ := hM
  exact (Tryz.strings_Contains s sub m w (by omega) hm).mono fun e w' ⟨h1, h2⟩ => ⟨h1, h2.symm⟩
theorem cut_le (l sep : List UInt8) : (Lib.cut l sep).1.length ≤ l.length ∧ (Lib.cut l sep).2.1.length ≤ l.length := by
  unfold Lib.cut
  split
  · simp only [List.length_take, List.length_drop]; omega
  · simp
theorem split_le (sep : ByteArray) : ∀ (k : Nat) (s : ByteArray) (x : ByteArray), x ∈ Lib.splitB sep 0 k s → x.size ≤ s.size
  | 0, s, x, h => by
    rw [Lib.splitB_zero, List.mem_singleton] at h
    rw [h]; exact Nat.le_refl _
  | k + 1, s, x, h => by
    unfold Lib.splitB at h
    split at h
    · rw [List.mem_singleton] at h; rw [h]; exact Nat.le_refl _
    · rcases List.mem_cons.1 h with rfl | h
      · rw [ByteArray.size_extract]; omega
      · have := split_le sep k _ x h
        rw [ByteArray.size_extract] at this; omega
def GivesLabels (d : ByteArray) (w : World) (e : Ending) (w' : World) : Prop := ∃ blk c, e = .returned (.slice (some ⟨blk, 0, none⟩) (L.labels d).length c) ∧ blk < w'.heap.size ∧ (∀ i x, (L.labels d)[i]? = some x → w'.cell? ⟨blk, i, none⟩ = some (.string x)) ∧ Below w.heap.size w w'
theorem split_any (d : ByteArray) (w : World) (hd : d.size ≤ 1000000000) (hM : MaxL w) :
    Calls Tryz.prog 104 #[.string d, .string ⟨#[46]⟩] w (GivesLabels d w) := by
  obtain ⟨m, hm⟩ := hM
  refine (Tryz.strings_Split d ⟨#[46]⟩ m w (by omega) hm (by decide)).mono ?_
  rintro e w' ⟨rfl, rfl⟩
  have hl : (L.labels d).length = Lib.countB d ⟨#[46]⟩ + 1 := Lib.splitB_all ⟨#[46]⟩ (by decide) 0 _ d rfl
  refine ⟨w.heap.size, _, by rw [hl], by simp, fun i x hx => ?_, (Below.refl _ _).alloc (Nat.le_refl _) _⟩
  rw [World.cell?_alloc_at _ _ _ _ rfl]
  have hx' : (Lib.splitB ⟨#[46]⟩ 0 (Lib.countB d ⟨#[46]⟩) d)[i]? = some x := hx
  simp [hx']
end Go.Proofs.YtmlpkejeglpciaaGreatDoor
