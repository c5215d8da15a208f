/- A map of the call's own, keyed by numbers: a piece of memory. -/
import Derived.Test.YthmkphmciiiagaaGreatDoorPackB
import Derived.Maps.OwnOps
import Derived.Carry
namespace Go.Proofs.YthmkphmciiiagaaGreatDoor
open Go Go.RowKit Go.MapKept
def updI (k : Int) (v : Value) : List (Int × Value) → List (Int × Value)
  | [] => [(k, v)]
  | p :: r => if p.1 = k then (k, v) :: r else p :: updI k v r
def getI (k : Int) : List (Int × Value) → Option Value
  | [] => none
  | p :: r => if p.1 = k then some p.2 else getI k r
theorem getI_upd (k k' : Int) (v : Value) : ∀ L, getI k' (updI k v L) = if k' = k then some v else getI k' L
  | [] => by simp only [updI, getI]; by_cases h : k = k' <;> simp [h, eq_comm]
  | p :: r => by
    rw [updI]
    split
    · rename_i h
      rw [getI, getI, h]
      by_cases h2 : k = k' <;> simp [h2, eq_comm]
    · rename_i h
      rw [getI, getI, getI_upd k k' v r]
      by_cases h2 : p.1 = k'
      · rw [if_pos h2, if_neg (fun e => h (h2.trans e)), if_pos h2]
      · rw [if_neg h2, if_neg h2]
abbrev kvOf (e : MapEntry) : Value × Value := (e.key, e.val)
abbrev kvI (p : Int × Value) : Value × Value := (Value.int .i64 p.1, p.2)
def MapAt (w : World) (X : Nat) (L : List (Int × Value)) : Prop := ∃ es clock, w.heap[X]? = some (.map es clock) ∧ es.toList.map kvOf = L.map kvI
/-- a map -/
def Chunk.mapI (X : Nat) (L : List (Int × Value)) : Chunk :=
  ⟨some X, fun _ w => MapAt w X L, fun k _ hd ⟨es, c, h, e⟩ => ⟨es, c, (k.block X (Array.getElem?_eq_some_iff.1 h).1 (hd X rfl)).trans h, e⟩, fun _ h => h, fun ⟨_, _, h, _⟩ k e => by cases e; exact (Array.getElem?_eq_some_iff.1 h).1⟩
theorem findNow_int (k : Int) : ∀ (l : List MapEntry) (L : List (Int × Value)) (i : Nat), l.map kvOf = L.map kvI →
    (getI k L = none ∧ Instr.findNow (.int .i64) (.int .i64 k) l i = some none) ∨
    ∃ j v e, getI k L = some v ∧ Instr.findNow (.int .i64) (.int .i64 k) l i = some (some (i + j, v)) ∧ l[j]? = some e ∧ e.key = .int .i64 k
  | [], L, i, h => by
    cases L with
    | nil => exact .inl ⟨rfl, rfl⟩
    | cons p r => simp at h
  | e :: es, [], i, h => by simp at h
  | e :: es, p :: r, i, h => by
    simp only [List.map_cons, List.cons.injEq, kvOf, kvI, Prod.mk.injEq] at h
    obtain ⟨⟨h1, h2⟩, h3⟩ := h
    by_cases hk : p.1 = k
    · refine .inr ⟨0, p.2, e, by simp [getI, hk], ?_, rfl, by rw [h1, hk]⟩
      simp [Instr.findNow, Instr.sameNow, h1, hk, h2]
    · have hkb : (k == p.1) = false := by simpa using fun e => hk (Eq.symm e)
      rcases findNow_int k es r (i + 1) h3 with ⟨g1, g2⟩ | ⟨j, v, e', g1, g2, g3, g4⟩
      · refine .inl ⟨by simp [getI, hk, g1], ?_⟩
        simp [Instr.findNow, Instr.sameNow, h1, hkb, g2]
      · refine .inr ⟨j + 1, v, e', by simp [getI, hk, g1], ?_, by simpa using g3, g4⟩
        simp [Instr.findNow, Instr.sameNow, h1, hkb, g2]
        omega
theorem upd_push (k : Int) (u : Value) : ∀ (l : List MapEntry) (L : List (Int × Value)) (b : Nat), l.map kvOf = L.map kvI → getI k L = none → (l ++ [({ key := .int .i64 k, val := u, born := b } : MapEntry)]).map kvOf = (updI k u L).map kvI
  | [], L, b, h, _ => by
    cases L with
    | nil => rfl
    | cons p r => simp at h
  | e :: es, [], b, h, _ => by simp at h
  | e :: es, p :: r, b, h, hn => by
    simp only [List.map_cons, List.cons.injEq] at h
    rw [getI] at hn
    split at hn
    · cases hn
    · rename_i hk
      rw [updI, if_neg hk, List.cons_append, List.map_cons, List.map_cons, h.1, upd_push k u es r b h.2 hn]
theorem upd_modify (k : Int) (u : Value) : ∀ (l : List MapEntry) (L : List (Int × Value)) (i j : Nat) (v : Value), l.map kvOf = L.map kvI → Instr.findNow (.int .i64) (.int .i64 k) l i = some (some (i + j, v)) →
    (l.modify j (fun e => { e with key := .int .i64 k, val := u })).map kvOf = (updI k u L).map kvI
  | [], L, i, j, v, h, hf => by simp [Instr.findNow] at hf
  | e :: es, [], i, j, v, h, hf => by simp at h
  | e :: es, p :: r, i, j, v, h, hf => by
    have h0 := h
    simp only [List.map_cons, List.cons.injEq, kvOf, kvI, Prod.mk.injEq] at h
    obtain ⟨⟨h1, h2⟩, h3⟩ := h
    by_cases hk : p.1 = k
    · simp [Instr.findNow, Instr.sameNow, h1, hk] at hf
      obtain ⟨rfl, _⟩ := hf
      rw [updI, if_pos hk]
      simp [h3, List.modify]
    · have hkb : (k == p.1) = false := by simpa using fun e => hk (Eq.symm e)
      cases j with
      | zero =>
        simp [Instr.findNow, Instr.sameNow, h1, hkb] at hf
        rcases findNow_int k es r (i + 1) h3 with ⟨_, g2⟩ | ⟨j', v', e', _, g2, _, _⟩
        · rw [g2] at hf; cases hf
        · rw [g2] at hf; simp at hf; omega
      | succ j =>
        simp [Instr.findNow, Instr.sameNow, h1, hkb] at hf
        have := upd_modify k u es r (i + 1) j v h3 (by rw [hf]; congr 3; omega)
        rw [updI, if_neg hk]
        simp only [List.modify_succ_cons, List.map_cons, this]
        simp [h1, h2]
section
variable {P : Program}
theorem look_run {w : World} {X : Nat} {L : List (Int × Value)} {T K E : TypeId} (h : MapAt w X L) (hT : P.underlying T = some (.map K E)) (hK : P.underlying K = some (.int .i64)) {z : Value} (hz : (zeroValue E).run P w = .ok z w) (k : Int) :
    (Instr.lookup T (.map (some X)) (.int .i64 k) false).run P w = .ok ((getI k L).getD z) w := by
  obtain ⟨es, clock, hb, he⟩ := h
  have hk : IsKey (.int .i64) (.int .i64 k) := by simp [IsKey]
  have hck := run_checkKey (P := P) (w := w) hK hk es.isEmpty 9999
  rcases findNow_int k es.toList L 0 he with ⟨g1, g2⟩ | ⟨j, v, e, g1, g2, _, _⟩
  · have hf := run_findKey (P := P) (w := w) hK g2
    simp [Instr.lookup, run_underlying hT, Go.MapKept.run_getObj_map hb, hck, hf, hz, g1, Result.andThen]
  · have hf := run_findKey (P := P) (w := w) hK g2
    simp [Instr.lookup, run_underlying hT, Go.MapKept.run_getObj_map hb, hck, hf, g1, Result.andThen]
theorem put_run {w : World} {X : Nat} {L : List (Int × Value)} {T K E : TypeId} (h : MapAt w X L) (hT : P.underlying T = some (.map K E)) (hK : P.underlying K = some (.int .i64)) (k : Int) (u : Value) :
    ∃ w', (Instr.mapUpdate T (.map (some X)) (.int .i64 k) u).run P w = .ok () w' ∧ MapAt w' X (updI k u L) ∧ w.grownBy w' (some X) := by
  obtain ⟨es, clock, hb, he⟩ := h
  have hk : IsKey (.int .i64) (.int .i64 k) := by simp [IsKey]
  have hck := run_checkKey (P := P) (w := w) hK hk false 9999
  have gr : ∀ o, w.grownBy { w with heap := w.heap.setIfInBounds X o } (some X) := fun o => ⟨rfl, rfl, rfl, by simp, fun j hj hne => (heap_set hb).2 j (fun e => hne (by rw [e]))⟩
  rcases findNow_int k es.toList L 0 he with ⟨g1, g2⟩ | ⟨j, v, e, g1, g2, g3, g4⟩
  · have hf := run_findKey (P := P) (w := w) hK g2
    refine ⟨{ w with heap := w.heap.setIfInBounds X (.map (es.push ⟨.int .i64 k, u, clock⟩) (clock + 1)) }, ?_, ⟨_, _, (heap_set hb).1, ?_⟩, gr _⟩
    · simp [Instr.mapUpdate, run_underlying hT, Go.MapKept.run_getObj_map hb, hck, hf, run_setObj_map _ hb, Result.andThen]
    · rw [Array.toList_push]
      exact upd_push k u es.toList L clock he g1
  · have hf := run_findKey (P := P) (w := w) hK g2
    rw [Nat.zero_add] at hf
    have g3' : es[j]? = some e := by rw [← Array.getElem?_toList]; exact g3
    refine ⟨{ w with heap := w.heap.setIfInBounds X (.map (es.modify j fun e => { e with key := .int .i64 k, val := u }) clock) }, ?_, ⟨_, _, (heap_set hb).1, ?_⟩, gr _⟩
    · simp [Instr.mapUpdate, run_underlying hT, Go.MapKept.run_getObj_map hb, hck, hf, run_setObj_map _ hb, Result.andThen, g3', g4, Instr.keyThatStays, Instr.sameBits]
    · rw [Array.toList_modify]
      exact upd_modify k u es.toList L 0 j v he g2
end
section
variable {ops : Array Oper} {rest : List Oper} {o : Oper} {a : Act} {Q : Exit → Act → World → Prop}
theorem Mem.look {w0 w : World} {cs : List Chunk} (S : Mem w0 w cs) (i : Nat) {X : Nat} {L : List (Int × Value)} (hi : cs[i]? = some (.mapI X L)) {T K E : TypeId} (hT : Tryz.prog.underlying T = some (.map K E)) (hK : Tryz.prog.underlying K = some (.int .i64)) {z : Value} (hz : ∀ w, (zeroValue E).run Tryz.prog w = .ok z w)
    (hgd : o.guard = none) (m x : Operand) (hop : o.op = .lookup T m x false) (hm : a.eval m = .map (some X)) (k : Int) (hx : a.eval x = .int .i64 k) (h : wpList Tryz.prog ops Q rest (a.put o.dst ((getI k L).getD z)) w) : wpList Tryz.prog ops Q (o :: rest) a w := by
  have hrun := look_run (P := Tryz.prog) (S.ok _ (List.mem_of_getElem? hi)) hT hK (hz w) k
  refine wpList_plain hgd fun K' hK' => ?_
  unfold Oper.wp
  simp [execOp, hop, hm, hx, hrun, Result.andThen]
  exact hK' _ _ h
theorem Mem.mput {w0 w : World} {cs : List Chunk} (S : Mem w0 w cs) (i : Nat) {X : Nat} {L : List (Int × Value)} (hi : cs[i]? = some (.mapI X L)) {T K E : TypeId} (hT : Tryz.prog.underlying T = some (.map K E)) (hK : Tryz.prog.underlying K = some (.int .i64))
    (hgd : o.guard = none) (m x v : Operand) (hop : o.op = .mapUpdate T m x v) (hm : a.eval m = .map (some X)) (k : Int) (hx : a.eval x = .int .i64 k) (u : Value) (hv : a.eval v = u)
    (h : ∀ w', Mem w0 w' (cs.set i (.mapI X (updI k u L))) → wpList Tryz.prog ops Q rest (a.put o.dst undef) w') : wpList Tryz.prog ops Q (o :: rest) a w := by
  obtain ⟨w', hrun, hm', hgr⟩ := put_run (P := Tryz.prog) (S.ok _ (List.mem_of_getElem? hi)) hT hK k u
  have hX := S.new _ (List.mem_of_getElem? hi) X rfl
  have hbl : Below w0.heap.size w w' := (Below.refl _ w).grown hgr S.b.size (fun k hk => by cases hk; exact hX)
  have S2 := S.upd i hi (.mapI X (updI k u L)) ⟨hgr.size, fun k hk hn => hgr.block k hk (fun e => hn e.symm)⟩ (S.b.trans hbl) (fun k e => .inl e) hm'
  refine wpList_plain hgd fun K' hK' => ?_
  unfold Oper.wp
  simp [execOp, hop, hm, hx, hv, hrun, Result.andThen]
  exact hK' _ _ (h w' S2)
/-- a new map -/
theorem Mem.newMap {w0 w : World} {cs : List Chunk} (S : Mem w0 w cs) (X : Nat) (hX : X = w.heap.size) : Mem w0 (w.alloc (.map #[] 0)) (cs ++ [.mapI X []]) := by
  subst hX
  exact S.call ((Below.refl _ _).alloc (Nat.le_refl _) _) _ ⟨#[], 0, by show (w.heap.push (.map #[] 0))[w.heap.size]? = _; simp, rfl⟩ (fun k e => by cases e; exact Nat.le_refl _)
end
end Go.Proofs.YthmkphmciiiagaaGreatDoor
