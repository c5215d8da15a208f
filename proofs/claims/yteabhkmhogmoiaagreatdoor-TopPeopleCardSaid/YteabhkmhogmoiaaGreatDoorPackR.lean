/- Several texts in one: IdV, Map, MapId, Same, CopyEv, Of. -/
import Derived.Test.YteabhkmhogmoiaaGreatDoorPackW
import Derived.Test.YteabhkmhogmoiaaGreatDoorPackI
import Derived.Test.YteabhkmhogmoiaaGreatDoorPackM
import Derived.Test.YteabhkmhogmoiaaGreatDoorPackB
import Derived.Deep.DeepCutAuto
import Derived.Maps.OwnOps
import Derived.Carry
import Derived.WideKeyRuns
import Derived.Test.YteabhkmhogmoiaaGreatDoorPackE
import Derived.Test.YteabhkmhogmoiaaGreatDoorPackG
import Derived.Test.YteabhkmhogmoiaaGreatDoorPackQ
import Derived.Test.YteabhkmhogmoiaaGreatDoorPackO
/- Ids in a list: slices.Contains and slices.Index of ids. -/
namespace Go.Proofs.YteabhkmhogmoiaaGreatDoor
open Go Go.RowKit
structure IdV where
  k : Int
  t : ByteArray
def IdV.cells (x : IdV) : List Value := [.int .i64 x.k, .string x.t]
def rId : Rep IdV := .flat 2 IdV.cells (fun _ => rfl)
theorem flatId : rId.Flat IdV.cells := fun _ _ _ _ => Iff.rfl
theorem Sl.idv {N : Nat → Prop} {w : World} {A : Option Addr} {xs : List IdV} (h : Sl rId N w A xs) (k : Nat) (x : IdV) (hk : xs[k]? = some x) : ∃ blk off, A = some ⟨blk, off, none⟩ ∧ blk < w.heap.size ∧
    w.cell? ⟨blk, off + k * 2, none⟩ = some (.int .i64 x.k) ∧ w.cell? ⟨blk, off + k * 2 + 1, none⟩ = some (.string x.t) := by
  obtain ⟨blk, off, l, e, h1, _, h3, h4⟩ := h k x hk
  obtain rfl : l = IdV.cells x := h3
  exact ⟨blk, off, e, h1, h4 0 _ rfl, h4 1 _ rfl⟩
def idsF : List IdV → Int
  | [] => 0
  | x :: r => if L.idFault x.k x.t ≠ 0 then L.idFault x.k x.t else idsF r
theorem idsF_at {xs : List IdV} {k : Nat} {x : IdV} (h : xs[k]? = some x) : idsF (xs.drop k) = if L.idFault x.k x.t ≠ 0 then L.idFault x.k x.t else idsF (xs.drop (k + 1)) := by
  obtain ⟨hk, rfl⟩ := List.getElem?_eq_some_iff.1 h
  rw [List.drop_eq_getElem_cons hk, idsF]
instance : DecidableEq IdV := fun a b => if h : a.k = b.k ∧ a.t = b.t then .isTrue (by cases a; cases b; simp_all) else .isFalse (fun e => h (by rw [e]; exact ⟨rfl, rfl⟩))
def idIx (y : IdV) : List IdV → Int
  | [] => -1
  | x :: r => if x = y then 0 else if idIx y r < 0 then -1 else idIx y r + 1
theorem mem_drop {y x : IdV} {xs : List IdV} {k : Nat} (h : xs[k]? = some x) (hxy : ¬ x = y) : y ∈ xs.drop k ↔ y ∈ xs.drop (k + 1) := by
  obtain ⟨hk, rfl⟩ := List.getElem?_eq_some_iff.1 h
  rw [List.drop_eq_getElem_cons hk, List.mem_cons]
  exact ⟨fun h => h.elim (fun e => absurd e.symm hxy) id, Or.inr⟩
theorem idv_eq {x y : IdV} (h1 : x.k = y.k) (h2 : (x.t.toList == y.t.toList) = true) : x = y := by
  obtain ⟨k, t⟩ := x
  obtain ⟨k', t'⟩ := y
  obtain rfl : k = k' := h1
  have h3 : t.toList = t'.toList := by simpa using h2
  rw [ByteArray.toList_eq, ByteArray.toList_eq] at h3
  obtain rfl : t = t' := by
    cases t; cases t'
    simp only [ByteArray.mk.injEq]
    exact Array.toList_inj.1 h3
  rfl
def GivesIx (y : IdV) (xs : List IdV) (w : World) (e : Ending) (w' : World) : Prop := ∃ n : Int, e = .returned (.int .i64 n) ∧ decide (0 ≤ n) = decide (y ∈ xs) ∧ Below w.heap.size w w'
set_option maxHeartbeats 2000000 in
set_option maxRecDepth 100000 in
theorem indexId_any (N : Nat → Prop) (A : Option Addr) (xs : List IdV) (c : Nat) (y : IdV) (w : World) (hS : Sl rId N w A xs) (hl : xs.length ≤ 1000000) :
    Calls Tryz.prog 80 #[.slice A xs.length c, .agg #[.int .i64 y.k, .string y.t]] w (GivesIx y xs w) := by
  have S := (Mem.start w).new' #[.int .i64 y.k, .string y.t] 35
  replace S : Mem w (w.alloc (.cells #[.int .i64 y.k, .string y.t] 35)) [.loc w.heap.size #[.int .i64 y.k, .string y.t] 35] := S
  have HS := Lib.hid (fun w' (h : Below w.heap.size w w') => hS.keepB h)
  clear hS
  go_enter Tryz.func80, Tryz.ntmps80
  go_wp2_with fail
  generalize w.alloc (.cells #[.int .i64 y.k, .string y.t] 35) = w1 at *
  go_loopw [5, 8] (fun a i wr => ∃ k : Nat, k ≤ xs.length ∧ a = a ∧ i = .int .i64 k ∧ Hid (y ∈ xs ↔ y ∈ xs.drop k) ∧ Mem w wr [.loc w.heap.size #[.int .i64 y.k, .string y.t] 35]) (fun _ i _ => xs.length - (intOf i).toNat)
  case atStart => exact ⟨0, by omega, rfl, rfl, Lib.hid Iff.rfl, S⟩
  case round =>
    clear S
    obtain ⟨k, hk, -, rfl, hF, S⟩ := hrel
    by_cases hlt : k < xs.length
    · obtain ⟨x, hx⟩ : ∃ x, xs[k]? = some x := ⟨_, List.getElem?_eq_getElem hlt⟩
      have e0 := (S.lv 0 rfl).all
      obtain ⟨blk, off, rfl, hbl, c0, c1⟩ := (HS.out _ S.b).idv k x hx
      by_cases hxy : x = y
      · have HG : Hid (y ∈ xs) := by show _; rw [← hxy]; exact List.mem_of_getElem? hx
        have h1 : (y.k == x.k) = true := by rw [hxy]; exact beq_self_eq_true _
        have h2 : (y.t.toList == x.t.toList) = true := by rw [hxy]; exact beq_self_eq_true _
        clear hxy hF hx
        go_wp2_with fail
        go_quiet (fail)
        go_wp2_with fail
        go_ret
        exact ⟨k, rfl, by rw [decide_eq_true HG.out]; simp, (S.below (below_drewN _ _ _)).b⟩
      · have HE : Hid (y ∈ xs ↔ y ∈ xs.drop (k + 1)) := by show _ ↔ _; rw [hF.out, mem_drop hx hxy]
        by_cases h1 : y.k = x.k
        · have h1' : (y.k == x.k) = true := by simpa using h1
          have h2 : (y.t.toList == x.t.toList) = false := by
            cases h3 : (y.t.toList == x.t.toList) with
            | false => rfl
            | true => exact absurd (idv_eq h1 h3) (fun e => hxy e.symm)
          clear hxy hF hx h1
          go_wp2_with fail
          go_quiet (fail)
          go_wp2_with fail
          go_roundw
          case rel => exact ⟨k + 1, by omega, trivial, by go_num, HE, S.below (below_drewN _ _ _)⟩
          case measure => simp [intOf]; omega
        · have h1' : (y.k == x.k) = false := by simpa using h1
          clear hxy hF hx h1
          go_wp2_with fail
          go_quiet (fail)
          go_wp2_with fail
          go_roundw
          case rel => exact ⟨k + 1, by omega, trivial, by go_num, HE, S.below (below_drewN _ _ _)⟩
          case measure => simp [intOf]; omega
    · obtain rfl : k = xs.length := by omega
      have HG : Hid (¬ y ∈ xs) := by show ¬ _; rw [hF.out, List.drop_length]; simp
      go_wp2_with fail
      go_ret
      exact ⟨-1, rfl, by rw [decide_eq_false HG.out]; simp, S.b⟩
theorem containsId_any (N : Nat → Prop) (A : Option Addr) (xs : List IdV) (c : Nat) (y : IdV) (w : World) (hS : Sl rId N w A xs) (hl : xs.length ≤ 1000000) :
    Calls Tryz.prog 18 #[.slice A xs.length c, .agg #[.int .i64 y.k, .string y.t]] w fun e w' => e = .returned (.bool (decide (y ∈ xs))) ∧ Below w.heap.size w w' := by
  have S := (Mem.start w).new' #[.int .i64 y.k, .string y.t] 35
  replace S : Mem w (w.alloc (.cells #[.int .i64 y.k, .string y.t] 35)) [.loc w.heap.size #[.int .i64 y.k, .string y.t] 35] := S
  have HI := Lib.hid (indexId_any N A xs c y _ (hS.keepB S.b) hl)
  have c0 := (S.lv 0 rfl).all
  clear hS
  go_enter Tryz.func18, Tryz.ntmps18
  go_wp2_with fail
  ((with_reducible refine (HI.out).mono ?_); rintro e w3 ⟨n, rfl, hn, hl3⟩)
  have Hn := Lib.hid hn
  have Hb := Lib.hid (S.below hl3).b
  clear hn hl3 S HI c0
  go_wp2_with fail
  go_ret
  exact ⟨ret_b Hn.out, Hb.out⟩
theorem idv_ne {x y : IdV} (h : ¬ y = x) : (y.k == x.k) = false ∨ ((y.k == x.k) = true ∧ (y.t.toList == x.t.toList) = false) := by
  by_cases h1 : y.k = x.k
  · refine .inr ⟨by simpa using h1, ?_⟩
    cases h3 : (y.t.toList == x.t.toList) with
    | false => rfl
    | true => exact absurd (idv_eq h1 h3) h
  · exact .inl (by simpa using h1)
theorem Own.slF {α : Type} {r : Rep α} {f : α → List Value} (hf : r.Flat f) {M : Nat → Prop} {B E n c : Nat} {A : Option Addr} {w : World} {xs : List α} (h : Own r M B E w (.slice A n c) xs) : Sl r (fun _ => False) w A xs := by
  obtain ⟨A2, c2, e, _, hS⟩ := (h.flatM hf (M' := fun _ => False)).toSlC (fun _ _ h => h)
  simp only [Value.slice.injEq] at e
  obtain ⟨rfl, _, _⟩ := e
  exact hS
end Go.Proofs.YteabhkmhogmoiaaGreatDoor

/- A map of the call's own, keyed by numbers: a piece of memory. -/
namespace Go.Proofs.YteabhkmhogmoiaaGreatDoor
open Go Go.RowKit Go.MapKept
def updI (k : Int) (v : Value) : List (Int × Value) → List (Int × Value)
  | [] => [(k, v)]
  | p :: r => if p.1 = k then (k, v) :: r else p :: updI k v r
def getI (k : Int) : List (Int × Value) → Option Value
  | [] => none
  | p :: r => if p.1 = k then some p.2 else getI k r
abbrev kvOf (e : MapEntry) : Value × Value := (e.key, e.val)
abbrev kvI (p : Int × Value) : Value × Value := (Value.int .i64 p.1, p.2)
def MapAt (w : World) (X : Nat) (L : List (Int × Value)) : Prop := ∃ es clock, w.heap[X]? = some (.map es clock) ∧ es.toList.map kvOf = L.map kvI
def Chunk.mapI (X : Nat) (L : List (Int × Value)) : Chunk :=
  ⟨some X, fun _ w => MapAt w X L, fun k _ hd ⟨es, c, h, e⟩ => ⟨es, c, (k.block X (Array.getElem?_eq_some_iff.1 h).1 (hd X rfl)).trans h, e⟩, fun _ h => h, fun ⟨_, _, h, _⟩ k e => by cases e; exact (Array.getElem?_eq_some_iff.1 h).1⟩
theorem findNow_int (k : Int) : ∀ (l : List MapEntry) (L : List (Int × Value)) (i : Nat), l.map kvOf = L.map kvI →
    (getI k L = none ∧ Instr.findNow (.int .i64) (.int .i64 k) l i = some none) ∨
    ∃ j v e, getI k L = some v ∧ Instr.findNow (.int .i64) (.int .i64 k) l i = some (some (i + j, v)) ∧ l[j]? = some e ∧ e.key = .int .i64 k
  | [], L, i, h => by
    cases L with
    | nil => exact .inl ⟨rfl, rfl⟩
    | cons p r => simp at h
  | e :: es, [], i, h => by simp at h
  | e :: es, p :: r, i, h => by
    simp only [List.map_cons, List.cons.injEq, kvOf, kvI, Prod.mk.injEq] at h
    obtain ⟨⟨h1, h2⟩, h3⟩ := h
    by_cases hk : p.1 = k
    · refine .inr ⟨0, p.2, e, by simp [getI, hk], ?_, rfl, by rw [h1, hk]⟩
      simp [Instr.findNow, Instr.sameNow, h1, hk, h2]
    · have hkb : (k == p.1) = false := by simpa using fun e => hk (Eq.symm e)
      rcases findNow_int k es r (i + 1) h3 with ⟨g1, g2⟩ | ⟨j, v, e', g1, g2, g3, g4⟩
      · refine .inl ⟨by simp [getI, hk, g1], ?_⟩
        simp [Instr.findNow, Instr.sameNow, h1, hkb, g2]
      · refine .inr ⟨j + 1, v, e', by simp [getI, hk, g1], ?_, by simpa using g3, g4⟩
        simp [Instr.findNow, Instr.sameNow, h1, hkb, g2]
        omega
section
variable {P : Program}
theorem look_run {w : World} {X : Nat} {L : List (Int × Value)} {T K E : TypeId} (h : MapAt w X L) (hT : P.underlying T = some (.map K E)) (hK : P.underlying K = some (.int .i64)) {z : Value} (hz : (zeroValue E).run P w = .ok z w) (k : Int) :
    (Instr.lookup T (.map (some X)) (.int .i64 k) false).run P w = .ok ((getI k L).getD z) w := by
  obtain ⟨es, clock, hb, he⟩ := h
  have hk : IsKey (.int .i64) (.int .i64 k) := by simp [IsKey]
  have hck := run_checkKey (P := P) (w := w) hK hk es.isEmpty 9999
  rcases findNow_int k es.toList L 0 he with ⟨g1, g2⟩ | ⟨j, v, e, g1, g2, _, _⟩
  · have hf := run_findKey (P := P) (w := w) hK g2
    simp [Instr.lookup, run_underlying hT, Go.MapKept.run_getObj_map hb, hck, hf, hz, g1, Result.andThen]
  · have hf := run_findKey (P := P) (w := w) hK g2
    simp [Instr.lookup, run_underlying hT, Go.MapKept.run_getObj_map hb, hck, hf, g1, Result.andThen]
end
section
variable {ops : Array Oper} {rest : List Oper} {o : Oper} {a : Act} {Q : Exit → Act → World → Prop}
theorem Mem.look {w0 w : World} {cs : List Chunk} (S : Mem w0 w cs) (i : Nat) {X : Nat} {L : List (Int × Value)} (hi : cs[i]? = some (.mapI X L)) {T K E : TypeId} (hT : Tryz.prog.underlying T = some (.map K E)) (hK : Tryz.prog.underlying K = some (.int .i64)) {z : Value} (hz : ∀ w, (zeroValue E).run Tryz.prog w = .ok z w)
    (hgd : o.guard = none) (m x : Operand) (hop : o.op = .lookup T m x false) (hm : a.eval m = .map (some X)) (k : Int) (hx : a.eval x = .int .i64 k) (h : wpList Tryz.prog ops Q rest (a.put o.dst ((getI k L).getD z)) w) : wpList Tryz.prog ops Q (o :: rest) a w := by
  have hrun := look_run (P := Tryz.prog) (S.ok _ (List.mem_of_getElem? hi)) hT hK (hz w) k
  refine wpList_plain hgd fun K' hK' => ?_
  unfold Oper.wp
  simp [execOp, hop, hm, hx, hrun, Result.andThen]
  exact hK' _ _ h
end
end Go.Proofs.YteabhkmhogmoiaaGreatDoor

/- A map of the call's own, keyed by ids, that holds true for those that were put: a piece of memory. -/
namespace Go.Proofs.YteabhkmhogmoiaaGreatDoor
open Go Go.RowKit Go.MapKept
abbrev idVal (x : IdV) : Value := .agg #[.int .i64 x.k, .string x.t]
abbrev kvB (x : IdV) : Value × Value := (idVal x, Value.bool true)
def MapB (w : World) (X : Nat) (L : List IdV) : Prop := ∃ es clock, w.heap[X]? = some (.map es clock) ∧ es.toList.map kvOf = L.map kvB
def Chunk.mapB (X : Nat) (L : List IdV) : Chunk :=
  ⟨some X, fun _ w => MapB w X L, fun k _ hd ⟨es, c, h, e⟩ => ⟨es, c, (k.block X (Array.getElem?_eq_some_iff.1 h).1 (hd X rfl)).trans h, e⟩, fun _ h => h, fun ⟨_, _, h, _⟩ k e => by cases e; exact (Array.getElem?_eq_some_iff.1 h).1⟩
theorem eqId_run (x y : IdV) (w : World) : (Op.equal 35 (idVal x) (idVal y)).run Tryz.prog w = .ok (x.k == y.k && (x.t.toList == y.t.toList)) w := by
  have u1 := Tryz.underlying3
  have u2 := Tryz.underlying9
  have a1 := Tryz.isAgg3
  have a2 := Tryz.isAgg9
  show (Op.equalIn (9999 + 1) 35 (.agg #[.int .i64 x.k, .string x.t]) (.agg #[.int .i64 y.k, .string y.t])).run Tryz.prog w = _
  rw [run_equalIn_agg w 9999 35 _ _ (by kernel_rfl) (by kernel_rfl)]
  simp only [Program.fieldsOf, Tryz.underlying35]
  go_simp
  by_cases h1 : x.k = y.k <;> by_cases h2 : x.t.toList = y.t.toList <;> simp [h1, h2]
theorem chkId_n (x : IdV) (b : Bool) (n : Nat) (w : World) : (Instr.checkKey b (n + 2) 35 (idVal x)).run Tryz.prog w = .ok () w := by
  have u1 := Tryz.underlying3
  have u2 := Tryz.underlying9
  have u3 := Tryz.underlying35
  have a1 := Tryz.isAgg3
  have a2 := Tryz.isAgg9
  simp only [Instr.checkKey, run_underlying u3, Sem.run_bind, Result.andThen_ok]
  simp [run_underlying u1, run_underlying u2]
  go_simp
theorem eqId_dec (x y : IdV) : (x.k == y.k && (x.t.toList == y.t.toList)) = decide (x = y) := by
  by_cases h : x = y
  · subst h; simp
  · rw [decide_eq_false h]
    rcases idv_ne (x := y) (y := x) h with h1 | ⟨h1, h2⟩
    · rw [h1]; rfl
    · rw [h1, h2]; rfl
theorem ask_run (x : IdV) : ∀ (es : List MapEntry) (L : List IdV) (i : Nat) (w : World), es.map kvOf = L.map kvB → ∃ r, (Instr.findAsking 35 (idVal x) es i).run Tryz.prog w = .ok r w ∧ ((x ∉ L ∧ r = none) ∨ (x ∈ L ∧ ∃ j, r = some (j, .bool true)))
  | [], L, i, w, h => by
    cases L with
    | nil => exact ⟨none, by simp [Instr.findAsking], .inl ⟨by simp, rfl⟩⟩
    | cons p r => simp at h
  | e :: es, [], i, w, h => by simp at h
  | e :: es, p :: r, i, w, h => by
    simp only [List.map_cons, List.cons.injEq, kvOf, kvB, Prod.mk.injEq] at h
    obtain ⟨⟨h1, h2⟩, h3⟩ := h
    have hq := eqId_run x p w
    rw [eqId_dec] at hq
    by_cases hx : x = p
    · refine ⟨some (i, .bool true), ?_, .inr ⟨by simp [hx], i, rfl⟩⟩
      rw [decide_eq_true hx] at hq
      simp [Instr.findAsking, h1, hq, h2]
    · rw [decide_eq_false hx] at hq
      obtain ⟨r', hr, hc⟩ := ask_run x es r (i + 1) w h3
      refine ⟨r', by simp [Instr.findAsking, h1, hq, hr], ?_⟩
      rcases hc with ⟨h4, h5⟩ | ⟨h4, h5⟩
      · exact .inl ⟨by simp [hx, h4], h5⟩
      · exact .inr ⟨by simp [h4], h5⟩
theorem findId_run (x : IdV) (es : List MapEntry) (L : List IdV) (w : World) (h : es.map kvOf = L.map kvB) : ∃ r, (Instr.findKey 35 (idVal x) es).run Tryz.prog w = .ok r w ∧ ((x ∉ L ∧ r = none) ∨ (x ∈ L ∧ ∃ j, r = some (j, .bool true))) := by
  have e := run_findKey_eq (P := Tryz.prog) (w := w) (k := 35) (by kernel_rfl) (idVal x) es
  rw [e]
  exact ask_run x es L 0 w h
theorem lookB_run {w : World} {X : Nat} {L : List IdV} {T E : TypeId} (h : MapB w X L) (hT : Tryz.prog.underlying T = some (.map 35 E)) (hz : ∀ w, (zeroValue E).run Tryz.prog w = .ok (.bool false) w) (x : IdV) :
    (Instr.lookup T (.map (some X)) (idVal x) false).run Tryz.prog w = .ok (.bool (decide (x ∈ L))) w := by
  obtain ⟨es, clock, hb, he⟩ := h
  have hck := chkId_n x es.isEmpty 9998 w
  obtain ⟨r, hr, hc⟩ := findId_run x es.toList L w he
  rcases hc with ⟨h4, rfl⟩ | ⟨h4, j, rfl⟩
  · simp [Instr.lookup, run_underlying hT, Go.MapKept.run_getObj_map hb, hck, hr, hz, h4, Result.andThen]
  · simp [Instr.lookup, run_underlying hT, Go.MapKept.run_getObj_map hb, hck, hr, h4, Result.andThen]
theorem putB_run {w : World} {X : Nat} {L : List IdV} {T E : TypeId} (h : MapB w X L) (hT : Tryz.prog.underlying T = some (.map 35 E)) (x : IdV) (hx : x ∉ L) :
    ∃ w', (Instr.mapUpdate T (.map (some X)) (idVal x) (.bool true)).run Tryz.prog w = .ok () w' ∧ MapB w' X (L ++ [x]) ∧ w.grownBy w' (some X) := by
  obtain ⟨es, clock, hb, he⟩ := h
  have hck := chkId_n x false 9998 w
  have gr : ∀ o, w.grownBy { w with heap := w.heap.setIfInBounds X o } (some X) := fun o => ⟨rfl, rfl, rfl, by simp, fun j hj hne => (heap_set hb).2 j (fun e => hne (by rw [e]))⟩
  obtain ⟨r, hr, hc⟩ := findId_run x es.toList L w he
  rcases hc with ⟨h4, rfl⟩ | ⟨h4, _⟩
  · refine ⟨{ w with heap := w.heap.setIfInBounds X (.map (es.push ⟨idVal x, .bool true, clock⟩) (clock + 1)) }, ?_, ⟨_, _, (heap_set hb).1, ?_⟩, gr _⟩
    · simp [Instr.mapUpdate, run_underlying hT, Go.MapKept.run_getObj_map hb, hck, hr, run_setObj_map _ hb, Result.andThen]
    · rw [Array.toList_push, List.map_append, he, List.map_append]
      rfl
  · exact absurd h4 hx
theorem ask_run2 (x : IdV) : ∀ (es : List MapEntry) (L : List IdV) (i : Nat) (w : World), es.map kvOf = L.map kvB → x ∈ L → ∃ j, (Instr.findAsking 35 (idVal x) es i).run Tryz.prog w = .ok (some (i + j, .bool true)) w ∧ ∃ e, es[j]? = some e ∧ kvOf e = kvB x
  | [], L, i, w, h, hx => by
    cases L with
    | nil => cases hx
    | cons p r => simp at h
  | e :: es, [], i, w, h, hx => by cases hx
  | e :: es, p :: r, i, w, h, hx => by
    have h0 := h
    simp only [List.map_cons, List.cons.injEq, kvOf, kvB, Prod.mk.injEq] at h
    obtain ⟨⟨h1, h2⟩, h3⟩ := h
    have hq := eqId_run x p w
    rw [eqId_dec] at hq
    by_cases hxp : x = p
    · refine ⟨0, ?_, e, rfl, by rw [hxp]; exact (List.cons.inj h0).1⟩
      rw [decide_eq_true hxp] at hq
      simp [Instr.findAsking, h1, hq, h2]
    · rw [decide_eq_false hxp] at hq
      obtain ⟨j, hr, hc⟩ := ask_run2 x es r (i + 1) w h3 ((List.mem_cons.1 hx).resolve_left hxp)
      refine ⟨j + 1, ?_, hc⟩
      rw [show i + (j + 1) = i + 1 + j by omega]
      simp [Instr.findAsking, h1, hq, hr]
theorem modify_same (f : MapEntry → MapEntry) : ∀ (es : List MapEntry) (j : Nat), (∀ e, es[j]? = some e → kvOf (f e) = kvOf e) → (es.modify j f).map kvOf = es.map kvOf
  | [], j, _ => by simp
  | e :: es, 0, h => by simp [h e rfl]
  | e :: es, j + 1, h => by
    rw [List.modify_succ_cons, List.map_cons, List.map_cons, modify_same f es j (fun e he => h e (by simpa using he))]
theorem sameId (x : IdV) : Instr.sameBits 10000 (idVal x) (idVal x) = true := by
  show (true && (Instr.sameBits 9999 (.int .i64 x.k) (.int .i64 x.k) && (Instr.sameBits 9999 (.string x.t) (.string x.t) && true))) = true
  simp only [Instr.sameBits, beq_self_eq_true, Bool.true_and, Bool.and_true]
  show (x.t.data == x.t.data) = true
  exact beq_self_eq_true _
theorem putB_old {w : World} {X : Nat} {L : List IdV} {T E : TypeId} (h : MapB w X L) (hT : Tryz.prog.underlying T = some (.map 35 E)) (x : IdV) (hx : x ∈ L) :
    ∃ w', (Instr.mapUpdate T (.map (some X)) (idVal x) (.bool true)).run Tryz.prog w = .ok () w' ∧ MapB w' X L ∧ w.grownBy w' (some X) := by
  obtain ⟨es, clock, hb, he⟩ := h
  have hck := chkId_n x false 9998 w
  have gr : ∀ o, w.grownBy { w with heap := w.heap.setIfInBounds X o } (some X) := fun o => ⟨rfl, rfl, rfl, by simp, fun j hj hne => (heap_set hb).2 j (fun e => hne (by rw [e]))⟩
  have e0 := run_findKey_eq (P := Tryz.prog) (w := w) (k := 35) (by kernel_rfl) (idVal x) es.toList
  obtain ⟨j, hr, e, h3, h4⟩ := ask_run2 x es.toList L 0 w he hx
  rw [← e0, Nat.zero_add] at hr
  have h3' : es[j]? = some e := by rw [← Array.getElem?_toList]; exact h3
  have hk : e.key = idVal x := (Prod.mk.inj h4).1
  have hs := sameId x
  refine ⟨{ w with heap := w.heap.setIfInBounds X (.map (es.modify j fun e => { e with key := idVal x, val := .bool true }) clock) }, ?_, ⟨_, _, (heap_set hb).1, ?_⟩, gr _⟩
  · simp [Instr.mapUpdate, run_underlying hT, Go.MapKept.run_getObj_map hb, hck, hr, run_setObj_map _ hb, Result.andThen, h3', hk, Instr.keyThatStays, hs]
  · rw [Array.toList_modify, modify_same _ _ _ (fun e' he' => by
      rw [h3] at he'
      cases he'
      exact h4.symm)]
    exact he
section
variable {ops : Array Oper} {rest : List Oper} {o : Oper} {a : Act} {Q : Exit → Act → World → Prop}
theorem Mem.lookB {w0 w : World} {cs : List Chunk} (S : Mem w0 w cs) (i : Nat) {X : Nat} {L : List IdV} (hi : cs[i]? = some (.mapB X L)) {T E : TypeId} (hT : Tryz.prog.underlying T = some (.map 35 E)) (hz : ∀ w, (zeroValue E).run Tryz.prog w = .ok (.bool false) w)
    (hgd : o.guard = none) (m x : Operand) (hop : o.op = .lookup T m x false) (hm : a.eval m = .map (some X)) (y : IdV) (hx : a.eval x = idVal y) (h : wpList Tryz.prog ops Q rest (a.put o.dst (.bool (decide (y ∈ L)))) w) : wpList Tryz.prog ops Q (o :: rest) a w := by
  have hrun := lookB_run (S.ok _ (List.mem_of_getElem? hi)) hT hz y
  refine wpList_plain hgd fun K' hK' => ?_
  unfold Oper.wp
  simp [execOp, hop, hm, hx, hrun, Result.andThen]
  exact hK' _ _ h
theorem Mem.putB {w0 w : World} {cs : List Chunk} (S : Mem w0 w cs) (i : Nat) {X : Nat} {L : List IdV} (hi : cs[i]? = some (.mapB X L)) {T E : TypeId} (hT : Tryz.prog.underlying T = some (.map 35 E))
    (hgd : o.guard = none) (m x v : Operand) (hop : o.op = .mapUpdate T m x v) (hm : a.eval m = .map (some X)) (y : IdV) (hx : a.eval x = idVal y) (hv : a.eval v = .bool true) (hy : y ∉ L)
    (h : ∀ w', Mem w0 w' (cs.set i (.mapB X (L ++ [y]))) → wpList Tryz.prog ops Q rest (a.put o.dst undef) w') : wpList Tryz.prog ops Q (o :: rest) a w := by
  obtain ⟨w', hrun, hm', hgr⟩ := putB_run (S.ok _ (List.mem_of_getElem? hi)) hT y hy
  have hX := S.new _ (List.mem_of_getElem? hi) X rfl
  have hbl : Below w0.heap.size w w' := (Below.refl _ w).grown hgr S.b.size (fun k hk => by cases hk; exact hX)
  have S2 := S.upd i hi (.mapB X (L ++ [y])) ⟨hgr.size, fun k hk hn => hgr.block k hk (fun e => hn e.symm)⟩ (S.b.trans hbl) (fun k e => .inl e) hm'
  refine wpList_plain hgd fun K' hK' => ?_
  unfold Oper.wp
  simp [execOp, hop, hm, hx, hv, hrun, Result.andThen]
  exact hK' _ _ (h w' S2)
theorem Mem.putBold {w0 w : World} {cs : List Chunk} (S : Mem w0 w cs) (i : Nat) {X : Nat} {L : List IdV} (hi : cs[i]? = some (.mapB X L)) {T E : TypeId} (hT : Tryz.prog.underlying T = some (.map 35 E))
    (hgd : o.guard = none) (m x v : Operand) (hop : o.op = .mapUpdate T m x v) (hm : a.eval m = .map (some X)) (y : IdV) (hx : a.eval x = idVal y) (hv : a.eval v = .bool true) (hy : y ∈ L)
    (h : ∀ w', Mem w0 w' (cs.set i (.mapB X L)) → wpList Tryz.prog ops Q rest (a.put o.dst undef) w') : wpList Tryz.prog ops Q (o :: rest) a w := by
  obtain ⟨w', hrun, hm', hgr⟩ := putB_old (S.ok _ (List.mem_of_getElem? hi)) hT y hy
  have hX := S.new _ (List.mem_of_getElem? hi) X rfl
  have hbl : Below w0.heap.size w w' := (Below.refl _ w).grown hgr S.b.size (fun k hk => by cases hk; exact hX)
  have S2 := S.upd i hi (.mapB X L) ⟨hgr.size, fun k hk hn => hgr.block k hk (fun e => hn e.symm)⟩ (S.b.trans hbl) (fun k e => .inl e) hm'
  refine wpList_plain hgd fun K' hK' => ?_
  unfold Oper.wp
  simp [execOp, hop, hm, hx, hv, hrun, Result.andThen]
  exact hK' _ _ (h w' S2)
theorem Mem.newMapB {w0 w : World} {cs : List Chunk} (S : Mem w0 w cs) (X : Nat) (hX : X = w.heap.size) : Mem w0 (w.alloc (.map #[] 0)) (cs ++ [.mapB X []]) := by
  subst hX
  exact S.call ((Below.refl _ _).alloc (Nat.le_refl _) _) _ ⟨#[], 0, by show (w.heap.push (.map #[] 0))[w.heap.size]? = _; simp, rfl⟩ (fun k e => by cases e; exact Nat.le_refl _)
end
end Go.Proofs.YteabhkmhogmoiaaGreatDoor

/- Equal events: what handref2.SameEvent, handlaw2.sameEvents, slices.Equal and slices.Clone of fields return. -/
namespace Go.Proofs.YteabhkmhogmoiaaGreatDoor
open Go Go.RowKit
def GivesFl (l : List Fld) (w : World) (e : Ending) (w' : World) : Prop := ∃ A c, e = .returned (.slice A l.length c) ∧ Mem w w' [.sl rFld A l]
set_option maxHeartbeats 4000000 in
set_option maxRecDepth 100000 in
theorem cloneF_any (A : Option Addr) (l : List Fld) (c : Nat) (w : World) (hL : Sl rFld (fun _ => False) w A l) (hl : l.length ≤ 1000) :
    Calls Tryz.prog 159 #[.slice A l.length c] w (GivesFl l w) := by
  have he : ∀ (a : Option Addr) (n c : Nat) (w : World), (binOp .eql 54 (.slice a n c) (.slice none 0 0)).run Tryz.prog w = .ok (.bool a.isNone) w := fun a n c w => Lib.run_eql_slice_nil w _ _ a n c 0 0 tyFld.under
  cases A with
  | none =>
    obtain rfl := Sl.nilOf hL
    have S : Mem w w [.sl rFld none []] := ((Mem.start w).nil rFld w.heap.size 204).frz 0 rfl |>.elim fun A h => h.elim fun c h => by
      obtain ⟨h1, h2⟩ := h
      cases h1
      exact h2
    go_enter Tryz.func159, Tryz.ntmps159
    go_wp2_with fail
    go_ret
    exact ⟨none, 0, rfl, S⟩
  | some ad =>
    have S := (Mem.start w).newAt #[] 204 w.heap.size rfl
    have S1 : Mem w (w.alloc (.cells #[] 204)) [.own rFld w.heap.size 204 (.slice (some ⟨w.heap.size, 0, none⟩) 0 0) []] := S.room (r := rFld) 0 rfl rfl (by decide) rfl
    have Hc := Lib.hid (Sl.flatCells flatFld (fun _ => rfl) (hL.keepB S1.b))
    have hsz := S1.b.size
    have HS := Lib.hid S1
    have Hl := Lib.hid hl
    clear S S1 hL hl
    go_enter Tryz.func159, Tryz.ntmps159
    go_wp2_with (at_builtin; refine HS.out.appN flatFld 0 rfl tyFld rfl _ _ rfl l l.length c rfl rfl ad rfl Hc.out (fun y _ => oneFld y) (fun _ => rfl) hsz (by simp only [List.length_nil]; have := Hl.out; omega) (by decide) ?_; intro v5 w5 S5)
    obtain ⟨A5, c5, e5, S6⟩ := S5.frz 0 rfl
    go_ret
    exact ⟨A5, c5, by rw [e5]; rfl, S6⟩
end Go.Proofs.YteabhkmhogmoiaaGreatDoor

/- What event.Copy returns. -/
namespace Go.Proofs.YteabhkmhogmoiaaGreatDoor
open Go Go.RowKit
def GivesEvt (e : Evt) (w : World) (r : Ending) (w' : World) : Prop := ∃ A c, r = .returned (.agg (evCs e A c)) ∧ Mem w w' [.sl rFld A e.flds]
abbrev fillE (w : World) (X : Nat) (e : Evt) (A : Option Addr) (c : Nat) : World := (((((w.setCell ⟨X, 0, none⟩ (.string e.id)).setCell ⟨X, 1, none⟩ (.string e.name)).setCell ⟨X, 2, none⟩ (.int .i64 e.at')).setCell ⟨X, 3, none⟩ (.int .i64 e.kind)).setCell ⟨X, 4, none⟩ (.string e.text)).setCell ⟨X, 5, none⟩ (.slice A e.flds.length c)
set_option maxHeartbeats 4000000 in
set_option maxRecDepth 100000 in
theorem copyEv_any (e : Evt) (A : Option Addr) (c : Nat) (w : World) (hF : Sl rFld (fun _ => False) w A e.flds) (hl : e.flds.length ≤ 1000) :
    Calls Tryz.prog 74 #[.agg (evCs e A c)] w (GivesEvt e w) := by
  have S : Mem w ((w.alloc (.cells (evCs e A c) 56)).alloc (.cells ezCs 56)) [.loc w.heap.size (evCs e A c) 56, .loc (w.heap.size + 1) ezCs 56] := ((Mem.start w).new' _ _).newAt _ _ _ (by simp)
  have Hc := Lib.hid (cloneF_any A e.flds c _ (hF.keepB S.b) hl)
  clear hF hl
  go_enter Tryz.func74, Tryz.ntmps74
  go_upto_region 1 with fail
  obtain ⟨Y, hY⟩ : ∃ Y, Y = w.heap.size + 1 := ⟨_, rfl⟩
  obtain ⟨X, hX⟩ : ∃ X, X = w.heap.size := ⟨_, rfl⟩
  rw [← hY, ← hX] at S ⊢
  clear hY hX
  generalize (w.alloc (.cells (evCs e A c) 56)).alloc (.cells ezCs 56) = w1 at *
  have c0 := (S.lv 0 rfl).all
  go_wp2_with fail
  ((with_reducible refine (Hc.out).mono ?_); rintro r w2 ⟨A2, c2, rfl, M⟩)
  replace S := S.join M
  clear Hc M c0
  have c0 := (S.lv 0 rfl).all
  have S3 : Mem w (w2.setCell ⟨X, 5, none⟩ (.slice A2 e.flds.length c2)) [.loc X (evCs e A2 c2) 56, .loc Y ezCs 56, .sl rFld A2 e.flds] := S.set 0 5 (.slice A2 e.flds.length c2) rfl
  go_upto_region 2 with fail
  clear c0 S
  generalize w2.setCell ⟨X, 5, none⟩ (.slice A2 e.flds.length c2) = w3 at *
  have c0 := (S3.lv 0 rfl).all
  have c1 := (S3.lv 1 rfl).all
  have S4 : Mem w (fillE w3 Y e A2 c2) [.loc X (evCs e A2 c2) 56, .loc Y (evCs e A2 c2) 56, .sl rFld A2 e.flds] := (((((S3.set 1 0 (.string e.id) rfl).set 1 1 (.string e.name) rfl).set 1 2 (.int .i64 e.at') rfl).set 1 3 (.int .i64 e.kind) rfl).set 1 4 (.string e.text) rfl).set 1 5 (.slice A2 e.flds.length c2) rfl
  have HS4 := Lib.hid S4
  clear S3 S4
  go_wp2_with fail
  exact bodyPost_ret (results_cell1 rfl rfl (loadEv (HS4.out.lv 1 rfl))) rfl ⟨A2, c2, rfl, (HS4.out.del 1).del 0⟩
end Go.Proofs.YteabhkmhogmoiaaGreatDoor

/- What event.Of returns. -/
namespace Go.Proofs.YteabhkmhogmoiaaGreatDoor
open Go Go.RowKit
def whoE (e : Evt) : IdV := ⟨e.kind, e.text⟩
def ofErr (xs : List Evt) (ids : List IdV) : Int := if evsFault xs ≠ 0 then evsFault xs else if 2000 < ids.length then 2 else idsF ids
def ofAns (xs : List Evt) (ids : List IdV) : List Evt := xs.filter (fun e => decide (whoE e ∈ ids))
theorem ofAns_snoc {xs : List Evt} {ids : List IdV} {k : Nat} {x : Evt} (h : xs[k]? = some x) : ofAns (xs.take (k + 1)) ids = ofAns (xs.take k) ids ++ (if whoE x ∈ ids then [x] else []) := by
  unfold ofAns
  rw [take_snoc h, List.filter_append]
  congr 1
  by_cases hx : whoE x ∈ ids
  · rw [if_pos hx]; simp [hx]
  · rw [if_neg hx]; simp [hx]
def GivesEvs (l : List Evt) (F : Int) (w : World) (e : Ending) (w' : World) : Prop := ∃ v qs, e = .returned (.tuple #[v, .int .i64 F]) ∧ qs.map EQ.e = l ∧ Mem w w' [.own rEQ w.heap.size 56 v qs, .flds qs]
theorem Mem.noFl {w0 w : World} {cs : List Chunk} (S : Mem w0 w cs) : Mem w0 w (cs ++ [.flds []]) := S.call (Below.refl _ _) (.flds []) (fun q hq => by cases hq) (fun k e => by cases e)
theorem Mem.addFl {w0 w : World} {cs : List Chunk} (S : Mem w0 w cs) (i j : Nat) {qs : List EQ} {A : Option Addr} {fs : List Fld} (hi : cs[i]? = some (.flds qs)) (hj : cs[j]? = some (.sl rFld A fs)) (x : EQ) (hA : x.A = A) (hf : x.e.flds = fs) : Mem w0 w (cs.set i (.flds (qs ++ [x]))) := by
  refine S.turn i hi (.flds (qs ++ [x])) rfl (fun q hq => ?_)
  rcases List.mem_append.1 hq with hq | hq
  · exact S.fl i hi q hq
  · rw [List.mem_singleton.1 hq, hA, hf]; exact S.slc j hj
set_option maxHeartbeats 16000000 in
set_option maxRecDepth 100000 in
theorem of_any (N : Nat → Prop) (A Ai : Option Addr) (xs : List Evt) (ids : List IdV) (c ci : Nat) (w : World) (hS : Sl rEvt N w A xs) (hok : EvsOk xs) (hT : Tabs w) (hM : MaxL w) (hI : Sl rId N w Ai ids) (hit : ∀ y ∈ ids, y.t.size ≤ 1000000) (hil : ids.length ≤ 1000000) (hfl : ∀ e ∈ xs, e.flds.length ≤ 1000) :
    Calls Tryz.prog 9 #[.slice A xs.length c, .slice Ai ids.length ci] w (GivesEvs (if ofErr xs ids = 0 then ofAns xs ids else []) (ofErr xs ids) w) := by
  have Hch := Lib.hid (checkEvs_any N A xs c w hS hok hT hM)
  have HSl := Lib.hid (fun w' (h : Below w.heap.size w w') => hS.keepB h)
  have HI := Lib.hid (fun w' (h : Below w.heap.size w w') => hI.keepB h)
  have HM := Lib.hid (fun w' (h : Below w.heap.size w w') => hM.below h)
  have Hit := Lib.hid hit
  have Hfl := Lib.hid hfl
  clear hS hok hT hM hI hit hfl
  obtain ⟨F, HF⟩ : ∃ F, Hid (ofErr xs ids = F) := ⟨_, Lib.hid rfl⟩
  obtain ⟨R, HR⟩ : ∃ R, Hid ((if F = 0 then ofAns xs ids else []) = R) := ⟨_, Lib.hid rfl⟩
  rw [HF.out, HR.out]
  unfold ofErr at HF
  have hTm := Tryz.underlying119
  by_cases hF : evsFault xs = 0
  · have HG := Lib.hid (evs_good hF)
    rw [hF] at Hch
    rw [if_neg (not_not_intro hF)] at HF
    clear hF
    have hlen := HG.out.len
    go_enter Tryz.func9, Tryz.ntmps9
    go_wp2_with fail
    ((with_reducible refine (Hch.out).mono ?_); rintro e w1 ⟨rfl, hl1⟩)
    have S := (Mem.start w).below hl1
    clear Hch hl1
    by_cases hn : 2000 < ids.length
    · rw [if_pos hn] at HF
      obtain rfl : 2 = F := HF.out
      obtain rfl : [] = R := by rw [← HR.out]; rfl
      have Hfin : Hid (GivesEvs [] 2 w (.returned (.tuple #[.slice none 0 0, .int .i64 2])) w1) := ⟨_, [], rfl, rfl, (S.nil rEQ w.heap.size 56).noFl⟩
      clear S HF HR
      go_wp2_with fail
      go_ret2
      exact Hfin.out
    · rw [if_neg hn] at HF
      have hmm := @run_makeMap Tryz.prog
      go_upto_region 7 with fail
      clear hmm
      obtain ⟨X, hX⟩ : ∃ X, X = w1.heap.size := ⟨_, rfl⟩
      replace S := S.newMapB X hX
      replace S : Mem w (w1.alloc (.map #[] 0)) [.mapB X []] := S
      rw [← hX]
      clear hX
      generalize w1.alloc (.map #[] 0) = w2 at *
      have HF0 : Hid (idsF (ids.drop 0) = F) := HF
      go_wp2_with fail
      go_loopw [25] (fun i wr => ∃ (k : Nat) (acc : List IdV), k ≤ ids.length ∧ i = .int .i64 k ∧ Hid (idsF (ids.drop k) = F) ∧ Hid (∀ y, y ∈ acc ↔ y ∈ ids.take k) ∧ Mem w wr [.mapB X acc]) (fun i _ => ids.length - (intOf i).toNat)
      case atStart => exact ⟨0, [], Nat.zero_le _, rfl, HF0, (fun y => by simp), S⟩
      case round =>
        clear S HF HF0
        obtain ⟨k, acc, hk, rfl, HF, HA, S⟩ := hrel
        by_cases hlt : k < ids.length
        · obtain ⟨y, hy⟩ : ∃ y, ids[k]? = some y := ⟨_, List.getElem?_eq_getElem hlt⟩
          obtain ⟨blk, off, rfl, _, d0, d1⟩ := (HI.out wr S.b).idv k y hy
          have hyt := Hit.out y (List.mem_of_getElem? hy)
          have HF2 : Hid ((if L.idFault y.k y.t ≠ 0 then L.idFault y.k y.t else idsF (ids.drop (k + 1))) = F) := by show _ = _; rw [← HF.out, idsF_at hy]
          have HA2 : Hid (∀ z, z ∈ ids.take (k + 1) ↔ z ∈ acc ∨ z = y) := fun z => by rw [take_snoc hy, List.mem_append, List.mem_singleton, HA.out z]
          clear hy HF
          go_upto_region 10 with fail
          clear d0 d1
          obtain ⟨Y, hY⟩ : ∃ Y, Y = wr.heap.size := ⟨_, rfl⟩
          replace S := S.newAt #[.int .i64 y.k, .string y.t] 35 Y hY
          replace S : Mem w (wr.alloc (.cells #[.int .i64 y.k, .string y.t] 35)) [.mapB X acc, .loc Y #[.int .i64 y.k, .string y.t] 35] := S
          rw [← hY]
          clear hY
          generalize wr.alloc (.cells #[.int .i64 y.k, .string y.t] 35) = w3 at *
          have c0 := (S.lv 1 rfl).all
          have Hc := Lib.hid (checkId_any y.k y.t w3 hyt (HM.out w3 S.b))
          generalize L.idFault y.k y.t = Fy at *
          go_wp2_with fail
          ((with_reducible refine (Hc.out).mono ?_); rintro e w4 ⟨rfl, hl4⟩)
          replace S := S.below hl4
          clear hl4 Hc c0
          have c0 := (S.lv 1 rfl).all
          by_cases hFy : Fy = 0
          · have HF3 := Lib.hid (step_go HF2.out hFy)
            subst hFy
            clear HF2
            by_cases hya : y ∈ acc
            · have Hya := Lib.hid hya
              have HA3 : Hid (∀ z, z ∈ acc ↔ z ∈ ids.take (k + 1)) := fun z => by
                rw [HA2.out z]
                exact ⟨Or.inl, fun h => h.elim id (fun e => e ▸ Hya.out)⟩
              clear hya HA HA2
              go_wp2_with (first | (at_mapUpdate; refine S.putBold 0 rfl hTm rfl _ _ _ rfl rfl y rfl rfl Hya.out ?_; intro w5 S5) | fail)
              go_roundw
              case rel => exact ⟨k + 1, acc, by omega, by go_num, HF3, HA3, S5.del 1⟩
              case measure => simp [intOf]; omega
            · have Hya := Lib.hid hya
              have HA3 : Hid (∀ z, z ∈ acc ++ [y] ↔ z ∈ ids.take (k + 1)) := fun z => by
                rw [HA2.out z, List.mem_append, List.mem_singleton]
              clear hya HA HA2
              go_wp2_with (first | (at_mapUpdate; refine S.putB 0 rfl hTm rfl _ _ _ rfl rfl y rfl rfl Hya.out ?_; intro w5 S5) | fail)
              go_roundw
              case rel => exact ⟨k + 1, acc ++ [y], by omega, by go_num, HF3, HA3, S5.del 1⟩
              case measure => simp [intOf]; omega
          · have hFv := step_no HF2.out hFy
            have hF' : (Fy != 0) = true := by simpa using hFy
            have HRe : Hid ([] = R) := by show _ = _; rw [← HR.out, if_neg (by rw [← hFv]; exact hFy)]
            subst hFv
            obtain rfl : [] = R := HRe.out
            have Hfin : Hid (GivesEvs [] Fy w (.returned (.tuple #[.slice none 0 0, .int .i64 Fy])) w4) := ⟨_, [], rfl, rfl, (((S.del 1).del 0).nil rEQ w.heap.size 56).noFl⟩
            clear S HF2 HR HRe HA HA2 c0
            go_wp2_with fail
            go_ret2
            exact Hfin.out
        · have hF0 : F = 0 := by rw [← HF.out, List.drop_eq_nil_of_le (by omega)]; rfl
          subst hF0
          rw [if_pos rfl] at HR
          have HA3 : Hid (∀ y, y ∈ acc ↔ y ∈ ids) := fun y => by rw [HA.out y, List.take_of_length_le (by omega)]
          have S2 : Mem w wr [.mapB X acc, .own rEQ w.heap.size 56 (.slice none 0 0) [], .flds []] := (S.nil rEQ w.heap.size 56).noFl
          clear S HF HA
          go_upto_region 16 with fail
          go_wp2_with fail
          obtain ⟨wo, hwo⟩ : ∃ wo : World, wo = wr := ⟨_, rfl⟩
          subst hwo
          go_loopw [11, 39] (fun v i wr => ∃ (j : Nat) (qs : List EQ), j ≤ xs.length ∧ i = .int .i64 j ∧ Hid (qs.map EQ.e = ofAns (xs.take j) ids) ∧ Hid (qs.length ≤ j) ∧ Mem w wr [.mapB X acc, .own rEQ w.heap.size 56 v qs, .flds qs]) (fun _ i _ => xs.length - (intOf i).toNat)
          case atStart => exact ⟨0, [], Nat.zero_le _, rfl, Lib.hid rfl, Nat.le_refl _, S2⟩
          case round =>
            clear S2 hlt hk
            obtain ⟨j, qs, hj, rfl, HQ, HQl, S⟩ := hrel
            by_cases hlt : j < xs.length
            · obtain ⟨x, hx⟩ : ∃ x, xs[j]? = some x := ⟨_, List.getElem?_eq_getElem hlt⟩
              obtain ⟨blk, off, Af, cf, rfl, hblk, d0, d1, d2, d3, d4, d5, hst⟩ := (HSl.out wr S.b).evt j x hx
              have hxf := Hfl.out x (List.mem_of_getElem? hx)
              have HQ2 := Lib.hid (ofAns_snoc (ids := ids) hx)
              have Hst := Lib.hid hst
              clear hst hx
              go_upto_region 19 with fail
              clear d0 d1 d2 d3 d4 d5
              obtain ⟨Y, hY⟩ : ∃ Y, Y = wr.heap.size := ⟨_, rfl⟩
              have hbn : Below wr.heap.size wr (wr.alloc (.cells (evCs x Af cf) 56)) := (Below.refl _ _).alloc (Nat.le_refl _) _
              replace Hst := Lib.hid ((Hst.out.keepB hbn).mono (M := fun _ => False) (fun _ _ h => h.elim))
              replace S := S.newAt (evCs x Af cf) 56 Y hY
              replace S : Mem w (wr.alloc (.cells (evCs x Af cf) 56)) [.mapB X acc, .own rEQ w.heap.size 56 _ qs, .flds qs, .loc Y (evCs x Af cf) 56] := S
              rw [← hY]
              clear hY hbn
              generalize wr.alloc (.cells (evCs x Af cf) 56) = w3 at *
              have c0 := (S.lv 3 rfl).all
              by_cases hw : whoE x ∈ acc
              · have hd : decide (whoE x ∈ acc) = true := decide_eq_true hw
                have HQ3 : Hid (∀ A c, (qs ++ [(⟨x, A, c⟩ : EQ)]).map EQ.e = ofAns (xs.take (j + 1)) ids) := fun A c => by
                  rw [HQ2.out, if_pos ((HA3.out _).1 hw), List.map_append, HQ.out]; rfl
                have Hcp := Lib.hid (copyEv_any x Af cf w3 Hst.out hxf)
                have HS0 := Lib.hid S
                clear hw HQ HQ2 Hst S
                go_wp2_with (first | (at_lookup; refine HS0.out.lookB 0 rfl hTm zeroBS rfl _ _ rfl rfl (whoE x) rfl ?_; rw [hd]) | fail)
                ((with_reducible refine (Hcp.out).mono ?_); rintro e w4 ⟨A2, c2, rfl, T⟩)
                have HS1 := Lib.hid (HS0.out.join T)
                have hsz := HS1.out.b.size
                clear Hcp HS0 T c0
                go_wp2_with (at_builtin; refine HS1.out.app 1 rfl tyEvt rfl _ _ rfl (⟨x, A2, c2⟩ : EQ) 1 rfl rfl rfl (oneEQ ⟨x, A2, c2⟩) hsz (by have := HQl.out; omega) (by decide) ?_; intro v' w6 S6)
                have S7 : Mem w w6 [.mapB X acc, .own rEQ w.heap.size 56 v' (qs ++ [⟨x, A2, c2⟩]), .flds (qs ++ [⟨x, A2, c2⟩]), .loc Y (evCs x Af cf) 56, .sl rFld A2 x.flds] := S6.addFl 2 4 rfl rfl ⟨x, A2, c2⟩ rfl rfl
                go_roundw
                case rel => exact ⟨j + 1, qs ++ [(⟨x, A2, c2⟩ : EQ)], by omega, by go_num, Lib.hid (HQ3.out A2 c2), (by show _ ≤ _; rw [List.length_append, List.length_singleton]; have := HQl.out; omega), (S7.del 4).del 3⟩
                case measure => simp [intOf]; omega
              · have hd : decide (whoE x ∈ acc) = false := decide_eq_false hw
                have HQ3 : Hid (qs.map EQ.e = ofAns (xs.take (j + 1)) ids) := by
                  show _ = _
                  rw [HQ2.out, if_neg (fun h => hw ((HA3.out _).2 h)), List.append_nil, HQ.out]
                have HS0 := Lib.hid S
                clear hw HQ HQ2 Hst S
                go_wp2_with (first | (at_lookup; refine HS0.out.lookB 0 rfl hTm zeroBS rfl _ _ rfl rfl (whoE x) rfl ?_; rw [hd]) | fail)
                go_roundw
                case rel => exact ⟨j + 1, qs, by omega, by go_num, HQ3, (by show _ ≤ _; have := HQl.out; omega), HS0.out.del 3⟩
                case measure => simp [intOf]; omega
            · have HQ2 : Hid (qs.map EQ.e = R) := by show _ = _; rw [HQ.out, List.take_of_length_le (by omega), HR.out]
              have HS0 := Lib.hid (S.del 0)
              clear S HQ
              go_wp2_with fail
              go_ret2
              exact ⟨_, qs, rfl, HQ2.out, HS0.out⟩
  · rw [if_pos hF] at HF
    rw [HF.out] at Hch
    have hF0 : F ≠ 0 := by rw [← HF.out]; exact hF
    have hF' : (F != 0) = true := by simpa using hF0
    clear hF
    go_enter Tryz.func9, Tryz.ntmps9
    go_wp2_with fail
    ((with_reducible refine (Hch.out).mono ?_); rintro e w1 ⟨rfl, hl1⟩)
    have S := (Mem.start w).below hl1
    obtain rfl : [] = R := by rw [← HR.out, if_neg hF0]
    have Hfin : Hid (GivesEvs [] F w (.returned (.tuple #[.slice none 0 0, .int .i64 F])) w1) := ⟨_, [], rfl, rfl, (S.nil rEQ w.heap.size 56).noFl⟩
    clear S HR hl1 hF0 HF
    go_wp2_with fail
    go_ret2
    exact Hfin.out
end Go.Proofs.YteabhkmhogmoiaaGreatDoor
