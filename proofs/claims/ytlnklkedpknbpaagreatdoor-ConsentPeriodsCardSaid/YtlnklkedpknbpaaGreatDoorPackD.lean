/- Several texts in one: AudLaw, MapId, Once, Clear, DelId, Aud1. -/
import Derived.Test.YtlnklkedpknbpaaGreatDoorIds
import Derived.Test.YtlnklkedpknbpaaGreatDoorMayOf
import Derived.Test.YtlnklkedpknbpaaGreatDoorMap
import Derived.WideKeyRuns
import Derived.Test.YtlnklkedpknbpaaGreatDoorRepId
import Derived.Test.YtlnklkedpknbpaaGreatDoorPackM
import Derived.Laws.CopyOwn
/- The plain law of audiences: ids, each once, and those of them that may be written to. -/
namespace Go.Proofs.YtlnklkedpknbpaaGreatDoor
open Go.RowKit
/-- each once, in the order in which they come, behind those that there are -/
def onceGo (acc : List IdV) : List IdV → List IdV
  | [] => acc
  | x :: r => if x ∈ acc then onceGo acc r else onceGo (acc ++ [x]) r
def onceI (xs : List IdV) : List IdV := onceGo [] xs
theorem onceGo_len : ∀ (xs acc : List IdV), (onceGo acc xs).length ≤ acc.length + xs.length
  | [], acc => by simp [onceGo]
  | x :: r, acc => by
    unfold onceGo
    split
    · have := onceGo_len r acc
      simp; omega
    · have := onceGo_len r (acc ++ [x])
      simp at this ⊢; omega
theorem onceGo_at {xs acc : List IdV} {k : Nat} {x : IdV} (h : xs[k]? = some x) : onceGo acc (xs.drop k) = if x ∈ acc then onceGo acc (xs.drop (k + 1)) else onceGo (acc ++ [x]) (xs.drop (k + 1)) := by
  obtain ⟨hk, rfl⟩ := List.getElem?_eq_some_iff.1 h
  rw [List.drop_eq_getElem_cons hk, onceGo]
/-- the reference: those that may, each once -/
def audGo (f : IdV → Bool) (out : List IdV) : List IdV → List IdV
  | [] => out
  | x :: r => if x ∉ out ∧ f x = true then audGo f (out ++ [x]) r else audGo f out r
theorem audGo_is (f : IdV → Bool) : ∀ (xs acc : List IdV), audGo f (acc.filter f) xs = (onceGo acc xs).filter f
  | [], _ => rfl
  | x :: r, acc => by
    unfold audGo onceGo
    by_cases hx : x ∈ acc
    · rw [if_pos hx]
      by_cases hf : f x = true
      · rw [if_neg (fun h => h.1 (List.mem_filter.2 ⟨hx, hf⟩)), audGo_is f r acc]
      · rw [if_neg (fun h => hf h.2), audGo_is f r acc]
    · rw [if_neg hx]
      have e := audGo_is f r (acc ++ [x])
      by_cases hf : f x = true
      · rw [if_pos ⟨fun h => hx (List.mem_filter.1 h).1, hf⟩, ← e, List.filter_append, List.filter_cons_of_pos hf]
        rfl
      · rw [if_neg (fun h => hf h.2), ← e, List.filter_append, List.filter_cons_of_neg hf]
        simp
theorem aud_is (f : IdV → Bool) (xs : List IdV) : audGo f [] xs = (onceI xs).filter f := audGo_is f xs []
theorem audGo_at {f : IdV → Bool} {xs out : List IdV} {k : Nat} {x : IdV} (h : xs[k]? = some x) : audGo f out (xs.drop k) = if x ∉ out ∧ f x = true then audGo f (out ++ [x]) (xs.drop (k + 1)) else audGo f out (xs.drop (k + 1)) := by
  obtain ⟨hk, rfl⟩ := List.getElem?_eq_some_iff.1 h
  rw [List.drop_eq_getElem_cons hk, audGo]
end Go.Proofs.YtlnklkedpknbpaaGreatDoor

/- A map of the call's own, keyed by ids, that holds true for those that were put: a piece of memory. -/
namespace Go.Proofs.YtlnklkedpknbpaaGreatDoor
open Go Go.RowKit Go.MapKept
abbrev idVal (x : IdV) : Value := .agg #[.int .i64 x.k, .string x.t]
abbrev kvB (x : IdV) : Value × Value := (idVal x, Value.bool true)
def MapB (w : World) (X : Nat) (L : List IdV) : Prop := ∃ es clock, w.heap[X]? = some (.map es clock) ∧ es.toList.map kvOf = L.map kvB
def Chunk.mapB (X : Nat) (L : List IdV) : Chunk :=
  ⟨some X, fun _ w => MapB w X L, fun k _ hd ⟨es, c, h, e⟩ => ⟨es, c, (k.block X (Array.getElem?_eq_some_iff.1 h).1 (hd X rfl)).trans h, e⟩, fun _ h => h, fun ⟨_, _, h, _⟩ k e => by cases e; exact (Array.getElem?_eq_some_iff.1 h).1⟩
theorem eqId_run (x y : IdV) (w : World) : (Op.equal 29 (idVal x) (idVal y)).run Tryz.prog w = .ok (x.k == y.k && (x.t.toList == y.t.toList)) w := by
  have u1 := Tryz.underlying3
  have u2 := Tryz.underlying9
  have a1 := Tryz.isAgg3
  have a2 := Tryz.isAgg9
  show (Op.equalIn (9999 + 1) 29 (.agg #[.int .i64 x.k, .string x.t]) (.agg #[.int .i64 y.k, .string y.t])).run Tryz.prog w = _
  rw [run_equalIn_agg w 9999 29 _ _ (by kernel_rfl) (by kernel_rfl)]
  simp only [Program.fieldsOf, Tryz.underlying29]
  go_simp
  by_cases h1 : x.k = y.k <;> by_cases h2 : x.t.toList = y.t.toList <;> simp [h1, h2]
theorem chkId_n (x : IdV) (b : Bool) (n : Nat) (w : World) : (Instr.checkKey b (n + 2) 29 (idVal x)).run Tryz.prog w = .ok () w := by
  have u1 := Tryz.underlying3
  have u2 := Tryz.underlying9
  have u3 := Tryz.underlying29
  have a1 := Tryz.isAgg3
  have a2 := Tryz.isAgg9
  simp only [Instr.checkKey, run_underlying u3, Sem.run_bind, Result.andThen_ok]
  simp [run_underlying u1, run_underlying u2]
  go_simp
theorem eqId_dec (x y : IdV) : (x.k == y.k && (x.t.toList == y.t.toList)) = decide (x = y) := by
  by_cases h : x = y
  · subst h; simp
  · rw [decide_eq_false h]
    rcases idv_ne (x := y) (y := x) h with h1 | ⟨h1, h2⟩
    · rw [h1]; rfl
    · rw [h1, h2]; rfl
theorem ask_run (x : IdV) : ∀ (es : List MapEntry) (L : List IdV) (i : Nat) (w : World), es.map kvOf = L.map kvB → ∃ r, (Instr.findAsking 29 (idVal x) es i).run Tryz.prog w = .ok r w ∧ ((x ∉ L ∧ r = none) ∨ (x ∈ L ∧ ∃ j, r = some (j, .bool true)))
  | [], L, i, w, h => by
    cases L with
    | nil => exact ⟨none, by simp [Instr.findAsking], .inl ⟨by simp, rfl⟩⟩
    | cons p r => simp at h
  | e :: es, [], i, w, h => by simp at h
  | e :: es, p :: r, i, w, h => by
    simp only [List.map_cons, List.cons.injEq, kvOf, kvB, Prod.mk.injEq] at h
    obtain ⟨⟨h1, h2⟩, h3⟩ := h
    have hq := eqId_run x p w
    rw [eqId_dec] at hq
    by_cases hx : x = p
    · refine ⟨some (i, .bool true), ?_, .inr ⟨by simp [hx], i, rfl⟩⟩
      rw [decide_eq_true hx] at hq
      simp [Instr.findAsking, h1, hq, h2]
    · rw [decide_eq_false hx] at hq
      obtain ⟨r', hr, hc⟩ := ask_run x es r (i + 1) w h3
      refine ⟨r', by simp [Instr.findAsking, h1, hq, hr], ?_⟩
      rcases hc with ⟨h4, h5⟩ | ⟨h4, h5⟩
      · exact .inl ⟨by simp [hx, h4], h5⟩
      · exact .inr ⟨by simp [h4], h5⟩
theorem findId_run (x : IdV) (es : List MapEntry) (L : List IdV) (w : World) (h : es.map kvOf = L.map kvB) : ∃ r, (Instr.findKey 29 (idVal x) es).run Tryz.prog w = .ok r w ∧ ((x ∉ L ∧ r = none) ∨ (x ∈ L ∧ ∃ j, r = some (j, .bool true))) := by
  have e := run_findKey_eq (P := Tryz.prog) (w := w) (k := 29) (by kernel_rfl) (idVal x) es
  rw [e]
  exact ask_run x es L 0 w h
theorem lookB_run {w : World} {X : Nat} {L : List IdV} {T E : TypeId} (h : MapB w X L) (hT : Tryz.prog.underlying T = some (.map 29 E)) (hz : ∀ w, (zeroValue E).run Tryz.prog w = .ok (.bool false) w) (x : IdV) :
    (Instr.lookup T (.map (some X)) (idVal x) false).run Tryz.prog w = .ok (.bool (decide (x ∈ L))) w := by
  obtain ⟨es, clock, hb, he⟩ := h
  have hck := chkId_n x es.isEmpty 9998 w
  obtain ⟨r, hr, hc⟩ := findId_run x es.toList L w he
  rcases hc with ⟨h4, rfl⟩ | ⟨h4, j, rfl⟩
  · simp [Instr.lookup, run_underlying hT, Go.MapKept.run_getObj_map hb, hck, hr, hz, h4, Result.andThen]
  · simp [Instr.lookup, run_underlying hT, Go.MapKept.run_getObj_map hb, hck, hr, h4, Result.andThen]
theorem putB_run {w : World} {X : Nat} {L : List IdV} {T E : TypeId} (h : MapB w X L) (hT : Tryz.prog.underlying T = some (.map 29 E)) (x : IdV) (hx : x ∉ L) :
    ∃ w', (Instr.mapUpdate T (.map (some X)) (idVal x) (.bool true)).run Tryz.prog w = .ok () w' ∧ MapB w' X (L ++ [x]) ∧ w.grownBy w' (some X) := by
  obtain ⟨es, clock, hb, he⟩ := h
  have hck := chkId_n x false 9998 w
  have gr : ∀ o, w.grownBy { w with heap := w.heap.setIfInBounds X o } (some X) := fun o => ⟨rfl, rfl, rfl, by simp, fun j hj hne => (heap_set hb).2 j (fun e => hne (by rw [e]))⟩
  obtain ⟨r, hr, hc⟩ := findId_run x es.toList L w he
  rcases hc with ⟨h4, rfl⟩ | ⟨h4, _⟩
  · refine ⟨{ w with heap := w.heap.setIfInBounds X (.map (es.push ⟨idVal x, .bool true, clock⟩) (clock + 1)) }, ?_, ⟨_, _, (heap_set hb).1, ?_⟩, gr _⟩
    · simp [Instr.mapUpdate, run_underlying hT, Go.MapKept.run_getObj_map hb, hck, hr, run_setObj_map _ hb, Result.andThen]
    · rw [Array.toList_push, List.map_append, he, List.map_append]
      rfl
  · exact absurd h4 hx
section
variable {ops : Array Oper} {rest : List Oper} {o : Oper} {a : Act} {Q : Exit → Act → World → Prop}
theorem Mem.lookB {w0 w : World} {cs : List Chunk} (S : Mem w0 w cs) (i : Nat) {X : Nat} {L : List IdV} (hi : cs[i]? = some (.mapB X L)) {T E : TypeId} (hT : Tryz.prog.underlying T = some (.map 29 E)) (hz : ∀ w, (zeroValue E).run Tryz.prog w = .ok (.bool false) w)
    (hgd : o.guard = none) (m x : Operand) (hop : o.op = .lookup T m x false) (hm : a.eval m = .map (some X)) (y : IdV) (hx : a.eval x = idVal y) (h : wpList Tryz.prog ops Q rest (a.put o.dst (.bool (decide (y ∈ L)))) w) : wpList Tryz.prog ops Q (o :: rest) a w := by
  have hrun := lookB_run (S.ok _ (List.mem_of_getElem? hi)) hT hz y
  refine wpList_plain hgd fun K' hK' => ?_
  unfold Oper.wp
  simp [execOp, hop, hm, hx, hrun, Result.andThen]
  exact hK' _ _ h
theorem Mem.putB {w0 w : World} {cs : List Chunk} (S : Mem w0 w cs) (i : Nat) {X : Nat} {L : List IdV} (hi : cs[i]? = some (.mapB X L)) {T E : TypeId} (hT : Tryz.prog.underlying T = some (.map 29 E))
    (hgd : o.guard = none) (m x v : Operand) (hop : o.op = .mapUpdate T m x v) (hm : a.eval m = .map (some X)) (y : IdV) (hx : a.eval x = idVal y) (hv : a.eval v = .bool true) (hy : y ∉ L)
    (h : ∀ w', Mem w0 w' (cs.set i (.mapB X (L ++ [y]))) → wpList Tryz.prog ops Q rest (a.put o.dst undef) w') : wpList Tryz.prog ops Q (o :: rest) a w := by
  obtain ⟨w', hrun, hm', hgr⟩ := putB_run (S.ok _ (List.mem_of_getElem? hi)) hT y hy
  have hX := S.new _ (List.mem_of_getElem? hi) X rfl
  have hbl : Below w0.heap.size w w' := (Below.refl _ w).grown hgr S.b.size (fun k hk => by cases hk; exact hX)
  have S2 := S.upd i hi (.mapB X (L ++ [y])) ⟨hgr.size, fun k hk hn => hgr.block k hk (fun e => hn e.symm)⟩ (S.b.trans hbl) (fun k e => .inl e) hm'
  refine wpList_plain hgd fun K' hK' => ?_
  unfold Oper.wp
  simp [execOp, hop, hm, hx, hv, hrun, Result.andThen]
  exact hK' _ _ (h w' S2)
/-- a new map -/
theorem Mem.newMapB {w0 w : World} {cs : List Chunk} (S : Mem w0 w cs) (X : Nat) (hX : X = w.heap.size) : Mem w0 (w.alloc (.map #[] 0)) (cs ++ [.mapB X []]) := by
  subst hX
  exact S.call ((Below.refl _ _).alloc (Nat.le_refl _) _) _ ⟨#[], 0, by show (w.heap.push (.map #[] 0))[w.heap.size]? = _; simp, rfl⟩ (fun k e => by cases e; exact Nat.le_refl _)
end
end Go.Proofs.YtlnklkedpknbpaaGreatDoor

/- What consent.once returns: ids, each once. -/
namespace Go.Proofs.YtlnklkedpknbpaaGreatDoor
open Go Go.RowKit
theorem zeroB (w : World) : (zeroValue 4).run Tryz.prog w = .ok (.bool false) w := by kernel_rfl
theorem oneIdO (y : IdV) : ∀ u ∈ y.cells, u.oneCell' = true := fun u hu => by
  simp only [IdV.cells, List.mem_cons, List.not_mem_nil, or_false] at hu
  rcases hu with rfl | rfl <;> rfl
def GivesOwn {α : Type} (r : Rep α) (E : Nat) (xs : List α) (w : World) (e : Ending) (w' : World) : Prop := ∃ v, e = .returned v ∧ Mem w w' [.own r w.heap.size E v xs]
set_option maxHeartbeats 4000000 in
set_option maxRecDepth 100000 in
theorem once_any (N : Nat → Prop) (A : Option Addr) (xs : List IdV) (c : Nat) (w : World) (hS : Sl rId N w A xs) (hl : xs.length ≤ 1000000) :
    Calls Tryz.prog 96 #[.slice A xs.length c] w (GivesOwn rId 29 (onceI xs) w) := by
  have HL := Lib.hid (fun w' (h : Below w.heap.size w w') => hS.keepB h)
  have hT := Tryz.underlying151
  obtain ⟨R, HR⟩ : ∃ R, Hid (onceI xs = R) := ⟨_, Lib.hid rfl⟩
  rw [HR.out]
  have S := (Mem.start w).nil rId w.heap.size 29
  clear hS
  go_enter Tryz.func96, Tryz.ntmps96
  have hmm := @run_makeMap Tryz.prog
  go_upto_region 3 with fail
  clear hmm
  obtain ⟨X, hX⟩ : ∃ X, X = w.heap.size := ⟨_, rfl⟩
  replace S := S.newMapB X hX
  replace S : Mem w (w.alloc (.map #[] 0)) [.own rId w.heap.size 29 (.slice none 0 0) [], .mapB X []] := S
  rw [← hX]
  clear hX
  generalize w.alloc (.map #[] 0) = w1 at *
  go_wp2_with fail
  go_loopw [3, 10] (fun v i wr => ∃ (j : Nat) (out : List IdV), j ≤ xs.length ∧ i = .int .i64 j ∧ out.length ≤ j ∧ Hid (onceGo out (xs.drop j) = R) ∧ Mem w wr [.own rId w.heap.size 29 v out, .mapB X out]) (fun _ i _ => xs.length - (intOf i).toNat)
  case atStart => exact ⟨0, [], Nat.zero_le _, rfl, Nat.le_refl _, HR, S⟩
  case round =>
    clear S HR
    obtain ⟨j, out, hj, rfl, hol, HR, S⟩ := hrel
    obtain ⟨Ao, co, rfl⟩ := (S.ow 0 rfl).len
    by_cases hlt : j < xs.length
    · obtain ⟨x, hf⟩ : ∃ x, xs[j]? = some x := ⟨_, List.getElem?_eq_getElem hlt⟩
      obtain ⟨blk, off, rfl, _, d0, d1⟩ := (HL.out wr S.b).idv j x hf
      have HR2 : Hid ((if x ∈ out then onceGo out (xs.drop (j + 1)) else onceGo (out ++ [x]) (xs.drop (j + 1))) = R) := by show _ = _; rw [← HR.out, onceGo_at hf]
      clear hf HR
      go_upto_region 6 with fail
      clear d0 d1
      obtain ⟨Y, hY⟩ : ∃ Y, Y = wr.heap.size := ⟨_, rfl⟩
      replace S := S.newAt (idCs x.k x.t) 29 Y hY
      rw [← hY]
      clear hY
      generalize wr.alloc (.cells (idCs x.k x.t) 29) = w2 at *
      have c2 := (S.lv 2 rfl).all
      by_cases hx : x ∈ out
      · have HR3 : Hid (onceGo out (xs.drop (j + 1)) = R) := by show _ = _; rw [← HR2.out, if_pos hx]
        have hd : decide (x ∈ out) = true := decide_eq_true hx
        clear HR2 hx
        go_wp2_with (first | (at_lookup; refine S.lookB 1 rfl hT zeroB rfl _ _ rfl rfl x rfl ?_; rw [hd]) | fail)
        go_roundw
        case rel => exact ⟨j + 1, out, by omega, by go_num, by omega, HR3, S.del 2⟩
        case measure => simp [intOf]; omega
      · have HR3 : Hid (onceGo (out ++ [x]) (xs.drop (j + 1)) = R) := by show _ = _; rw [← HR2.out, if_neg hx]
        have hd : decide (x ∈ out) = false := decide_eq_false hx
        have Hx := Lib.hid hx
        clear HR2 hx
        have hsz : w.heap.size ≤ w2.heap.size := S.b.size
        go_upto_region 8 with (first | (at_lookup; refine S.lookB 1 rfl hT zeroB rfl _ _ rfl rfl x rfl ?_; rw [hd]) | (at_mapUpdate; refine S.putB 1 rfl hT rfl _ _ _ rfl rfl x rfl rfl Hx.out ?_; intro w3 S3))
        clear c2
        have c2 := (S3.lv 2 rfl).all
        have hsz := S3.b.size
        go_wp2_with (at_builtin; refine S3.app 0 rfl tyId rfl _ _ rfl x 1 rfl rfl rfl (oneIdO x) hsz (by omega) (by decide) ?_; intro v' w4 S4)
        go_roundw
        case rel => exact ⟨j + 1, out ++ [x], by omega, by go_num, by simp; omega, HR3, S4.del 2⟩
        case measure => simp [intOf]; omega
    · obtain rfl : out = R := by rw [← HR.out, List.drop_eq_nil_of_le (by omega)]; rfl
      clear HR
      go_wp2_with fail
      go_ret
      exact ⟨_, rfl, S.del 1⟩
end Go.Proofs.YtlnklkedpknbpaaGreatDoor

/- clear of the tail of a slice of the call's own, and the front that stays. -/
namespace Go.Proofs.YtlnklkedpknbpaaGreatDoor
open Go Go.RowKit
section
variable {α : Type} {r : Rep α}
theorem row_flat {ls : List (List Value)} {n : Nat} (h : ∀ l ∈ ls, l.length = n) : ls.flatten.length = ls.length * n := by
  induction ls with
  | nil => simp
  | cons a t ih => rw [List.flatten_cons, List.length_append, h a (by simp), ih (fun l hl => h l (by simp [hl])), List.length_cons, Nat.succ_mul]; omega
/-- clear of the tail: what runs, and what is left -/
theorem Own.clearRun {M : Nat → Prop} {w : World} {B E g n cap : Nat} {xs : List α} (h : Own r M B E w (.slice (some ⟨g, 0, none⟩) n cap) xs) (hn : n = xs.length) {T ty bytes : Nat} {z : Value} (sty : STy T E r.size bytes z) (hzv : ∀ w, (zeroValue E).run Tryz.prog w = .ok z w) (hz1 : ∀ j, j < r.size → (z.cells[j]!).oneCell' = true) (k c : Nat) (hk : k ≤ n) :
    ∃ w', (Builtin.clear_ #[T] ty #[.slice (some ⟨g, k * r.size, none⟩) (n - k) c]).run Tryz.prog w = .ok (.tuple #[]) w' ∧ (∀ M', (∀ q, M' q → M q ∨ q = g) → Own r M' B E w' (.slice (some ⟨g, 0, none⟩) k cap) (xs.take k)) ∧ w.grownBy w' (some g) := by
  subst hn
  have hcut := h.cut k hk
  by_cases h0 : k = xs.length
  · refine ⟨w, ?_, fun M' hM => Own.monoD (fun q _ e => ?_) hcut, ⟨rfl, rfl, rfl, Nat.le_refl _, fun _ _ _ => rfl⟩⟩
    · rw [show xs.length - k = 0 by omega]
      simp [Builtin.clear_, run_underlying sty.under]
    · rcases hM q e with e | e
      · exact .inl e
      · exact .inr (by subst e; rfl)
  · obtain ⟨ls, hl, hr, ho⟩ := h
    rcases ho.2 with ⟨e, _⟩ | ⟨g', cap', cur, e, hB, hg, h5, h6, h7, h8⟩
    · cases e
    · cases e
      obtain ⟨m, hm⟩ : ∃ m, xs.length - k = m + 1 := ⟨xs.length - k - 1, by omega⟩
      have hzs : z.cells.size = r.size := sty.zsize
      have hpos : 0 < r.size := sty.pos
      obtain ⟨zs, hzs'⟩ : ∃ zs, zs = (Builtin.zeroCells z.cells (m + 1)).toList := ⟨_, rfl⟩
      have hzl : zs.length = (m + 1) * r.size := by rw [hzs', Array.length_toList, size_zeroCells, hzs]
      have hz1' : ∀ v ∈ zs, v.oneCell' = true := fun v hv => by
        rw [hzs'] at hv
        simp only [Builtin.zeroCells, Array.toList_map, List.mem_map] at hv
        obtain ⟨i, _, rfl⟩ := hv
        exact hz1 _ (by rw [hzs]; exact Nat.mod_lt _ hpos)
      have hfit : k * r.size + 0 + zs.length ≤ cur.size := by
        rw [hzl, h7, Nat.add_zero, ← Nat.add_mul]
        exact Nat.mul_le_mul_right _ (by omega)
      have hst := run_storeCells_at (P := Tryz.prog) g (k * r.size) E zs 0 cur w hg hfit hz1'
      refine ⟨w.setRow g (cur.toList.take (k * r.size + 0) ++ zs ++ cur.toList.drop (k * r.size + 0 + zs.length)).toArray, ?_, fun M' hM => ?_, ⟨rfl, rfl, rfl, by simp [World.setRow], fun q hq hne => setRow_other w g q _ (fun e => hne (by rw [e]))⟩⟩
      · rw [hm]
        simp [Builtin.clear_, run_underlying sty.under, hzv, ← hzs', hst]
      · obtain ⟨ls2, hl2, hr2, ho3⟩ := hcut
        have hkl : (xs.take k).length = k := by rw [List.length_take]; omega
        have hskn : SKN (fun q => q = g) w (w.setRow g (cur.toList.take (k * r.size + 0) ++ zs ++ cur.toList.drop (k * r.size + 0 + zs.length)).toArray) := ⟨by simp [World.setRow], fun q hq hne => setRow_other w g q _ hne⟩
        refine ⟨ls2, hl2, fun i x l e1 e2 => ?_, ho3.1, .inr ⟨g, cap, _, by rw [hkl], hB, setRow_heap w g cur _ E (0, 0) hg, by omega, h6, ?_, ?_⟩⟩
        · have h1 := hr2 i x l e1 e2
          have h2 := r.keep (hskn.mono fun q e => .inr (by rw [e]; rfl)) h1
          refine r.mono (fun q _ e => ?_) h2
          rcases e with e | e
          · rcases hM q e with e | e
            · exact .inl e
            · exact .inr (by rw [e]; rfl)
          · exact .inr e
        · rw [List.size_toArray, List.length_append, List.length_append, List.length_take, List.length_drop, Array.length_toList]
          rw [Nat.add_zero] at hfit ⊢
          omega
        · rcases ho3.2 with ⟨e, _⟩ | ⟨g2, cap2, cur2, e, _, hg2, _, _, _, h82⟩
          · cases e
          · simp only [Value.slice.injEq, Option.some.injEq, Addr.mk.injEq] at e
            obtain ⟨⟨rfl, _⟩, _, rfl⟩ := e
            rw [hg] at hg2
            cases hg2
            rw [hkl] at h82 ⊢
            rw [← h82]
            simp only [Nat.add_zero, List.append_assoc]
            rw [List.take_append_of_le_length (by rw [List.length_take, Array.length_toList]; omega), List.take_take, Nat.min_self]
end
section
variable {ops : Array Oper} {rest : List Oper} {o : Oper} {a : Act} {Q : Exit → Act → World → Prop}
theorem Mem.clearTail {α : Type} {r : Rep α} {w0 w : World} {cs : List Chunk} (S : Mem w0 w cs) (i : Nat) {B E g n cap : Nat} {xs : List α} (hi : cs[i]? = some (.own r B E (.slice (some ⟨g, 0, none⟩) n cap) xs)) (hn : n = xs.length) {T bytes : Nat} {z : Value} (sty : STy T E r.size bytes z) (hzv : ∀ w, (zeroValue E).run Tryz.prog w = .ok z w) (hz1 : ∀ j, j < r.size → (z.cells[j]!).oneCell' = true) (k c : Nat) (hk : k ≤ n)
    (hgd : o.guard = none) (x : Operand) (ho : o.op = .call { callee := .builtin .clear, args := #[x], argTypes := #[T] }) (off len : Nat) (hoff : off = k * r.size) (hlen : len = n - k) (hx : a.eval x = .slice (some ⟨g, off, none⟩) len c)
    (h : ∀ w', Mem w0 w' (cs.set i (.own r B E (.slice (some ⟨g, 0, none⟩) k cap) (xs.take k))) → wpList Tryz.prog ops Q rest (a.put o.dst (.tuple #[])) w') : wpList Tryz.prog ops Q (o :: rest) a w := by
  subst hoff hlen
  have hg0 := S.new _ (List.mem_of_getElem? hi) g rfl
  obtain ⟨w', hrun, hown, hg⟩ := Own.clearRun (ty := o.type) (S.ow i hi) hn sty hzv hz1 k c hk
  have hbl : Below w0.heap.size w w' := (Below.refl _ w).grown hg S.b.size (fun k hk => by cases hk; exact hg0)
  have hskn : SKN (fun q => Value.ownBlock (.slice (some ⟨g, 0, none⟩) n cap) = some q) w w' := ⟨hg.size, fun q hq hne => hg.block q hq (fun e => hne e.symm)⟩
  have S2 := S.upd i hi (.own r B E (.slice (some ⟨g, 0, none⟩) k cap) (xs.take k)) hskn (S.b.trans hbl) (fun q e => .inl e) (hown _ (fun q e => by
    rcases e with e | ⟨y, hy, e⟩
    · exact .inl (.inl e)
    · rcases mem_set_cases hy with rfl | ⟨j, _, hy⟩
      · exact .inr (Option.some.inj e).symm
      · exact .inl (.inr ⟨y, List.mem_of_getElem? hy, e⟩)))
  refine wpList_plain hgd fun K' hK' => ?_
  unfold Oper.wp
  simp [execOp, ho, resolve, invoke, builtin, hx, hrun, Result.andThen]
  exact hK' _ _ (h w' S2)
end
end Go.Proofs.YtlnklkedpknbpaaGreatDoor

/- What slices.DeleteFunc makes of ids, with the condition of consent.Audience. -/
namespace Go.Proofs.YtlnklkedpknbpaaGreatDoor
open Go Go.RowKit
theorem Own.idAt {M : Nat → Prop} {B E g n cap : Nat} {w : World} {xs : List IdV} (h : Own rId M B E w (.slice (some ⟨g, 0, none⟩) n cap) xs) (hn : n = xs.length) (k : Nat) (x : IdV) (hk : xs[k]? = some x) : w.cell? ⟨g, k * 2, none⟩ = some (.int .i64 x.k) ∧ w.cell? ⟨g, k * 2 + 1, none⟩ = some (.string x.t) ∧ w.frozen? ⟨g, k * 2, none⟩ = false ∧ w.frozen? ⟨g, k * 2 + 1, none⟩ = false :=
  ⟨(h.cellP flatId hn k x hk 0 _ rfl).1, (h.cellP flatId hn k x hk 1 _ rfl).1, (h.cellP flatId hn k x hk 0 _ rfl).2, (h.cellP flatId hn k x hk 1 _ rfl).2⟩
/-- what the closure is asked: its answer is a matter of the id alone -/
def AudIs (w0 : World) (cs : List Chunk) (B g n cap : Nat) (Q Lb Ab : Nat) (P : IdV → Bool) : Prop :=
  ∀ (y : IdV) (w' : World) (ys : List IdV), Mem w0 w' (.own rId B 29 (.slice (some ⟨g, 0, none⟩) n cap) ys :: cs) →
    Calls Tryz.prog 97 #[.agg #[.int .i64 y.k, .string y.t], .pointer (some ⟨Q, 0, none⟩), .pointer (some ⟨Lb, 0, none⟩), .pointer (some ⟨Ab, 0, none⟩)] w' fun e w'' => e = .returned (.bool (P y)) ∧ Below w'.heap.size w' w''
def GivesDix (P : IdV → Bool) (xs : List IdV) (w0 : World) (cs : List Chunk) (e : Ending) (w' : World) : Prop :=
  ∃ i : Int, e = .returned (.int .i64 i) ∧ Mem w0 w' cs ∧ ((i = -1 ∧ ∀ y ∈ xs, P y = false) ∨ ∃ (j : Nat) (y : IdV), i = j ∧ xs[j]? = some y ∧ P y = true ∧ ∀ z ∈ xs.take j, P z = false)
set_option maxHeartbeats 4000000 in
set_option maxRecDepth 100000 in
theorem idxDel_any {w0 w : World} {cs : List Chunk} {B g n cap Q Lb Ab : Nat} {xs : List IdV} (P : IdV → Bool) (S : Mem w0 w (.own rId B 29 (.slice (some ⟨g, 0, none⟩) n cap) xs :: cs)) (hn : n = xs.length) (hl : n ≤ 1000000) (hf : AudIs w0 cs B g n cap Q Lb Ab P) :
    Calls Tryz.prog 150 #[.slice (some ⟨g, 0, none⟩) n cap, .func (.func 97) #[] #[.pointer (some ⟨Q, 0, none⟩), .pointer (some ⟨Lb, 0, none⟩), .pointer (some ⟨Ab, 0, none⟩)]] w (GivesDix P xs w0 (.own rId B 29 (.slice (some ⟨g, 0, none⟩) n cap) xs :: cs)) := by
  unfold AudIs at hf
  have HF := Lib.hid hf
  have Hn := Lib.hid hn
  clear hf hn
  go_enter Tryz.func150, Tryz.ntmps150
  go_wp2_with fail
  go_loopw [8] (fun i wr => ∃ j : Nat, j ≤ n ∧ i = .int .i64 j ∧ Hid (∀ z ∈ xs.take j, P z = false) ∧ Mem w0 wr (.own rId B 29 (.slice (some ⟨g, 0, none⟩) n cap) xs :: cs)) (fun i _ => n - (intOf i).toNat)
  case atStart => exact ⟨0, Nat.zero_le _, rfl, (by show ∀ z ∈ _, _; simp), S⟩
  case round =>
    clear S
    obtain ⟨j, hj, rfl, HP, S⟩ := hrel
    by_cases hlt : j < n
    · obtain ⟨x, hx⟩ : ∃ x, xs[j]? = some x := ⟨_, List.getElem?_eq_getElem (by have := Hn.out; omega)⟩
      obtain ⟨d0, d1, _, _⟩ := (S.ow 0 rfl).idAt Hn.out j x hx
      have Hx := Lib.hid hx
      clear hx
      have HS := Lib.hid S
      clear S
      go_wp2_with fail
      ((with_reducible refine (HF.out x wr xs HS.out).mono ?_); rintro e w2 ⟨rfl, hl2⟩)
      have S := HS.out.below hl2
      clear hl2 d0 d1 HS
      cases hp : P x with
      | false =>
        have HP2 : Hid (∀ z ∈ xs.take (j + 1), P z = false) := fun z hz => by
          rw [take_snoc Hx.out] at hz
          rcases List.mem_append.1 hz with hz | hz
          · exact HP.out z hz
          · rw [List.mem_singleton.1 hz]; exact hp
        clear hp
        go_wp2_with fail
        go_roundw
        case rel => exact ⟨j + 1, by omega, by go_num, HP2, S⟩
        case measure => simp [intOf]; omega
      | true =>
        have Hp := Lib.hid hp
        clear hp
        go_wp2_with fail
        go_ret
        exact ⟨j, rfl, S, .inr ⟨j, x, rfl, Hx.out, Hp.out, HP.out⟩⟩
    · have HP2 : Hid (∀ z ∈ xs, P z = false) := by
        have h1 := HP.out
        rw [List.take_of_length_le (by have := Hn.out; omega)] at h1
        exact h1
      go_wp2_with fail
      go_ret
      exact ⟨-1, rfl, S, .inl ⟨rfl, HP2.out⟩⟩
theorem zeroId (w : World) : (zeroValue 29).run Tryz.prog w = .ok (.agg #[.int .i64 0, .string ⟨#[]⟩]) w := by kernel_rfl
theorem oneZ (j : Nat) (h : j < rId.size) : (((Value.agg #[.int .i64 0, .string ⟨#[]⟩]).cells)[j]!).oneCell' = true := by
  obtain rfl | rfl : j = 0 ∨ j = 1 := by
    have : j < 2 := h
    omega
  all_goals rfl
def keepB (P : IdV → Bool) (x : IdV) : Bool := !P x
theorem keep_none {P : IdV → Bool} {xs : List IdV} (h : ∀ y ∈ xs, P y = false) : xs.filter (keepB P) = xs := List.filter_eq_self.2 fun y hy => by simp [keepB, h y hy]
/-- the front that is settled, and the rest as it was -/
structure DelAt (P : IdV → Bool) (xs ys : List IdV) (i j : Nat) : Prop where
  len : ys.length = xs.length
  front : ys.take i = (xs.take j).filter (keepB P)
  rest : ys.drop j = xs.drop j
  le : i ≤ j
theorem DelAt.get {P : IdV → Bool} {xs ys : List IdV} {i j : Nat} (h : DelAt P xs ys i j) {x : IdV} (hx : ys[j]? = some x) : xs[j]? = some x := by
  have h1 := congrArg (fun l : List IdV => l[0]?) h.rest
  simp only [List.getElem?_drop, Nat.add_zero] at h1
  rw [← h1]; exact hx
theorem DelAt.skip {P : IdV → Bool} {xs ys : List IdV} {i j : Nat} (h : DelAt P xs ys i j) {x : IdV} (hx : ys[j]? = some x) (hp : P x = true) : DelAt P xs ys i (j + 1) := by
  refine ⟨h.len, ?_, ?_, Nat.le_succ_of_le h.le⟩
  · rw [take_snoc (h.get hx), List.filter_append, h.front]
    simp [keepB, hp]
  · have h1 := congrArg (List.drop 1) h.rest
    rw [List.drop_drop, List.drop_drop] at h1
    exact h1
theorem DelAt.put {P : IdV → Bool} {xs ys : List IdV} {i j : Nat} (h : DelAt P xs ys i j) (hij : i < j) {x : IdV} (hx : ys[j]? = some x) (hp : P x = false) : DelAt P xs (ys.set i x) (i + 1) (j + 1) := by
  have hi : i < ys.length := by have := lt_of_get hx; omega
  refine ⟨by rw [List.length_set, h.len], ?_, ?_, by omega⟩
  · rw [take_snoc (h.get hx), List.filter_append, ← h.front, List.take_set, take_snoc (x := ys[i]) (List.getElem?_eq_getElem hi)]
    have hl : (ys.take i).length = i := by rw [List.length_take]; omega
    rw [List.set_append_right _ _ (by omega), hl, Nat.sub_self]
    simp [keepB, hp]
  · rw [List.drop_set_of_lt (by omega)]
    have h1 := congrArg (List.drop 1) h.rest
    rw [List.drop_drop, List.drop_drop] at h1
    exact h1
def GivesDel (P : IdV → Bool) (xs : List IdV) (B g cap : Nat) (w0 : World) (cs : List Chunk) (e : Ending) (w' : World) : Prop :=
  e = .returned (.slice (some ⟨g, 0, none⟩) (xs.filter (keepB P)).length cap) ∧ Mem w0 w' (.own rId B 29 (.slice (some ⟨g, 0, none⟩) (xs.filter (keepB P)).length cap) (xs.filter (keepB P)) :: cs)
set_option maxHeartbeats 8000000 in
set_option maxRecDepth 100000 in
theorem delId_any {w0 w : World} {cs : List Chunk} {B g n cap Q Lb Ab : Nat} {xs : List IdV} (P : IdV → Bool) (S : Mem w0 w (.own rId B 29 (.slice (some ⟨g, 0, none⟩) n cap) xs :: cs)) (hn : n = xs.length) (hl : n ≤ 1000000) (hf : AudIs w0 cs B g n cap Q Lb Ab P) :
    Calls Tryz.prog 95 #[.slice (some ⟨g, 0, none⟩) n cap, .func (.func 97) #[] #[.pointer (some ⟨Q, 0, none⟩), .pointer (some ⟨Lb, 0, none⟩), .pointer (some ⟨Ab, 0, none⟩)]] w (GivesDel P xs B g cap w0 cs) := by
  have Hix := Lib.hid (idxDel_any P S hn hl hf)
  unfold AudIs at hf
  have HF := Lib.hid hf
  have Hn := Lib.hid hn
  clear hf hn S
  go_enter Tryz.func95, Tryz.ntmps95
  go_wp2_with fail
  ((with_reducible refine (Hix.out).mono ?_); rintro e w2 ⟨i, rfl, S, hc⟩)
  clear Hix
  rcases hc with ⟨rfl, hall⟩ | ⟨j0, y0, rfl, hy0, hp0, hbef⟩
  · have Hk := Lib.hid (keep_none hall)
    clear hall
    go_wp2_with fail
    go_ret
    refine ⟨?_, ?_⟩
    · rw [Hk.out, ← Hn.out]; rfl
    · rw [Hk.out, ← Hn.out]; exact S
  · have hj0 : j0 < n := by have := lt_of_get hy0; have := Hn.out; omega
    have HD : Hid (DelAt P xs xs j0 (j0 + 1)) := by
      refine ⟨rfl, ?_, rfl, Nat.le_succ _⟩
      rw [take_snoc hy0, List.filter_append, keep_none hbef]
      simp [keepB, hp0]
    clear hy0 hp0 hbef
    go_wp2_with fail
    go_loopw [5, 6] (fun s5 s6 wr => ∃ (i j : Nat) (ys : List IdV), s5 = .int .i64 i ∧ s6 = .int .i64 j ∧ i < j ∧ j ≤ n ∧ Hid (DelAt P xs ys i j) ∧ Mem w0 wr (.own rId B 29 (.slice (some ⟨g, 0, none⟩) n cap) ys :: cs)) (fun _ s6 _ => n - (intOf s6).toNat)
    case atStart => exact ⟨j0, j0 + 1, xs, rfl, by go_num, by omega, by omega, HD, S⟩
    case round =>
      clear S HD
      obtain ⟨i, j, ys, rfl, rfl, hij, hj, HD, S⟩ := hrel
      by_cases hlt : j < n
      · obtain ⟨x, hx⟩ : ∃ x, ys[j]? = some x := ⟨_, List.getElem?_eq_getElem (by have := Hn.out; have := HD.out.len; omega)⟩
        have hyl : Hid (n = ys.length) := by show _ = _; have := Hn.out; have := HD.out.len; omega
        obtain ⟨d0, d1, _, _⟩ := (S.ow 0 rfl).idAt hyl.out j x hx
        have Hx := Lib.hid hx
        clear hx
        go_upto_region 8 with fail
        clear d0 d1
        obtain ⟨Y, hY⟩ : ∃ Y, Y = wr.heap.size := ⟨_, rfl⟩
        have Ly := LV.new wr wr.heap.size (idCs x.k x.t) 29 rfl
        replace S := S.alloc (.cells (idCs x.k x.t) 29)
        rw [← hY] at Ly ⊢
        have hYl : Y < (wr.alloc (.cells (idCs x.k x.t) 29)).heap.size := by rw [hY]; simp
        clear hY
        generalize wr.alloc (.cells (idCs x.k x.t) 29) = w3 at *
        have c0 := Ly.all
        have HS := Lib.hid S
        clear S
        go_wp2_with fail
        ((with_reducible refine (HF.out x w3 ys HS.out).mono ?_); rintro e w4 ⟨rfl, hl4⟩)
        have HS4 := Lib.hid (HS.out.below hl4)
        have Ly4 := LV.kb3 Ly hl4 hYl
        clear hl4 HS c0 Ly
        have c0 := Ly4.all
        cases hp : P x with
        | true =>
          have HD2 := Lib.hid (HD.out.skip Hx.out hp)
          clear hp HD
          go_wp2_with fail
          go_roundw
          case rel => exact ⟨_, _, _, _, _, _, _, _, _, _, _, _, _, _, _, _, _, _, _, _, _, _, _, ⟨i, j + 1, ys, rfl, by go_num, by omega, by omega, HD2, HS4.out⟩, rfl⟩
          case measure => simp [intOf]; omega
        | false =>
          have HD2 := Lib.hid (HD.out.put hij Hx.out hp)
          clear hp HD
          obtain ⟨z, hz⟩ : ∃ z, ys[i]? = some z := ⟨_, List.getElem?_eq_getElem (by have := hyl.out; omega)⟩
          obtain ⟨e0, e1, f0, f1⟩ := (HS4.out.ow 0 rfl).idAt hyl.out i z hz
          have Hz := Lib.hid hz
          clear hz
          go_wp2_with fail
          have S1 : Mem w0 (w4.setCell ⟨g, i * 2, none⟩ (.int .i64 x.k)) (.own rId B 29 (.slice (some ⟨g, 0, none⟩) n cap) (ys.set i ⟨x.k, z.t⟩) :: cs) := HS4.out.put flatId 0 rfl hyl.out i z ⟨x.k, z.t⟩ Hz.out 0 (by decide) (.int .i64 x.k) rfl
          have S2 : Mem w0 ((w4.setCell ⟨g, i * 2, none⟩ (.int .i64 x.k)).setCell ⟨g, i * 2 + 1, none⟩ (.string x.t)) (.own rId B 29 (.slice (some ⟨g, 0, none⟩) n cap) (ys.set i x) :: cs) := by
            have := S1.put flatId 0 rfl (by rw [List.length_set]; exact hyl.out) i ⟨x.k, z.t⟩ x (by rw [List.getElem?_set_self (by have := hyl.out; omega)]) 1 (by decide) (.string x.t) rfl
            rw [List.set_set] at this
            exact this
          go_roundw
          case rel => exact ⟨_, _, _, _, _, _, _, _, _, _, _, _, _, _, _, _, _, _, _, _, _, _, _, ⟨i + 1, j + 1, ys.set i x, by go_num, by go_num, by omega, by omega, HD2, S2⟩, rfl⟩
          case measure => simp [intOf]; omega
      · have hyl : Hid (n = ys.length) := by show _ = _; have := Hn.out; have := HD.out.len; omega
        have HT : Hid (ys.take i = xs.filter (keepB P)) := by
          show _ = _
          rw [HD.out.front, List.take_of_length_le (by have := Hn.out; omega)]
        have HTl : Hid (i = (xs.filter (keepB P)).length) := by show _ = _; rw [← HT.out, List.length_take]; have := hyl.out; omega
        clear HD
        have hcap : n ≤ cap := by
          obtain ⟨g2, cap2, e2, h2⟩ := (S.ow 0 rfl).form (by have := hyl.out; omega)
          have := hyl.out
          simp only [Value.slice.injEq] at e2
          omega
        go_wp2_with (refine S.clearTail 0 rfl hyl.out tyId zeroId oneZ i (cap - i) (by omega) rfl _ rfl (i * 2) (n - i) rfl rfl rfl ?_; intro w5 S5)
        go_ret
        refine ⟨?_, ?_⟩
        · rw [← HTl.out]; rfl
        · rw [HT.out] at S5
          rw [← HTl.out]
          exact S5
end Go.Proofs.YtlnklkedpknbpaaGreatDoor

/- What the condition of consent.Audience returns. -/
namespace Go.Proofs.YtlnklkedpknbpaaGreatDoor
open Go Go.RowKit
theorem loadIdL {w : World} {X : Nat} {k : Int} {t : ByteArray} (h : LV w X (idCs k t) 29) : (Instr.loadAt 29 (.pointer (some ⟨X, 0, none⟩))).run Tryz.prog w = .ok (.agg #[.int .i64 k, .string t]) w := by
  have c := h.all
  go_simp
theorem loadQC {w : World} {X : Nat} {A : Option Addr} {n c : Nat} {pu rg : ByteArray} {ch at' : Int} (h : LV w X (qCs A n c pu rg ch at') 118) : (Instr.loadAt 118 (.pointer (some ⟨X, 0, none⟩))).run Tryz.prog w = .ok (.agg (qCs A n c pu rg ch at')) w := by
  have c := h.all
  go_simp
theorem fieldMay (m : Bool) (y n : Int) (w : World) : (Instr.field 48 (.agg #[.bool m, .int .i64 y, .int .i64 n]) 0).run Tryz.prog w = .ok (.bool m) w := by
  have u48 := Tryz.underlying48
  have a4 := Tryz.isAgg4
  simp only [Instr.field, run_underlying u48, Sem.run_bind, Result.andThen_ok]
  go_simp
  simp [asAgg]
set_option maxHeartbeats 4000000 in
set_option maxRecDepth 100000 in
theorem aud1_any (N : Nat → Prop) (A Al : Option Addr) (p : List Purp) (l : List Stm) (c cl : Nat) (pu rg : ByteArray) (ch at' : Int) (y : IdV) (Q Lb Ab : Nat) (w : World) (hS : Sl rPurp N w A p) (hg : GoodPol p) (hL : Sl rStm N w Al l) (hgl : GoodL p l) (hl : l.length ≤ 19) (hat : 0 ≤ at' ∧ at' ≤ 4321439)
    (hQ : LV w Q (qCs A p.length c pu rg ch at') 118) (hLb : LV w Lb #[.slice Al l.length cl] 41) (hAb : LV w Ab #[.int .i64 at'] 3) :
    Calls Tryz.prog 97 #[.agg #[.int .i64 y.k, .string y.t], .pointer (some ⟨Q, 0, none⟩), .pointer (some ⟨Lb, 0, none⟩), .pointer (some ⟨Ab, 0, none⟩)] w fun e w'' => e = .returned (.bool (!(mayAns p l y.k y.t pu rg ch at').1)) ∧ Below w.heap.size w w'' := by
  have Ha := Lib.hid (fun w' (h : Below w.heap.size w w') => ask_any N A Al p l c cl pu rg ch at' y.k y.t w' (hS.keepB h) hg (hL.keepB h) hl hgl.no)
  have Hb := Lib.hid (fun (U : List Stm) (hU : IsOf y.k y.t ch l U) (N : Nat → Prop) Au cu w' (hS : Sl rStm N w' Au U) hc => answerAt_any (pu := pu) (rg := rg) hg hgl hU hat (by omega) N Au cu w' hS hc)
  have hQl := hQ.lt
  have hLl := hLb.lt
  have hAl := hAb.lt
  generalize mayAns p l y.k y.t pu rg ch at' = an at *
  clear hS hg hL hgl
  have S := (Mem.start w).new' (idCs y.k y.t) 29
  replace S : Mem w (w.alloc (.cells (idCs y.k y.t) 29)) [.loc w.heap.size (idCs y.k y.t) 29] := S
  go_enter Tryz.func97, Tryz.ntmps97
  go_upto_region 1 with fail
  generalize w.alloc (.cells (idCs y.k y.t) 29) = w1 at *
  have hCl : ∀ {wx : World}, Mem w wx [.loc w.heap.size (idCs y.k y.t) 29] → LV wx Q (qCs A p.length c pu rg ch at') 118 ∧ LV wx Lb #[.slice Al l.length cl] 41 ∧ LV wx Ab #[.int .i64 at'] 3 ∧ LV wx w.heap.size (idCs y.k y.t) 29 := fun S => ⟨hQ.kb3 S.b hQl, hLb.kb3 S.b hLl, hAb.kb3 S.b hAl, S.lv 0 rfl⟩
  refine wp_region_mix (fun wx => LV wx Q (qCs A p.length c pu rg ch at') 118 ∧ LV wx Lb #[.slice Al l.length cl] 41 ∧ LV wx Ab #[.int .i64 at'] 3 ∧ LV wx w.heap.size (idCs y.k y.t) 29) [(true, 0), (true, 1), (true, 2), (true, 4), (false, 3), (false, 5), (true, 6), (true, 7), (true, 8)] (by kernel_rfl) (by kernel_rfl) (fun w' hd => hCl (S.below (hd.below _))) (fun KK hKK wd hd => ?_)
  replace S := S.below (hd.below _)
  clear hd
  refine mix_loadR (.agg (qCs A p.length c pu rg ch at')) rfl rfl rfl rfl (fun w' h => loadQC h.1) ?_
  refine mix_load (.slice Al l.length cl) rfl rfl rfl rfl (fun _ => rfl) (fun w' h => h.2.1.cell 0 _ rfl) ?_
  refine mix_loadR (.agg #[.int .i64 y.k, .string y.t]) rfl rfl rfl rfl (fun w' h => loadIdL h.2.2.2) ?_
  refine mix_load (.int .i64 at') rfl rfl rfl rfl (fun _ => rfl) (fun w' h => h.2.2.1.cell 0 _ rfl) ?_
  refine mix_l rfl (fun K hK => ?_) (hCl S)
  go_wp2_with fail
  ((with_reducible refine (Ha.out wd S.b).mono ?_); rintro e w4 ⟨Au, U, cu, rfl, hU, hc, hSU, hl4⟩)
  replace S := S.below hl4
  have Hd := Lib.hid (Hb.out U hU _ Au cu w4 hSU hc)
  clear hl4 hU hc hSU Ha Hb
  have hC := hCl S
  go_wp2_with fail
  refine ⟨hC, ?_⟩
  clear hC
  have hfm := fieldMay
  refine mix_l rfl (fun K hK => ?_) (hCl S)
  go_wp2_with fail
  ((with_reducible refine (Hd.out).mono ?_); rintro e w5 ⟨rfl, hl5⟩)
  rw [show aVal an = Value.agg #[.bool an.1, .int .i64 an.2.1, .int .i64 an.2.2] from rfl]
  replace S := S.below hl5
  clear hl5 Hd
  have hC := hCl S
  go_wp2_with fail
  refine ⟨hC, ?_⟩
  clear hC
  repeat (refine mix_p rfl (fun K hK => ?_); go_simp; (try go_bits); (try simp (disch := omega) only [if_pos]); (try simp (disch := omega) only [if_neg]); (try simp (disch := omega) only [dif_pos]); (try simp (disch := omega) only [dif_neg]); (try go_simp); (refine hK _ ?_; clear hK K))
  refine mix_nil ?_
  simp only [Exit.then]
  refine hKK _ _ ?_
  go_wp2_with fail
  go_ret
  exact ⟨rfl, S.b⟩
end Go.Proofs.YtlnklkedpknbpaaGreatDoor
