/- Several texts in one: AudLaw, MapId, Once, Clear, DelId, Aud1. -/
import Derived.Test.YthmkphmciiiagaaGreatDoorIds
import Derived.Test.YthmkphmciiiagaaGreatDoorMayOf
import Derived.Test.YthmkphmciiiagaaGreatDoorMap
import Derived.WideKeyRuns
import Derived.Test.YthmkphmciiiagaaGreatDoorRepId
import Derived.Test.YthmkphmciiiagaaGreatDoorPackM
import Derived.Laws.CopyOwn
/- The plain law of audiences: ids, each once, and those of them that may be written to. -/
namespace Go.Proofs.YthmkphmciiiagaaGreatDoor
open Go.RowKit
/-- each once, in the order in which they come, behind those that there are -/
def onceGo (acc : List IdV) : List IdV → List IdV
  | [] => acc
  | x :: r => if x ∈ acc then onceGo acc r else onceGo (acc ++ [x]) r
def onceI (xs : List IdV) : List IdV := onceGo [] xs
theorem onceGo_len : ∀ (xs acc : List IdV), (onceGo acc xs).length ≤ acc.length + xs.length
  | [], acc => by simp [onceGo]
  | x :: r, acc => by
    unfold onceGo
    split
    · have := onceGo_len r acc
      simp; omega
    · have := onceGo_len r (acc ++ [x])
      simp at this ⊢; omega
theorem onceGo_at {xs acc : List IdV} {k : Nat} {x : IdV} (h : xs[k]? = some x) : onceGo acc (xs.drop k) = if x ∈ acc then onceGo acc (xs.drop (k + 1)) else onceGo (acc ++ [x]) (xs.drop (k + 1)) := by
  obtain ⟨hk, rfl⟩ := List.getElem?_eq_some_iff.1 h
  rw [List.drop_eq_getElem_cons hk, onceGo]
/-- the reference: those that may, each once -/
def audGo (f : IdV → Bool) (out : List IdV) : List IdV → List IdV
  | [] => out
  | x :: r => if x ∉ out ∧ f x = true then audGo f (out ++ [x]) r else audGo f out r
theorem audGo_is (f : IdV → Bool) : ∀ (xs acc : List IdV), audGo f (acc.filter f) xs = (onceGo acc xs).filter f
  | [], _ => rfl
  | x :: r, acc => by
    unfold audGo onceGo
    by_cases hx : x ∈ acc
    · rw [if_pos hx]
      by_cases hf : f x = true
      · rw [if_neg (fun h => h.1 (List.mem_filter.2 ⟨hx, hf⟩)), audGo_is f r acc]
      · rw [if_neg (fun h => hf h.2), audGo_is f r acc]
    · rw [if_neg hx]
      have e := audGo_is f r (acc ++ [x])
      by_cases hf : f x = true
      · rw [if_pos ⟨fun h => hx (List.mem_filter.1 h).1, hf⟩, ← e, List.filter_append, List.filter_cons_of_pos hf]
        rfl
      · rw [if_neg (fun h => hf h.2), ← e, List.filter_append, List.filter_cons_of_neg hf]
        simp
theorem aud_is (f : IdV → Bool) (xs : List IdV) : audGo f [] xs = (onceI xs).filter f := audGo_is f xs []
theorem audGo_at {f : IdV → Bool} {xs out : List IdV} {k : Nat} {x : IdV} (h : xs[k]? = some x) : audGo f out (xs.drop k) = if x ∉ out ∧ f x = true then audGo f (out ++ [x]) (xs.drop (k + 1)) else audGo f out (xs.drop (k + 1)) := by
  obtain ⟨hk, rfl⟩ := List.getElem?_eq_some_iff.1 h
  rw [List.drop_eq_getElem_cons hk, audGo]
end Go.Proofs.YthmkphmciiiagaaGreatDoor

/- A map of the call's own, keyed by ids, that holds true for those that were put: a piece of memory. -/
namespace Go.Proofs.YthmkphmciiiagaaGreatDoor
open Go Go.RowKit Go.MapKept
abbrev idVal (x : IdV) : Value := .agg #[.int .i64 x.k, .string x.t]
abbrev kvB (x : IdV) : Value × Value := (idVal x, Value.bool true)
def MapB (w : World) (X : Nat) (L : List IdV) : Prop := ∃ es clock, w.heap[X]? = some (.map es clock) ∧ es.toList.map kvOf = L.map kvB
def Chunk.mapB (X : Nat) (L : List IdV) : Chunk :=
  ⟨some X, fun _ w => MapB w X L, fun k _ hd ⟨es, c, h, e⟩ => ⟨es, c, (k.block X (Array.getElem?_eq_some_iff.1 h).1 (hd X rfl)).trans h, e⟩, fun _ h => h, fun ⟨_, _, h, _⟩ k e => by cases e; exact (Array.getElem?_eq_some_iff.1 h).1⟩
section
variable {ops : Array Oper} {rest : List Oper} {o : Oper} {a : Act} {Q : Exit → Act → World → Prop}
end
end Go.Proofs.YthmkphmciiiagaaGreatDoor

/- What consent.once returns: ids, each once. -/
namespace Go.Proofs.YthmkphmciiiagaaGreatDoor
open Go Go.RowKit
def GivesOwn {α : Type} (r : Rep α) (E : Nat) (xs : List α) (w : World) (e : Ending) (w' : World) : Prop := ∃ v, e = .returned v ∧ Mem w w' [.own r w.heap.size E v xs]
end Go.Proofs.YthmkphmciiiagaaGreatDoor

/- clear of the tail of a slice of the call's own, and the front that stays. -/
namespace Go.Proofs.YthmkphmciiiagaaGreatDoor
open Go Go.RowKit
section
variable {α : Type} {r : Rep α}
theorem row_flat {ls : List (List Value)} {n : Nat} (h : ∀ l ∈ ls, l.length = n) : ls.flatten.length = ls.length * n := by
  induction ls with
  | nil => simp
  | cons a t ih => rw [List.flatten_cons, List.length_append, h a (by simp), ih (fun l hl => h l (by simp [hl])), List.length_cons, Nat.succ_mul]; omega
/-- clear of the tail: what runs, and what is left -/
theorem Own.clearRun {M : Nat → Prop} {w : World} {B E g n cap : Nat} {xs : List α} (h : Own r M B E w (.slice (some ⟨g, 0, none⟩) n cap) xs) (hn : n = xs.length) {T ty bytes : Nat} {z : Value} (sty : STy T E r.size bytes z) (hzv : ∀ w, (zeroValue E).run Tryz.prog w = .ok z w) (hz1 : ∀ j, j < r.size → (z.cells[j]!).oneCell' = true) (k c : Nat) (hk : k ≤ n) :
    ∃ w', (Builtin.clear_ #[T] ty #[.slice (some ⟨g, k * r.size, none⟩) (n - k) c]).run Tryz.prog w = .ok (.tuple #[]) w' ∧ (∀ M', (∀ q, M' q → M q ∨ q = g) → Own r M' B E w' (.slice (some ⟨g, 0, none⟩) k cap) (xs.take k)) ∧ w.grownBy w' (some g) := by
  subst hn
  have hcut := h.cut k hk
  by_cases h0 : k = xs.length
  · refine ⟨w, ?_, fun M' hM => Own.monoD (fun q _ e => ?_) hcut, ⟨rfl, rfl, rfl, Nat.le_refl _, fun _ _ _ => rfl⟩⟩
    · rw [show xs.length - k = 0 by omega]
      simp [Builtin.clear_, run_underlying sty.under]
    · rcases hM q e with e | e
      · exact .inl e
      · exact .inr (by subst e; rfl)
  · obtain ⟨ls, hl, hr, ho⟩ := h
    rcases ho.2 with ⟨e, _⟩ | ⟨g', cap', cur, e, hB, hg, h5, h6, h7, h8⟩
    · cases e
    · cases e
      obtain ⟨m, hm⟩ : ∃ m, xs.length - k = m + 1 := ⟨xs.length - k - 1, by omega⟩
      have hzs : z.cells.size = r.size := sty.zsize
      have hpos : 0 < r.size := sty.pos
      obtain ⟨zs, hzs'⟩ : ∃ zs, zs = (Builtin.zeroCells z.cells (m + 1)).toList := ⟨_, rfl⟩
      have hzl : zs.length = (m + 1) * r.size := by rw [hzs', Array.length_toList, size_zeroCells, hzs]
      have hz1' : ∀ v ∈ zs, v.oneCell' = true := fun v hv => by
        rw [hzs'] at hv
        simp only [Builtin.zeroCells, Array.toList_map, List.mem_map] at hv
        obtain ⟨i, _, rfl⟩ := hv
        exact hz1 _ (by rw [hzs]; exact Nat.mod_lt _ hpos)
      have hfit : k * r.size + 0 + zs.length ≤ cur.size := by
        rw [hzl, h7, Nat.add_zero, ← Nat.add_mul]
        exact Nat.mul_le_mul_right _ (by omega)
      have hst := run_storeCells_at (P := Tryz.prog) g (k * r.size) E zs 0 cur w hg hfit hz1'
      refine ⟨w.setRow g (cur.toList.take (k * r.size + 0) ++ zs ++ cur.toList.drop (k * r.size + 0 + zs.length)).toArray, ?_, fun M' hM => ?_, ⟨rfl, rfl, rfl, by simp [World.setRow], fun q hq hne => setRow_other w g q _ (fun e => hne (by rw [e]))⟩⟩
      · rw [hm]
        simp [Builtin.clear_, run_underlying sty.under, hzv, ← hzs', hst]
      · obtain ⟨ls2, hl2, hr2, ho3⟩ := hcut
        have hkl : (xs.take k).length = k := by rw [List.length_take]; omega
        have hskn : SKN (fun q => q = g) w (w.setRow g (cur.toList.take (k * r.size + 0) ++ zs ++ cur.toList.drop (k * r.size + 0 + zs.length)).toArray) := ⟨by simp [World.setRow], fun q hq hne => setRow_other w g q _ hne⟩
        refine ⟨ls2, hl2, fun i x l e1 e2 => ?_, ho3.1, .inr ⟨g, cap, _, by rw [hkl], hB, setRow_heap w g cur _ E (0, 0) hg, by omega, h6, ?_, ?_⟩⟩
        · have h1 := hr2 i x l e1 e2
          have h2 := r.keep (hskn.mono fun q e => .inr (by rw [e]; rfl)) h1
          refine r.mono (fun q _ e => ?_) h2
          rcases e with e | e
          · rcases hM q e with e | e
            · exact .inl e
            · exact .inr (by rw [e]; rfl)
          · exact .inr e
        · rw [List.size_toArray, List.length_append, List.length_append, List.length_take, List.length_drop, Array.length_toList]
          rw [Nat.add_zero] at hfit ⊢
          omega
        · rcases ho3.2 with ⟨e, _⟩ | ⟨g2, cap2, cur2, e, _, hg2, _, _, _, h82⟩
          · cases e
          · simp only [Value.slice.injEq, Option.some.injEq, Addr.mk.injEq] at e
            obtain ⟨⟨rfl, _⟩, _, rfl⟩ := e
            rw [hg] at hg2
            cases hg2
            rw [hkl] at h82 ⊢
            rw [← h82]
            simp only [Nat.add_zero, List.append_assoc]
            rw [List.take_append_of_le_length (by rw [List.length_take, Array.length_toList]; omega), List.take_take, Nat.min_self]
end
section
variable {ops : Array Oper} {rest : List Oper} {o : Oper} {a : Act} {Q : Exit → Act → World → Prop}
theorem Mem.clearTail {α : Type} {r : Rep α} {w0 w : World} {cs : List Chunk} (S : Mem w0 w cs) (i : Nat) {B E g n cap : Nat} {xs : List α} (hi : cs[i]? = some (.own r B E (.slice (some ⟨g, 0, none⟩) n cap) xs)) (hn : n = xs.length) {T bytes : Nat} {z : Value} (sty : STy T E r.size bytes z) (hzv : ∀ w, (zeroValue E).run Tryz.prog w = .ok z w) (hz1 : ∀ j, j < r.size → (z.cells[j]!).oneCell' = true) (k c : Nat) (hk : k ≤ n)
    (hgd : o.guard = none) (x : Operand) (ho : o.op = .call { callee := .builtin .clear, args := #[x], argTypes := #[T] }) (off len : Nat) (hoff : off = k * r.size) (hlen : len = n - k) (hx : a.eval x = .slice (some ⟨g, off, none⟩) len c)
    (h : ∀ w', Mem w0 w' (cs.set i (.own r B E (.slice (some ⟨g, 0, none⟩) k cap) (xs.take k))) → wpList Tryz.prog ops Q rest (a.put o.dst (.tuple #[])) w') : wpList Tryz.prog ops Q (o :: rest) a w := by
  subst hoff hlen
  have hg0 := S.new _ (List.mem_of_getElem? hi) g rfl
  obtain ⟨w', hrun, hown, hg⟩ := Own.clearRun (ty := o.type) (S.ow i hi) hn sty hzv hz1 k c hk
  have hbl : Below w0.heap.size w w' := (Below.refl _ w).grown hg S.b.size (fun k hk => by cases hk; exact hg0)
  have hskn : SKN (fun q => Value.ownBlock (.slice (some ⟨g, 0, none⟩) n cap) = some q) w w' := ⟨hg.size, fun q hq hne => hg.block q hq (fun e => hne e.symm)⟩
  have S2 := S.upd i hi (.own r B E (.slice (some ⟨g, 0, none⟩) k cap) (xs.take k)) hskn (S.b.trans hbl) (fun q e => .inl e) (hown _ (fun q e => by
    rcases e with e | ⟨y, hy, e⟩
    · exact .inl (.inl e)
    · rcases mem_set_cases hy with rfl | ⟨j, _, hy⟩
      · exact .inr (Option.some.inj e).symm
      · exact .inl (.inr ⟨y, List.mem_of_getElem? hy, e⟩)))
  refine wpList_plain hgd fun K' hK' => ?_
  unfold Oper.wp
  simp [execOp, ho, resolve, invoke, builtin, hx, hrun, Result.andThen]
  exact hK' _ _ (h w' S2)
end
end Go.Proofs.YthmkphmciiiagaaGreatDoor

/- What slices.DeleteFunc makes of ids, with the condition of consent.Audience. -/
namespace Go.Proofs.YthmkphmciiiagaaGreatDoor
open Go Go.RowKit
def GivesDix (P : IdV → Bool) (xs : List IdV) (w0 : World) (cs : List Chunk) (e : Ending) (w' : World) : Prop :=
  ∃ i : Int, e = .returned (.int .i64 i) ∧ Mem w0 w' cs ∧ ((i = -1 ∧ ∀ y ∈ xs, P y = false) ∨ ∃ (j : Nat) (y : IdV), i = j ∧ xs[j]? = some y ∧ P y = true ∧ ∀ z ∈ xs.take j, P z = false)
def keepB (P : IdV → Bool) (x : IdV) : Bool := !P x
/-- the front that is settled, and the rest as it was -/
structure DelAt (P : IdV → Bool) (xs ys : List IdV) (i j : Nat) : Prop where
  len : ys.length = xs.length
  front : ys.take i = (xs.take j).filter (keepB P)
  rest : ys.drop j = xs.drop j
  le : i ≤ j
theorem DelAt.get {P : IdV → Bool} {xs ys : List IdV} {i j : Nat} (h : DelAt P xs ys i j) {x : IdV} (hx : ys[j]? = some x) : xs[j]? = some x := by
  have h1 := congrArg (fun l : List IdV => l[0]?) h.rest
  simp only [List.getElem?_drop, Nat.add_zero] at h1
  rw [← h1]; exact hx
theorem DelAt.skip {P : IdV → Bool} {xs ys : List IdV} {i j : Nat} (h : DelAt P xs ys i j) {x : IdV} (hx : ys[j]? = some x) (hp : P x = true) : DelAt P xs ys i (j + 1) := by
  refine ⟨h.len, ?_, ?_, Nat.le_succ_of_le h.le⟩
  · rw [take_snoc (h.get hx), List.filter_append, h.front]
    simp [keepB, hp]
  · have h1 := congrArg (List.drop 1) h.rest
    rw [List.drop_drop, List.drop_drop] at h1
    exact h1
theorem DelAt.put {P : IdV → Bool} {xs ys : List IdV} {i j : Nat} (h : DelAt P xs ys i j) (hij : i < j) {x : IdV} (hx : ys[j]? = some x) (hp : P x = false) : DelAt P xs (ys.set i x) (i + 1) (j + 1) := by
  have hi : i < ys.length := by have := lt_of_get hx; omega
  refine ⟨by rw [List.length_set, h.len], ?_, ?_, by omega⟩
  · rw [take_snoc (h.get hx), List.filter_append, ← h.front, List.take_set, take_snoc (x := ys[i]) (List.getElem?_eq_getElem hi)]
    have hl : (ys.take i).length = i := by rw [List.length_take]; omega
    rw [List.set_append_right _ _ (by omega), hl, Nat.sub_self]
    simp [keepB, hp]
  · rw [List.drop_set_of_lt (by omega)]
    have h1 := congrArg (List.drop 1) h.rest
    rw [List.drop_drop, List.drop_drop] at h1
    exact h1
def GivesDel (P : IdV → Bool) (xs : List IdV) (B g cap : Nat) (w0 : World) (cs : List Chunk) (e : Ending) (w' : World) : Prop :=
  e = .returned (.slice (some ⟨g, 0, none⟩) (xs.filter (keepB P)).length cap) ∧ Mem w0 w' (.own rId B 29 (.slice (some ⟨g, 0, none⟩) (xs.filter (keepB P)).length cap) (xs.filter (keepB P)) :: cs)
end Go.Proofs.YthmkphmciiiagaaGreatDoor

/- What the condition of consent.Audience returns. -/
namespace Go.Proofs.YthmkphmciiiagaaGreatDoor
open Go Go.RowKit
theorem fieldMay (m : Bool) (y n : Int) (w : World) : (Instr.field 105 (.agg #[.bool m, .int .i64 y, .int .i64 n]) 0).run Tryz.prog w = .ok (.bool m) w := by
  have u48 := Tryz.underlying105
  have a4 := Tryz.isAgg4
  simp only [Instr.field, run_underlying u48, Sem.run_bind, Result.andThen_ok]
  go_simp
  simp [asAgg]
end Go.Proofs.YthmkphmciiiagaaGreatDoor
