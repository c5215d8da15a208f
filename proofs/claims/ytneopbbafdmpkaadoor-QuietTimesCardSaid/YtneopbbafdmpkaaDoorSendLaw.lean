/- The plain law of rules for sending, and how they lie in memory. -/
import Derived.Test.YtneopbbafdmpkaaDoorRep
import Derived.Test.YtneopbbafdmpkaaDoorPreds
import Derived.Test.YtneopbbafdmpkaaDoorShelf
namespace Go.Proofs.YtneopbbafdmpkaaDoor
open Go.RowKit
structure SCap where
  channel : Int
  purpose : ByteArray
  many : Int
  within : Int
structure SPool where
  name : ByteArray
  channel : Int
  per : Int
  first : Int
  warm : List Int
structure SRules where
  quiet : List Int
  qfrom : Int
  qto : Int
  ranks : List ByteArray
  caps : List SCap
  pools : List SPool
  delays : List Int
def SCap.cells (c : SCap) : List Value := [.int .i64 c.channel, .string c.purpose, .int .i64 c.many, .int .i64 c.within]
def rCap : Rep SCap := .flat 4 SCap.cells (fun _ => rfl)
def SPool.cells (p : SPool) : List Value := [.string p.name, .int .i64 p.channel, .int .i64 p.per, .int .i64 p.first]
def rPool : Rep SPool := ((Rep.flat 4 SPool.cells (fun _ => rfl)).app rInt.list).via (fun p => (p, p.warm))
def isCh (n : Int) : Bool := decide (1 ≤ n ∧ n ≤ 4)
def quietGo (prev : Option Int) : List Int → Int
  | [] => 0
  | c :: r => if isCh c = false then 4 else if prev.any (fun p => decide (c ≤ p)) then 7 else quietGo (some c) r
def ranksGo (seen : List ByteArray) : List ByteArray → Int
  | [] => 0
  | s :: r => if L.isKey s = false then 5 else if Lib.containsS seen s = true then 6 else ranksGo (seen ++ [s]) r
def noneOr (s : ByteArray) : Bool := (s.toList == []) || L.isKey s
def capsGo : List SCap → Int
  | [] => 0
  | c :: r => if ¬ (c.channel = 0 ∨ isCh c.channel = true) then 4 else if noneOr c.purpose = false then 5 else if ¬ ((1 ≤ c.many ∧ c.many ≤ 1000) ∧ (1 ≤ c.within ∧ c.within ≤ 100000)) then 1 else capsGo r
def capsFault (l : List SCap) : Int := if 20 < l.length then 2 else capsGo l
def poolF (seen : List SPool) (p : SPool) : Int :=
  if L.isKey p.name = false then 5 else if seen.any (fun q => q.name.toList == p.name.toList) then 6 else if isCh p.channel = false then 4 else if ¬ ((1 ≤ p.per ∧ p.per ≤ 10000) ∧ (0 ≤ p.first ∧ p.first ≤ 3000)) then 1 else
    if 60 < p.warm.length then 2 else if p.warm.any (fun n => !(decide (0 ≤ n ∧ n ≤ 1000000))) then 1 else 0
def poolsGo (seen : List SPool) : List SPool → Int
  | [] => 0
  | p :: r => if poolF seen p ≠ 0 then poolF seen p else poolsGo (seen ++ [p]) r
def poolsFault (l : List SPool) : Int := if 10 < l.length then 2 else poolsGo [] l
def delaysFault (l : List Int) : Int := if 10 < l.length then 2 else if l.any (fun n => !(decide (1 ≤ n ∧ n ≤ 100000))) then 1 else 0
def rulesFault (r : SRules) : Int :=
  if quietGo none r.quiet ≠ 0 then quietGo none r.quiet else if ¬ ((0 ≤ r.qfrom ∧ r.qfrom ≤ 1439) ∧ (0 ≤ r.qto ∧ r.qto ≤ 1439)) then 1 else if 30 < r.ranks.length then 2 else
    if ranksGo [] r.ranks ≠ 0 then ranksGo [] r.ranks else if capsFault r.caps ≠ 0 then capsFault r.caps else if poolsFault r.pools ≠ 0 then poolsFault r.pools else delaysFault r.delays
/-- where a test first holds -/
def idxGo {α : Type} (p : α → Bool) (k : Nat) : List α → Int
  | [] => -1
  | x :: r => if p x = true then k else idxGo p (k + 1) r
theorem idxGo_any {α : Type} (p : α → Bool) : ∀ (l : List α) (k : Nat), decide (0 ≤ idxGo p k l) = l.any p
  | [], k => by simp [idxGo]
  | x :: r, k => by
    rw [idxGo]
    by_cases h : p x = true
    · simp [h]
    · have h' : p x = false := by simpa using h
      rw [if_neg h, idxGo_any p r (k + 1)]
      simp [h']
/-- the cells of a pool in a slice -/
theorem Sl.pool {N : Nat → Prop} {w : World} {A : Option Addr} {xs : List SPool} (h : Sl rPool N w A xs) (k : Nat) (p : SPool) (hk : xs[k]? = some p) : ∃ blk off Aw cw, A = some ⟨blk, off, none⟩ ∧ blk < w.heap.size ∧
    w.cell? ⟨blk, off + k * 5, none⟩ = some (.string p.name) ∧ w.cell? ⟨blk, off + k * 5 + 1, none⟩ = some (.int .i64 p.channel) ∧ w.cell? ⟨blk, off + k * 5 + 2, none⟩ = some (.int .i64 p.per) ∧ w.cell? ⟨blk, off + k * 5 + 3, none⟩ = some (.int .i64 p.first) ∧
    w.cell? ⟨blk, off + k * 5 + 4, none⟩ = some (.slice Aw p.warm.length cw) ∧ Sl rInt N w Aw p.warm := by
  obtain ⟨blk, off, l, e, h1, _, h3, h4⟩ := h k p hk
  obtain ⟨l1, l2, rfl, e1, Aw, cw, rfl, hs⟩ := h3
  obtain rfl : l1 = SPool.cells p := e1
  exact ⟨blk, off, Aw, cw, e, h1, h4 0 _ rfl, h4 1 _ rfl, h4 2 _ rfl, h4 3 _ rfl, h4 4 _ rfl, hs⟩
theorem Sl.cap {N : Nat → Prop} {w : World} {A : Option Addr} {xs : List SCap} (h : Sl rCap N w A xs) (k : Nat) (c : SCap) (hk : xs[k]? = some c) : ∃ blk off, A = some ⟨blk, off, none⟩ ∧ blk < w.heap.size ∧
    w.cell? ⟨blk, off + k * 4, none⟩ = some (.int .i64 c.channel) ∧ w.cell? ⟨blk, off + k * 4 + 1, none⟩ = some (.string c.purpose) ∧ w.cell? ⟨blk, off + k * 4 + 2, none⟩ = some (.int .i64 c.many) ∧ w.cell? ⟨blk, off + k * 4 + 3, none⟩ = some (.int .i64 c.within) := by
  obtain ⟨blk, off, l, e, h1, _, h3, h4⟩ := h k c hk
  obtain rfl : l = SCap.cells c := h3
  exact ⟨blk, off, e, h1, h4 0 _ rfl, h4 1 _ rfl, h4 2 _ rfl, h4 3 _ rfl⟩
theorem Sl.int {N : Nat → Prop} {w : World} {A : Option Addr} {xs : List Int} (h : Sl rInt N w A xs) (k : Nat) (c : Int) (hk : xs[k]? = some c) : ∃ blk off, A = some ⟨blk, off, none⟩ ∧ blk < w.heap.size ∧ w.cell? ⟨blk, off + k, none⟩ = some (.int .i64 c) := by
  obtain ⟨blk, off, l, e, h1, _, h3, h4⟩ := h k c hk
  obtain rfl : l = [.int .i64 c] := h3
  have := h4 0 _ rfl
  exact ⟨blk, off, e, h1, by simpa [rInt, Rep.flat] using this⟩
theorem Sl.str {N : Nat → Prop} {w : World} {A : Option Addr} {xs : List ByteArray} (h : Sl rStr N w A xs) (k : Nat) (c : ByteArray) (hk : xs[k]? = some c) : ∃ blk off, A = some ⟨blk, off, none⟩ ∧ blk < w.heap.size ∧ w.cell? ⟨blk, off + k, none⟩ = some (.string c) := by
  obtain ⟨blk, off, l, e, h1, _, h3, h4⟩ := h k c hk
  obtain rfl : l = [.string c] := h3
  have := h4 0 _ rfl
  exact ⟨blk, off, e, h1, by simpa [rStr, Rep.flat] using this⟩
theorem Sl.block {α : Type} {r : Rep α} {N : Nat → Prop} {w : World} {A : Option Addr} {x : α} {xs : List α} (h : Sl r N w A (x :: xs)) : ∃ blk off, A = some ⟨blk, off, none⟩ := by
  obtain ⟨blk, off, l, e, _⟩ := h 0 x rfl
  exact ⟨blk, off, e⟩
theorem drop_at3 {α : Type} {xs : List α} {k : Nat} {s : α} (h : xs[k]? = some s) : xs.drop k = s :: xs.drop (k + 1) := by
  obtain ⟨hlt, rfl⟩ := List.getElem?_eq_some_iff.1 h
  exact List.drop_eq_getElem_cons hlt
theorem LV.kb3 {w w' : World} {X B : Nat} {cs : Array Value} {T : TypeId} (h : LV w X cs T) (k : Below B w w') (hb : X < B) : LV w' X cs T := (k.block X hb).trans h
/-- slices.Contains of numbers -/
theorem containsInt_any (N : Nat → Prop) (A : Option Addr) (xs : List Int) (c n : Nat) (x : Int) (w : World) (hS : Sl rInt N w A xs) (hn : n ≤ xs.length) (hl : xs.length ≤ 1000000) :
    Calls Tryd.prog 40 #[.slice A n c, .int .i64 x] w fun e w' => e = .returned (.bool ((xs.take n).contains x)) ∧ w = w' := by
  cases n with
  | zero => exact (Tryd.slices_Contains_int_empty A c x w).mono fun e w' ⟨h1, h2⟩ => ⟨by rw [h1]; simp, h2.symm⟩
  | succ n =>
    obtain ⟨blk, off, rfl, _, _⟩ := hS.int 0 xs[0] (List.getElem?_eq_getElem (by omega))
    refine (Tryd.slices_Contains_int blk off (n + 1) c xs x w hn (by omega) (fun j hj => ?_)).mono fun e w' ⟨h1, h2⟩ => ⟨h1, h2.symm⟩
    obtain ⟨_, _, e, _, hc⟩ := hS.int j xs[j] (List.getElem?_eq_getElem hj)
    cases e
    rw [hc]
    simp [hj]
theorem containsStr_any (N : Nat → Prop) (A : Option Addr) (xs : List ByteArray) (c n : Nat) (x : ByteArray) (w : World) (hS : Sl rStr N w A xs) (hn : n ≤ xs.length) (hl : xs.length ≤ 1000000) :
    Calls Tryd.prog 34 #[.slice A n c, .string x] w fun e w' => e = .returned (.bool (Lib.containsS (xs.take n) x)) ∧ w = w' := by
  cases n with
  | zero => exact (Tryd.slices_Contains_string_empty A c x w).mono fun e w' ⟨h1, h2⟩ => ⟨by rw [h1]; rfl, h2.symm⟩
  | succ n =>
    obtain ⟨blk, off, rfl, _, _⟩ := hS.str 0 xs[0] (List.getElem?_eq_getElem (by omega))
    refine (Tryd.slices_Contains_string blk off (n + 1) c xs x w hn (by omega) (fun j hj => ?_)).mono fun e w' ⟨h1, h2⟩ => ⟨h1, h2.symm⟩
    obtain ⟨_, _, e, _, hc⟩ := hS.str j xs[j] (List.getElem?_eq_getElem hj)
    cases e
    rw [hc]
    simp [hj]
end Go.Proofs.YtneopbbafdmpkaaDoor
