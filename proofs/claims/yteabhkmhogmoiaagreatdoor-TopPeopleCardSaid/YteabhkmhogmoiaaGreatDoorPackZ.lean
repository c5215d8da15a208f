/- Several texts in one: ZoneLaw, Zone, Odd, GenZone, Clock, Local. -/
import Derived.Test.YteabhkmhogmoiaaGreatDoorPackW
import Derived.Test.YteabhkmhogmoiaaGreatDoorPackB
import Derived.Test.YteabhkmhogmoiaaGreatDoorPackM
import Derived.WalkLawsBesides
import Derived.OneCell
import Derived.RangeFuncNested
import Derived.RangeFuncBound
import Derived.RangeFuncCalls
import Derived.RangeFuncLeaves
import Derived.RangeFuncBox
import Derived.Shelf.Abstract
import Derived.Shelf.RegionOpen
import Derived.WalkKit
import Derived.OwnWalkIn
import Derived.TacticsInMore
import Derived.LoopNIn
import Derived.LoopIn
/- The plain law of zones: what clocks show, and when they first show a minute. No program in sight. -/
namespace Go.Proofs.YteabhkmhogmoiaaGreatDoor
structure Sft where
  at' : Int
  off : Int
def shiftsGo (prev : Option Int) : List Sft → Int
  | [] => 0
  | s :: r => if ¬ ((0 ≤ s.at' ∧ s.at' ≤ 4321439) ∧ (-720 ≤ s.off ∧ s.off ≤ 840)) then 1 else if prev = none ∧ s.at' ≠ 0 then 3 else
    if prev.any (fun p => decide (s.at' < p + 1800)) then 7 else shiftsGo (some s.at') r
def zoneFault (nm : ByteArray) (xs : List Sft) : Int := if L.isKey nm = false then 5 else if xs.length = 0 then 3 else if 100 < xs.length then 2 else shiftsGo none xs
def clk (xs : List Sft) (m : Int) : Int := xs.foldl (fun a s => if s.at' ≤ m then m + s.off else a) m
structure GoodZ (xs : List Sft) : Prop where
  ne : 1 ≤ xs.length
  len : xs.length ≤ 100
  rng : ∀ s ∈ xs, (0 ≤ s.at' ∧ s.at' ≤ 4321439) ∧ (-720 ≤ s.off ∧ s.off ≤ 840)
  zero : ∀ s : Sft, xs[0]? = some s → s.at' = 0
  rise : ∀ (i j : Nat) (s t : Sft), i < j → xs[i]? = some s → xs[j]? = some t → s.at' < t.at'
def FirstAt (xs : List Sft) (lo T m : Int) : Prop := lo ≤ m ∧ m < 4321440 ∧ T ≤ clk xs m ∧ ∀ k, lo ≤ k → k < m → clk xs k < T
def NoneAt (xs : List Sft) (lo T : Int) : Prop := ∀ k, lo ≤ k → k < 4321440 → clk xs k < T
theorem FirstAt.one {xs : List Sft} {lo T m n : Int} (h : FirstAt xs lo T m) (k : FirstAt xs lo T n) : m = n := by
  obtain ⟨a1, a2, a3, a4⟩ := h
  obtain ⟨b1, b2, b3, b4⟩ := k
  rcases Int.lt_trichotomy m n with h | h | h
  · have := b4 m a1 h; omega
  · exact h
  · have := a4 n b1 h; omega
theorem FirstAt.no {xs : List Sft} {lo T m : Int} (h : FirstAt xs lo T m) (k : NoneAt xs lo T) : False := by
  have := k m h.1 h.2.1
  have := h.2.2.1
  omega
def endOf : List Sft → Int
  | [] => 4321440
  | t :: _ => t.at'
def reachGo (T : Int) : List Sft → Option Int
  | [] => none
  | s :: r => if max 0 (max s.at' (T - s.off)) < endOf r then some (max 0 (max s.at' (T - s.off))) else reachGo T r
end Go.Proofs.YteabhkmhogmoiaaGreatDoor

/- What event.within and event.CheckZone return. -/
namespace Go.Proofs.YteabhkmhogmoiaaGreatDoor
open Go.RowKit
def Sft.cells (s : Sft) : List Value := [.int .i64 s.at', .int .i64 s.off]
def rSft : Rep Sft := .flat 2 Sft.cells (fun _ => rfl)
theorem Sl.sft {N : Nat → Prop} {w : World} {A : Option Addr} {xs : List Sft} (h : Sl rSft N w A xs) (k : Nat) (s : Sft) (hk : xs[k]? = some s) : ∃ blk off, A = some ⟨blk, off, none⟩ ∧ blk < w.heap.size ∧
    w.cell? ⟨blk, off + k * 2, none⟩ = some (.int .i64 s.at') ∧ w.cell? ⟨blk, off + k * 2 + 1, none⟩ = some (.int .i64 s.off) := by
  obtain ⟨blk, off, l, e, h1, _, h3, h4⟩ := h k s hk
  obtain rfl : l = Sft.cells s := h3
  exact ⟨blk, off, e, h1, h4 0 _ rfl, h4 1 _ rfl⟩
def Sft.small (s : Sft) : Prop := -10000000000000 ≤ s.at' ∧ s.at' ≤ 10000000000000
theorem ewithin_any (n a b : Int) (w : World) : Calls Tryz.prog 247 #[.int .i64 n, .int .i64 a, .int .i64 b] w fun e w' => e = .returned (.bool (decide (a ≤ n ∧ n ≤ b))) ∧ w = w' := by
  by_cases h1 : a ≤ n <;> by_cases h2 : n ≤ b
  all_goals
    simp only [h1, h2, and_true, and_false, decide_true, decide_false]
    go_enter Tryz.func247, Tryz.ntmps247
    go_wp2
    go_ret
    exact ⟨rfl, rfl⟩
end Go.Proofs.YteabhkmhogmoiaaGreatDoor

/- What the generator odd makes. -/
namespace Go.Proofs.YteabhkmhogmoiaaGreatDoor
open Go.RowKit
set_option maxHeartbeats 1000000 in
theorem odd_any (b m : Nat) (lo hi : Int) (w : World) (hs : Strm b m w) (h : lo ≤ hi) (hlo : -1000000000000 ≤ lo) (hhi : hi ≤ 1000000000000) (hm : m ≤ 100000000000) :
    Calls Tryz.prog 87 #[.pointer (some ⟨b, 0, none⟩), .int .i64 lo, .int .i64 hi] w (DrawsIn b (m + 2) (-1099511627776) 1099511627776 w) := by
  have g0 := G.start hs
  clear hs
  go_enter Tryz.func87, Tryz.ntmps87
  go_wp2_with fail
  ((with_reducible refine (flip_any b m _ _ g0.s (by omega) (by omega) (by omega)).mono ?_); rintro e w1 ⟨r, rfl, hk_w1, hs_w1⟩)
  have g1 := g0.step hk_w1 hs_w1
  clear hk_w1 hs_w1 g0
  cases r
  · go_wp2_with fail
    ((with_reducible refine (range_any b (m + 1) _ _ _ g1.s (by omega) (by omega) (by omega) (by omega)).mono ?_); rintro e w2 ⟨n, n_lo, n_hi, rfl, hk_w2, hs_w2⟩)
    have g2 := g1.step hk_w2 hs_w2
    go_wp2_with fail
    go_ret
    exact ⟨n, by omega, by omega, rfl, g2.k, g2.s⟩
  · go_wp2_with fail
    ((with_reducible refine (pick_le b _ _ _ (-1099511627776) 1099511627776 g1.s (by simp) (by simp) (by repeat (first | exact intsIn_nil | refine intsIn_cons (by omega) ?_)) (by simp) (by simp) (by omega)).mono ?_); rintro e w2 ⟨n, n_lo, n_hi, rfl, hk_w2, hs_w2⟩)
    have g2 := g1.step hk_w2 hs_w2
    go_wp2_with fail
    go_ret
    exact ⟨n, by omega, by omega, rfl, g2.k, g2.s⟩
end Go.Proofs.YteabhkmhogmoiaaGreatDoor

/- What the generators odd, RightZone and Zone make. -/
namespace Go.Proofs.YteabhkmhogmoiaaGreatDoor
open Go.RowKit
theorem LV.grown {w w' : World} {X : Nat} {cs : Array Value} {T : TypeId} {row : Option Nat} (h : LV w X cs T) (g : w.grownBy w' row) (hne : row ≠ some X) : LV w' X cs T := (g.block X h.lt (fun e => hne e.symm)).trans h
section
variable {α : Type} {r : Rep α} {N : Nat → Prop} {B E : Nat} {w : World} {v : Value} {xs : List α}
theorem Own.ne {X : Nat} {cs : Array Value} {T : TypeId} (h : Own r N B E w v xs) (l : LV w X cs T) (hT : T ≠ E) : v.ownBlock ≠ some X := by
  obtain ⟨ls, _, _, ho⟩ := h
  intro e
  rcases ho.2 with ⟨rfl, _⟩ | ⟨g, cap, cur, rfl, _, hg, _⟩
  · cases e
  · obtain rfl : g = X := by simpa [Value.ownBlock] using e
    unfold LV at l
    rw [l] at hg
    cases hg
    exact hT rfl
theorem Own.base {B' : Nat} (h : Own r N B E w v xs) (hb : B' ≤ B) : Own r N B' E w v xs := by
  obtain ⟨ls, h1, h2, ho⟩ := h
  refine ⟨ls, h1, h2, ho.1, ?_⟩
  rcases ho.2 with h0 | ⟨g, cap, cur, e, hB, hrest⟩
  · exact .inl h0
  · exact .inr ⟨g, cap, cur, e, by omega, hrest⟩
theorem Own.setCell {f : α → List Value} {X : Nat} (h : Own r N B E w v xs) (hne : v.ownBlock ≠ some X) (hf : r.Flat f) (j : Nat) (u : Value) : Own r N B E (w.setCell ⟨X, j, none⟩ u) v xs := by
  obtain ⟨ls, h1, h2, ho⟩ := h
  exact ⟨ls, h1, fun i x l e1 e2 => (hf _ _ _ _).2 ((hf _ _ _ _).1 (h2 i x l e1 e2)), ownsRow_setCell_other ho (by simpa using hne) u⟩
theorem Own.lit {f : α → List Value} (hf : r.Flat f) (w0 : World) (cs : Array Value) (n : Nat) (hb : B ≤ w0.heap.size) (hn : n = xs.length) (hm : n ≤ 1000000) (hcs : cs.toList = (xs.map f).flatten) (hs : cs.size = n * r.size) :
    Own r N B E (w0.alloc (.cells cs E)) (.slice (some ⟨w0.heap.size, 0, none⟩) n n) xs := by
  subst hn
  refine ⟨xs.map f, by simp, fun i x l h1 h2 => (hf _ _ _ _).2 ?_, ?_⟩
  · rw [List.getElem?_map, h1] at h2
    exact (Option.some.inj h2).symm
  · have := World.ownsRow_lit (base := B) (e := E) (size := r.size) w0 cs xs.length hb (by unfold maxLen; omega) hs
    rw [hcs] at this
    exact this
end
section
variable {ops : Array Oper} {rest : List Oper} {o : Oper} {a : Act} {Q : Exit → Act → World → Prop}
end
theorem off_ge' {b B : Nat} (h : b < B) : ∀ k, B ≤ k → ¬ Off b k := fun k hk e => by unfold Off at e; omega
theorem Own.stepB {α : Type} {r : Rep α} {b B E : Nat} {w w' : World} {v : Value} {xs : List α} (h : Own r (Off b) B E w v xs) (k : SK b w w') (hb : b < B) : Own r (Off b) B E w' v xs := h.keep k.n (off_ge' hb)
theorem Own.alloc {α : Type} {r : Rep α} {b B E : Nat} {w : World} {v : Value} {xs : List α} (h : Own r (Off b) B E w v xs) (o : Obj) (hb : b < B) : Own r (Off b) B E (w.alloc o) v xs := h.stepB ((SK.refl b w).alloc o) hb
end Go.Proofs.YteabhkmhogmoiaaGreatDoor

/- What slices.Backward over shifts hands out, and what handref2.Clock returns. -/
namespace Go.Proofs.YteabhkmhogmoiaaGreatDoor
open Go.RowKit Go.Shelf
attribute [local go_sem] Oper.semAt_some

def back (xs : List Sft) (k : Nat) : List (Nat × Sft) := (List.range k).map fun j => (xs.length - 1 - j, (xs[xs.length - 1 - j]?).getD ⟨0, 0⟩)
theorem back_succ (xs : List Sft) (k : Nat) : back xs (k + 1) = back xs k ++ [(xs.length - 1 - k, (xs[xs.length - 1 - k]?).getD ⟨0, 0⟩)] := by simp [back, List.range_succ]
theorem back_len (xs : List Sft) (k : Nat) : (back xs k).length = k := by simp [back]
def SftsIn (n₀ : Nat) (W : World) (A : Option Addr) (xs : List Sft) : Prop := ∀ (k : Nat) (s : Sft), xs[k]? = some s → ∃ blk off, A = some ⟨blk, off, none⟩ ∧ blk < n₀ ∧
  W.cell? ⟨blk, off + k * 2, none⟩ = some (.int .i64 s.at') ∧ W.cell? ⟨blk, off + k * 2 + 1, none⟩ = some (.int .i64 s.off)
theorem SftsIn.below {n₀ : Nat} {W W' : World} {A : Option Addr} {xs : List Sft} (h : SftsIn n₀ W A xs) (k : Below n₀ W W') : SftsIn n₀ W' A xs := fun i s hs => by
  obtain ⟨blk, off, e, h1, h2, h3⟩ := h i s hs
  exact ⟨blk, off, e, h1, (k.cell (p := ⟨blk, off + i * 2, none⟩) h1).trans h2, (k.cell (p := ⟨blk, off + i * 2 + 1, none⟩) h1).trans h3⟩
theorem Sl.inw {N : Nat → Prop} {w : World} {A : Option Addr} {xs : List Sft} (h : Sl rSft N w A xs) : SftsIn w.heap.size w A xs := fun i s hs => h.sft i s hs
def Past (m : Int) (pre : List (Nat × Sft)) : Prop := ∀ p ∈ pre, m < p.2.at'
theorem Past.snoc {m : Int} {pre : List (Nat × Sft)} (h : Past m pre) (i : Nat) (s : Sft) (hs : m < s.at') : Past m (pre ++ [(i, s)]) := fun p hp => by
  rcases List.mem_append.1 hp with h' | h'
  · exact h p h'
  · rw [List.mem_singleton.1 h']; exact hs
def LeftAt (m : Int) (pre : List (Nat × Sft)) (R : Nat) (W : World) : Prop := ∃ ini last, pre = ini ++ [last] ∧ (∀ p ∈ ini, m < p.2.at') ∧ last.2.at' ≤ m ∧ LV W R #[.int .i64 (wrap64 (m + last.2.off))] 3
theorem lv_kept {A B : World} {row : Option Nat} {X : Nat} {cs : Array Value} {T : TypeId} (h : LV A X cs T) (hg : A.grownBy B row) (hr : ∀ r, row = some r → ∃ o : Obj, A.heap[r]? = some o ∧ o.isCells = false) : LV B X cs T := by
  refine (hg.block X h.lt (fun e => ?_)).trans h
  obtain ⟨o, ho, hc⟩ := hr X e.symm
  unfold LV at h
  rw [h] at ho
  cases ho
  cases hc

end Go.Proofs.YteabhkmhogmoiaaGreatDoor

/- What event.LocalAt, DayAt, Local and Day, and handref2.down and DayOf return. -/
namespace Go.Proofs.YteabhkmhogmoiaaGreatDoor
open Go.RowKit
def GivesCut (xs : List Sft) (m : Int) (w : World) (e : Ending) (w' : World) : Prop :=
  ∃ i : Nat, e = .returned (.int .i64 (i : Int)) ∧ i ≤ xs.length ∧ (∀ (p : Nat) (s : Sft), p < i → xs[p]? = some s → s.at' ≤ m) ∧ (∀ (p : Nat) (s : Sft), i ≤ p → xs[p]? = some s → m < s.at') ∧ Below w.heap.size w w'
end Go.Proofs.YteabhkmhogmoiaaGreatDoor
