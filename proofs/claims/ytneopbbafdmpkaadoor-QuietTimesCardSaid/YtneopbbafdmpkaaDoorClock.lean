/- What slices.Backward over shifts hands out, and what handref2.Clock returns. -/
import Derived.RangeFuncNested
import Derived.RangeFuncBound
import Derived.RangeFuncCalls
import Derived.RangeFuncLeaves
import Derived.RangeFuncBox
import Derived.Shelf.Abstract
import Derived.Shelf.RegionOpen
import Derived.WalkKit
import Derived.OwnWalkIn
import Derived.TacticsInMore
import Derived.LoopNIn
import Derived.LoopIn
import Derived.Test.YtneopbbafdmpkaaDoorZone
namespace Go.Proofs.YtneopbbafdmpkaaDoor
open Go.RowKit Go.Shelf
attribute [local go_sem] Oper.semAt_some

/-- what has come when k rounds are over -/
def back (xs : List Sft) (k : Nat) : List (Nat × Sft) := (List.range k).map fun j => (xs.length - 1 - j, (xs[xs.length - 1 - j]?).getD ⟨0, 0⟩)
theorem back_succ (xs : List Sft) (k : Nat) : back xs (k + 1) = back xs k ++ [(xs.length - 1 - k, (xs[xs.length - 1 - k]?).getD ⟨0, 0⟩)] := by simp [back, List.range_succ]
theorem back_len (xs : List Sft) (k : Nat) : (back xs k).length = k := by simp [back]
/-- the slice at A reads as xs, below n₀ -/
def SftsIn (n₀ : Nat) (W : World) (A : Option Addr) (xs : List Sft) : Prop := ∀ (k : Nat) (s : Sft), xs[k]? = some s → ∃ blk off, A = some ⟨blk, off, none⟩ ∧ blk < n₀ ∧
  W.cell? ⟨blk, off + k * 2, none⟩ = some (.int .i64 s.at') ∧ W.cell? ⟨blk, off + k * 2 + 1, none⟩ = some (.int .i64 s.off)
theorem SftsIn.below {n₀ : Nat} {W W' : World} {A : Option Addr} {xs : List Sft} (h : SftsIn n₀ W A xs) (k : Below n₀ W W') : SftsIn n₀ W' A xs := fun i s hs => by
  obtain ⟨blk, off, e, h1, h2, h3⟩ := h i s hs
  exact ⟨blk, off, e, h1, (k.cell (p := ⟨blk, off + i * 2, none⟩) h1).trans h2, (k.cell (p := ⟨blk, off + i * 2 + 1, none⟩) h1).trans h3⟩
theorem Sl.inw {N : Nat → Prop} {w : World} {A : Option Addr} {xs : List Sft} (h : Sl rSft N w A xs) : SftsIn w.heap.size w A xs := fun i s hs => h.sft i s hs
def Past (m : Int) (pre : List (Nat × Sft)) : Prop := ∀ p ∈ pre, m < p.2.at'
theorem Past.snoc {m : Int} {pre : List (Nat × Sft)} (h : Past m pre) (i : Nat) (s : Sft) (hs : m < s.at') : Past m (pre ++ [(i, s)]) := fun p hp => by
  rcases List.mem_append.1 hp with h' | h'
  · exact h p h'
  · rw [List.mem_singleton.1 h']; exact hs
def LeftAt (m : Int) (pre : List (Nat × Sft)) (R : Nat) (W : World) : Prop := ∃ ini last, pre = ini ++ [last] ∧ (∀ p ∈ ini, m < p.2.at') ∧ last.2.at' ≤ m ∧ LV W R #[.int .i64 (wrap64 (m + last.2.off))] 3
theorem lv_kept {A B : World} {row : Option Nat} {X : Nat} {cs : Array Value} {T : TypeId} (h : LV A X cs T) (hg : A.grownBy B row) (hr : ∀ r, row = some r → ∃ o : Obj, A.heap[r]? = some o ∧ o.isCells = false) : LV B X cs T := by
  refine (hg.block X h.lt (fun e => ?_)).trans h
  obtain ⟨o, ho, hc⟩ := hr X e.symm
  unfold LV at h
  rw [h] at ho
  cases ho
  cases hc

set_option maxRecDepth 100000 in
set_option maxHeartbeats 4000000 in
theorem back1_in (F : Fence) (n : Nat) (hf : F.fn 66) (hro : F.round = none) (hn : 1 ≤ n) (l Bs n₀ cap : Nat) (A : Option Addr) (xs : List Sft) (hlen : xs.length ≤ 1000000) (hBs : Bs < n₀) (J Jx : List (Nat × Sft) → World → Prop)
    (hY : ∀ pre x W, J pre W → pre.length < xs.length → YieldAt F (n - 1) Tryd.prog l #[.int .i64 (x.1 : Int), .agg #[.int .i64 x.2.at', .int .i64 x.2.off]] W fun e W' =>
      (e = .returned (.bool true) ∧ J (pre ++ [x]) W' ∧ Below n₀ W W') ∨ (e = .returned (.bool false) ∧ Jx (pre ++ [x]) W'))
    (W : World) (hc : W.cell? ⟨Bs, 0, none⟩ = some (.slice A xs.length cap)) (hS : SftsIn n₀ W A xs) (h0 : J [] W) :
    CallsIn F n Tryd.prog 66 #[.func (.yield l) #[] #[], .pointer (some ⟨Bs, 0, none⟩)] W fun e W' => (∃ v, e = .returned v) ∧
      ((∃ ys, ys = back xs xs.length ∧ J ys W') ∨ (∃ pre, (∃ k, k ≤ xs.length ∧ pre = back xs k) ∧ Jx pre W')) := by
  have HS := Lib.hid hS
  clear hS
  refine callsIn_of_wp Tryd.func66 rfl hf ?_ hro
  simp only [Tryd.ntmps66, List.size_toArray, List.length_cons, List.length_nil, Nat.reduceAdd, Nat.reduceSub, Array.replicate_succ, Array.replicate_zero, List.push_toArray, List.append_toArray, List.nil_append, List.cons_append]
  gi_wp2
  gi_loopw [3] (fun i wr => ∃ j k : Nat, j + k = xs.length ∧ i = .int .i64 ((j : Int) - 1) ∧ J (back xs k) wr ∧ Below n₀ W wr)
    (fun i _ => (intOf i + 1).toNat)
  case atStart => exact ⟨xs.length, 0, rfl, rfl, h0, Below.refl _ _⟩
  case round =>
    obtain ⟨j, k, hjk, rfl, hJs, hnx⟩ := hrel
    have hcr := (hnx.cell (p := ⟨Bs, 0, none⟩) hBs).trans hc
    rcases j with _ | j
    · have e1 : ((0 : Nat) : Int) - 1 = -1 := rfl
      rw [e1]
      gi_wp2
      go_end0
      obtain rfl : k = xs.length := by omega
      exact ⟨⟨_, rfl⟩, .inl ⟨_, rfl, hJs⟩⟩
    · have e1 : ((j + 1 : Nat) : Int) - 1 = (j : Int) := by omega
      rw [e1]
      have hj : j < xs.length := by omega
      obtain ⟨s, hs⟩ : ∃ s, xs[j]? = some s := ⟨_, List.getElem?_eq_getElem hj⟩
      obtain ⟨blk, off, rfl, hblk, c0, c1⟩ := HS.out j s hs
      have d0 := (hnx.cell (p := ⟨blk, off + j * 2, none⟩) hblk).trans c0
      have d1 := (hnx.cell (p := ⟨blk, off + j * 2 + 1, none⟩) hblk).trans c1
      obtain ⟨fn, tmps, assign, body, hy, hR⟩ := hY _ (j, s) wr hJs (by rw [back_len]; omega)
      dsimp only at hy
      have Hb : Hid (back xs (k + 1) = back xs k ++ [(j, s)]) := by
        show _ = _
        rw [back_succ, show xs.length - 1 - k = j by omega, hs]
        rfl
      clear hs c0 c1 hc
      gi_wp2
      refine hR.mono ?_
      rintro e W3 (⟨rfl, hJ3, hk3⟩ | ⟨rfl, hJx3⟩)
      · gi_wp2
        go_roundw
        case rel => exact ⟨j, k + 1, by omega, rfl, by rw [Hb.out]; exact hJ3, hnx.trans hk3⟩
        case measure => simp [intOf]
      · gi_wp2
        refine bodyPost_ret (results_none rfl _ _ _) rfl ?_
        exact ⟨⟨_, rfl⟩, .inr ⟨_, ⟨k + 1, by omega, Hb.out.symm⟩, hJx3⟩⟩

set_option maxHeartbeats 1000000 in
theorem back_in (F : Fence) (n : Nat) (hf : F.fn 52) (hro : F.round = none) (a : Option Addr) (len cap : Nat) (w : World) :
    CallsIn F n Tryd.prog 52 #[.slice a len cap] w fun e w' => e = .returned (.func (.func 66) #[] #[.pointer (some ⟨w.heap.size, 0, none⟩)]) ∧ w' = w.alloc (.cells #[.slice a len cap] 49) := by
  refine callsIn_of_wp Tryd.func52 rfl hf ?_ hro
  simp only [Tryd.ntmps52, List.size_toArray, List.length_cons, List.length_nil, Nat.reduceAdd, Nat.reduceSub, Array.replicate_succ, Array.replicate_zero, List.push_toArray, List.append_toArray, List.nil_append, List.cons_append]
  gi_wp2
  go_ret
  exact ⟨rfl, rfl⟩

theorem back_stops (F : Fence) (n : Nat) (hf : F.fn 66) (hro : F.round = none) (hn : 1 ≤ n) (Bs n₀ cap : Nat) (A : Option Addr) (xs : List Sft) (hlen : xs.length ≤ 1000000) (w : World) (hBs : Bs < n₀) (hn₀ : n₀ ≤ w.heap.size)
    (hc : w.cell? ⟨Bs, 0, none⟩ = some (.slice A xs.length cap)) (hS : SftsIn n₀ w A xs) :
    SeqStopsK F n Tryd.prog 66 #[.pointer (some ⟨Bs, 0, none⟩)] (fun x : Nat × Sft => #[Value.int .i64 (x.1 : Int), .agg #[.int .i64 x.2.at', .int .i64 x.2.off]]) (Below n₀) (fun ys => ys = back xs xs.length)
      (fun pre => ∃ k, k ≤ xs.length ∧ pre = back xs k) xs.length w := fun l J Jx W hW _ _ hY h0 =>
  back1_in F n hf hro hn l Bs n₀ cap A xs hlen hBs J Jx hY W ((hW.cell (p := ⟨Bs, 0, none⟩) (by show Bs < _; omega)).trans hc) (hS.below (hW.mono hn₀)) h0

set_option maxRecDepth 100000 in
set_option maxHeartbeats 4000000 in
theorem clock_in (F : Fence) (n : Nat) (h13 : F.fn 39) (h31 : F.fn 52) (h47 : F.fn 66) (hro : F.round = none) (hn : 3 ≤ n) (nm : ByteArray) (A : Option Addr) (c : Nat) (xs : List Sft) (m : Int) (hlen : xs.length ≤ 1000000) (w : World) (hS : SftsIn w.heap.size w A xs) :
    CallsIn F n Tryd.prog 39 #[.agg #[.string nm, .slice A xs.length c], .int .i64 m] w fun e W' =>
      ((e = .returned (.int .i64 m) ∧ ∀ (j : Nat) (t : Sft), xs[j]? = some t → m < t.at') ∨ (∃ (k : Nat) (s : Sft), xs[k]? = some s ∧ e = .returned (.int .i64 (wrap64 (m + s.off))) ∧ s.at' ≤ m ∧ ∀ (j : Nat) (t : Sft), k < j → xs[j]? = some t → m < t.at')) ∧ Below w.heap.size w W' := by
  have h1 : 1 ≤ n := by omega
  refine callsIn_of_wp_marks Tryd.func39 rfl h13 ?_ hro
  simp only [Tryd.ntmps39, List.size_toArray, List.length_cons, List.length_nil, Nat.reduceAdd, Nat.reduceSub, Array.replicate_succ, Array.replicate_zero, List.push_toArray, List.append_toArray, List.nil_append, List.cons_append]
  gi_wp2_with (gi_at_call 52; refine (back_in F (n - 1) h31 hro _ _ _ _).mono ?_; rintro e w' ⟨rfl, rfl⟩)
  have bM := ((LV.new (w.alloc (.cells #[.string nm, .slice A xs.length c] 51)) (w.heap.size + 1) #[.int .i64 m] 3 (by simp)).alloc (.cells #[.int .i64 0] 3)).alloc (.cells #[.slice A xs.length c] 49)
  have bR := (LV.new ((w.alloc (.cells #[.string nm, .slice A xs.length c] 51)).alloc (.cells #[.int .i64 m] 3)) (w.heap.size + 1 + 1) #[.int .i64 0] 3 (by simp)).alloc (.cells #[.slice A xs.length c] 49)
  have bS := LV.new (((w.alloc (.cells #[.string nm, .slice A xs.length c] 51)).alloc (.cells #[.int .i64 m] 3)).alloc (.cells #[.int .i64 0] 3)) (w.heap.size + 1 + 1 + 1) #[.slice A xs.length c] 49 (by simp)
  have hB0 : Below w.heap.size w ((((w.alloc (.cells #[.string nm, .slice A xs.length c] 51)).alloc (.cells #[.int .i64 m] 3)).alloc (.cells #[.int .i64 0] 3)).alloc (.cells #[.slice A xs.length c] 49)) := ((((Below.refl _ w).alloc (Nat.le_refl _) _).alloc (by simp) _).alloc (by simp; omega) _).alloc (by simp; omega) _
  have hsz : ((((w.alloc (.cells #[.string nm, .slice A xs.length c] 51)).alloc (.cells #[.int .i64 m] 3)).alloc (.cells #[.int .i64 0] 3)).alloc (.cells #[.slice A xs.length c] 49)).heap.size = w.heap.size + 4 := by simp
  generalize (((w.alloc (.cells #[.string nm, .slice A xs.length c] 51)).alloc (.cells #[.int .i64 m] 3)).alloc (.cells #[.int .i64 0] 3)).alloc (.cells #[.slice A xs.length c] 49) = W0 at *
  have hS0 : SftsIn W0.heap.size W0 A xs := fun i s hs => by
    obtain ⟨blk, off, e, h1, h2, h3⟩ := hS i s hs
    exact ⟨blk, off, e, by omega, (hB0.cell (p := ⟨blk, off + i * 2, none⟩) h1).trans h2, (hB0.cell (p := ⟨blk, off + i * 2 + 1, none⟩) h1).trans h3⟩
  refine wpIn_rangeFunc_ownH hro h1 (gf := 66) (lb := #[.pointer (some ⟨w.heap.size + 1 + 1 + 1, 0, none⟩)]) rfl h47 (enters_of Tryd.func66 (by kernel_rfl) rfl)
    (back_stops F (n - 1) h47 hro (by omega) (w.heap.size + 1 + 1 + 1) W0.heap.size c A xs hlen W0 (by omega) (Nat.le_refl _) (bS.cell 0 _ rfl) hS0) belowK_t (belowK_b (Nat.le_refl _)) (Below.refl _ _) (fun _ => rfl)
    (fun pre W => (Past m pre ∧ LV W (w.heap.size + 1) #[.int .i64 m] 3 ∧ LV W (w.heap.size + 1 + 1) #[.int .i64 0] 3) ∧ Below W0.heap.size W0 W)
    (fun cc pre W => (cc = .ret ∧ LeftAt m pre (w.heap.size + 1 + 1) W) ∧ Below w.heap.size w W)
    (OwnFrom.and (Own.from (fun s A B row hs hg hr => ⟨hs.1, lv_kept hs.2.1 hg hr, lv_kept hs.2.2 hg hr⟩) _) (ownFrom_below (Nat.le_refl _) (Nat.le_refl _)))
    (fun cc => OwnFrom.and (Own.from (fun s A B row hs hg hr => by obtain ⟨hc, ini, last, e1, e2, e3, e4⟩ := hs; exact ⟨hc, ini, last, e1, e2, e3, lv_kept e4 hg hr⟩) _) (ownFrom_below (Nat.le_refl _) (by omega)))
    ⟨⟨(fun _ h => by cases h), bM, bR⟩, Below.refl _ _⟩
    (fun x a' W => ∃ Bx, w.heap.size + 1 + 1 < Bx ∧ LV W Bx #[.int .i64 x.2.at', .int .i64 x.2.off] 69 ∧ a' = { tmps := #[.agg #[.string nm, .slice A xs.length c], .int .i64 m, .pointer (some ⟨w.heap.size, 0, none⟩), .pointer (some ⟨w.heap.size + 1, 0, none⟩), .pointer (some ⟨w.heap.size + 1 + 1, 0, none⟩), undef, .pointer (some ⟨Bx, 0, none⟩), .pointer (some ⟨w.heap.size, 1, none⟩), .slice A xs.length c, .func (.func 66) #[] #[.pointer (some ⟨w.heap.size + 1 + 1 + 1, 0, none⟩)], .int .i64 (x.1 : Int), .agg #[.int .i64 x.2.at', .int .i64 x.2.off], undef, undef, undef, undef, undef, undef, undef, undef, undef], defers := [] })
    (fun x a' _ X Y row hs hg hr => by obtain ⟨Bx, h1, h2, h3⟩ := hs; exact ⟨Bx, h1, lv_kept h2 hg (fun r e => (hr r e).2), h3⟩)
    ?assign ?body ?done ?stop
  case assign =>
    rintro l pre x W K ⟨⟨hp, bM1, bR1⟩, hB1⟩ hK
    gi_wp2
    exact hK _ _ ((KeepsOthers.alloc _ _).from _) ((Below.refl _ W).alloc hB1.size _) ⟨⟨hp, bM1.alloc _, bR1.alloc _⟩, hB1.alloc hB1.size _⟩ ⟨W.heap.size, bR1.lt, LV.new W _ _ _ rfl, rfl⟩
  case body =>
    rintro l pre x a' W hl ⟨r, hr⟩ ⟨⟨hp, bM1, bR1⟩, hB1⟩ ⟨Bx, hBx, bX, rfl⟩ hlt
    obtain ⟨i, ⟨at', off⟩⟩ := x
    have x0 : W.cell? ⟨Bx, 0, none⟩ = some (.int .i64 at') := bX.cell 0 _ rfl
    have x1 : W.cell? ⟨Bx, 1, none⟩ = some (.int .i64 off) := bX.cell 1 _ rfl
    have m0 : W.cell? ⟨w.heap.size + 1, 0, none⟩ = some (.int .i64 m) := bM1.cell 0 _ rfl
    have r0 : W.cell? ⟨w.heap.size + 1 + 1, 0, none⟩ = some (.int .i64 0) := bR1.cell 0 _ rfl
    have rf := bR1.free 0
    have hBw : Below w.heap.size w W := hB0.trans (hB1.mono (by omega))
    gi_wp2
    · have hx : at' ≤ m := by assumption
      exact ⟨(KeepsOthers.setCell _ _ _).from _, ⟨rfl, ⟨pre, (i, ⟨at', off⟩), rfl, hp, hx, bR1.set 0 _ _ rfl⟩⟩, hBw.setCell (p := ⟨w.heap.size + 1 + 1, 0, none⟩) (by show w.heap.size ≤ w.heap.size + 1 + 1; omega) _⟩
    · have hx : m < at' := by assumption
      exact ⟨KeepsFrom.refl _ _, Below.refl _ _, ⟨hp.snoc i ⟨at', off⟩ hx, bM1, bR1⟩, hsz ▸ hB1⟩
  case done =>
    rintro D ys W hD rfl ⟨⟨hne, bM1, bR1⟩, hB1⟩ hK
    have m0 : W.cell? ⟨w.heap.size + 1, 0, none⟩ = some (.int .i64 m) := bM1.cell 0 _ rfl
    have r0 : W.cell? ⟨w.heap.size + 1 + 1, 0, none⟩ = some (.int .i64 0) := bR1.cell 0 _ rfl
    have rf := bR1.free 0
    have hBw : Below w.heap.size w W := hB0.trans (hB1.mono (by omega))
    gi_wp2
    have hK' := (KeepsOthers.setCell W ⟨w.heap.size + 1 + 1, 0, none⟩ (.int .i64 m)).same D _ hK rfl
    refine ⟨by simp, .inl ⟨_, _, rfl, run_takeDeferred hK', ?_⟩⟩
    have hc5 := cell_kept (World.cell?_setCell_same' W ⟨w.heap.size + 1 + 1, 0, none⟩ (.int .i64 m) (by rw [r0]; rfl)) (grownBy_putObj' _ D (.deferred none)) (fun r e => by cases e; exact ⟨_, hK', rfl⟩)
    refine ⟨.int .i64 m, ?_, .inl ⟨rfl, fun j t hj => ?_⟩, (hBw.setCell (p := ⟨w.heap.size + 1 + 1, 0, none⟩) (by show w.heap.size ≤ w.heap.size + 1 + 1; omega) _).trans (belowK_b (w := w) (Nat.le_refl _) _ D _ _ (by omega) hK' rfl rfl)⟩
    · simp [results, Tryd.f39, go_sem, hc5]
    · have hlt := (List.getElem?_eq_some_iff.1 hj).1
      refine hne (j, t) ?_
      simp only [back, List.mem_map, List.mem_range]
      refine ⟨xs.length - 1 - j, by omega, ?_⟩
      rw [show xs.length - 1 - (xs.length - 1 - j) = j by omega, hj]
      rfl
  case stop =>
    rintro D cc pre W hD ⟨k, hk, rfl⟩ ⟨⟨rfl, ini, last, e1, e2, e3, hcr⟩, hB⟩ hK
    gi_wp2
    refine ⟨by simp, .inl ⟨_, _, rfl, run_takeDeferred hK, ?_⟩⟩
    have hcr0 : W.cell? ⟨w.heap.size + 1 + 1, 0, none⟩ = some (.int .i64 (wrap64 (m + last.2.off))) := hcr.cell 0 _ rfl
    have hc5 := cell_kept hcr0 (grownBy_putObj' _ D (.deferred none)) (fun r e => by cases e; exact ⟨_, hK, rfl⟩)
    obtain ⟨k', rfl⟩ : ∃ k', k = k' + 1 := by
      cases k with
      | zero => simp [back] at e1
      | succ k' => exact ⟨k', rfl⟩
    rw [back_succ] at e1
    obtain ⟨rfl, e5⟩ := List.append_inj' e1 rfl
    have e6 := (List.cons.inj e5).1
    have hi : xs.length - 1 - k' < xs.length := by omega
    obtain ⟨s, hs⟩ : ∃ s, xs[xs.length - 1 - k']? = some s := ⟨_, List.getElem?_eq_getElem hi⟩
    rw [hs] at e6
    obtain rfl : (xs.length - 1 - k', s) = last := e6
    refine ⟨.int .i64 (wrap64 (m + s.off)), ?_, .inr ⟨xs.length - 1 - k', s, hs, rfl, e3, fun j t hj ht => ?_⟩, hB.trans (belowK_b (w := w) (Nat.le_refl _) W D _ _ (by omega) hK rfl rfl)⟩
    · simp [results, Tryd.f39, go_sem, hc5]
    · have hlt := (List.getElem?_eq_some_iff.1 ht).1
      refine e2 (j, t) ?_
      simp only [back, List.mem_map, List.mem_range]
      refine ⟨xs.length - 1 - j, by omega, ?_⟩
      rw [show xs.length - 1 - (xs.length - 1 - j) = j by omega, ht]
      rfl
/-- what Clock returns, at small offsets -/
theorem clock_any (N : Nat → Prop) (nm : ByteArray) (A : Option Addr) (c : Nat) (xs : List Sft) (m : Int) (w : World) (hS : Sl rSft N w A xs) (hlen : xs.length ≤ 1000000) (hoff : ∀ s ∈ xs, -720 ≤ s.off ∧ s.off ≤ 840) (hm : -10000000000 ≤ m ∧ m ≤ 10000000000) :
    Calls Tryd.prog 39 #[.agg #[.string nm, .slice A xs.length c], .int .i64 m] w fun e w' => e = .returned (.int .i64 (clk xs m)) ∧ Below w.heap.size w w' := by
  refine (callsIn_wide (n := 3)).1 ((clock_in _ 3 trivial trivial trivial rfl (Nat.le_refl _) nm A c xs m hlen w hS.inw).mono fun e w' ⟨h, hb⟩ => ⟨?_, hb⟩)
  rcases h with ⟨rfl, h⟩ | ⟨k, s, hk, rfl, h1, h2⟩
  · rw [clk_none xs m h]
  · rw [clk_at xs m k s hk h1 h2]
    have := hoff s (List.mem_of_getElem? hk)
    rw [show wrap64 (m + s.off) = m + s.off from IntWalk.wrap64_in _ (by omega)]
end Go.Proofs.YtneopbbafdmpkaaDoor
