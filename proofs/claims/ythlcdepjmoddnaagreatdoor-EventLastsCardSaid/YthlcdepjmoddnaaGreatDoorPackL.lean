/- Several texts in one: LastLaw, Last, BackE, LastIn, NamedOf, LawLst. -/
import Derived.Test.YthlcdepjmoddnaaGreatDoorPackP
import Derived.Test.YthlcdepjmoddnaaGreatDoorPackR
import Derived.Test.YthlcdepjmoddnaaGreatDoorPackZ
import Derived.Test.YthlcdepjmoddnaaGreatDoorPackQ
import Derived.Test.YthlcdepjmoddnaaGreatDoorPackO
import Derived.Test.YthlcdepjmoddnaaGreatDoorPackB
/- The last event with a name before a moment, in plain words. -/
namespace Go.Proofs.YthlcdepjmoddnaaGreatDoor
open Go Go.RowKit
def hitE (name : ByteArray) (before : Int) (e : Evt) : Bool := decide (e.name = name) && decide (e.at' < before)
def lastOf (xs : List Evt) (name : ByteArray) (before : Int) : Option Evt := (xs.filter (hitE name before)).getLast?
theorem lastOf_at {xs : List Evt} {name : ByteArray} {before : Int} {i : Nat} {x : Evt} (hx : xs[i]? = some x) (hh : hitE name before x = true) (hn : ∀ (j : Nat) (y : Evt), i < j → xs[j]? = some y → hitE name before y = false) : lastOf xs name before = some x := by
  unfold lastOf
  have h1 : xs = xs.take i ++ x :: xs.drop (i + 1) := by
    rw [← drop_at3 hx, List.take_append_drop]
  have h2 : (xs.drop (i + 1)).filter (hitE name before) = [] := by
    rw [List.filter_eq_nil_iff]
    intro y hy
    obtain ⟨k, hk⟩ := List.getElem?_of_mem hy
    rw [List.getElem?_drop] at hk
    rw [hn _ y (by omega) hk]
    decide
  rw [h1, List.filter_append, List.filter_cons, if_pos hh, h2]
  simp
theorem lastOf_none {xs : List Evt} {name : ByteArray} {before : Int} (hn : ∀ (j : Nat) (y : Evt), xs[j]? = some y → hitE name before y = false) : lastOf xs name before = none := by
  unfold lastOf
  rw [List.getLast?_eq_none_iff, List.filter_eq_nil_iff]
  intro y hy
  obtain ⟨k, hk⟩ := List.getElem?_of_mem hy
  rw [hn k y hk]
  decide
abbrev zeroE : Evt := ⟨⟨#[]⟩, ⟨#[]⟩, 0, 0, ⟨#[]⟩, []⟩
def lastErr (xs : List Evt) (name : ByteArray) (before : Int) : Int := if namedErr xs [name] 0 0 ≠ 0 then namedErr xs [name] 0 0 else if ¬ (0 ≤ before ∧ before ≤ 4321440) then 1 else if (lastOf xs name before).isSome then 0 else 8
def lastAns (xs : List Evt) (name : ByteArray) (before : Int) : Evt := if lastErr xs name before = 0 then (lastOf xs name before).getD zeroE else zeroE
def GivesLast (x : Evt) (F : Int) (w : World) (e : Ending) (w' : World) : Prop := ∃ A c, e = .returned (.tuple #[.agg (evCs x A c), .int .i64 F]) ∧ Sl rFld (fun _ => False) w' A x.flds ∧ Below w.heap.size w w'
theorem GivesLast.zero {F : Int} {w w' : World} (h : Below w.heap.size w w') : GivesLast zeroE F w (.returned (.tuple #[.agg ezCs, .int .i64 F])) w' := ⟨none, 0, rfl, Sl.nil, h⟩
end Go.Proofs.YthlcdepjmoddnaaGreatDoor

/- What event.Last returns. -/
namespace Go.Proofs.YthlcdepjmoddnaaGreatDoor
open Go Go.RowKit Go.Shelf
theorem results_cc {P : Program} {fn : Func} {s t : Tmp} {S T : TypeId} {a b : Addr} {v u : Value} {w : World} {tmps : Array Value} (h : fn.results = #[.cell s S, .cell t T]) (hp : tmps.getD s undef = .pointer (some a)) (hq : tmps.getD t undef = .pointer (some b)) (h1 : (loadVar S a).run P w = .ok v w) (h2 : (loadVar T b).run P w = .ok u w) : (results fn tmps).run P w = .ok (.tuple #[v, u]) w := by
  have hp' : tmps[s]?.getD undef = .pointer (some a) := by simpa using hp
  have hq' : tmps[t]?.getD undef = .pointer (some b) := by simpa using hq
  simp [results, h, asAddr, hp', hq', h1, h2]
theorem zeroEvL (w : World) : (zeroValue 32).run Tryz.prog w = .ok (.agg #[.string ⟨#[]⟩, .string ⟨#[]⟩, .int .i64 0, .int .i64 0, .string ⟨#[]⟩, .slice none 0 0]) w := by kernel_rfl
theorem loadErr {w : World} {X : Nat} {a : Value} (h : LV w X #[a] 35) : (loadVar 35 ⟨X, 0, none⟩).run Tryz.prog w = .ok a w := by
  have c0 := h.all
  go_simp
set_option maxHeartbeats 400000 in
set_option maxRecDepth 100000 in
theorem last_err (N : Nat → Prop) (A : Option Addr) (xs : List Evt) (c : Nat) (name : ByteArray) (before : Int) (w : World) (hS : Sl rEvt N w A xs) (hok : EvsOk xs) (hT : Tabs w) (hM : MaxL w) (hname : name.size ≤ 1000000000) (h : namedErr xs [name] 0 0 ≠ 0 ∨ ¬ (0 ≤ before ∧ before ≤ 4321440)) :
    Calls Tryz.prog 28 #[.slice A xs.length c, .string name, .int .i64 before] w (GivesLast (lastAns xs name before) (lastErr xs name before) w) := by
  have S : Mem w ((((w.alloc (.cells #[.string name] 9)).alloc (.cells #[.int .i64 before] 3)).alloc (.cells ezCs 32)).alloc (.cells #[.int .i64 0] 35)) [.loc w.heap.size #[.string name] 9, .loc (w.heap.size + 1) #[.int .i64 before] 3, .loc (w.heap.size + 1 + 1) ezCs 32, .loc (w.heap.size + 1 + 1 + 1) #[.int .i64 0] 35] := ((((Mem.start w).new' _ _).newAt _ _ _ (by simp)).newAt _ _ _ (by simp)).newAt _ _ _ (by simp)
  have Hcn := Lib.hid (fun X w' (h : Below w.heap.size w w') (hX : LV w' X #[.string name] 9) => checkNamed_any N A xs c 0 0 [name] X 1 w' (hS.keepB h) hok (Utf8Tabs_below hT h) (hM.below h) rfl hX (by simp) (by simpa using hname))
  obtain ⟨Fn, HFn⟩ : ∃ Fn, Hid (namedErr xs [name] 0 0 = Fn) := ⟨_, Lib.hid rfl⟩
  rw [HFn.out] at Hcn h
  obtain ⟨F, HF⟩ : ∃ F, Hid (lastErr xs name before = F) := ⟨_, Lib.hid rfl⟩
  have hF0 : F ≠ 0 := by
    rw [← HF.out, lastErr, HFn.out]
    by_cases h1 : Fn = 0
    · rw [if_neg (not_not_intro h1), if_pos (h.resolve_left (not_not_intro h1))]; decide
    · rw [if_pos h1]; exact h1
  rw [show lastAns xs name before = zeroE by rw [lastAns, HF.out, if_neg hF0], HF.out]
  have HF1 : Hid ((if Fn ≠ 0 then Fn else if ¬ (0 ≤ before ∧ before ≤ 4321440) then 1 else if (lastOf xs name before).isSome then 0 else 8) = F) := by show _ = _; rw [← HF.out, lastErr, HFn.out]
  clear hS hok hT hM HF HFn hF0
  obtain ⟨X3, h3⟩ : ∃ X, X = w.heap.size + 1 + 1 + 1 := ⟨_, rfl⟩
  obtain ⟨X2, h2⟩ : ∃ X, X = w.heap.size + 1 + 1 := ⟨_, rfl⟩
  obtain ⟨X1, h1⟩ : ∃ X, X = w.heap.size + 1 := ⟨_, rfl⟩
  obtain ⟨X0, h0⟩ : ∃ X, X = w.heap.size := ⟨_, rfl⟩
  rw [← h3, ← h2, ← h1, ← h0] at S
  have n23 : ¬ X2 = X3 := by omega
  have n32 : ¬ X3 = X2 := by omega
  go_enter Tryz.func28, Tryz.ntmps28
  go_upto_region 1 with fail
  (try rw [World.size_alloc])
  (try rw [World.size_alloc])
  (try rw [World.size_alloc])
  rw [← h3, ← h2, ← h1, ← h0]
  clear h3 h2 h1 h0
  generalize (((w.alloc (.cells #[.string name] 9)).alloc (.cells #[.int .i64 before] 3)).alloc (.cells ezCs 32)).alloc (.cells #[.int .i64 0] 35) = w1 at *
  have n0 := (S.lv 0 rfl).all
  have Hcn1 := Lib.hid (Hcn.out w1.heap.size (w1.alloc (.cells #[.string name] 9)) (S.alloc _).b (LV.new w1 w1.heap.size #[.string name] 9 rfl))
  replace S := S.alloc (.cells #[.string name] 9)
  clear Hcn
  go_wp2_with fail
  ((with_reducible refine (Hcn1.out).mono ?_); rintro e w2 ⟨rfl, hl2⟩)
  replace S := S.below hl2
  clear Hcn1 hl2 n0
  have b0 := (S.lv 1 rfl).all
  have r0 := (S.lv 2 rfl).all
  have e0 := (S.lv 3 rfl).all
  have HSv : Hid (∀ v : Value, Mem w ((fillE w2 X2 zeroE none 0).setCell ⟨X3, 0, none⟩ v) [.loc X0 #[.string name] 9, .loc X1 #[.int .i64 before] 3, .loc X2 ezCs 32, .loc X3 #[v] 35]) := fun v => by
    have S1 : Mem w (w2.setCell ⟨X2, 0, none⟩ (.string ⟨#[]⟩)) [.loc X0 #[.string name] 9, .loc X1 #[.int .i64 before] 3, .loc X2 ezCs 32, .loc X3 #[.int .i64 0] 35] := S.set 2 0 (.string ⟨#[]⟩) rfl
    have S2 : Mem w ((w2.setCell ⟨X2, 0, none⟩ (.string ⟨#[]⟩)).setCell ⟨X2, 1, none⟩ (.string ⟨#[]⟩)) [.loc X0 #[.string name] 9, .loc X1 #[.int .i64 before] 3, .loc X2 ezCs 32, .loc X3 #[.int .i64 0] 35] := S1.set 2 1 (.string ⟨#[]⟩) rfl
    have S3 : Mem w (((w2.setCell ⟨X2, 0, none⟩ (.string ⟨#[]⟩)).setCell ⟨X2, 1, none⟩ (.string ⟨#[]⟩)).setCell ⟨X2, 2, none⟩ (.int .i64 0)) [.loc X0 #[.string name] 9, .loc X1 #[.int .i64 before] 3, .loc X2 ezCs 32, .loc X3 #[.int .i64 0] 35] := S2.set 2 2 (.int .i64 0) rfl
    have S4 : Mem w ((((w2.setCell ⟨X2, 0, none⟩ (.string ⟨#[]⟩)).setCell ⟨X2, 1, none⟩ (.string ⟨#[]⟩)).setCell ⟨X2, 2, none⟩ (.int .i64 0)).setCell ⟨X2, 3, none⟩ (.int .i64 0)) [.loc X0 #[.string name] 9, .loc X1 #[.int .i64 before] 3, .loc X2 ezCs 32, .loc X3 #[.int .i64 0] 35] := S3.set 2 3 (.int .i64 0) rfl
    have S5 : Mem w (((((w2.setCell ⟨X2, 0, none⟩ (.string ⟨#[]⟩)).setCell ⟨X2, 1, none⟩ (.string ⟨#[]⟩)).setCell ⟨X2, 2, none⟩ (.int .i64 0)).setCell ⟨X2, 3, none⟩ (.int .i64 0)).setCell ⟨X2, 4, none⟩ (.string ⟨#[]⟩)) [.loc X0 #[.string name] 9, .loc X1 #[.int .i64 before] 3, .loc X2 ezCs 32, .loc X3 #[.int .i64 0] 35] := S4.set 2 4 (.string ⟨#[]⟩) rfl
    have S6 : Mem w ((((((w2.setCell ⟨X2, 0, none⟩ (.string ⟨#[]⟩)).setCell ⟨X2, 1, none⟩ (.string ⟨#[]⟩)).setCell ⟨X2, 2, none⟩ (.int .i64 0)).setCell ⟨X2, 3, none⟩ (.int .i64 0)).setCell ⟨X2, 4, none⟩ (.string ⟨#[]⟩)).setCell ⟨X2, 5, none⟩ (.slice none 0 0)) [.loc X0 #[.string name] 9, .loc X1 #[.int .i64 before] 3, .loc X2 ezCs 32, .loc X3 #[.int .i64 0] 35] := S5.set 2 5 (.slice none 0 0) rfl
    exact S6.set 3 0 v rfl
  clear S
  by_cases hf : Fn = 0
  · have hb := h.resolve_left (not_not_intro hf)
    subst hf
    obtain rfl : 1 = F := by rw [← HF1.out, if_neg (not_not_intro rfl), if_pos hb]
    have hd : decide (0 ≤ before ∧ before ≤ 4321440) = false := decide_eq_false hb
    clear h hb HF1
    go_wp2_with fail
    ((with_reducible refine (ewithin_any before 0 4321440 w2).mono ?_); rintro e _ ⟨rfl, rfl⟩)
    have hz := zeroEvL
    go_wp2_with fail
    have S9 := HSv.out (.int .i64 1)
    have l1 := loadEv (S9.lv 2 rfl)
    have l2 := loadErr (S9.lv 3 rfl)
    exact bodyPost_ret (results_cc rfl rfl rfl l1 l2) rfl (GivesLast.zero S9.b)
  · obtain rfl : Fn = F := by rw [← HF1.out, if_pos hf]
    have hf1 : (Fn != 0) = true := by simpa using hf
    clear h HF1
    have hz := zeroEvL
    go_wp2_with fail
    have S9 := HSv.out (.int .i64 Fn)
    have l1 := loadEv (S9.lv 2 rfl)
    have l2 := loadErr (S9.lv 3 rfl)
    exact bodyPost_ret (results_cc rfl rfl rfl l1 l2) rfl (GivesLast.zero S9.b)
end Go.Proofs.YthlcdepjmoddnaaGreatDoor

/- What slices.Backward over events hands out. -/
namespace Go.Proofs.YthlcdepjmoddnaaGreatDoor
open Go Go.RowKit Go.Shelf
attribute [local go_sem] Oper.semAt_some
/-- the event at a place -/
def qAt (qs : List EQ) (j : Nat) : EQ := (qs[j]?).getD ⟨zeroE, none, 0⟩
theorem qAt_get {qs : List EQ} {j : Nat} {q : EQ} (h : qs[j]? = some q) : qAt qs j = q := by rw [qAt, h]; rfl
/-- the places that have come when k rounds are over -/
def backE (qs : List EQ) (k : Nat) : List Nat := (List.range k).map fun j => qs.length - 1 - j
theorem backE_succ (qs : List EQ) (k : Nat) : backE qs (k + 1) = backE qs k ++ [qs.length - 1 - k] := by simp [backE, List.range_succ]
theorem backE_len (qs : List EQ) (k : Nat) : (backE qs k).length = k := by simp [backE]
/-- the slice at A reads as qs, below n₀ -/
def EvsIn (n₀ : Nat) (W : World) (A : Option Addr) (qs : List EQ) : Prop := ∀ (k : Nat) (q : EQ), qs[k]? = some q → ∃ blk off, A = some ⟨blk, off, none⟩ ∧ blk < n₀ ∧
  W.cell? ⟨blk, off + k * 6, none⟩ = some (.string q.e.id) ∧ W.cell? ⟨blk, off + k * 6 + 1, none⟩ = some (.string q.e.name) ∧ W.cell? ⟨blk, off + k * 6 + 2, none⟩ = some (.int .i64 q.e.at') ∧ W.cell? ⟨blk, off + k * 6 + 3, none⟩ = some (.int .i64 q.e.kind) ∧
  W.cell? ⟨blk, off + k * 6 + 4, none⟩ = some (.string q.e.text) ∧ W.cell? ⟨blk, off + k * 6 + 5, none⟩ = some (.slice q.A q.e.flds.length q.c)
theorem EvsIn.below {n₀ : Nat} {W W' : World} {A : Option Addr} {qs : List EQ} (h : EvsIn n₀ W A qs) (k : Below n₀ W W') : EvsIn n₀ W' A qs := fun i q hq => by
  obtain ⟨blk, off, e, h1, c0, c1, c2, c3, c4, c5⟩ := h i q hq
  exact ⟨blk, off, e, h1, (k.cell (p := ⟨blk, off + i * 6, none⟩) h1).trans c0, (k.cell (p := ⟨blk, off + i * 6 + 1, none⟩) h1).trans c1, (k.cell (p := ⟨blk, off + i * 6 + 2, none⟩) h1).trans c2, (k.cell (p := ⟨blk, off + i * 6 + 3, none⟩) h1).trans c3, (k.cell (p := ⟨blk, off + i * 6 + 4, none⟩) h1).trans c4, (k.cell (p := ⟨blk, off + i * 6 + 5, none⟩) h1).trans c5⟩
theorem Sl.inE {N : Nat → Prop} {w : World} {A : Option Addr} {qs : List EQ} (h : Sl rEQ N w A qs) : EvsIn w.heap.size w A qs := fun i q hq => by
  obtain ⟨blk, off, l, e, h1, _, h3, h4⟩ := h i q hq
  obtain rfl : l = EQ.cells q := h3
  exact ⟨blk, off, e, h1, h4 0 _ rfl, h4 1 _ rfl, h4 2 _ rfl, h4 3 _ rfl, h4 4 _ rfl, h4 5 _ rfl⟩
set_option maxRecDepth 100000 in
set_option maxHeartbeats 4000000 in
theorem backE1_in (F : Fence) (n : Nat) (hf : F.fn 161) (hro : F.round = none) (hn : 1 ≤ n) (l Bs n₀ cap : Nat) (A : Option Addr) (qs : List EQ) (hlen : qs.length ≤ 1000000) (hBs : Bs < n₀) (J Jx : List Nat → World → Prop)
    (hY : ∀ (pre : List Nat) (x : Nat) (W : World), J pre W → pre.length < qs.length → YieldAt F (n - 1) Tryz.prog l #[.int .i64 (x : Int), .agg (evCs (qAt qs x).e (qAt qs x).A (qAt qs x).c)] W fun e W' =>
      (e = .returned (.bool true) ∧ J (pre ++ [x]) W' ∧ Below n₀ W W') ∨ (e = .returned (.bool false) ∧ Jx (pre ++ [x]) W'))
    (W : World) (hc : W.cell? ⟨Bs, 0, none⟩ = some (.slice A qs.length cap)) (hS : EvsIn n₀ W A qs) (h0 : J [] W) :
    CallsIn F n Tryz.prog 161 #[.func (.yield l) #[] #[], .pointer (some ⟨Bs, 0, none⟩)] W fun e W' => (∃ v, e = .returned v) ∧
      ((∃ ys, ys = backE qs qs.length ∧ J ys W') ∨ (∃ pre, (∃ k, k ≤ qs.length ∧ pre = backE qs k) ∧ Jx pre W')) := by
  have HS := Lib.hid hS
  clear hS
  refine callsIn_of_wp Tryz.func161 rfl hf ?_ hro
  simp only [Tryz.ntmps161, List.size_toArray, List.length_cons, List.length_nil, Nat.reduceAdd, Nat.reduceSub, Array.replicate_succ, Array.replicate_zero, List.push_toArray, List.append_toArray, List.nil_append, List.cons_append]
  gi_wp2
  gi_loopw [3] (fun i wr => ∃ j k : Nat, j + k = qs.length ∧ i = .int .i64 ((j : Int) - 1) ∧ J (backE qs k) wr ∧ Below n₀ W wr)
    (fun i _ => (intOf i + 1).toNat)
  case atStart => exact ⟨qs.length, 0, rfl, rfl, h0, Below.refl _ _⟩
  case round =>
    obtain ⟨j, k, hjk, rfl, hJs, hnx⟩ := hrel
    have hcr := (hnx.cell (p := ⟨Bs, 0, none⟩) hBs).trans hc
    rcases j with _ | j
    · have e1 : ((0 : Nat) : Int) - 1 = -1 := rfl
      rw [e1]
      gi_wp2
      go_end0
      obtain rfl : k = qs.length := by omega
      exact ⟨⟨_, rfl⟩, .inl ⟨_, rfl, hJs⟩⟩
    · have e1 : ((j + 1 : Nat) : Int) - 1 = (j : Int) := by omega
      rw [e1]
      have hj : j < qs.length := by omega
      obtain ⟨s, hs⟩ : ∃ s, qs[j]? = some s := ⟨_, List.getElem?_eq_getElem hj⟩
      obtain ⟨blk, off, rfl, hblk, c0, c1, c2, c3, c4, c5⟩ := HS.out j s hs
      have d0 := (hnx.cell (p := ⟨blk, off + j * 6, none⟩) hblk).trans c0
      have d1 := (hnx.cell (p := ⟨blk, off + j * 6 + 1, none⟩) hblk).trans c1
      have d2 := (hnx.cell (p := ⟨blk, off + j * 6 + 2, none⟩) hblk).trans c2
      have d3 := (hnx.cell (p := ⟨blk, off + j * 6 + 3, none⟩) hblk).trans c3
      have d4 := (hnx.cell (p := ⟨blk, off + j * 6 + 4, none⟩) hblk).trans c4
      have d5 := (hnx.cell (p := ⟨blk, off + j * 6 + 5, none⟩) hblk).trans c5
      obtain ⟨fn, tmps, assign, body, hy, hR⟩ := hY _ j wr hJs (by rw [backE_len]; omega)
      rw [qAt_get hs] at hy
      have Hb : Hid (backE qs (k + 1) = backE qs k ++ [j]) := by
        show _ = _
        rw [backE_succ, show qs.length - 1 - k = j by omega]
      clear hs c0 c1 c2 c3 c4 c5 hc
      gi_wp2
      refine hR.mono ?_
      rintro e W3 (⟨rfl, hJ3, hk3⟩ | ⟨rfl, hJx3⟩)
      · gi_wp2
        go_roundw
        case rel => exact ⟨j, k + 1, by omega, rfl, by rw [Hb.out]; exact hJ3, hnx.trans hk3⟩
        case measure => simp [intOf]
      · gi_wp2
        refine bodyPost_ret (results_none rfl _ _ _) rfl ?_
        exact ⟨⟨_, rfl⟩, .inr ⟨_, ⟨k + 1, by omega, Hb.out.symm⟩, hJx3⟩⟩
set_option maxHeartbeats 1000000 in
theorem backE_in (F : Fence) (n : Nat) (hf : F.fn 88) (hro : F.round = none) (a : Option Addr) (len cap : Nat) (w : World) :
    CallsIn F n Tryz.prog 88 #[.slice a len cap] w fun e w' => e = .returned (.func (.func 161) #[] #[.pointer (some ⟨w.heap.size, 0, none⟩)]) ∧ w' = w.alloc (.cells #[.slice a len cap] 40) := by
  refine callsIn_of_wp Tryz.func88 rfl hf ?_ hro
  simp only [Tryz.ntmps88, List.size_toArray, List.length_cons, List.length_nil, Nat.reduceAdd, Nat.reduceSub, Array.replicate_succ, Array.replicate_zero, List.push_toArray, List.append_toArray, List.nil_append, List.cons_append]
  gi_wp2
  go_ret
  exact ⟨rfl, rfl⟩
theorem backE_stops (F : Fence) (n : Nat) (hf : F.fn 161) (hro : F.round = none) (hn : 1 ≤ n) (Bs n₀ cap : Nat) (A : Option Addr) (qs : List EQ) (hlen : qs.length ≤ 1000000) (w : World) (hBs : Bs < n₀) (hn₀ : n₀ ≤ w.heap.size)
    (hc : w.cell? ⟨Bs, 0, none⟩ = some (.slice A qs.length cap)) (hS : EvsIn n₀ w A qs) :
    SeqStopsK F n Tryz.prog 161 #[.pointer (some ⟨Bs, 0, none⟩)] (fun x : Nat => #[Value.int .i64 (x : Int), .agg (evCs (qAt qs x).e (qAt qs x).A (qAt qs x).c)]) (Below n₀) (fun ys => ys = backE qs qs.length)
      (fun pre => ∃ k, k ≤ qs.length ∧ pre = backE qs k) qs.length w := fun l J Jx W hW _ _ hY h0 =>
  backE1_in F n hf hro hn l Bs n₀ cap A qs hlen hBs J Jx hY W ((hW.cell (p := ⟨Bs, 0, none⟩) (by show Bs < _; omega)).trans hc) (hS.below (hW.mono hn₀)) h0
end Go.Proofs.YthlcdepjmoddnaaGreatDoor

/- What event.Last returns where its arguments are right. -/
namespace Go.Proofs.YthlcdepjmoddnaaGreatDoor
open Go Go.RowKit Go.Shelf
attribute [local go_sem] Oper.semAt_some
theorem keepsFrom_below {B : Nat} {W W' : World} (h : Below W.heap.size W W') : KeepsFrom B W W' := ⟨h.size, fun i _ _ hi _ => (h.block i (Array.getElem?_eq_some_iff.1 hi).1).trans hi⟩
theorem slF_kept {A B : World} {row : Option Nat} {ad : Option Addr} {fs : List Fld} (h : Sl rFld (fun _ => False) A ad fs) (hg : A.grownBy B row) (hr : ∀ r, row = some r → ∃ o : Obj, A.heap[r]? = some o ∧ o.isCells = false) : Sl rFld (fun _ => False) B ad fs := fun i x hx => by
  obtain ⟨blk, off, l, e, h1, h2, h3, h4⟩ := h i x hx
  exact ⟨blk, off, l, e, Nat.lt_of_lt_of_le h1 hg.size, h2, h3, fun j u hu => cell_kept (h4 j u hu) hg hr⟩
def NoHit (qs : List EQ) (name : ByteArray) (before : Int) (pre : List Nat) : Prop := ∀ p ∈ pre, hitE name before (qAt qs p).e = false
theorem NoHit.snoc {qs : List EQ} {name : ByteArray} {before : Int} {pre : List Nat} (h : NoHit qs name before pre) (i : Nat) (hq : hitE name before (qAt qs i).e = false) : NoHit qs name before (pre ++ [i]) := fun p hp => by
  rcases List.mem_append.1 hp with h' | h'
  · exact h p h'
  · rw [List.mem_singleton.1 h']; exact hq
def HitAt (qs : List EQ) (name : ByteArray) (before : Int) (X2 X3 : Nat) (pre : List Nat) (W : World) : Prop := ∃ ini last A2 c2, pre = ini ++ [last] ∧ NoHit qs name before ini ∧ hitE name before (qAt qs last).e = true ∧ LV W X2 (evCs (qAt qs last).e A2 c2) 32 ∧ LV W X3 #[.int .i64 0] 35 ∧ Sl rFld (fun _ => False) W A2 (qAt qs last).e.flds
theorem qAt_flds {W : World} {qs : List EQ} (h : FldsOk (fun _ => False) W qs) (hl : ∀ q ∈ qs, q.e.flds.length ≤ 1000) (j : Nat) : Sl rFld (fun _ => False) W (qAt qs j).A (qAt qs j).e.flds ∧ (qAt qs j).e.flds.length ≤ 1000 := by
  cases hq : qs[j]? with
  | none =>
    rw [qAt, hq]
    exact ⟨Sl.nil, Nat.zero_le _⟩
  | some q =>
    rw [qAt_get hq]
    exact ⟨h q (List.mem_of_getElem? hq), hl q (List.mem_of_getElem? hq)⟩
theorem mem_two {w W : World} {X2 X3 : Nat} {c2 c3 : Array Value} {T2 T3 : TypeId} (hb : Below w.heap.size w W) (h2 : LV W X2 c2 T2) (h3 : LV W X3 c3 T3) (g2 : w.heap.size ≤ X2) (g3 : w.heap.size ≤ X3) (hne : ¬ X2 = X3) : Mem w W [.loc X2 c2 T2, .loc X3 c3 T3] :=
  ⟨hb, all_cons h2 (all_cons h3 all_nil), all_cons (fun k e => by cases e; exact g2) (all_cons (fun k e => by cases e; exact g3) all_nil), List.pairwise_cons.2 ⟨all_cons (fun k e1 e2 => by cases e1; cases e2; exact hne rfl) all_nil, List.pairwise_singleton _ _⟩⟩
theorem mem_fill {w W : World} {X2 X3 : Nat} {cs : List Chunk} {x : Evt} {A : Option Addr} {c : Nat} (v : Value) (a0 a1 a2 a3 a4 a5 b0 : Value) (S : Mem w W (.loc X2 #[a0, a1, a2, a3, a4, a5] 32 :: .loc X3 #[b0] 35 :: cs)) : Mem w ((fillE W X2 x A c).setCell ⟨X3, 0, none⟩ v) (.loc X2 (evCs x A c) 32 :: .loc X3 #[v] 35 :: cs) := by
  have S1 : Mem w (W.setCell ⟨X2, 0, none⟩ (.string x.id)) (.loc X2 #[.string x.id, a1, a2, a3, a4, a5] 32 :: .loc X3 #[b0] 35 :: cs) := S.set 0 0 (.string x.id) rfl
  have S2 : Mem w ((W.setCell ⟨X2, 0, none⟩ (.string x.id)).setCell ⟨X2, 1, none⟩ (.string x.name)) (.loc X2 #[.string x.id, .string x.name, a2, a3, a4, a5] 32 :: .loc X3 #[b0] 35 :: cs) := S1.set 0 1 (.string x.name) rfl
  have S3 : Mem w (((W.setCell ⟨X2, 0, none⟩ (.string x.id)).setCell ⟨X2, 1, none⟩ (.string x.name)).setCell ⟨X2, 2, none⟩ (.int .i64 x.at')) (.loc X2 #[.string x.id, .string x.name, .int .i64 x.at', a3, a4, a5] 32 :: .loc X3 #[b0] 35 :: cs) := S2.set 0 2 (.int .i64 x.at') rfl
  have S4 : Mem w ((((W.setCell ⟨X2, 0, none⟩ (.string x.id)).setCell ⟨X2, 1, none⟩ (.string x.name)).setCell ⟨X2, 2, none⟩ (.int .i64 x.at')).setCell ⟨X2, 3, none⟩ (.int .i64 x.kind)) (.loc X2 #[.string x.id, .string x.name, .int .i64 x.at', .int .i64 x.kind, a4, a5] 32 :: .loc X3 #[b0] 35 :: cs) := S3.set 0 3 (.int .i64 x.kind) rfl
  have S5 : Mem w (((((W.setCell ⟨X2, 0, none⟩ (.string x.id)).setCell ⟨X2, 1, none⟩ (.string x.name)).setCell ⟨X2, 2, none⟩ (.int .i64 x.at')).setCell ⟨X2, 3, none⟩ (.int .i64 x.kind)).setCell ⟨X2, 4, none⟩ (.string x.text)) (.loc X2 #[.string x.id, .string x.name, .int .i64 x.at', .int .i64 x.kind, .string x.text, a5] 32 :: .loc X3 #[b0] 35 :: cs) := S4.set 0 4 (.string x.text) rfl
  have S6 : Mem w (fillE W X2 x A c) (.loc X2 (evCs x A c) 32 :: .loc X3 #[b0] 35 :: cs) := S5.set 0 5 (.slice A x.flds.length c) rfl
  exact S6.set 1 0 v rfl
theorem keeps_fill (W : World) (X2 X3 : Nat) (x : Evt) (A : Option Addr) (c : Nat) (v : Value) : KeepsOthers W ((fillE W X2 x A c).setCell ⟨X3, 0, none⟩ v) :=
  ((((((KeepsOthers.setCell _ _ _).trans (KeepsOthers.setCell _ _ _)).trans (KeepsOthers.setCell _ _ _)).trans (KeepsOthers.setCell _ _ _)).trans (KeepsOthers.setCell _ _ _)).trans (KeepsOthers.setCell _ _ _)).trans (KeepsOthers.setCell _ _ _)
set_option maxHeartbeats 2000000 in
set_option maxRecDepth 100000 in
theorem last_in (A : Option Addr) (qs : List EQ) (c : Nat) (name : ByteArray) (before : Int) (w : World) (hE : EvsIn w.heap.size w A qs) (hF : FldsOk (fun _ => False) w qs) (hlen : qs.length ≤ 1000000) (hfl : ∀ q ∈ qs, q.e.flds.length ≤ 1000) (hb : 0 ≤ before ∧ before ≤ 4321440)
    (hcn : ∀ X w', Below w.heap.size w w' → LV w' X #[.string name] 9 → Calls Tryz.prog 87 #[.slice A qs.length c, .agg #[.int .i64 0, .int .i64 0], .slice (some ⟨X, 0, none⟩) 1 1] w' fun e w'' => e = .returned (.int .i64 0) ∧ Below w'.heap.size w' w'') :
    CallsIn Fence.wide 6 Tryz.prog 28 #[.slice A qs.length c, .string name, .int .i64 before] w fun e W' =>
      ((e = .returned (.tuple #[.agg ezCs, .int .i64 8]) ∧ ∀ (j : Nat) (q : EQ), qs[j]? = some q → hitE name before q.e = false) ∨ (∃ (k : Nat) (q : EQ) (A2 : Option Addr) (c2 : Nat), qs[k]? = some q ∧ e = .returned (.tuple #[.agg (evCs q.e A2 c2), .int .i64 0]) ∧ Sl rFld (fun _ => False) W' A2 q.e.flds ∧ hitE name before q.e = true ∧ ∀ (j : Nat) (r : EQ), k < j → qs[j]? = some r → hitE name before r.e = false)) ∧ Below w.heap.size w W' := by
  have S : Mem w ((((w.alloc (.cells #[.string name] 9)).alloc (.cells #[.int .i64 before] 3)).alloc (.cells #[.string ⟨#[]⟩, .string ⟨#[]⟩, .int .i64 0, .int .i64 0, .string ⟨#[]⟩, .slice none 0 0] 32)).alloc (.cells #[.int .i64 0] 35)) [.loc w.heap.size #[.string name] 9, .loc (w.heap.size + 1) #[.int .i64 before] 3, .loc (w.heap.size + 1 + 1) ezCs 32, .loc (w.heap.size + 1 + 1 + 1) #[.int .i64 0] 35] := ((((Mem.start w).new' _ _).newAt _ _ _ (by simp)).newAt _ _ _ (by simp)).newAt _ _ _ (by simp)
  have n0 := (S.lv 0 rfl).cell 0 _ rfl
  have hz := zeroEvL
  refine callsIn_of_wp_marks Tryz.func28 rfl trivial ?_ rfl
  simp only [Tryz.ntmps28, List.size_toArray, List.length_cons, List.length_nil, Nat.reduceAdd, Nat.reduceSub, Array.replicate_succ, Array.replicate_zero, List.push_toArray, List.append_toArray, List.nil_append, List.cons_append]
  gi_wp2_with fail
  refine ⟨trivial, ?_⟩
  ((with_reducible refine ((callsIn_wide (n := 5)).2 (hcn (w.heap.size + 1 + 1 + 1 + 1) _ (S.alloc (.cells #[.string name] 9)).b (LV.new _ (w.heap.size + 1 + 1 + 1 + 1) #[.string name] 9 (by simp)))).mono ?_); rintro e w2 ⟨rfl, hl2⟩)
  have S2 := (S.alloc (.cells #[.string name] 9)).below hl2
  clear S hl2 n0 hcn
  obtain ⟨X3, h3⟩ : ∃ X, X = w.heap.size + 1 + 1 + 1 := ⟨_, rfl⟩
  obtain ⟨X2, h2⟩ : ∃ X, X = w.heap.size + 1 + 1 := ⟨_, rfl⟩
  obtain ⟨X1, h1⟩ : ∃ X, X = w.heap.size + 1 := ⟨_, rfl⟩
  obtain ⟨X0, h0⟩ : ∃ X, X = w.heap.size := ⟨_, rfl⟩
  have n23 : ¬ X2 = X3 := by omega
  have n32 : ¬ X3 = X2 := by omega
  rw [← h3, ← h2, ← h1, ← h0] at S2 ⊢
  have H0 := Lib.hid (⟨h0, h1, h2, h3⟩ : X0 = w.heap.size ∧ X1 = w.heap.size + 1 ∧ X2 = w.heap.size + 1 + 1 ∧ X3 = w.heap.size + 1 + 1 + 1)
  clear h0 h1 h2 h3
  have b0 := (S2.lv 1 rfl).cell 0 _ rfl
  gi_wp2_with fail
  refine ⟨trivial, ?_⟩
  ((with_reducible refine ((callsIn_wide (n := 5)).2 (ewithin_any before 0 4321440 w2)).mono ?_); rintro e _ ⟨rfl, rfl⟩)
  rw [decide_eq_true hb]
  gi_wp2_with fail
  refine ⟨trivial, ?_⟩
  have hf1 : Fence.wide.fn 88 := trivial
  have hf2 : Fence.wide.fn 161 := trivial
  refine (backE_in Fence.wide 5 hf1 rfl A qs.length c w2).mono ?_
  rintro e w3 ⟨rfl, rfl⟩
  gi_wp2_with fail
  have S3 : Mem w (w2.alloc (.cells #[.slice A qs.length c] 40)) [.loc X0 #[.string name] 9, .loc X1 #[.int .i64 before] 3, .loc X2 ezCs 32, .loc X3 #[.int .i64 0] 35, .loc w2.heap.size #[.slice A qs.length c] 40] := S2.newAt _ _ _ rfl
  obtain ⟨Bs, hBs⟩ : ∃ Bs, Bs = w2.heap.size := ⟨_, rfl⟩
  have hsz : (w2.alloc (.cells #[.slice A qs.length c] 40)).heap.size = Bs + 1 := by rw [hBs]; simp
  have hwB : w.heap.size ≤ Bs := by rw [hBs]; exact S2.b.size
  rw [← hBs] at S3 ⊢
  clear hBs S2 b0
  generalize w2.alloc (.cells #[.slice A qs.length c] 40) = W0 at *
  have hB0 := S3.b
  have hE0 : EvsIn W0.heap.size W0 A qs := fun i q hq => by
    obtain ⟨blk, off, e, h1, h2⟩ := (hE.below hB0) i q hq
    exact ⟨blk, off, e, by omega, h2⟩
  have hF0 : FldsOk (fun _ => False) W0 qs := fun q hq => (hF q hq).keepB hB0
  have hBW : Bs < W0.heap.size := by omega
  have hwW : w.heap.size ≤ W0.heap.size := by omega
  have g2 : w.heap.size ≤ X2 := by have h1 := H0.out; omega
  have g3 : w.heap.size ≤ X3 := by have h1 := H0.out; omega
  clear hsz
  refine wpIn_rangeFunc_ownH rfl (by omega) (gf := 161) (lb := #[.pointer (some ⟨Bs, 0, none⟩)]) rfl hf2 (enters_of Tryz.func161 (by kernel_rfl) rfl)
    (backE_stops Fence.wide 5 hf2 rfl (by omega) Bs W0.heap.size c A qs hlen W0 (by omega) (Nat.le_refl _) ((S3.lv 4 rfl).cell 0 _ rfl) hE0) belowK_t (belowK_b (Nat.le_refl _)) (Below.refl _ _) (fun _ => rfl)
    (fun pre W => (NoHit qs name before pre ∧ LV W X0 #[.string name] 9 ∧ LV W X1 #[.int .i64 before] 3 ∧ LV W X2 ezCs 32 ∧ LV W X3 #[.int .i64 0] 35) ∧ Below W0.heap.size W0 W)
    (fun cc pre W => (cc = .ret ∧ HitAt qs name before X2 X3 pre W) ∧ Below w.heap.size w W)
    (OwnFrom.and (Own.from (fun s A B row hs hg hr => ⟨hs.1, lv_kept hs.2.1 hg hr, lv_kept hs.2.2.1 hg hr, lv_kept hs.2.2.2.1 hg hr, lv_kept hs.2.2.2.2 hg hr⟩) _) (ownFrom_below (Nat.le_refl _) (Nat.le_refl _)))
    (fun cc => OwnFrom.and (Own.from (fun s A B row hs hg hr => by obtain ⟨hc, ini, last, A2, c2, e1, e2, e3, e4, e5, e6⟩ := hs; exact ⟨hc, ini, last, A2, c2, e1, e2, e3, lv_kept e4 hg hr, lv_kept e5 hg hr, slF_kept e6 hg hr⟩) _) (ownFrom_below (Nat.le_refl _) (by omega)))
    ⟨⟨(fun _ h => by cases h), S3.lv 0 rfl, S3.lv 1 rfl, S3.lv 2 rfl, S3.lv 3 rfl⟩, Below.refl _ _⟩
    (fun x a' W => ∃ Bx, W0.heap.size ≤ Bx ∧ LV W Bx (evCs (qAt qs x).e (qAt qs x).A (qAt qs x).c) 32 ∧ a' = { tmps := #[.slice A qs.length c, .string name, .int .i64 before, undef, .pointer (some ⟨X0, 0, none⟩), .pointer (some ⟨X1, 0, none⟩), .pointer (some ⟨X2, 0, none⟩), .pointer (some ⟨X3, 0, none⟩), .int .i64 0, undef, .pointer (some ⟨Bx, 0, none⟩), .slice A qs.length c, .agg #[.int .i64 0, .int .i64 0], .string name, .slice (some ⟨X3 + 1, 0, none⟩) 1 1, .int .i64 0, .int .i64 0, .bool false, undef, undef, .int .i64 before, .bool true, .bool false, undef, .slice A qs.length c, .func (.func 161) #[] #[.pointer (some ⟨Bs, 0, none⟩)], .int .i64 (x : Int), .agg (evCs (qAt qs x).e (qAt qs x).A (qAt qs x).c), undef, undef, undef, undef, undef, undef, undef, undef, undef, undef, undef, undef, undef], defers := [] })
    (fun x a' _ X Y row hs hg hr => by obtain ⟨Bx, h1, h2, h3⟩ := hs; exact ⟨Bx, h1, lv_kept h2 hg (fun r e => (hr r e).2), h3⟩)
    ?assign ?body ?done ?stop
  case assign =>
    rintro l pre x W K ⟨⟨hp, l0, l1, l2, l3⟩, hB1⟩ hK
    gi_wp2
    exact hK _ _ ((KeepsOthers.alloc _ _).from _) ((Below.refl _ W).alloc hB1.size _) ⟨⟨hp, l0.alloc _, l1.alloc _, l2.alloc _, l3.alloc _⟩, hB1.alloc hB1.size _⟩ ⟨W.heap.size, hB1.size, LV.new W _ _ _ rfl, rfl⟩
  case body =>
    rintro l pre x a' W hl ⟨r, hr⟩ ⟨⟨hp, l0, l1, l2, l3⟩, hB1⟩ ⟨Bx, hBx, bX, rfl⟩ hlt
    have hBw : Below w.heap.size w W := hB0.trans (hB1.mono hwW)
    obtain ⟨hqF, hqL⟩ := qAt_flds hF0 hfl x
    obtain ⟨q, hq⟩ : ∃ q, qAt qs x = q := ⟨_, rfl⟩
    rw [hq] at hqF hqL bX ⊢
    have Hq := Lib.hid hq
    have hqW := hqF.keepB hB1
    have x0 := bX.all
    have m0 := l0.all
    have m1 := l1.all
    have HM := Lib.hid (mem_two hBw l2 l3 g2 g3 n23)
    have Hp := Lib.hid hp
    have Hst := Lib.hid (⟨l0, l1, l2, l3⟩ : LV W X0 #[.string name] 9 ∧ LV W X1 #[.int .i64 before] 3 ∧ LV W X2 ezCs 32 ∧ LV W X3 #[.int .i64 0] 35)
    clear hq hp l0 l1 l2 l3 bX hqF
    by_cases hn : q.e.name = name
    · have hnb : (q.e.name.toList == name.toList) = true := beqS.2 hn
      by_cases ha : q.e.at' < before
      · have hh : Hid (hitE name before q.e = true) := by show _ = _; simp [hitE, hn, ha]
        have Hcp := Lib.hid (copyEv_any q.e q.A q.c W hqW hqL)
        clear hn hqW
        gi_wp2_with fail
        refine ⟨trivial, ?_⟩
        refine (((callsIn_wide (n := 3)).2 Hcp.out).inRound l).mono ?_
        rintro e W2 ⟨A2, c2, rfl, T⟩
        have M2 := HM.out.join T
        have hkf : KeepsFrom W0.heap.size W W2 := keepsFrom_below T.b
        have HM3 : Mem w ((fillE W2 X2 q.e A2 c2).setCell ⟨X3, 0, none⟩ (.int .i64 0)) [.loc X2 (evCs q.e A2 c2) 32, .loc X3 #[.int .i64 0] 35, .sl rFld A2 q.e.flds] := mem_fill (x := q.e) (A := A2) (c := c2) (.int .i64 0) _ _ _ _ _ _ _ M2
        have HM4 := Lib.hid HM3
        have r0 := (M2.lv 0 rfl).all
        have e0 := (M2.lv 1 rfl).all
        clear x0 m0 m1 Hcp T M2 HM3 HM Hst
        gi_wp2_with fail
        exact ⟨hkf.trans ((keeps_fill W2 X2 X3 q.e A2 c2 (.int .i64 0)).from _), ⟨rfl, pre, x, A2, c2, rfl, Hp.out, by rw [Hq.out]; exact hh.out, by rw [Hq.out]; exact HM4.out.lv 0 rfl, HM4.out.lv 1 rfl, by rw [Hq.out]; exact (HM4.out.slc 2 rfl).mono (fun _ _ h => h.elim)⟩, HM4.out.b⟩
      · have hh : Hid (hitE name before q.e = false) := by show _ = _; simp [hitE, ha]
        clear hn hqW
        gi_wp2_with fail
        exact ⟨KeepsFrom.refl _ _, Below.refl _ _, ⟨Hp.out.snoc x (by rw [Hq.out]; exact hh.out), Hst.out.1, Hst.out.2.1, Hst.out.2.2.1, Hst.out.2.2.2⟩, hB1⟩
    · have hnb : (q.e.name.toList == name.toList) = false := Bool.eq_false_iff.2 (fun h => hn (beqS.1 h))
      have hh : Hid (hitE name before q.e = false) := by show _ = _; simp [hitE, hn]
      clear hn hqW
      gi_wp2_with fail
      exact ⟨KeepsFrom.refl _ _, Below.refl _ _, ⟨Hp.out.snoc x (by rw [Hq.out]; exact hh.out), Hst.out.1, Hst.out.2.1, Hst.out.2.2.1, Hst.out.2.2.2⟩, hB1⟩
  case done =>
    rintro D ys W hD rfl ⟨⟨hne, l0, l1, l2, l3⟩, hB1⟩ hK
    have hBw : Below w.heap.size w W := hB0.trans (hB1.mono hwW)
    have r0 := l2.all
    have e0 := l3.all
    have M := mem_two hBw l2 l3 g2 g3 n23
    have HM : Hid (Mem w ((fillE W X2 zeroE none 0).setCell ⟨X3, 0, none⟩ (.int .i64 8)) [.loc X2 ezCs 32, .loc X3 #[.int .i64 8] 35]) := mem_fill (x := zeroE) (A := none) (c := 0) (.int .i64 8) _ _ _ _ _ _ _ M
    have hK' := (keeps_fill W X2 X3 zeroE none 0 (.int .i64 8)).same D _ hK rfl
    clear M
    gi_wp2_with fail
    have hd := grownBy_putObj' ((fillE W X2 zeroE none 0).setCell ⟨X3, 0, none⟩ (.int .i64 8)) D (.deferred none)
    have q2 := lv_kept (HM.out.lv 0 rfl) hd (fun r e => by cases e; exact ⟨_, hK', rfl⟩)
    have q3 := lv_kept (HM.out.lv 1 rfl) hd (fun r e => by cases e; exact ⟨_, hK', rfl⟩)
    refine ⟨by simp, .inl ⟨_, _, rfl, run_takeDeferred hK', ?_⟩⟩
    refine ⟨.tuple #[.agg ezCs, .int .i64 8], results_cc rfl rfl rfl (loadEv q2) (loadErr q3), .inl ⟨rfl, fun j t hj => ?_⟩, HM.out.b.trans (belowK_b (w := w) (Nat.le_refl _) _ D _ _ (by omega) hK' rfl rfl)⟩
    have hlt := (List.getElem?_eq_some_iff.1 hj).1
    rw [← qAt_get hj]
    refine hne j ?_
    simp only [backE, List.mem_map, List.mem_range]
    refine ⟨qs.length - 1 - j, by omega, ?_⟩
    omega
  case stop =>
    rintro D cc pre W hD ⟨k, hk, rfl⟩ ⟨⟨rfl, ini, last, A2, c2, e1, e2, e3, e4, e5, e6⟩, hB⟩ hK
    gi_wp2_with fail
    have hd := grownBy_putObj' W D (.deferred none)
    have q2 := lv_kept e4 hd (fun r e => by cases e; exact ⟨_, hK, rfl⟩)
    have q3 := lv_kept e5 hd (fun r e => by cases e; exact ⟨_, hK, rfl⟩)
    have q6 := slF_kept e6 hd (fun r e => by cases e; exact ⟨_, hK, rfl⟩)
    refine ⟨by simp, .inl ⟨_, _, rfl, run_takeDeferred hK, ?_⟩⟩
    obtain ⟨k', rfl⟩ : ∃ k', k = k' + 1 := by
      cases k with
      | zero => simp [backE] at e1
      | succ k' => exact ⟨k', rfl⟩
    rw [backE_succ] at e1
    obtain ⟨rfl, e7⟩ := List.append_inj' e1 rfl
    obtain rfl := (List.cons.inj e7).1
    have hi : qs.length - 1 - k' < qs.length := by omega
    obtain ⟨s, hs⟩ : ∃ s, qs[qs.length - 1 - k']? = some s := ⟨_, List.getElem?_eq_getElem hi⟩
    rw [qAt_get hs] at e3 q2 q6
    refine ⟨.tuple #[.agg (evCs s.e A2 c2), .int .i64 0], results_cc rfl rfl rfl (loadEv q2) (loadErr q3), .inr ⟨qs.length - 1 - k', s, A2, c2, hs, rfl, q6, e3, fun j t hj ht => ?_⟩, hB.trans (belowK_b (w := w) (Nat.le_refl _) W D _ _ (by omega) hK rfl rfl)⟩
    have hlt := (List.getElem?_eq_some_iff.1 ht).1
    rw [← qAt_get ht]
    refine e2 j ?_
    simp only [backE, List.mem_map, List.mem_range]
    refine ⟨qs.length - 1 - j, by omega, ?_⟩
    omega
theorem last_any (N : Nat → Prop) (A : Option Addr) (xs : List Evt) (c : Nat) (name : ByteArray) (before : Int) (w : World) (hS : Sl rEvt N w A xs) (hok : EvsOk xs) (hT : Tabs w) (hM : MaxL w) (hname : name.size ≤ 1000000000) (hfl : ∀ e ∈ xs, e.flds.length ≤ 1000) :
    Calls Tryz.prog 28 #[.slice A xs.length c, .string name, .int .i64 before] w (GivesLast (lastAns xs name before) (lastErr xs name before) w) := by
  by_cases h : namedErr xs [name] 0 0 ≠ 0 ∨ ¬ (0 ≤ before ∧ before ≤ 4321440)
  · exact last_err N A xs c name before w hS hok hT hM hname h
  · have h1 : namedErr xs [name] 0 0 = 0 := Decidable.not_not.1 (fun h2 => h (.inl h2))
    have h2 : 0 ≤ before ∧ before ≤ 4321440 := Decidable.not_not.1 (fun h2 => h (.inr h2))
    obtain ⟨qs, hq, hR, hF⟩ := evt_rows hS
    have hlq : qs.length = xs.length := by rw [← hq, List.length_map]
    have hcn : ∀ X w', Below w.heap.size w w' → LV w' X #[.string name] 9 → Calls Tryz.prog 87 #[.slice A qs.length c, .agg #[.int .i64 0, .int .i64 0], .slice (some ⟨X, 0, none⟩) 1 1] w' fun e w'' => e = .returned (.int .i64 0) ∧ Below w'.heap.size w' w'' := fun X w' hb hX => by
      have := checkNamed_any N A xs c 0 0 [name] X 1 w' (hS.keepB hb) hok (Utf8Tabs_below hT hb) (hM.below hb) rfl hX (by simp) (by simpa using hname)
      rw [h1] at this
      rw [hlq]
      exact this
    have hin := callsIn_wide.1 (last_in A qs c name before w hR.inE (fun q hq2 => (hF q hq2).mono (fun _ _ h => h.elim)) (by rw [hlq]; exact hok.len) (fun q hq2 => hfl q.e (by rw [← hq]; exact List.mem_map_of_mem hq2)) h2 hcn)
    rw [hlq] at hin
    have hat : ∀ {j : Nat} {y : Evt}, xs[j]? = some y → ∃ q, qs[j]? = some q ∧ q.e = y := fun {j y} hy => by
      rw [← hq, List.getElem?_map] at hy
      cases hj : qs[j]? with
      | none => rw [hj] at hy; cases hy
      | some q => rw [hj] at hy; exact ⟨q, rfl, by simpa using hy⟩
    refine hin.mono fun e W' ⟨hc, hb⟩ => ?_
    rcases hc with ⟨rfl, hno⟩ | ⟨k, q, A2, c2, hk, rfl, hs, hh, hno⟩
    · have hn : lastOf xs name before = none := lastOf_none (fun j y hy => by
        obtain ⟨q, hq1, rfl⟩ := hat hy
        exact hno j q hq1)
      have he : lastErr xs name before = 8 := by
        rw [lastErr, if_neg (not_not_intro h1), if_neg (not_not_intro h2), hn]
        rfl
      rw [show lastAns xs name before = zeroE by rw [lastAns, he]; rfl, he]
      exact GivesLast.zero hb
    · have hx : xs[k]? = some q.e := by rw [← hq, List.getElem?_map, hk]; rfl
      have hn : lastOf xs name before = some q.e := lastOf_at hx hh (fun j y hj hy => by
        obtain ⟨r, hr1, rfl⟩ := hat hy
        exact hno j r hj hr1)
      have he : lastErr xs name before = 0 := by
        rw [lastErr, if_neg (not_not_intro h1), if_neg (not_not_intro h2), hn]
        rfl
      rw [show lastAns xs name before = q.e by rw [lastAns, he, if_pos rfl, hn]; rfl, he]
      exact ⟨A2, c2, rfl, hs, hb⟩
end Go.Proofs.YthlcdepjmoddnaaGreatDoor

/- What handref2.NamedOf returns. -/
namespace Go.Proofs.YthlcdepjmoddnaaGreatDoor
open Go Go.RowKit
def inE (name : ByteArray) (fr to' : Int) (q : EQ) : Bool := decide (q.e.name = name) && decide (fr ≤ q.e.at' ∧ q.e.at' ≤ to' - 1)
theorem fltE_snoc {P : EQ → Bool} {qs : List EQ} {k : Nat} {q : EQ} (h : qs[k]? = some q) : (qs.take (k + 1)).filter P = (qs.take k).filter P ++ (if P q = true then [q] else []) := by
  rw [take_snoc h, List.filter_append]
  congr 1
  cases hp : P q <;> simp [hp]
set_option maxHeartbeats 8000000 in
set_option maxRecDepth 100000 in
theorem namedOf_any (N : Nat → Prop) (A : Option Addr) (qs : List EQ) (c : Nat) (name : ByteArray) (fr to' : Int) (w : World) (hS : Sl rEQ N w A qs) (hl : qs.length ≤ 100000) (ht : -100000000 ≤ to' ∧ to' ≤ 100000000) :
    Calls Tryz.prog 31 #[.slice A qs.length c, .string name, .agg #[.int .i64 fr, .int .i64 to']] w (GivesOwnE (qs.filter (inE name fr to')) w) := by
  have HSl := Lib.hid (fun w' (h : Below w.heap.size w w') => hS.keepB h)
  have hw1 : IntKind.i64.wrap (to' - 1) = to' - 1 := IntWalk.i64_in _ (by omega)
  obtain ⟨R, HR⟩ : ∃ R, Hid (qs.filter (inE name fr to') = R) := ⟨_, Lib.hid rfl⟩
  rw [HR.out]
  have S : Mem w (w.alloc (.cells #[.int .i64 fr, .int .i64 to'] 53)) [.loc w.heap.size #[.int .i64 fr, .int .i64 to'] 53, .own rEQ w.heap.size 32 (.slice none 0 0) []] := ((Mem.start w).new' _ _).nil rEQ w.heap.size 32
  clear hS
  obtain ⟨Wb, hWb⟩ : ∃ X, X = w.heap.size := ⟨_, rfl⟩
  go_enter Tryz.func31, Tryz.ntmps31
  go_upto_region 3 with fail
  have S0 : Mem w (w.alloc (.cells #[.int .i64 fr, .int .i64 to'] 53)) [.loc Wb #[.int .i64 fr, .int .i64 to'] 53, .own rEQ w.heap.size 32 (.slice none 0 0) []] := by rw [hWb]; exact S
  rw [← hWb]
  clear hWb S
  generalize w.alloc (.cells #[.int .i64 fr, .int .i64 to'] 53) = w1 at *
  go_loopw [7, 12] (fun v i wr => ∃ (j : Nat) (out : List EQ), j ≤ qs.length ∧ i = .int .i64 j ∧ Hid ((qs.take j).filter (inE name fr to') = out) ∧ Hid (out.length ≤ j) ∧ Mem w wr [.loc Wb #[.int .i64 fr, .int .i64 to'] 53, .own rEQ w.heap.size 32 v out]) (fun _ i _ => qs.length - (intOf i).toNat)
  case atStart => exact ⟨0, [], Nat.zero_le _, rfl, Lib.hid rfl, Nat.le_refl _, S0⟩
  case round =>
    clear S0
    obtain ⟨j, out, hj, rfl, HO, HOl, S⟩ := hrel
    by_cases hlt : j < qs.length
    · obtain ⟨q, hq⟩ : ∃ q, qs[j]? = some q := ⟨_, List.getElem?_eq_getElem hlt⟩
      obtain ⟨blk, off, l, hA, hblk, _, hrow, hcs⟩ := (HSl.out wr S.b) j q hq
      obtain rfl : l = EQ.cells q := hrow
      subst hA
      have d0 : wr.cell? ⟨blk, off + j * 6, none⟩ = some (.string q.e.id) := hcs 0 _ rfl
      have d1 : wr.cell? ⟨blk, off + j * 6 + 1, none⟩ = some (.string q.e.name) := hcs 1 _ rfl
      have d2 : wr.cell? ⟨blk, off + j * 6 + 2, none⟩ = some (.int .i64 q.e.at') := hcs 2 _ rfl
      have d3 : wr.cell? ⟨blk, off + j * 6 + 3, none⟩ = some (.int .i64 q.e.kind) := hcs 3 _ rfl
      have d4 : wr.cell? ⟨blk, off + j * 6 + 4, none⟩ = some (.string q.e.text) := hcs 4 _ rfl
      have d5 : wr.cell? ⟨blk, off + j * 6 + 5, none⟩ = some (.slice q.A q.e.flds.length q.c) := hcs 5 _ rfl
      have HO2 := Lib.hid (fltE_snoc (P := inE name fr to') hq)
      clear hcs hq
      go_upto_region 5 with fail
      clear d0 d1 d2 d3 d4 d5
      obtain ⟨Y, hY⟩ : ∃ Y, Y = wr.heap.size := ⟨_, rfl⟩
      replace S := S.newAt (evCs q.e q.A q.c) 32 Y hY
      replace S : Mem w (wr.alloc (.cells (evCs q.e q.A q.c) 32)) [.loc Wb #[.int .i64 fr, .int .i64 to'] 53, .own rEQ w.heap.size 32 _ out, .loc Y (evCs q.e q.A q.c) 32] := S
      rw [← hY]
      clear hY
      generalize wr.alloc (.cells (evCs q.e q.A q.c) 32) = w3 at *
      have c0 := (S.lv 0 rfl).all
      have y0 := (S.lv 2 rfl).all
      have Hin := Lib.hid (in_any q.e.at' fr (to' - 1) w3)
      by_cases hn : q.e.name = name
      · have hnb : (q.e.name.toList == name.toList) = true := beqS.2 hn
        by_cases hin : fr ≤ q.e.at' ∧ q.e.at' ≤ to' - 1
        · have HO3 : Hid ((qs.take (j + 1)).filter (inE name fr to') = out ++ [q]) := by
            show _ = _
            rw [HO2.out, HO.out, if_pos (by simp [inE, hn, hin])]
          rw [decide_eq_true hin] at Hin
          have hsz := S.b.size
          have HS0 := Lib.hid S
          clear hn hin HO HO2 S
          go_wp2_with fail
          ((with_reducible refine (Hin.out).mono ?_); rintro e _ ⟨rfl, rfl⟩)
          go_wp2_with (at_builtin; refine HS0.out.app 1 rfl tyEvt rfl _ _ rfl q 1 rfl rfl rfl (oneEQ q) hsz (by have := HOl.out; omega) (by decide) ?_; intro v' w6 S6)
          go_roundw
          case rel => exact ⟨j + 1, out ++ [q], by omega, by go_num, HO3, (by show _ ≤ _; rw [List.length_append, List.length_singleton]; have := HOl.out; omega), S6.del 2⟩
          case measure => simp [intOf]; omega
        · have HO3 : Hid ((qs.take (j + 1)).filter (inE name fr to') = out) := by
            show _ = _
            rw [HO2.out, HO.out, if_neg (by simp [inE, hn]; omega), List.append_nil]
          rw [decide_eq_false hin] at Hin
          clear hn hin HO HO2
          go_wp2_with fail
          ((with_reducible refine (Hin.out).mono ?_); rintro e _ ⟨rfl, rfl⟩)
          go_wp2_with fail
          go_roundw
          case rel => exact ⟨j + 1, out, by omega, by go_num, HO3, (by show _ ≤ _; have := HOl.out; omega), S.del 2⟩
          case measure => simp [intOf]; omega
      · have hnb : (q.e.name.toList == name.toList) = false := Bool.eq_false_iff.2 (fun h => hn (beqS.1 h))
        have HO3 : Hid ((qs.take (j + 1)).filter (inE name fr to') = out) := by
          show _ = _
          rw [HO2.out, HO.out, if_neg (by simp [inE, hn]), List.append_nil]
        clear hn HO HO2 Hin
        go_wp2_with fail
        go_roundw
        case rel => exact ⟨j + 1, out, by omega, by go_num, HO3, (by show _ ≤ _; have := HOl.out; omega), S.del 2⟩
        case measure => simp [intOf]; omega
    · have HO3 : Hid (out = R) := by show _ = _; rw [← HO.out, List.take_of_length_le (by omega), HR.out]
      obtain rfl := HO3.out
      have HS0 := Lib.hid (S.del 0)
      clear S HO HR
      go_wp2_with fail
      go_ret
      exact ⟨_, rfl, HS0.out⟩
end Go.Proofs.YthlcdepjmoddnaaGreatDoor

/- The law EventLasts walked: it returns true, and nothing that was there has turned. -/
namespace Go.Proofs.YthlcdepjmoddnaaGreatDoor
open Go Go.RowKit
theorem last_first (xs : List Evt) (name : ByteArray) (before : Int) : lastErr xs name before = if firstErr [evsFault xs, namesErr [name]] ≠ 0 then firstErr [evsFault xs, namesErr [name]] else if ¬ (0 ≤ before ∧ before ≤ 4321440) then 1 else if (lastOf xs name before).isSome then 0 else 8 := by
  unfold lastErr namedErr
  rw [show winErr 0 0 = 0 from rfl]
  simp only [firstErr]
  by_cases h1 : evsFault xs = 0 <;> by_cases h2 : namesErr [name] = 0 <;> simp [h1, h2]
theorem first_two {a b : Int} (h : firstErr [a, b] = 0) : a = 0 ∧ b = 0 := by
  simp only [firstErr] at h
  by_cases h1 : a = 0 <;> by_cases h2 : b = 0 <;> simp_all
theorem named_last {qs : List EQ} {name : ByteArray} {before : Int} (h : ∀ q ∈ qs, 0 ≤ q.e.at') : lastOf (qs.map EQ.e) name before = ((qs.filter (inE name 0 before)).getLast?).map EQ.e := by
  unfold lastOf
  rw [List.filter_map, List.getLast?_map]
  congr 2
  apply List.filter_congr
  intro q hq
  have := h q hq
  simp only [Function.comp, hitE, inE]
  congr 1
  by_cases h1 : q.e.at' < before
  · rw [decide_eq_true h1, decide_eq_true (by omega)]
  · rw [decide_eq_false h1, decide_eq_false (by omega)]
def LastC (G : Nat) (x : Evt) (Ag : Option Addr) (cg : Nat) (b o : Nat) (q : EQ) (w : World) : Prop := LV w G (evCs x Ag cg) 32 ∧ w.cell? ⟨b, o, none⟩ = some (.string q.e.id) ∧ w.cell? ⟨b, o + 1, none⟩ = some (.string q.e.name) ∧ w.cell? ⟨b, o + 2, none⟩ = some (.int .i64 q.e.at') ∧ w.cell? ⟨b, o + 3, none⟩ = some (.int .i64 q.e.kind) ∧ w.cell? ⟨b, o + 4, none⟩ = some (.string q.e.text) ∧ w.cell? ⟨b, o + 5, none⟩ = some (.slice q.A q.e.flds.length q.c)
theorem LastC.keep {G b o cg : Nat} {x : Evt} {Ag : Option Addr} {q : EQ} {w w' : World} (h : LastC G x Ag cg b o q w) (k : Below w.heap.size w w') : LastC G x Ag cg b o q w' := by
  obtain ⟨h1, c0, c1, c2, c3, c4, c5⟩ := h
  exact ⟨LV.kb3 h1 k h1.lt, (k.cell (p := ⟨b, o, none⟩) (World.block_lt_of_cell? w _ c0)).trans c0, (k.cell (p := ⟨b, o + 1, none⟩) (World.block_lt_of_cell? w _ c1)).trans c1, (k.cell (p := ⟨b, o + 2, none⟩) (World.block_lt_of_cell? w _ c2)).trans c2, (k.cell (p := ⟨b, o + 3, none⟩) (World.block_lt_of_cell? w _ c3)).trans c3, (k.cell (p := ⟨b, o + 4, none⟩) (World.block_lt_of_cell? w _ c4)).trans c4, (k.cell (p := ⟨b, o + 5, none⟩) (World.block_lt_of_cell? w _ c5)).trans c5⟩
set_option maxHeartbeats 8000000 in
set_option maxRecDepth 100000 in
theorem eventLasts_any (v : Value) (w : World) (hv : IntsIn v w) (hT : Tabs w) (hM : MaxL w) (hN : Names w) (hE : ENames w) (hP : Pool w) :
    Calls Tryz.prog 6 #[v] w fun e w' => e = .returned (.bool true) ∧ Below w.heap.size w w' := by
  obtain ⟨va, vn, vc, rfl⟩ : ∃ a n c, v = .slice a n c := by
    rcases hv with ⟨a, c, rfl⟩ | ⟨k, off, len, cap, rfl, _⟩
    · exact ⟨_, _, _, rfl⟩
    · exact ⟨_, _, _, rfl⟩
  have g0 := G.start (Strm.start hv)
  clear hv
  have S := St.start g0.s
  have hPn : 2 ≠ w.heap.size := Nat.ne_of_lt hP.lt
  have hNn : 1 ≠ w.heap.size := Nat.ne_of_lt hN.lt
  have hEn : 0 ≠ w.heap.size := Nat.ne_of_lt hE.lt
  have hb0 : Below w.heap.size w (w.alloc (.cells #[.slice va vn vc, .int .i64 0] 25)) := (Below.refl _ _).alloc (Nat.le_refl _) _
  have Hb0 := Lib.hid hb0
  have HTM : Hid (∀ w', Below w.heap.size w w' → Tabs w' ∧ MaxL w') := fun w' h => ⟨Utf8Tabs_below hT h, hM.below h⟩
  have HP := Lib.hid (hP.keep (b := w.heap.size) ((SK.refl _ w).alloc (.cells #[.slice va vn vc, .int .i64 0] 25)) hPn)
  have HN := Lib.hid (hN.keep (b := w.heap.size) ((SK.refl _ w).alloc (.cells #[.slice va vn vc, .int .i64 0] 25)) hNn)
  have HE := Lib.hid (hE.keep (b := w.heap.size) ((SK.refl _ w).alloc (.cells #[.slice va vn vc, .int .i64 0] 25)) hEn)
  have hw0 : w.heap.size ≤ (w.alloc (.cells #[.slice va vn vc, .int .i64 0] 25)).heap.size := by simp
  clear hP hM hN hE hT hb0
  go_enter Tryz.func6, Tryz.ntmps6
  go_wp2_with fail
  ((with_reducible refine (range_any w.heap.size _ _ _ _ S.g.s (by omega) (by omega) (by omega) (by omega)).mono ?_); rintro e w1 ⟨many, m_lo, m_hi, rfl, hk_w1, hs_w1⟩)
  replace S := S.step hk_w1 hs_w1
  clear hk_w1 hs_w1
  obtain ⟨n, rfl⟩ := Int.eq_ofNat_of_zero_le m_lo
  go_wp2_with fail
  ((with_reducible refine (some_any w.heap.size _ n _ S.g.s (by omega) (by omega) (HN.out.keep S.g.k hNn) hNn (HE.out.keep S.g.k hEn) hEn (HP.out.keep S.g.k hPn) hPn (fun w' h => HTM.out w' (Hb0.out.trans ((S.g.k.trans h).below (Nat.le_refl _) hw0)))).mono ?_); rintro e w2 ⟨A, c, xs, rfl, hxl, hxs, hc, T⟩)
  replace S := S.join T
  have Hxs := Lib.hid hxs
  have Hc0 := Lib.hid hc
  clear T hxs hc
  go_wp2_with fail
  ((with_reducible refine (evName_any w.heap.size _ _ S.g.s (by omega)).mono ?_); rintro e w3 ⟨name, name_le, rfl, hk_w3, hs_w3⟩)
  replace S := S.step hk_w3 hs_w3
  clear hk_w3 hs_w3
  go_wp2_with fail
  ((with_reducible refine (pick_le w.heap.size _ _ _ (-1) 4321441 S.g.s (by first | rfl | simp) (by first | rfl | simp) (by repeat (first | exact intsIn_nil | refine intsIn_cons (by omega) ?_)) (by simp) (by simp) (by omega)).mono ?_); rintro e w4 ⟨bf, bf_lo, bf_hi, rfl, hk_w4, hs_w4⟩)
  replace S := S.step hk_w4 hs_w4
  clear hk_w4 hs_w4
  have Hb3 : Hid (Below w.heap.size w w4) := Hb0.out.trans (S.g.k.below (Nat.le_refl _) hw0)
  have hS3 := (S.slc 0 rfl)
  have hok : EvsOk xs := evsOk_sm (by omega) Hxs.out
  obtain ⟨hT3, hM3⟩ := HTM.out _ Hb3.out
  clear S
  have hfl : ∀ e ∈ xs, e.flds.length ≤ 1000 := fun e he => Nat.le_trans (Hxs.out e he).fl (by decide)
  have Hc := Lib.hid (last_any _ A xs c name bf w4 hS3 hok hT3 hM3 (by omega) hfl)
  obtain ⟨qs, hqx, hR, hFl⟩ := evt_rows hS3
  have Hqx := Lib.hid hqx
  have HRq := Lib.hid (hR.mono (M := fun _ => False) (fun _ _ h => h.elim))
  have HFq : Hid (FldsOk (fun _ => False) w4 qs) := fun q hq => (hFl q hq).mono (fun _ _ h => h.elim)
  have Hql : Hid (qs.length = xs.length) := by show _ = _; rw [← hqx, List.length_map]
  have Hxl : Hid (xs.length ≤ 16) := by show _ ≤ _; omega
  obtain ⟨F, HF⟩ : ∃ F, Hid (evsFault xs = F) := ⟨_, Lib.hid rfl⟩
  rw [HF.out]
  obtain ⟨Fn, HFn⟩ : ∃ Fn, Hid (namesErr [name] = Fn) := ⟨_, Lib.hid rfl⟩
  obtain ⟨E, HE'⟩ : ∃ E, Hid (lastErr xs name bf = E) := ⟨_, Lib.hid rfl⟩
  obtain ⟨X, HX⟩ : ∃ X, Hid (lastAns xs name bf = X) := ⟨_, Lib.hid rfl⟩
  have HE2 : Hid ((if firstErr [F, Fn] ≠ 0 then firstErr [F, Fn] else if ¬ (0 ≤ bf ∧ bf ≤ 4321440) then 1 else if (lastOf xs name bf).isSome then 0 else 8) = E) := by show _ = _; rw [← HE'.out, last_first, HF.out, HFn.out]
  have HX2 : Hid ((if E = 0 then (lastOf xs name bf).getD zeroE else zeroE) = X) := by show _ = _; rw [← HX.out, lastAns, HE'.out]
  rw [HE'.out, HX.out] at Hc
  have Hname : Hid (∀ Y w', LV w' Y #[.string name] 9 → Calls Tryz.prog 30 #[.slice (some ⟨Y, 0, none⟩) 1 1] w' fun e w'' => e = .returned (.int .i64 Fn) ∧ Below w'.heap.size w' w'') := fun Y w' h => HFn.out ▸ nameFault_any [name] Y 1 w' rfl h (by simp) (by simp; omega)
  obtain ⟨nx, hnx⟩ : ∃ nx, xs.length = nx := ⟨_, rfl⟩
  have Hnx := Lib.hid hnx
  rw [hnx] at Hc ⊢
  clear hnx hS3 hok hT3 hM3 hfl hqx hR hFl HE' HX HFn hxl m_lo m_hi
  go_wp2_with fail
  ((with_reducible refine (Hc.out).mono ?_); rintro e w5 ⟨Ag, cg, rfl, hXF, hl5⟩)
  have HXF := Lib.hid hXF
  have Hl5 := Lib.hid hl5
  clear Hc hXF hl5
  go_upto_region 5 with fail
  have lvG : LV (w5.alloc (.cells (evCs X Ag cg) 32)) w5.heap.size (evCs X Ag cg) 32 := LV.new w5 w5.heap.size (evCs X Ag cg) 32 rfl
  have hbn : Below w5.heap.size w5 (w5.alloc (.cells (evCs X Ag cg) 32)) := (Below.refl _ _).alloc (Nat.le_refl _) _
  have Hb6 : Hid (Below w4.heap.size w4 (w5.alloc (.cells (evCs X Ag cg) 32))) := Hl5.out.trans (hbn.mono Hl5.out.size)
  replace HXF := Lib.hid (HXF.out.keepB hbn)
  obtain ⟨G, hG⟩ : ∃ G, G = w5.heap.size := ⟨_, rfl⟩
  rw [← hG] at lvG ⊢
  clear hG hbn Hl5
  generalize w5.alloc (.cells (evCs X Ag cg) 32) = w6 at *
  have hbn : Below w6.heap.size w6 (w6.alloc (.cells #[.string name] 9)) := (Below.refl _ _).alloc (Nat.le_refl _) _
  have Hn1 := Lib.hid (Hname.out w6.heap.size _ (LV.new w6 w6.heap.size #[.string name] 9 rfl))
  have Hbn := Lib.hid hbn
  clear Hname hbn
  go_wp2_with fail
  ((with_reducible refine (Hn1.out).mono ?_); rintro e w7 ⟨rfl, hl7⟩)
  have Hb7 : Hid (Below w6.heap.size w6 w7) := Hbn.out.trans (hl7.mono Hbn.out.size)
  have Hw1 := Lib.hid (wrongOr_any w7.heap.size [F, Fn] _ (LV.new w7 w7.heap.size #[.int .i64 F, .int .i64 Fn] 35 rfl) (by simp))
  rw [show ([F, Fn] : List Int).length = 2 from rfl] at Hw1
  have hb8 : Below w7.heap.size w7 (w7.alloc (.cells #[.int .i64 F, .int .i64 Fn] 35)) := (Below.refl _ _).alloc (Nat.le_refl _) _
  have Hb8 : Hid (Below w6.heap.size w6 (w7.alloc (.cells #[.int .i64 F, .int .i64 Fn] 35))) := Hb7.out.trans (hb8.mono Hb7.out.size)
  obtain ⟨K, HK⟩ : ∃ K, Hid (firstErr [F, Fn] = K) := ⟨_, Lib.hid rfl⟩
  rw [HK.out] at Hw1 HE2
  clear Hn1 hl7 Hb7 hb8
  go_wp2_with fail
  ((with_reducible refine (Hw1.out).mono ?_); rintro e _ ⟨rfl, rfl⟩)
  generalize w7.alloc (.cells #[.int .i64 F, .int .i64 Fn] 35) = w8 at *
  clear Hw1 Hbn
  have lvG8 := LV.kb3 lvG Hb8.out lvG.lt
  have HXF8 := Lib.hid (HXF.out.keepB Hb8.out)
  have Hb48 : Hid (Below w4.heap.size w4 w8) := Hb6.out.trans (Hb8.out.mono Hb6.out.size)
  have Hbw : Hid (Below w.heap.size w w8) := Hb3.out.trans (Hb48.out.mono Hb3.out.size)
  clear lvG HXF
  by_cases k0 : K = 0
  · subst k0
    rw [if_neg (not_not_intro rfl)] at HE2
    by_cases hr : 0 ≤ bf ∧ bf ≤ 4321440
    · rw [if_neg (not_not_intro hr)] at HE2
      have HGd := Lib.hid (evs_good (show evsFault xs = 0 by rw [HF.out]; exact (first_two HK.out).1))
      have hnl : lastOf xs name bf = ((qs.filter (inE name 0 bf)).getLast?).map EQ.e := by
        rw [← Hqx.out]
        exact named_last (fun q hq => (HGd.out.range (by rw [← Hqx.out]; exact List.mem_map_of_mem hq)).1)
      rw [hnl] at HE2 HX2
      have Hno := Lib.hid (namedOf_any (fun _ => False) A qs c name 0 bf w8 (HRq.out.keepB Hb48.out) (by have h1 := Hql.out; have h2 := Hxl.out; omega) (by omega))
      rw [Hql.out, Hnx.out] at Hno
      have Hsub : Hid (∀ q ∈ qs.filter (inE name 0 bf), q ∈ qs) := fun q hq => (List.mem_filter.1 hq).1
      have HRl : Hid ((qs.filter (inE name 0 bf)).length ≤ qs.length) := List.length_filter_le _ _
      obtain ⟨hr1, hr2⟩ := hr
      clear hnl
      generalize qs.filter (inE name 0 bf) = R2 at *
      go_wp2_with fail
      ((with_reducible refine (Hno.out).mono ?_); rintro e w9 ⟨v6, rfl, M⟩)
      obtain ⟨A6, c6, rfl, M6⟩ := M.frz 0 rfl
      have lvG9 := LV.kb3 lvG8 M6.b lvG8.lt
      have HXF9 := Lib.hid (HXF8.out.keepB M6.b)
      have Hb9 : Hid (Below w.heap.size w w9) := Hbw.out.trans (M6.b.mono Hbw.out.size)
      have Hb49 : Hid (Below w4.heap.size w4 w9) := Hb48.out.trans (M6.b.mono Hb48.out.size)
      clear Hno M lvG8 HXF8
      cases hR2 : R2.getLast? with
      | none =>
        obtain rfl : R2 = [] := List.getLast?_eq_none_iff.1 hR2
        obtain rfl : 8 = E := HE2.out
        obtain rfl : zeroE = X := HX2.out
        rw [show ([] : List EQ).length = 0 from rfl]
        clear M6 HE2 HX2 Hsub
        have Hsz : Hid (Calls Tryz.prog 32 #[.agg #[.string ⟨#[]⟩, .string ⟨#[]⟩, .int .i64 0, .int .i64 0, .string ⟨#[]⟩, .slice Ag 0 cg], .agg #[.string ⟨#[]⟩, .string ⟨#[]⟩, .int .i64 0, .int .i64 0, .string ⟨#[]⟩, .slice none 0 0]] w9 fun r w' => r = .returned (.bool true) ∧ Below (w9).heap.size w9 w') := sameEv_any (fun _ => False) zeroE Ag none cg 0 w9 HXF9.out Sl.nil (by decide)
        have gz := lvG9.all
        have hz := zeroEvL
        go_wp2_with fail
        ((with_reducible refine (Hsz.out).mono ?_); rintro e wz ⟨rfl, hlz⟩)
        have Hbz : Hid (Below w.heap.size w wz) := Hb9.out.trans (hlz.mono Hb9.out.size)
        clear Hsz hlz gz hz
        go_wp2_with fail
        ((with_reducible refine (happenings_any wz).mono ?_); rintro e w9 ⟨rfl, hl9⟩)
        go_wp2_with fail
        go_ret
        exact ⟨rfl, Hbz.out.trans (hl9.mono Hbz.out.size)⟩
      | some q =>
        rw [hR2] at HE2 HX2
        obtain rfl : 0 = E := HE2.out
        obtain rfl : q.e = X := HX2.out
        obtain ⟨k, hk⟩ : ∃ k, R2.length = k + 1 := by
          cases R2 with
          | nil => cases hR2
          | cons a r => exact ⟨r.length, rfl⟩
        have hkb : k ≤ 16 := by
          have h2 := Hql.out
          have h3 := Hxl.out
          have h4 := HRl.out
          omega
        have hqk : R2[k]? = some q := by
          rw [List.getLast?_eq_getElem?, hk] at hR2
          exact hR2
        obtain ⟨b6, o6, l, hA6, hblk, _, hrow, hcs⟩ := (M6.slc 0 rfl) k q hqk
        obtain rfl : l = EQ.cells q := hrow
        subst hA6
        have hC : LastC G q.e Ag cg b6 (o6 + k * 6) q w9 := ⟨lvG9, hcs 0 _ rfl, hcs 1 _ rfl, hcs 2 _ rfl, hcs 3 _ rfl, hcs 4 _ rfl, hcs 5 _ rfl⟩
        have hqm := Hsub.out q (List.mem_of_getElem? hqk)
        have HqF := Lib.hid ((HFq.out q hqm).keepB Hb49.out)
        have hql : q.e.flds.length ≤ 1000000 := Nat.le_trans (Hxs.out q.e (by rw [← Hqx.out]; exact List.mem_map_of_mem hqm)).fl (by decide)
        rw [hk]
        clear M6 HE2 HX2 Hsub hR2 hqk hcs hk hqm lvG9
        go_upto_region 12 with fail
        refine wp_region_mix (LastC G q.e Ag cg b6 (o6 + k * 6) q) [(true, 0), (true, 1), (true, 2), (true, 3), (true, 4), (true, 5), (true, 6), (true, 7), (true, 8), (true, 9), (false, 10), (true, 11), (true, 12), (false, 13), (true, 14), (true, 15)] (by kernel_rfl) (by kernel_rfl) (fun w' hd => hC.keep (hd.below _)) (fun KK hKK wd hd_wd => ?_)
        have hC1 := hC.keep (hd_wd.below _)
        have hr1' : Hid (Below w9.heap.size w9 wd) := hd_wd.below _
        have Hsm := Lib.hid (sameEv_any (fun _ => False) q.e Ag q.A cg q.c wd (HXF9.out.keepB hr1'.out) (HqF.out.keepB hr1'.out) hql)
        clear hC hd_wd
        repeat (refine mix_p rfl (fun K hK => ?_); go_simp; (try go_bits); (try simp (disch := omega) only [if_pos]); (try simp (disch := omega) only [if_neg]); (try simp (disch := omega) only [dif_pos]); (try simp (disch := omega) only [dif_neg]); (try go_simp); (refine hK _ ?_; clear hK K))
        refine mix_loadG (.agg (evCs q.e Ag cg)) rfl (by simp [Region.wanted, yielded, go_sem]) rfl rfl (fun w' h => loadAtEv h.1) ?_
        repeat (refine mix_p rfl (fun K hK => ?_); go_simp; (try go_bits); (try simp (disch := omega) only [if_pos]); (try simp (disch := omega) only [if_neg]); (try simp (disch := omega) only [dif_pos]); (try simp (disch := omega) only [dif_neg]); (try go_simp); (refine hK _ ?_; clear hK K))
        refine mix_loadG (p := .pointer (some ⟨b6, o6 + k * 6, none⟩)) (.agg (evCs q.e q.A q.c)) rfl (by simp [Region.wanted, yielded, go_sem]) rfl rfl (fun w' h => loadAtE h.2.1 h.2.2.1 h.2.2.2.1 h.2.2.2.2.1 h.2.2.2.2.2.1 h.2.2.2.2.2.2) ?_
        refine mix_l rfl (fun K hK => ?_) hC1
        go_wp2_with fail
        ((with_reducible refine (Hsm.out).mono ?_); rintro e wa ⟨rfl, hla⟩)
        have hC2 := hC1.keep hla
        have hr2' : Hid (Below w9.heap.size w9 wa) := hr1'.out.trans (hla.mono hr1'.out.size)
        clear Hsm hla hC1
        go_wp2_with fail
        refine ⟨hC2, ?_⟩
        repeat (refine mix_p rfl (fun K hK => ?_); go_simp; (try go_bits); (try simp (disch := omega) only [if_pos]); (try simp (disch := omega) only [if_neg]); (try simp (disch := omega) only [dif_pos]); (try simp (disch := omega) only [dif_neg]); (try go_simp); (refine hK _ ?_; clear hK K))
        refine mix_l rfl (fun K hK => ?_) hC2
        go_wp2_with fail
        ((with_reducible refine (happenings_any wa).mono ?_); rintro e wb ⟨rfl, hlb⟩)
        have hC3 := hC2.keep hlb
        have hr3' : Hid (Below w9.heap.size w9 wb) := hr2'.out.trans (hlb.mono hr2'.out.size)
        clear hlb hC2
        go_wp2_with fail
        refine ⟨hC3, ?_⟩
        repeat (refine mix_p rfl (fun K hK => ?_); go_simp; (try go_bits); (try simp (disch := omega) only [if_pos]); (try simp (disch := omega) only [if_neg]); (try simp (disch := omega) only [dif_pos]); (try simp (disch := omega) only [dif_neg]); (try go_simp); (refine hK _ ?_; clear hK K))
        refine mix_nil ?_
        simp only [Exit.then]
        refine hKK _ _ ?_
        go_wp2_with fail
        go_ret
        exact ⟨rfl, Hb9.out.trans (hr3'.out.mono Hb9.out.size)⟩
    · rw [if_pos hr] at HE2
      have hEv : E = 1 := HE2.out.symm
      rw [if_neg (by rw [hEv]; decide)] at HX2
      obtain rfl : zeroE = X := HX2.out
      subst hEv
      clear HE2 HX2
      by_cases s1 : bf < 0
      · clear hr
        have Hsz : Hid (Calls Tryz.prog 32 #[.agg #[.string ⟨#[]⟩, .string ⟨#[]⟩, .int .i64 0, .int .i64 0, .string ⟨#[]⟩, .slice Ag 0 cg], .agg #[.string ⟨#[]⟩, .string ⟨#[]⟩, .int .i64 0, .int .i64 0, .string ⟨#[]⟩, .slice none 0 0]] w8 fun r w' => r = .returned (.bool true) ∧ Below (w8).heap.size w8 w') := sameEv_any (fun _ => False) zeroE Ag none cg 0 w8 HXF8.out Sl.nil (by decide)
        have gz := lvG8.all
        have hz := zeroEvL
        go_wp2_with fail
        ((with_reducible refine (Hsz.out).mono ?_); rintro e wz ⟨rfl, hlz⟩)
        have Hbz : Hid (Below w.heap.size w wz) := Hbw.out.trans (hlz.mono Hbw.out.size)
        clear Hsz hlz gz hz
        go_wp2_with fail
        ((with_reducible refine (happenings_any wz).mono ?_); rintro e w9 ⟨rfl, hl9⟩)
        go_wp2_with fail
        go_ret
        exact ⟨rfl, Hbz.out.trans (hl9.mono Hbz.out.size)⟩
      · have s2 : 4321440 < bf := by omega
        clear hr
        have Hsz : Hid (Calls Tryz.prog 32 #[.agg #[.string ⟨#[]⟩, .string ⟨#[]⟩, .int .i64 0, .int .i64 0, .string ⟨#[]⟩, .slice Ag 0 cg], .agg #[.string ⟨#[]⟩, .string ⟨#[]⟩, .int .i64 0, .int .i64 0, .string ⟨#[]⟩, .slice none 0 0]] w8 fun r w' => r = .returned (.bool true) ∧ Below (w8).heap.size w8 w') := sameEv_any (fun _ => False) zeroE Ag none cg 0 w8 HXF8.out Sl.nil (by decide)
        have gz := lvG8.all
        have hz := zeroEvL
        go_wp2_with fail
        ((with_reducible refine (Hsz.out).mono ?_); rintro e wz ⟨rfl, hlz⟩)
        have Hbz : Hid (Below w.heap.size w wz) := Hbw.out.trans (hlz.mono Hbw.out.size)
        clear Hsz hlz gz hz
        go_wp2_with fail
        ((with_reducible refine (happenings_any wz).mono ?_); rintro e w9 ⟨rfl, hl9⟩)
        go_wp2_with fail
        go_ret
        exact ⟨rfl, Hbz.out.trans (hl9.mono Hbz.out.size)⟩
  · rw [if_pos k0] at HE2
    have hEv : E = K := HE2.out.symm
    rw [if_neg (by rw [hEv]; exact k0)] at HX2
    obtain rfl : zeroE = X := HX2.out
    subst hEv
    have k1 : (E == 0) = false := by simpa using k0
    clear HE2 HX2
    have Hsz : Hid (Calls Tryz.prog 32 #[.agg #[.string ⟨#[]⟩, .string ⟨#[]⟩, .int .i64 0, .int .i64 0, .string ⟨#[]⟩, .slice Ag 0 cg], .agg #[.string ⟨#[]⟩, .string ⟨#[]⟩, .int .i64 0, .int .i64 0, .string ⟨#[]⟩, .slice none 0 0]] w8 fun r w' => r = .returned (.bool true) ∧ Below (w8).heap.size w8 w') := sameEv_any (fun _ => False) zeroE Ag none cg 0 w8 HXF8.out Sl.nil (by decide)
    have gz := lvG8.all
    have hz := zeroEvL
    go_wp2_with fail
    ((with_reducible refine (Hsz.out).mono ?_); rintro e wz ⟨rfl, hlz⟩)
    have Hbz : Hid (Below w.heap.size w wz) := Hbw.out.trans (hlz.mono Hbw.out.size)
    clear Hsz hlz gz hz
    go_wp2_with fail
    ((with_reducible refine (happenings_any wz).mono ?_); rintro e w9 ⟨rfl, hl9⟩)
    go_wp2_with fail
    go_ret
    exact ⟨rfl, Hbz.out.trans (hl9.mono Hbz.out.size)⟩
end Go.Proofs.YthlcdepjmoddnaaGreatDoor
