/- What May is made of returns where nothing was said. -/
import Derived.Test.YthmkphmciiiagaaGreatDoorStmChk
import Derived.Test.YthmkphmciiiagaaGreatDoorPackM
import Derived.RegionTactic
import Derived.ChangeAlike
namespace Go.Proofs.YthmkphmciiiagaaGreatDoor
open Go.RowKit
set_option maxHeartbeats 2000000 in
set_option maxRecDepth 100000 in
theorem insNil_any (v : Value) (w : World) : Calls Tryz.prog 241 #[.slice none 0 0, .int .i64 0, .int .i64 0, v] w fun e w' => e = .returned (.tuple #[]) ∧ w = w' := by
  go_enter Tryz.func241, Tryz.ntmps241
  go_wp2_with fail
  go_loopw [8] (fun i wr => i = .int .i64 1 ∧ w = wr) (fun _ _ => 0)
  case atStart => exact ⟨rfl, rfl⟩
  case round =>
    obtain ⟨rfl, rfl⟩ := hrel
    go_wp2_with fail
    go_end0
    exact ⟨rfl, rfl⟩
set_option maxHeartbeats 2000000 in
set_option maxRecDepth 100000 in
theorem stableNil_any (v : Value) (w : World) : Calls Tryz.prog 270 #[.slice none 0 0, .int .i64 0, v] w fun e w' => e = .returned (.tuple #[]) ∧ w = w' := by
  go_enter Tryz.func270, Tryz.ntmps270
  go_wp2_with fail
  go_loopw [7, 8] (fun a i wr => a = .int .i64 0 ∧ i = .int .i64 20 ∧ w = wr) (fun _ _ _ => 0)
  case atStart => exact ⟨rfl, rfl, rfl⟩
  case round =>
    obtain ⟨rfl, rfl, rfl⟩ := hrel
    go_wp2_with fail
    ((with_reducible refine (insNil_any v _).mono ?_); rintro e _ ⟨rfl, rfl⟩)
    go_wp2_with fail
    go_loopw [6] (fun i wr => i = .int .i64 20 ∧ w = wr) (fun _ _ => 0)
    case atStart => exact ⟨rfl, rfl⟩
    case round =>
      obtain ⟨rfl, rfl⟩ := hrel
      go_wp2_with fail
      go_end0
      exact ⟨rfl, rfl⟩
theorem sortNil_any (v : Value) (w : World) : Calls Tryz.prog 210 #[.slice none 0 0, v] w fun e w' => e = .returned (.tuple #[]) ∧ w = w' := by
  go_enter Tryz.func210, Tryz.ntmps210
  go_wp2_with fail
  ((with_reducible refine (stableNil_any v _).mono ?_); rintro e _ ⟨rfl, rfl⟩)
  go_wp2_with fail
  go_end0
  exact ⟨rfl, rfl⟩
set_option maxHeartbeats 2000000 in
set_option maxRecDepth 100000 in
theorem saidNil_any (k : Int) (t : ByteArray) (ch : Int) (w : World) : Calls Tryz.prog 135 #[.slice none 0 0, .agg #[.int .i64 k, .string t], .int .i64 ch] w fun e w' => e = .returned (.slice none 0 0) ∧ Below w.heap.size w w' := by
  have Hb : Hid (Below w.heap.size w (w.alloc (.cells #[.int .i64 k, .string t] 29))) := (Below.refl _ _).alloc (Nat.le_refl _) _
  go_enter Tryz.func135, Tryz.ntmps135
  go_wp2_with fail
  generalize w.alloc (.cells #[.int .i64 k, .string t] 29) = w1 at *
  go_loopw [7, 12] (fun a i wr => a = .slice none 0 0 ∧ i = .int .i64 0 ∧ w1 = wr) (fun _ _ _ => 0)
  case atStart => exact ⟨rfl, rfl, rfl⟩
  case round =>
    obtain ⟨rfl, rfl, rfl⟩ := hrel
    go_wp2_with fail
    ((with_reducible refine (sortNil_any _ _).mono ?_); rintro e _ ⟨rfl, rfl⟩)
    go_wp2_with fail
    go_ret
    exact ⟨rfl, Hb.out⟩
theorem searchNil_any (n : Int) (v : Value) (w : World) : Calls Tryz.prog 212 #[.slice none 0 0, .int .i64 n, v] w fun e w' => e = .returned (.tuple #[.int .i64 0, .bool false]) ∧ w = w' := by
  go_enter Tryz.func212, Tryz.ntmps212
  go_wp2_with fail
  go_loopw [9, 10] (fun a i wr => a = .int .i64 0 ∧ i = .int .i64 0 ∧ w = wr) (fun _ _ _ => 0)
  case atStart => exact ⟨rfl, rfl, rfl⟩
  case round =>
    obtain ⟨rfl, rfl, rfl⟩ := hrel
    go_wp2_with fail
    go_ret2
    exact ⟨rfl, rfl⟩
theorem upToNil_any (n : Int) (w : World) : Calls Tryz.prog 136 #[.slice none 0 0, .int .i64 n] w fun e w' => e = .returned (.slice none 0 0) ∧ w = w' := by
  go_enter Tryz.func136, Tryz.ntmps136
  go_wp2_with fail
  ((with_reducible refine (searchNil_any _ _ _).mono ?_); rintro e _ ⟨rfl, rfl⟩)
  go_wp2_with fail
  go_ret
  exact ⟨rfl, rfl⟩
theorem objNil_any (w : World) : Calls Tryz.prog 137 #[.slice none 0 0] w fun e w' => e = .returned (.tuple #[.int .i64 0, .bool false]) ∧ w = w' := by
  go_enter Tryz.func137, Tryz.ntmps137
  go_wp2_with fail
  go_loopw [4, 5, 6, 11] (fun a b c i wr => a = .int .i64 0 ∧ b = .int .i64 (-1) ∧ c = .bool false ∧ i = .int .i64 0 ∧ w = wr) (fun _ _ _ _ _ => 0)
  case atStart => exact ⟨rfl, rfl, rfl, rfl, rfl⟩
  case round =>
    obtain ⟨rfl, rfl, rfl, rfl, rfl⟩ := hrel
    go_wp2_with fail
    first
      | (go_ret2; exact ⟨rfl, rfl⟩)
      | (go_quiet (fail); go_wp2_with fail; go_ret2; exact ⟨rfl, rfl⟩)
abbrev sZero : Stm := ⟨0, 0, 0, ⟨#[]⟩, ⟨#[]⟩, ⟨#[]⟩, 0, 0⟩
theorem results_tct {P : Program} {fn : Func} {s t r : Tmp} {T : TypeId} {a : Addr} {v u x : Value} {w : World} {tmps : Array Value} (h : fn.results = #[.tmp s, .cell t T, .tmp r]) (hp : tmps.getD t undef = .pointer (some a)) (hs : tmps.getD s undef = u) (hr : tmps.getD r undef = x) (hl : (loadVar T a).run P w = .ok v w) : (results fn tmps).run P w = .ok (.tuple #[u, v, x]) w := by
  have hp' : tmps[t]?.getD undef = .pointer (some a) := by simpa using hp
  have hs' : tmps[s]?.getD undef = u := by simpa using hs
  have hr' : tmps[r]?.getD undef = x := by simpa using hr
  simp [results, h, asAddr, hp', hs', hr', hl]
theorem loadStm {w : World} {X : Nat} {s : Stm} (h : LV w X (stmCs s) 38) : (loadVar 38 ⟨X, 0, none⟩).run Tryz.prog w = .ok (.agg (stmCs s)) w := by
  have c0 := h.cell 0 _ rfl
  have c1 := h.cell 1 _ rfl
  have c2 := h.cell 2 _ rfl
  have c3 := h.cell 3 _ rfl
  have c4 := h.cell 4 _ rfl
  have c5 := h.cell 5 _ rfl
  have c6 := h.cell 6 _ rfl
  have c7 := h.cell 7 _ rfl
  go_simp
abbrev fillS (w : World) (X : Nat) (s : Stm) : World := (((((((w.setCell ⟨X, 0, none⟩ (.int .i64 s.no)).setCell ⟨X, 1, none⟩ (.int .i64 s.at')).setCell ⟨X, 2, none⟩ (.int .i64 s.kind)).setCell ⟨X, 3, none⟩ (.string s.text)).setCell ⟨X, 4, none⟩ (.string s.purpose)).setCell ⟨X, 5, none⟩ (.string s.region)).setCell ⟨X, 6, none⟩ (.int .i64 s.channel)).setCell ⟨X, 7, none⟩ (.int .i64 s.what)
theorem fillS_lv {w : World} {X : Nat} {s0 : Stm} (h : LV w X (stmCs s0) 38) (s : Stm) : LV (fillS w X s) X (stmCs s) 38 := by
  have h0 := h.set 0 (.int .i64 s.no) #[.int .i64 s.no, .int .i64 s0.at', .int .i64 s0.kind, .string s0.text, .string s0.purpose, .string s0.region, .int .i64 s0.channel, .int .i64 s0.what] rfl
  have h1 := h0.set 1 (.int .i64 s.at') #[.int .i64 s.no, .int .i64 s.at', .int .i64 s0.kind, .string s0.text, .string s0.purpose, .string s0.region, .int .i64 s0.channel, .int .i64 s0.what] rfl
  have h2 := h1.set 2 (.int .i64 s.kind) #[.int .i64 s.no, .int .i64 s.at', .int .i64 s.kind, .string s0.text, .string s0.purpose, .string s0.region, .int .i64 s0.channel, .int .i64 s0.what] rfl
  have h3 := h2.set 3 (.string s.text) #[.int .i64 s.no, .int .i64 s.at', .int .i64 s.kind, .string s.text, .string s0.purpose, .string s0.region, .int .i64 s0.channel, .int .i64 s0.what] rfl
  have h4 := h3.set 4 (.string s.purpose) #[.int .i64 s.no, .int .i64 s.at', .int .i64 s.kind, .string s.text, .string s.purpose, .string s0.region, .int .i64 s0.channel, .int .i64 s0.what] rfl
  have h5 := h4.set 5 (.string s.region) #[.int .i64 s.no, .int .i64 s.at', .int .i64 s.kind, .string s.text, .string s.purpose, .string s.region, .int .i64 s0.channel, .int .i64 s0.what] rfl
  have h6 := h5.set 6 (.int .i64 s.channel) #[.int .i64 s.no, .int .i64 s.at', .int .i64 s.kind, .string s.text, .string s.purpose, .string s.region, .int .i64 s.channel, .int .i64 s0.what] rfl
  have h7 := h6.set 7 (.int .i64 s.what) #[.int .i64 s.no, .int .i64 s.at', .int .i64 s.kind, .string s.text, .string s.purpose, .string s.region, .int .i64 s.channel, .int .i64 s.what] rfl
  exact h7
theorem fillS_below {B : Nat} {w0 w : World} (h : Below B w0 w) {X : Nat} (hX : B ≤ X) (s : Stm) : Below B w0 (fillS w X s) :=
  (((((((h.setCell (p := ⟨X, 0, none⟩) hX _).setCell (p := ⟨X, 1, none⟩) hX _).setCell (p := ⟨X, 2, none⟩) hX _).setCell (p := ⟨X, 3, none⟩) hX _).setCell (p := ⟨X, 4, none⟩) hX _).setCell (p := ⟨X, 5, none⟩) hX _).setCell (p := ⟨X, 6, none⟩) hX _).setCell (p := ⟨X, 7, none⟩) hX _
set_option maxHeartbeats 4000000 in
set_option maxRecDepth 100000 in
theorem grantsNil_any (pu : ByteArray) (w : World) : Calls Tryz.prog 214 #[.slice none 0 0, .string pu] w fun e w' => e = .returned (.tuple #[.slice none 0 0, .agg (stmCs sZero), .bool false]) ∧ Below w.heap.size w w' := by
  have hb0 : Below w.heap.size w (w.alloc (.cells (stmCs sZero) 38)) := (Below.refl _ _).alloc (Nat.le_refl _) _
  have lv := LV.new w w.heap.size (stmCs sZero) 38 rfl
  go_enter Tryz.func214, Tryz.ntmps214
  go_wp2_with fail
  go_loopw [6, 13] (fun b i wr => b = .bool false ∧ i = .int .i64 0 ∧ w.alloc (.cells (stmCs sZero) 38) = wr) (fun _ _ _ => 0)
  case atStart => exact ⟨rfl, rfl, rfl⟩
  case round =>
    obtain ⟨rfl, rfl, rfl⟩ := hrel
    go_wp2_with fail
    go_loopw [4, 41] (fun a i wr => a = .slice none 0 0 ∧ i = .int .i64 0 ∧ w.alloc (.cells (stmCs sZero) 38) = wr) (fun _ _ _ => 0)
    case atStart => exact ⟨rfl, rfl, rfl⟩
    case round =>
      obtain ⟨rfl, rfl, rfl⟩ := hrel
      generalize w.alloc (.cells (stmCs sZero) 38) = w1 at *
      have c0 : w1.cell? ⟨w.heap.size, 0, none⟩ = some (.int .i64 0) := lv.cell 0 _ rfl
      have c1 : w1.cell? ⟨w.heap.size, 1, none⟩ = some (.int .i64 0) := lv.cell 1 _ rfl
      have c2 : w1.cell? ⟨w.heap.size, 2, none⟩ = some (.int .i64 0) := lv.cell 2 _ rfl
      have c3 : w1.cell? ⟨w.heap.size, 3, none⟩ = some (.string ⟨#[]⟩) := lv.cell 3 _ rfl
      have c4 : w1.cell? ⟨w.heap.size, 4, none⟩ = some (.string ⟨#[]⟩) := lv.cell 4 _ rfl
      have c5 : w1.cell? ⟨w.heap.size, 5, none⟩ = some (.string ⟨#[]⟩) := lv.cell 5 _ rfl
      have c6 : w1.cell? ⟨w.heap.size, 6, none⟩ = some (.int .i64 0) := lv.cell 6 _ rfl
      have c7 : w1.cell? ⟨w.heap.size, 7, none⟩ = some (.int .i64 0) := lv.cell 7 _ rfl
      have f0 := lv.free 0
      have f1 := lv.free 1
      have f2 := lv.free 2
      have f3 := lv.free 3
      have f4 := lv.free 4
      have f5 := lv.free 5
      have f6 := lv.free 6
      have f7 := lv.free 7
      go_wp2_with fail
      go_region
      go_wp2_with fail
      have l2 : LV (fillS w1 w.heap.size sZero) w.heap.size (stmCs sZero) 38 := fillS_lv lv sZero
      have hd : Drewn (fillS w1 w.heap.size sZero) (fillS w1 w.heap.size sZero).drew := rfl
      have l3 : LV (fillS w1 w.heap.size sZero).drew w.heap.size (stmCs sZero) 38 := LV.kb3 l2 (hd.below _) l2.lt
      exact bodyPost_ret (results_tct rfl rfl rfl rfl (loadStm l3)) rfl ⟨rfl, (fillS_below hb0 (Nat.le_refl _) sZero).trans (hd.below _)⟩
abbrev aCs (may : Bool) (why no : Int) : Array Value := #[.bool may, .int .i64 why, .int .i64 no]
theorem loadA {w : World} {X : Nat} {a b c : Value} (h : LV w X #[a, b, c] 105) : (loadVar 105 ⟨X, 0, none⟩).run Tryz.prog w = .ok (.agg #[a, b, c]) w := by
  have c0 := h.cell 0 _ rfl
  have c1 := h.cell 1 _ rfl
  have c2 := h.cell 2 _ rfl
  go_simp
abbrev fillA (w : World) (X : Nat) (may : Bool) (why no : Int) : World := ((w.setCell ⟨X, 0, none⟩ (.bool may)).setCell ⟨X, 1, none⟩ (.int .i64 why)).setCell ⟨X, 2, none⟩ (.int .i64 no)
theorem fillA_lv {w : World} {X : Nat} {m0 : Bool} {a0 b0 : Int} (h : LV w X (aCs m0 a0 b0) 105) (may : Bool) (why no : Int) : LV (fillA w X may why no) X (aCs may why no) 105 :=
  ((h.set 0 (.bool may) _ rfl).set 1 (.int .i64 why) _ rfl).set 2 (.int .i64 no) _ rfl
theorem fillA_below {B : Nat} {w0 w : World} (h : Below B w0 w) {X : Nat} (hX : B ≤ X) (may : Bool) (why no : Int) : Below B w0 (fillA w X may why no) :=
  ((h.setCell (p := ⟨X, 0, none⟩) hX _).setCell (p := ⟨X, 1, none⟩) hX _).setCell (p := ⟨X, 2, none⟩) hX _
set_option maxHeartbeats 4000000 in
set_option maxRecDepth 100000 in
theorem allowedNil_any (t : PTerm) (hfr : t.free = true) (pu : ByteArray) (at' : Int) (w : World) : Calls Tryz.prog 138 #[.slice none 0 0, tVal t, .string pu, .int .i64 at'] w fun e w' => e = .returned (.agg (aCs true 1 0)) ∧ Below w.heap.size w w' := by
  obtain ⟨rg, ch, fr, dy, wt⟩ := t
  dsimp only at *
  subst hfr
  have hb0 : Below w.heap.size w ((w.alloc (.cells #[.string rg, .int .i64 ch, .bool true, .int .i64 dy, .int .i64 wt] 99)).alloc (.cells (aCs false 0 0) 105)) := ((Below.refl _ _).alloc (Nat.le_refl _) _).alloc (by simp) _
  have lvT := (LV.new w w.heap.size #[.string rg, .int .i64 ch, .bool true, .int .i64 dy, .int .i64 wt] 99 rfl).alloc (.cells (aCs false 0 0) 105)
  have lvA := LV.new (w.alloc (.cells #[.string rg, .int .i64 ch, .bool true, .int .i64 dy, .int .i64 wt] 99)) (w.heap.size + 1) (aCs false 0 0) 105 (by simp)
  go_enter Tryz.func138, Tryz.ntmps138
  go_wp2_with fail
  generalize (w.alloc (.cells #[.string rg, .int .i64 ch, .bool true, .int .i64 dy, .int .i64 wt] 99)).alloc (.cells (aCs false 0 0) 105) = w1 at *
  ((with_reducible refine (grantsNil_any pu w1).mono ?_); rintro e w2 ⟨rfl, hl2⟩)
  have mT := LV.kb3 lvT hl2 lvT.lt
  have mA := LV.kb3 lvA hl2 lvA.lt
  have Hb2 : Hid (Below w.heap.size w w2) := hb0.trans (hl2.mono hb0.size)
  have hb3 : Below w2.heap.size w2 (w2.alloc (.cells (stmCs sZero) 38)) := (Below.refl _ _).alloc (Nat.le_refl _) _
  have nT := LV.kb3 mT hb3 mT.lt
  have nA := LV.kb3 mA hb3 mA.lt
  have Hb3 : Hid (Below w.heap.size w (w2.alloc (.cells (stmCs sZero) 38))) := Hb2.out.alloc Hb2.out.size _
  clear lvT lvA hl2 mT mA hb3 hb0
  go_upto_region 2 with fail
  generalize w2.alloc (.cells (stmCs sZero) 38) = w3 at *
  have c2 : w3.cell? ⟨w.heap.size, 2, none⟩ = some (.bool true) := nT.cell 2 _ rfl
  have a0 : w3.cell? ⟨w.heap.size + 1, 0, none⟩ = some (.bool false) := nA.cell 0 _ rfl
  have a1 : w3.cell? ⟨w.heap.size + 1, 1, none⟩ = some (.int .i64 0) := nA.cell 1 _ rfl
  have a2 : w3.cell? ⟨w.heap.size + 1, 2, none⟩ = some (.int .i64 0) := nA.cell 2 _ rfl
  have f0 := nA.free 0
  have f1 := nA.free 1
  have f2 := nA.free 2
  go_wp2_with fail
  exact bodyPost_ret (results_cell1 rfl rfl (loadA (fillA_lv nA true 1 0))) rfl ⟨rfl, fillA_below Hb3.out (Nat.le_succ _) true 1 0⟩
set_option maxHeartbeats 4000000 in
set_option maxRecDepth 100000 in
theorem answerNil_any (t : PTerm) (hfr : t.free = true) (pu : ByteArray) (at' : Int) (w : World) : Calls Tryz.prog 59 #[.agg #[.string t.region, .int .i64 t.channel, .bool t.free, .int .i64 t.days, .int .i64 t.wait, .bool true, .string pu, .slice none 0 0], .int .i64 at'] w fun e w' => e = .returned (.agg (aCs true 1 0)) ∧ Below w.heap.size w w' := by
  have Hal := Lib.hid (fun w => allowedNil_any t hfr pu at' w)
  have Hfr := Lib.hid hfr
  clear hfr
  have hb0 : Below w.heap.size w ((w.alloc (.cells #[.string t.region, .int .i64 t.channel, .bool t.free, .int .i64 t.days, .int .i64 t.wait, .bool true, .string pu, .slice none 0 0] 102)).alloc (.cells (aCs false 0 0) 105)) := ((Below.refl _ _).alloc (Nat.le_refl _) _).alloc (by simp) _
  have lvT := (LV.new w w.heap.size #[.string t.region, .int .i64 t.channel, .bool t.free, .int .i64 t.days, .int .i64 t.wait, .bool true, .string pu, .slice none 0 0] 102 rfl).alloc (.cells (aCs false 0 0) 105)
  have lvA := LV.new (w.alloc (.cells #[.string t.region, .int .i64 t.channel, .bool t.free, .int .i64 t.days, .int .i64 t.wait, .bool true, .string pu, .slice none 0 0] 102)) (w.heap.size + 1) (aCs false 0 0) 105 (by simp)
  go_enter Tryz.func59, Tryz.ntmps59
  go_upto_region 1 with fail
  generalize (w.alloc (.cells #[.string t.region, .int .i64 t.channel, .bool t.free, .int .i64 t.days, .int .i64 t.wait, .bool true, .string pu, .slice none 0 0] 102)).alloc (.cells (aCs false 0 0) 105) = w1 at *
  have d0 : w1.cell? ⟨w.heap.size, 0, none⟩ = some (.string t.region) := lvT.cell 0 _ rfl
  have d1 : w1.cell? ⟨w.heap.size, 1, none⟩ = some (.int .i64 t.channel) := lvT.cell 1 _ rfl
  have d2 : w1.cell? ⟨w.heap.size, 2, none⟩ = some (.bool t.free) := lvT.cell 2 _ rfl
  have d3 : w1.cell? ⟨w.heap.size, 3, none⟩ = some (.int .i64 t.days) := lvT.cell 3 _ rfl
  have d4 : w1.cell? ⟨w.heap.size, 4, none⟩ = some (.int .i64 t.wait) := lvT.cell 4 _ rfl
  have d5 : w1.cell? ⟨w.heap.size, 5, none⟩ = some (.bool true) := lvT.cell 5 _ rfl
  have d6 : w1.cell? ⟨w.heap.size, 6, none⟩ = some (.string pu) := lvT.cell 6 _ rfl
  have d7 : w1.cell? ⟨w.heap.size, 7, none⟩ = some (.slice none 0 0) := lvT.cell 7 _ rfl
  clear lvT
  go_wp2_with fail
  ((with_reducible refine (upToNil_any _ _).mono ?_); rintro e _ ⟨rfl, rfl⟩)
  go_wp2_with fail
  ((with_reducible refine (objNil_any _).mono ?_); rintro e _ ⟨rfl, rfl⟩)
  go_wp2_with fail
  ((with_reducible refine (Hal.out w1).mono ?_); rintro e w2 ⟨rfl, hl2⟩)
  have nA := LV.kb3 lvA hl2 lvA.lt
  have Hb2 : Hid (Below w.heap.size w w2) := hb0.trans (hl2.mono hb0.size)
  clear d0 d1 d2 d3 d4 d5 d6 d7 lvA hl2
  have a0 : w2.cell? ⟨w.heap.size + 1, 0, none⟩ = some (.bool false) := nA.cell 0 _ rfl
  have a1 : w2.cell? ⟨w.heap.size + 1, 1, none⟩ = some (.int .i64 0) := nA.cell 1 _ rfl
  have a2 : w2.cell? ⟨w.heap.size + 1, 2, none⟩ = some (.int .i64 0) := nA.cell 2 _ rfl
  have f0 := nA.free 0
  have f1 := nA.free 1
  have f2 := nA.free 2
  go_wp2_with fail
  exact bodyPost_ret (results_cell1 rfl rfl (loadA (fillA_lv nA true 1 0))) rfl ⟨rfl, fillA_below Hb2.out (Nat.le_succ _) true 1 0⟩
end Go.Proofs.YthmkphmciiiagaaGreatDoor
