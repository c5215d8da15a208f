/- Several texts in one: Repeat, GenId, PolMem, Odd, GenFew, GenPol, RevP, GenPolicy, GenStm, PolOk, Seal, Consents, LawStm, GenAsked, Wrong. -/
import Derived.Test.YthmkphmciiiagaaGreatDoorPackB
import Derived.Test.YthmkphmciiiagaaGreatDoorShelf
import Derived.Test.YthmkphmciiiagaaGreatDoorPackW
import Derived.Test.YthmkphmciiiagaaGreatDoorIdOrder
import Derived.Test.YthmkphmciiiagaaGreatDoorConsLaw
import Derived.Test.YthmkphmciiiagaaGreatDoorPackM
import Derived.Deep.DeepCutAuto
import Derived.RegionTactic
import Derived.ChangeAlike
import Derived.Test.YthmkphmciiiagaaGreatDoorStmLaw
import Derived.Test.YthmkphmciiiagaaGreatDoorPackC
import Derived.Test.YthmkphmciiiagaaGreatDoorMay
import Derived.Deep.QuietTactic
import Derived.Lib.ConvBytes
import Derived.Test.YthmkphmciiiagaaGreatDoorStmRef
/- What strings.Repeat returns: a string of a bounded length. -/
namespace Go.Proofs.YthmkphmciiiagaaGreatDoor
open Go.RowKit
/-- a string of at most M bytes is returned -/
def GivesStr (M : Nat) (w : World) (e : Ending) (w' : World) : Prop := ∃ s : ByteArray, s.size ≤ M ∧ e = .returned (.string s) ∧ Below w.heap.size w w'
theorem repeat_le (s : ByteArray) (z : Int) (M : Nat) (w : World) (h0 : 0 ≤ z) (hz : z ≤ 1000000) (hM : s.size * z.toNat ≤ M) (hM2 : M ≤ 1000000000) :
    Calls Tryz.prog 144 #[.string s, .int .i64 z] w (GivesStr M w) := by
  obtain ⟨n, rfl⟩ := Int.eq_ofNat_of_zero_le h0
  simp only [Int.toNat_natCast] at hM
  refine (Tryz.strings_Repeat s n w (by omega) (by omega)).mono ?_
  rintro e w' ⟨rfl, hl⟩
  refine ⟨_, ?_, rfl, hl⟩
  show (Lib.repeatL s.data.toList n).length ≤ M
  rw [Lib.repeatL_length, Nat.mul_comm]
  exact hM
end Go.Proofs.YthmkphmciiiagaaGreatDoor

/- What the generators SpoiledId and Id make. -/
namespace Go.Proofs.YthmkphmciiiagaaGreatDoor
open Go.RowKit
/-- what handmake.idPool holds: ids -/
def Pool (w : World) : Prop := ∀ i, i < 10 → ∃ (k : Int) (t : ByteArray), t.size ≤ 100 ∧ w.cell? ⟨0, i * 2, none⟩ = some (.int .i64 k) ∧ w.cell? ⟨0, i * 2 + 1, none⟩ = some (.string t)
theorem Pool.lt {w : World} (h : Pool w) : 0 < w.heap.size := by
  obtain ⟨k, t, _, h1, _⟩ := h 0 (by omega)
  exact World.block_lt_of_cell? w _ h1
theorem Pool.keep {b : Nat} {w w' : World} (h : Pool w) (k : SK b w w') (hb : 0 ≠ b) : Pool w' := fun i hi => by
  obtain ⟨z, t, h0, h1, h2⟩ := h i hi
  exact ⟨z, t, h0, (World.cell?_of_block (k.block _ h.lt hb)).trans h1, (World.cell?_of_block (k.block _ h.lt hb)).trans h2⟩
def DrawsId (b m : Nat) (w : World) (e : Ending) (w' : World) : Prop := ∃ (k : Int) (t : ByteArray), t.size ≤ 10000 ∧ e = .returned (.agg #[.int .i64 k, .string t]) ∧ SK b w w' ∧ Strm b m w'
set_option maxHeartbeats 4000000 in
set_option maxRecDepth 100000 in
theorem spoiledId_any (b m : Nat) (w : World) (hs : Strm b m w) (hm : m ≤ 10000000000) (hP : Pool w) (hPb : 0 ≠ b) :
    Calls Tryz.prog 69 #[.pointer (some ⟨b, 0, none⟩)] w (DrawsId b (m + 9) w) := by
  have hlt := hs.lt
  have HP := Lib.hid hP
  have hPlt := hP.lt
  clear hP
  have g0 := (G.start hs).alloc (.cells #[.int .i64 0, .string ⟨#[]⟩] 29)
  have bR0 := LV.new w w.heap.size #[.int .i64 0, .string ⟨#[]⟩] 29 rfl
  go_enter Tryz.func69, Tryz.ntmps69
  go_wp2_with fail
  ((with_reducible refine (next_any b m _ _ g0.s (by omega) (by omega) (by omega)).mono ?_); rintro e w1 ⟨i, i_lo, i_hi, rfl, hk_w1, hs_w1⟩)
  have hz1 := hk_w1.size
  simp only [World.size_alloc] at hz1
  obtain ⟨j, rfl⟩ := Int.eq_ofNat_of_zero_le i_lo
  have HP1 : Hid (Pool w1) := (HP.out.keep (SK.ofBelow (b := b) ((Below.refl _ _).alloc (Nat.le_refl _) (.cells #[.int .i64 0, .string ⟨#[]⟩] 29))) hPb).keep hk_w1 hPb
  obtain ⟨k, t, t_le, pc0, pc1⟩ := HP1.out j (by omega)
  have g1 := (g0.step hk_w1 hs_w1).alloc (.cells #[.int .i64 k, .string t] 29)
  have bR1 := (LV.keep bR0 hk_w1 (by omega)).alloc (.cells #[.int .i64 k, .string t] 29)
  have bX1 := LV.new w1 w1.heap.size #[.int .i64 k, .string t] 29 rfl
  clear hk_w1 hs_w1 bR0 g0 HP HP1
  go_wp2_with fail
  ((with_reducible refine (next_any b _ _ _ g1.s (by omega) (by omega) (by omega)).mono ?_); rintro e w2 ⟨r, r_lo, r_hi, rfl, hk_w2, hs_w2⟩)
  clear pc0 pc1
  have g2 := g1.step hk_w2 hs_w2
  have bX2 := LV.keep bX1 hk_w2 (by omega)
  have bR2 := LV.keep bR1 hk_w2 (by omega)
  clear hk_w2 hs_w2 g1 bX1 bR1
  by_cases h0 : r = 0
  · subst h0
    go_wp2_with fail
    ((with_reducible refine (pick_le b _ _ _ 0 5 g2.s (by simp) (by simp) (intsIn_of (by decide)) (by simp) (by simp) (by omega)).mono ?_); rintro e w3 ⟨k3, k3_lo, k3_hi, rfl, hk_w3, hs_w3⟩)
    have g3 := g2.step hk_w3 hs_w3
    have bX3 := LV.keep bX2 hk_w3 (by omega)
    have bR3 := LV.keep bR2 hk_w3 (by omega)
    clear hk_w3 hs_w3 g2 bX2 bR2
    have g4 := g3.set (X := w1.heap.size) (by omega) (by omega) 0 (.int .i64 k3)
    have bX4 := bX3.set 0 (.int .i64 k3) #[.int .i64 k3, .string t] rfl
    have bR4 := bR3.other (Y := w1.heap.size) (by omega) 0 (.int .i64 k3)
    have bX3_c0 := bX3.cell 0 _ rfl
    have bX3_c1 := bX3.cell 1 _ rfl
    have bX3_f0 := bX3.free 0
    have bX3_f1 := bX3.free 1
    clear bX3 bR3 g3
    have gf := (g4.set (X := w.heap.size) (by omega) (Nat.le_refl _) 0 (.int .i64 k3)).set (X := w.heap.size) (by omega) (Nat.le_refl _) 1 (.string t)
    have bX4_c0 := bX4.cell 0 _ rfl
    have bX4_c1 := bX4.cell 1 _ rfl
    have bX4_f0 := bX4.free 0
    have bX4_f1 := bX4.free 1
    have bR4_c0 := bR4.cell 0 _ rfl
    have bR4_c1 := bR4.cell 1 _ rfl
    have bR4_f0 := bR4.free 0
    have bR4_f1 := bR4.free 1
    clear g4 bX4 bR4
    go_wp2_with fail
    exact bodyPost_ret (v := .agg #[.int .i64 k3, .string t]) (by simp [results, Tryz.results69, go_sem, bR4_c0, bR4_c1]) rfl ⟨_, _, (by omega), rfl, gf.k, gf.s.mono (by omega)⟩
  · have h0' : (r == 0) = false := by simpa using h0
    by_cases h1 : r = 1
    · subst h1
      clear h0 h0'
      go_wp2_with fail
      ((with_reducible refine (repeat_le ⟨#[97]⟩ 65 1000 _ (by decide) (by decide) (by decide) (by decide)).mono ?_); rintro e w3 ⟨ra, ra_le, rfl, hl_w3⟩)
      have g3 := g2.below hl_w3
      have bX3 := LV.keep bX2 (SK.ofBelow (b := b) hl_w3) (by omega)
      have bR3 := LV.keep bR2 (SK.ofBelow (b := b) hl_w3) (by omega)
      clear hl_w3 bX2 bR2 g2
      go_wp2_with fail
      ((with_reducible refine (repeat_le ⟨#[98]⟩ 31 1000 _ (by decide) (by decide) (by decide) (by decide)).mono ?_); rintro e w4 ⟨rb, rb_le, rfl, hl_w4⟩)
      have g4 := g3.below hl_w4
      have bX4 := LV.keep bX3 (SK.ofBelow (b := b) hl_w4) (by omega)
      have bR4 := LV.keep bR3 (SK.ofBelow (b := b) hl_w4) (by omega)
      clear hl_w4 bX3 bR3 g3
      go_wp2_with fail
      ((with_reducible refine (repeat_le ⟨#[97]⟩ 64 1000 _ (by decide) (by decide) (by decide) (by decide)).mono ?_); rintro e w5 ⟨rc, rc_le, rfl, hl_w5⟩)
      have g5 := g4.below hl_w5
      have bX5 := LV.keep bX4 (SK.ofBelow (b := b) hl_w5) (by omega)
      have bR5 := LV.keep bR4 (SK.ofBelow (b := b) hl_w5) (by omega)
      clear hl_w5 bX4 bR4 g4
      go_wp2_with fail
      ((with_reducible refine (repeat_le ⟨#[98]⟩ 12 1000 _ (by decide) (by decide) (by decide) (by decide)).mono ?_); rintro e w6 ⟨rd, rd_le, rfl, hl_w6⟩)
      have g6 := g5.below hl_w6
      have bX6 := LV.keep bX5 (SK.ofBelow (b := b) hl_w6) (by omega)
      have bR6 := LV.keep bR5 (SK.ofBelow (b := b) hl_w6) (by omega)
      clear hl_w6 bX5 bR5 g5
      have l1 : (⟨#[64, 98, 46, 100, 101]⟩ : ByteArray).size = 5 := rfl
      have l2 : (⟨#[97, 64]⟩ : ByteArray).size = 2 := rfl
      have l3 : (⟨#[46, 100, 101]⟩ : ByteArray).size = 3 := rfl
      have l4 : (⟨#[64]⟩ : ByteArray).size = 1 := rfl
      have L1 := Lib.hid l1
      have L2 := Lib.hid l2
      have L3 := Lib.hid l3
      have L4 := Lib.hid l4
      clear l1 l2 l3 l4
      go_wp2_with fail
      ((with_reducible refine (one_le b _ _ _ 5000 g6.s (by simp) (by simp) (by repeat (first | exact strsLe_nil | refine strsLe_cons (by first | decide | (simp only [ByteArray.size_append, L1.out, L2.out, L3.out, L4.out]; omega)) ?_)) (by simp) (by simp) (by omega)).mono ?_); rintro e w7 ⟨t7, t7_le, rfl, hk_w7, hs_w7⟩)
      have g7 := g6.step hk_w7 hs_w7
      have bX7 := LV.keep bX6 hk_w7 (by omega)
      have bR7 := LV.keep bR6 hk_w7 (by omega)
      clear hk_w7 hs_w7 g6 bX6 bR6
      have g8 := g7.set (X := w1.heap.size) (by omega) (by omega) 1 (.string t7)
      have bX8 := bX7.set 1 (.string t7) #[.int .i64 k, .string t7] rfl
      have bR8 := bR7.other (Y := w1.heap.size) (by omega) 1 (.string t7)
      have bX7_c0 := bX7.cell 0 _ rfl
      have bX7_c1 := bX7.cell 1 _ rfl
      have bX7_f0 := bX7.free 0
      have bX7_f1 := bX7.free 1
      clear bX7 bR7 g7
      have gf := (g8.set (X := w.heap.size) (by omega) (Nat.le_refl _) 0 (.int .i64 k)).set (X := w.heap.size) (by omega) (Nat.le_refl _) 1 (.string t7)
      have bX8_c0 := bX8.cell 0 _ rfl
      have bX8_c1 := bX8.cell 1 _ rfl
      have bX8_f0 := bX8.free 0
      have bX8_f1 := bX8.free 1
      have bR8_c0 := bR8.cell 0 _ rfl
      have bR8_c1 := bR8.cell 1 _ rfl
      have bR8_f0 := bR8.free 0
      have bR8_f1 := bR8.free 1
      clear g8 bX8 bR8
      go_wp2_with fail
      exact bodyPost_ret (v := .agg #[.int .i64 k, .string t7]) (by simp [results, Tryz.results69, go_sem, bR8_c0, bR8_c1]) rfl ⟨_, _, (by omega), rfl, gf.k, gf.s.mono (by omega)⟩
    · have h1' : (r == 1) = false := by simpa using h1
      clear h0 h1
      have bX2_c0 := bX2.cell 0 _ rfl
      have bX2_c1 := bX2.cell 1 _ rfl
      have bX2_f0 := bX2.free 0
      have bX2_f1 := bX2.free 1
      go_wp2_with fail
      ((with_reducible refine (changed_any b _ t _ _ g2.s (by omega) (by decide) (by omega)).mono ?_); rintro e w3 ⟨t3, t3_le, rfl, hk_w3, hs_w3⟩)
      clear bX2_c0 bX2_c1 bX2_f0 bX2_f1
      have g3 := g2.step hk_w3 hs_w3
      have bX3 := LV.keep bX2 hk_w3 (by omega)
      have bR3 := LV.keep bR2 hk_w3 (by omega)
      clear hk_w3 hs_w3 g2 bX2 bR2
      have g4 := g3.set (X := w1.heap.size) (by omega) (by omega) 1 (.string t3)
      have bX4 := bX3.set 1 (.string t3) #[.int .i64 k, .string t3] rfl
      have bR4 := bR3.other (Y := w1.heap.size) (by omega) 1 (.string t3)
      have e10 : (⟨#[97, 98, 48, 64, 46, 45, 43, 95, 65, 90]⟩ : ByteArray).size = 10 := rfl
      have t4_le : t3.size ≤ 10000 := by rw [e10] at t3_le; omega
      clear e10
      have bX3_c0 := bX3.cell 0 _ rfl
      have bX3_c1 := bX3.cell 1 _ rfl
      have bX3_f0 := bX3.free 0
      have bX3_f1 := bX3.free 1
      clear bX3 bR3 g3 t3_le
      have gf := (g4.set (X := w.heap.size) (by omega) (Nat.le_refl _) 0 (.int .i64 k)).set (X := w.heap.size) (by omega) (Nat.le_refl _) 1 (.string t3)
      have bX4_c0 := bX4.cell 0 _ rfl
      have bX4_c1 := bX4.cell 1 _ rfl
      have bX4_f0 := bX4.free 0
      have bX4_f1 := bX4.free 1
      have bR4_c0 := bR4.cell 0 _ rfl
      have bR4_c1 := bR4.cell 1 _ rfl
      have bR4_f0 := bR4.free 0
      have bR4_f1 := bR4.free 1
      clear g4 bX4 bR4
      go_wp2_with fail
      exact bodyPost_ret (v := .agg #[.int .i64 k, .string t3]) (by simp [results, Tryz.results69, go_sem, bR4_c0, bR4_c1]) rfl ⟨_, _, t4_le, rfl, gf.k, gf.s.mono (by omega)⟩
set_option maxHeartbeats 4000000 in
set_option maxRecDepth 100000 in
theorem id_any (b m : Nat) (w : World) (hs : Strm b m w) (hm : m ≤ 1000000000) (hP : Pool w) (hPb : 0 ≠ b) :
    Calls Tryz.prog 17 #[.pointer (some ⟨b, 0, none⟩)] w (DrawsId b (m + 10) w) := by
  have hlt := hs.lt
  have hPlt := hP.lt
  have HP0 : Hid (Pool (w.alloc (.cells #[.int .i64 0, .string ⟨#[]⟩] 29))) := hP.keep (SK.ofBelow (b := b) ((Below.refl _ _).alloc (Nat.le_refl _) _)) hPb
  clear hP
  have g0 := (G.start hs).alloc (.cells #[.int .i64 0, .string ⟨#[]⟩] 29)
  have bR0 := LV.new w w.heap.size #[.int .i64 0, .string ⟨#[]⟩] 29 rfl
  go_enter Tryz.func17, Tryz.ntmps17
  go_wp2_with fail
  ((with_reducible refine (flip_any b m _ _ g0.s (by omega) (by omega) (by omega)).mono ?_); rintro e w1 ⟨r, rfl, hk_w1, hs_w1⟩)
  have HP1 : Hid (Pool w1) := HP0.out.keep hk_w1 hPb
  have g1 := g0.step hk_w1 hs_w1
  have bR1 := LV.keep bR0 hk_w1 (by omega)
  clear hk_w1 hs_w1 g0 bR0 HP0
  cases r
  · go_wp2_with fail
    ((with_reducible refine (next_any b _ _ _ g1.s (by omega) (by omega) (by omega)).mono ?_); rintro e w2 ⟨i, i_lo, i_hi, rfl, hk_w2, hs_w2⟩)
    obtain ⟨j, rfl⟩ := Int.eq_ofNat_of_zero_le i_lo
    have HP2 : Hid (Pool w2) := HP1.out.keep hk_w2 hPb
    obtain ⟨k, t, t_le, pc0, pc1⟩ := HP2.out j (by omega)
    have g2 := g1.step hk_w2 hs_w2
    have bR2 := LV.keep bR1 hk_w2 (by omega)
    have gf := (g2.set (X := w.heap.size) (by omega) (Nat.le_refl _) 0 (.int .i64 k)).set (X := w.heap.size) (by omega) (Nat.le_refl _) 1 (.string t)
    have bR2_c0 := bR2.cell 0 _ rfl
    have bR2_c1 := bR2.cell 1 _ rfl
    have bR2_f0 := bR2.free 0
    have bR2_f1 := bR2.free 1
    clear hk_w2 hs_w2 g1 bR1 g2 bR2 HP1 HP2
    go_wp2_with fail
    exact bodyPost_ret (v := .agg #[.int .i64 k, .string t]) (by simp [results, Tryz.results17, go_sem, bR2_c0, bR2_c1]) rfl ⟨_, _, (by omega), rfl, gf.k, gf.s.mono (by omega)⟩
  · go_wp2_with fail
    ((with_reducible refine (spoiledId_any b _ _ g1.s (by omega) HP1.out hPb).mono ?_); rintro e w2 ⟨k, t, t_le, rfl, hk_w2, hs_w2⟩)
    have g2 := g1.step hk_w2 hs_w2
    have bR2 := LV.keep bR1 hk_w2 (by omega)
    have gf := (g2.set (X := w.heap.size) (by omega) (Nat.le_refl _) 0 (.int .i64 k)).set (X := w.heap.size) (by omega) (Nat.le_refl _) 1 (.string t)
    have bR2_c0 := bR2.cell 0 _ rfl
    have bR2_c1 := bR2.cell 1 _ rfl
    have bR2_f0 := bR2.free 0
    have bR2_f1 := bR2.free 1
    clear hk_w2 hs_w2 g1 bR1 g2 bR2 HP1
    go_wp2_with fail
    exact bodyPost_ret (v := .agg #[.int .i64 k, .string t]) (by simp [results, Tryz.results17, go_sem, bR2_c0, bR2_c1]) rfl ⟨_, _, t_le, rfl, gf.k, gf.s.mono (by omega)⟩
end Go.Proofs.YthmkphmciiiagaaGreatDoor

/- A policy in memory that may still be turned: each purpose's terms are a piece of their own. -/
namespace Go.Proofs.YthmkphmciiiagaaGreatDoor
open Go.RowKit
structure PQ where
  nm : ByteArray
  A : Option Addr
  c : Nat
  ts : List PTerm
def PQ.cells (e : PQ) : List Value := [.string e.nm, .slice e.A e.ts.length e.c]
def rPQ : Rep PQ := .flat 2 PQ.cells (fun _ => rfl)
theorem flatPQ : rPQ.Flat PQ.cells := fun _ _ _ _ => Iff.rfl
theorem flatTerm : rTerm.Flat PTerm.cells := fun _ _ _ _ => Iff.rfl
def PQ.purp (e : PQ) : Purp := ⟨e.nm, e.ts⟩
/-- the piece of one purpose's terms -/
def tq (B : Nat) (e : PQ) : Chunk := .own rTerm B 99 (.slice e.A e.ts.length e.c) e.ts
/-- the pieces of a policy -/
def polC (B : Nat) (v : Value) (q : List PQ) : List Chunk := .own rPQ B 75 v q :: q.map (tq B)
theorem polSl {N M : Nat → Prop} {B : Nat} {w : World} {v : Value} {q : List PQ} (h : Own rPQ M B 75 w v q) (ht : ∀ e ∈ q, Own rTerm M B 99 w (.slice e.A e.ts.length e.c) e.ts) (hN : ∀ k, B ≤ k → ¬ N k) :
    ∃ A c, v = .slice A q.length c ∧ q.length ≤ c ∧ Sl rPurp N w A (q.map PQ.purp) := by
  obtain ⟨A, c, e, hc, hS⟩ := (h.flatM flatPQ (M' := N)).toSlC hN
  refine ⟨A, c, e, hc, fun i x hx => ?_⟩
  rw [List.getElem?_map] at hx
  cases hq : q[i]? with
  | none => rw [hq] at hx; cases hx
  | some y =>
    rw [hq] at hx
    obtain rfl : y.purp = x := by simpa using hx
    obtain ⟨blk, off, l, e1, h1, h2, h3, h4⟩ := hS i y hq
    obtain rfl : l = PQ.cells y := h3
    obtain ⟨At, ct, e2, _, hst⟩ := ((ht y (List.mem_of_getElem? hq)).flatM flatTerm (M' := N)).toSlC hN
    cases e2
    exact ⟨blk, off, _, e1, h1, h2, ⟨Purp.cells y.purp, [.slice y.A y.ts.length y.c], rfl, rfl, y.A, y.c, rfl, hst⟩, h4⟩
/-- a policy that was made can be read -/
theorem St.polSl {b m : Nat} {w0 w : World} {cs : List Chunk} (S : St b m w0 w cs) {B : Nat} {v : Value} {q : List PQ} (hB : w0.heap.size ≤ B) (hv : Chunk.own rPQ B 75 v q ∈ cs) (ht : ∀ e ∈ q, tq B e ∈ cs) :
    ∃ A c, v = .slice A q.length c ∧ q.length ≤ c ∧ Sl rPurp (Lt w0.heap.size) w A (q.map PQ.purp) :=
  Go.Proofs.YthmkphmciiiagaaGreatDoor.polSl (S.ownIn hv) (fun e he => S.ownIn (ht e he)) (fun k h1 h2 => by unfold Lt at h2; omega)
theorem tyTerm : STy 73 99 rTerm.size 48 (.agg #[.string ⟨#[]⟩, .int .i64 0, .bool false, .int .i64 0, .int .i64 0]) := ⟨Tryz.underlying73, by kernel_rfl, rfl, by decide⟩
theorem tyPurp : STy 26 75 rPQ.size 40 (.agg #[.string ⟨#[]⟩, .slice none 0 0]) := ⟨Tryz.underlying26, by kernel_rfl, rfl, by decide⟩
theorem oneTerm (t : PTerm) : ∀ u ∈ t.cells, u.oneCell' = true := fun u hu => by
  simp only [PTerm.cells, List.mem_cons, List.not_mem_nil, or_false] at hu
  rcases hu with rfl | rfl | rfl | rfl | rfl <;> rfl
theorem onePQ (e : PQ) : ∀ u ∈ e.cells, u.oneCell' = true := fun u hu => by
  simp only [PQ.cells, List.mem_cons, List.not_mem_nil, or_false] at hu
  rcases hu with rfl | rfl <;> rfl
/-- the policy is small -/
structure QOk (n : Nat) (q : List PQ) : Prop where
  len : q.length ≤ 3
  nm : ∀ e ∈ q, e.nm.size ≤ 10
  tl : ∀ e ∈ q, e.ts.length ≤ n
  rg : ∀ e ∈ q, ∀ t ∈ e.ts, t.region.size ≤ 10
theorem QOk.mono {n n' : Nat} {q : List PQ} (h : QOk n q) (hn : n ≤ n') : QOk n' q := ⟨h.len, h.nm, fun e he => Nat.le_trans (h.tl e he) hn, h.rg⟩
end Go.Proofs.YthmkphmciiiagaaGreatDoor

/- What the generator odd makes. -/
namespace Go.Proofs.YthmkphmciiiagaaGreatDoor
open Go.RowKit
set_option maxHeartbeats 1000000 in
theorem odd_any (b m : Nat) (lo hi : Int) (w : World) (hs : Strm b m w) (h : lo ≤ hi) (hlo : -1000000000000 ≤ lo) (hhi : hi ≤ 1000000000000) (hm : m ≤ 100000000000) :
    Calls Tryz.prog 86 #[.pointer (some ⟨b, 0, none⟩), .int .i64 lo, .int .i64 hi] w (DrawsIn b (m + 2) (-1099511627776) 1099511627776 w) := by
  have g0 := G.start hs
  clear hs
  go_enter Tryz.func86, Tryz.ntmps86
  go_wp2_with fail
  ((with_reducible refine (flip_any b m _ _ g0.s (by omega) (by omega) (by omega)).mono ?_); rintro e w1 ⟨r, rfl, hk_w1, hs_w1⟩)
  have g1 := g0.step hk_w1 hs_w1
  clear hk_w1 hs_w1 g0
  cases r
  · go_wp2_with fail
    ((with_reducible refine (range_any b (m + 1) _ _ _ g1.s (by omega) (by omega) (by omega) (by omega)).mono ?_); rintro e w2 ⟨n, n_lo, n_hi, rfl, hk_w2, hs_w2⟩)
    have g2 := g1.step hk_w2 hs_w2
    go_wp2_with fail
    go_ret
    exact ⟨n, by omega, by omega, rfl, g2.k, g2.s⟩
  · go_wp2_with fail
    ((with_reducible refine (pick_le b _ _ _ (-1099511627776) 1099511627776 g1.s (by simp) (by simp) (by repeat (first | exact intsIn_nil | refine intsIn_cons (by omega) ?_)) (by simp) (by simp) (by omega)).mono ?_); rintro e w2 ⟨n, n_lo, n_hi, rfl, hk_w2, hs_w2⟩)
    have g2 := g1.step hk_w2 hs_w2
    go_wp2_with fail
    go_ret
    exact ⟨n, by omega, by omega, rfl, g2.k, g2.s⟩
end Go.Proofs.YthmkphmciiiagaaGreatDoor

/- What the generators few and Question make. -/
namespace Go.Proofs.YthmkphmciiiagaaGreatDoor
open Go.RowKit
theorem loadId {w : World} {X : Nat} {a0 a1 : Value} (h : LV w X #[a0, a1] 29) : (loadVar 29 ⟨X, 0, none⟩).run Tryz.prog w = .ok (.agg #[a0, a1]) w := by
  have c0 := h.cell 0 _ rfl
  have c1 := h.cell 1 _ rfl
  go_simp
theorem loadQ {w : World} {X : Nat} {a0 a1 a2 a3 a4 a5 : Value} (h : LV w X #[a0, a1, a2, a3, a4, a5] 31) : (loadVar 31 ⟨X, 0, none⟩).run Tryz.prog w = .ok (.agg #[a0, a1, a2, a3, a4, a5]) w := by
  have c0 := h.cell 0 _ rfl
  have c1 := h.cell 1 _ rfl
  have c2 := h.cell 2 _ rfl
  have c3 := h.cell 3 _ rfl
  have c4 := h.cell 4 _ rfl
  have c5 := h.cell 5 _ rfl
  go_simp
set_option maxHeartbeats 4000000 in
set_option maxRecDepth 100000 in
theorem few_any (b m : Nat) (w : World) (hs : Strm b m w) (hm : m ≤ 10000000000) (hP : Pool w) (hPb : 0 ≠ b) :
    Calls Tryz.prog 88 #[.pointer (some ⟨b, 0, none⟩)] w (DrawsId b (m + 1) w) := by
  have S := (St.start hs).new' #[.int .i64 0, .string ⟨#[]⟩] 29
  have HP := Lib.hid hP
  clear hs hP
  go_enter Tryz.func88, Tryz.ntmps88
  go_wp2_with fail
  ((with_reducible refine (pick_le b _ _ _ (0) (8) S.g.s (by first | rfl | simp) (by first | rfl | simp) (intsIn_of (by decide)) (by simp) (by simp) (by omega)).mono ?_); rintro e w1 ⟨n, n_lo, n_hi, rfl, hk_w1, hs_w1⟩)
  replace S := S.step hk_w1 hs_w1
  clear hk_w1 hs_w1
  obtain ⟨i, rfl⟩ := Int.eq_ofNat_of_zero_le n_lo
  obtain ⟨k, t, ht, h0, h1⟩ := (HP.out.keep S.g.k hPb) i (by omega)
  have x0 : w1.cell? ⟨w.heap.size, 0, none⟩ = some (.int .i64 0) := (S.lv 0 rfl).cell 0 _ rfl
  have x1 : w1.cell? ⟨w.heap.size, 1, none⟩ = some (.string ⟨#[]⟩) := (S.lv 0 rfl).cell 1 _ rfl
  have f0 := (S.lv 0 rfl).free 0
  have f1 := (S.lv 0 rfl).free 1
  go_wp2_with fail
  have S2 := (S.set 0 0 (.int .i64 k) rfl).set 0 1 (.string t) rfl
  exact bodyPost_ret (results_cell1 rfl rfl (loadId (S2.lv 0 rfl))) rfl ⟨k, t, by omega, rfl, S2.g.k, S2.g.s⟩
/-- a question -/
abbrev qVal (k : Int) (t pu rg : ByteArray) (ch at' : Int) : Value := .agg #[.int .i64 k, .string t, .string pu, .string rg, .int .i64 ch, .int .i64 at']
def DrawsQ (b m : Nat) (w : World) (e : Ending) (w' : World) : Prop := ∃ (k : Int) (t pu rg : ByteArray) (ch at' : Int), t.size ≤ 10000 ∧ pu.size ≤ 10000 ∧ rg.size ≤ 10000 ∧ e = .returned (qVal k t pu rg ch at') ∧ SK b w w' ∧ Strm b m w'
set_option maxHeartbeats 4000000 in
set_option maxRecDepth 100000 in
theorem question_any (b m : Nat) (A : Option Addr) (xs : List Purp) (c : Nat) (w : World) (hs : Strm b m w) (hm : m ≤ 1000000000) (hP : Pool w) (hPb : 0 ≠ b) (hS : Sl rPurp (Off b) w A xs) (hsm : ∀ p ∈ xs, p.name.size ≤ 1000) (hl : xs.length ≤ 1000) :
    Calls Tryz.prog 55 #[.pointer (some ⟨b, 0, none⟩), .slice A xs.length c] w (DrawsQ b (m + 20) w) := by
  have S := (St.start hs).new' #[.int .i64 0, .string ⟨#[]⟩, .string ⟨#[]⟩, .string ⟨#[]⟩, .int .i64 0, .int .i64 0] 31
  have HP := Lib.hid hP
  have HS := Lib.hid hS
  have Hsm := Lib.hid hsm
  clear hs hP hS hsm
  go_enter Tryz.func55, Tryz.ntmps55
  go_wp2_with fail
  ((with_reducible refine (few_any b _ _ S.g.s (by omega) (HP.out.keep S.g.k hPb) hPb).mono ?_); rintro e w1 ⟨k, t, ht, rfl, hk1, hs1⟩)
  replace S := S.step hk1 hs1
  clear hk1 hs1
  go_wp2_with fail
  ((with_reducible refine (one_le b _ _ _ (10) S.g.s (by first | rfl | simp) (by first | rfl | simp) (strsLe_of (by decide)) (by simp) (by simp) (by omega)).mono ?_); rintro e w2 ⟨rg, rg_le, rfl, hk_w2, hs_w2⟩)
  replace S := S.step hk_w2 hs_w2
  clear hk_w2 hs_w2
  go_wp2_with fail
  ((with_reducible refine (pick_le b _ _ _ (1) (4) S.g.s (by first | rfl | simp) (by first | rfl | simp) (intsIn_of (by decide)) (by simp) (by simp) (by omega)).mono ?_); rintro e w3 ⟨ch, ch_lo, ch_hi, rfl, hk_w3, hs_w3⟩)
  replace S := S.step hk_w3 hs_w3
  clear hk_w3 hs_w3
  go_wp2_with fail
  ((with_reducible refine (next_any b _ _ _ S.g.s (by omega) (by omega) (by omega)).mono ?_); rintro e w4 ⟨rn, rn_lo, rn_hi, rfl, hk_w4, hs_w4⟩)
  replace S := S.step hk_w4 hs_w4
  clear hk_w4 hs_w4
  go_wp2_with fail
  ((with_reducible refine (pick_le b _ _ _ 0 5000 S.g.s (by first | rfl | simp) (by first | rfl | simp) (by repeat (first | exact intsIn_nil | refine intsIn_cons (by omega) ?_)) (by simp) (by simp) (by omega)).mono ?_); rintro e w5 ⟨at', at_lo, at_hi, rfl, hk_w5, hs_w5⟩)
  replace S := S.step hk_w5 hs_w5
  clear hk_w5 hs_w5
  go_upto_region 2 with fail
  obtain ⟨Q, hQ⟩ : ∃ Q, Q = w5.heap.size := ⟨_, rfl⟩
  replace S := S.newAt #[.int .i64 k, .string t, .string ⟨#[110, 101, 119, 115]⟩, .string rg, .int .i64 ch, .int .i64 at'] 31 Q hQ
  rw [← hQ]
  clear hQ
  generalize w5.alloc (.cells #[.int .i64 k, .string t, .string ⟨#[110, 101, 119, 115]⟩, .string rg, .int .i64 ch, .int .i64 at'] 31) = w6 at *
  go_upto_if 22 with fail
  have HS0 := Lib.hid S
  clear S
  go_cut [4] (fun s4 wx => s4 = .pointer (some ⟨w.heap.size, 0, none⟩) ∧ ∃ pu : ByteArray, pu.size ≤ 1000 ∧ St b (m + 6) w wx [.loc w.heap.size #[.int .i64 0, .string ⟨#[]⟩, .string ⟨#[]⟩, .string ⟨#[]⟩, .int .i64 0, .int .i64 0] 31, .loc Q #[.int .i64 k, .string t, .string pu, .string rg, .int .i64 ch, .int .i64 at'] 31])
  case first =>
    have S := HS0.out
    clear HS0
    by_cases h0 : 0 < xs.length
    · go_wp2_with fail
      ((with_reducible refine (next_any b _ _ _ S.g.s (by omega) (by omega) (by omega)).mono ?_); rintro e w7 ⟨ri, ri_lo, ri_hi, rfl, hk_w7, hs_w7⟩)
      replace S := S.step hk_w7 hs_w7
      clear hk_w7 hs_w7
      obtain ⟨j, rfl⟩ := Int.eq_ofNat_of_zero_le (by omega : 0 ≤ ri)
      have hj : j < xs.length := by omega
      obtain ⟨p, hp⟩ : ∃ p, xs[j]? = some p := ⟨_, List.getElem?_eq_getElem hj⟩
      obtain ⟨blk, off, At, ct, rfl, _, d0, _, _⟩ := (HS.out.keep S.g.k.n).purp j p hp
      have hps := Hsm.out p (List.mem_of_getElem? hp)
      have x2 : w7.cell? ⟨Q, 2, none⟩ = some (.string ⟨#[110, 101, 119, 115]⟩) := (S.lv 1 rfl).cell 2 _ rfl
      have f2 := (S.lv 1 rfl).free 2
      clear hp
      go_wp2_with fail
      go_meet
      exact ⟨rfl, p.name, hps, (S.set 1 2 (.string p.name) rfl).mono (by omega)⟩
    · go_wp2_with fail
      go_meet
      exact ⟨rfl, _, by decide, S.mono (by omega)⟩
  case rest =>
    clear HS0 HS Hsm
    obtain ⟨rfl, pu, hpu, S⟩ := hcut
    go_wp2_with fail
    ((with_reducible refine (flip_any b _ _ _ S.g.s (by omega) (by omega) (by omega)).mono ?_); rintro e w7 ⟨r7, rfl, hk_w7, hs_w7⟩)
    replace S := S.step hk_w7 hs_w7
    clear hk_w7 hs_w7
    go_upto_if 33 with fail
    have HS0 := Lib.hid S
    clear S
    go_cut [4] (fun s4 wx => s4 = .pointer (some ⟨w.heap.size, 0, none⟩) ∧ ∃ (k : Int) (t pu rg : ByteArray) (ch at' : Int), t.size ≤ 10000 ∧ pu.size ≤ 10000 ∧ rg.size ≤ 10000 ∧ St b (m + 20) w wx [.loc w.heap.size #[.int .i64 0, .string ⟨#[]⟩, .string ⟨#[]⟩, .string ⟨#[]⟩, .int .i64 0, .int .i64 0] 31, .loc Q #[.int .i64 k, .string t, .string pu, .string rg, .int .i64 ch, .int .i64 at'] 31])
    case first =>
      have S := HS0.out
      clear HS0
      cases r7
      · go_wp2_with fail
        go_meet
        exact ⟨rfl, k, t, pu, rg, ch, at', ht, by omega, by omega, S.mono (by omega)⟩
      · go_wp2_with fail
        ((with_reducible refine (next_any b _ _ _ S.g.s (by omega) (by omega) (by omega)).mono ?_); rintro e w8 ⟨r8, r8_lo, r8_hi, rfl, hk_w8, hs_w8⟩)
        replace S := S.step hk_w8 hs_w8
        clear hk_w8 hs_w8
        have hr8 : r8 = 0 ∨ r8 = 1 ∨ r8 = 2 ∨ r8 = 3 ∨ r8 = 4 := by omega
        clear r8_lo r8_hi
        rcases hr8 with h8 | h8 | h8 | h8 | h8
        all_goals subst h8
        · go_wp2_with fail
          ((with_reducible refine (spoiledId_any b _ _ S.g.s (by omega) (HP.out.keep S.g.k hPb) hPb).mono ?_); rintro e w9 ⟨k', t', ht', rfl, hk9, hs9⟩)
          replace S := S.step hk9 hs9
          clear hk9 hs9
          have x0 : w9.cell? ⟨Q, 0, none⟩ = some (.int .i64 k) := (S.lv 1 rfl).cell 0 _ rfl
          have x1 : w9.cell? ⟨Q, 1, none⟩ = some (.string t) := (S.lv 1 rfl).cell 1 _ rfl
          have f0 := (S.lv 1 rfl).free 0
          have f1 := (S.lv 1 rfl).free 1
          go_wp2_with fail
          go_meet
          exact ⟨rfl, k', t', pu, rg, ch, at', ht', by omega, by omega, ((S.set 1 0 (.int .i64 k') rfl).set 1 1 (.string t') rfl).mono (by omega)⟩
        · go_wp2_with fail
          ((with_reducible refine (one_le b _ _ _ (10) S.g.s (by first | rfl | simp) (by first | rfl | simp) (strsLe_of (by decide)) (by simp) (by simp) (by omega)).mono ?_); rintro e w9 ⟨pu', pu'_le, rfl, hk_w9, hs_w9⟩)
          replace S := S.step hk_w9 hs_w9
          clear hk_w9 hs_w9
          have x0 : w9.cell? ⟨Q, 2, none⟩ = some (.string pu) := (S.lv 1 rfl).cell 2 _ rfl
          have f0 := (S.lv 1 rfl).free 2
          go_wp2_with fail
          go_meet
          exact ⟨rfl, k, t, pu', rg, ch, at', ht, by omega, by omega, (S.set 1 2 (.string pu') rfl).mono (by omega)⟩
        · go_wp2_with fail
          ((with_reducible refine (one_le b _ _ _ (10) S.g.s (by first | rfl | simp) (by first | rfl | simp) (strsLe_of (by decide)) (by simp) (by simp) (by omega)).mono ?_); rintro e w9 ⟨rg', rg'_le, rfl, hk_w9, hs_w9⟩)
          replace S := S.step hk_w9 hs_w9
          clear hk_w9 hs_w9
          have x0 : w9.cell? ⟨Q, 3, none⟩ = some (.string rg) := (S.lv 1 rfl).cell 3 _ rfl
          have f0 := (S.lv 1 rfl).free 3
          go_wp2_with fail
          go_meet
          exact ⟨rfl, k, t, pu, rg', ch, at', ht, by omega, by omega, (S.set 1 3 (.string rg') rfl).mono (by omega)⟩
        · go_wp2_with fail
          ((with_reducible refine (odd_any b _ _ _ _ S.g.s (by omega) (by omega) (by omega) (by omega)).mono ?_); rintro e w9 ⟨c9, c9_lo, c9_hi, rfl, hk_w9, hs_w9⟩)
          replace S := S.step hk_w9 hs_w9
          clear hk_w9 hs_w9
          have x0 : w9.cell? ⟨Q, 4, none⟩ = some (.int .i64 ch) := (S.lv 1 rfl).cell 4 _ rfl
          have f0 := (S.lv 1 rfl).free 4
          go_wp2_with fail
          go_meet
          exact ⟨rfl, k, t, pu, rg, c9, at', ht, by omega, by omega, (S.set 1 4 (.int .i64 c9) rfl).mono (by omega)⟩
        · go_wp2_with fail
          ((with_reducible refine (odd_any b _ _ _ _ S.g.s (by omega) (by omega) (by omega) (by omega)).mono ?_); rintro e w9 ⟨c9, c9_lo, c9_hi, rfl, hk_w9, hs_w9⟩)
          replace S := S.step hk_w9 hs_w9
          clear hk_w9 hs_w9
          have x0 : w9.cell? ⟨Q, 5, none⟩ = some (.int .i64 at') := (S.lv 1 rfl).cell 5 _ rfl
          have f0 := (S.lv 1 rfl).free 5
          go_wp2_with fail
          go_meet
          exact ⟨rfl, k, t, pu, rg, ch, c9, ht, by omega, by omega, (S.set 1 5 (.int .i64 c9) rfl).mono (by omega)⟩
    case rest =>
      clear HS0
      obtain ⟨rfl, k, t, pu, rg, ch, at', ht, hpu, hrg, S⟩ := hcut
      have lR := S.lv 0 rfl
      have lQ := S.lv 1 rfl
      have x0 : wc.cell? ⟨w.heap.size, 0, none⟩ = some (.int .i64 0) := lR.cell 0 _ rfl
      have x1 : wc.cell? ⟨w.heap.size, 1, none⟩ = some (.string ⟨#[]⟩) := lR.cell 1 _ rfl
      have x2 : wc.cell? ⟨w.heap.size, 2, none⟩ = some (.string ⟨#[]⟩) := lR.cell 2 _ rfl
      have x3 : wc.cell? ⟨w.heap.size, 3, none⟩ = some (.string ⟨#[]⟩) := lR.cell 3 _ rfl
      have x4 : wc.cell? ⟨w.heap.size, 4, none⟩ = some (.int .i64 0) := lR.cell 4 _ rfl
      have x5 : wc.cell? ⟨w.heap.size, 5, none⟩ = some (.int .i64 0) := lR.cell 5 _ rfl
      have f0 := lR.free 0
      have f1 := lR.free 1
      have f2 := lR.free 2
      have f3 := lR.free 3
      have f4 := lR.free 4
      have f5 := lR.free 5
      have y0 : wc.cell? ⟨Q, 0, none⟩ = some (.int .i64 k) := lQ.cell 0 _ rfl
      have y1 : wc.cell? ⟨Q, 1, none⟩ = some (.string t) := lQ.cell 1 _ rfl
      have y2 : wc.cell? ⟨Q, 2, none⟩ = some (.string pu) := lQ.cell 2 _ rfl
      have y3 : wc.cell? ⟨Q, 3, none⟩ = some (.string rg) := lQ.cell 3 _ rfl
      have y4 : wc.cell? ⟨Q, 4, none⟩ = some (.int .i64 ch) := lQ.cell 4 _ rfl
      have y5 : wc.cell? ⟨Q, 5, none⟩ = some (.int .i64 at') := lQ.cell 5 _ rfl
      clear lR lQ
      go_wp2_with fail
      have S2 := (((((S.set 0 0 (.int .i64 k) rfl).set 0 1 (.string t) rfl).set 0 2 (.string pu) rfl).set 0 3 (.string rg) rfl).set 0 4 (.int .i64 ch) rfl).set 0 5 (.int .i64 at') rfl
      exact bodyPost_ret (results_cell1 rfl rfl (loadQ (S2.lv 0 rfl))) rfl ⟨k, t, pu, rg, ch, at', ht, hpu, hrg, rfl, S2.g.k, S2.g.s⟩
end Go.Proofs.YthmkphmciiiagaaGreatDoor

/- What the generator RightPolicy makes. -/
namespace Go.Proofs.YthmkphmciiiagaaGreatDoor
open Go.RowKit
def DrawsPol (b m : Nat) (w : World) (e : Ending) (w' : World) : Prop := ∃ (v : Value) (q : List PQ), e = .returned v ∧ 1 ≤ q.length ∧ QOk 9 q ∧ St b m w w' (polC w.heap.size v q)
abbrev names3 : Array Value := #[.string ⟨#[98, 105, 108, 108]⟩, .string ⟨#[110, 101, 119, 115]⟩, .string ⟨#[115, 97, 108, 101]⟩]
abbrev regs2 : Array Value := #[.string ⟨#[101, 117]⟩, .string ⟨#[117, 115]⟩]
theorem names3_at (k : Nat) (h : k < 3) : ∃ s : ByteArray, names3[k]? = some (.string s) ∧ s.size ≤ 10 := by
  obtain rfl | rfl | rfl : k = 0 ∨ k = 1 ∨ k = 2 := by omega
  all_goals exact ⟨_, rfl, by decide⟩
theorem regs2_at (k : Nat) (h : k < 2) : ∃ s : ByteArray, regs2[k]? = some (.string s) ∧ s.size ≤ 10 := by
  obtain rfl | rfl : k = 0 ∨ k = 1 := by omega
  all_goals exact ⟨_, rfl, by decide⟩
set_option maxHeartbeats 8000000 in
set_option maxRecDepth 100000 in
theorem rightPolicy_any (b m : Nat) (w : World) (hs : Strm b m w) (hm : m ≤ 100000000) :
    Calls Tryz.prog 39 #[.pointer (some ⟨b, 0, none⟩)] w (DrawsPol b (m + 110) w) := by
  have S := ((St.start hs).new' names3 9).nil rPQ w.heap.size 75
  clear hs
  go_enter Tryz.func39, Tryz.ntmps39
  go_wp2_with fail
  replace S : St b m w (w.alloc (.cells names3 9)) (.loc w.heap.size names3 9 :: polC w.heap.size (.slice none 0 0) []) := S
  go_loopw [3, 13] (fun s3 i wr => ∃ (k : Nat) (A : Option Addr) (cv : Nat) (q : List PQ), k ≤ 3 ∧ i = .int .i64 k ∧ s3 = .slice A q.length cv ∧ q.length ≤ k ∧ QOk 9 q ∧ St b (m + 34 * k) w wr (.loc w.heap.size names3 9 :: polC w.heap.size (.slice A q.length cv) q)) (fun _ i _ => 3 - (intOf i).toNat)
  case atStart => exact ⟨0, none, 0, [], by omega, rfl, rfl, by simp, ⟨by simp, by simp, by simp, by simp⟩, S.mono (by omega)⟩
  case round =>
    clear S
    obtain ⟨k, A, cv, q, hk, rfl, rfl, hq, hok, S⟩ := hrel
    have HQ := Lib.hid hok
    have Hql := Lib.hid hq
    have hql3 : q.length ≤ 3 := hok.len
    clear hok hq
    by_cases hk3 : k < 3
    · obtain ⟨nk, hnk, hnl⟩ := names3_at k hk3
      have n0 : wr.cell? ⟨w.heap.size, k, none⟩ = some (.string nk) := (S.lv 0 rfl).cell k _ hnk
      have Hnk := Lib.hid hnk
      clear hnk
      go_wp2_with fail
      ((with_reducible refine (flip_any b _ _ _ S.g.s (by omega) (by omega) (by omega)).mono ?_); rintro e w1 ⟨r1, rfl, hk_w1, hs_w1⟩)
      replace S := S.step hk_w1 hs_w1
      clear hk_w1 hs_w1
      clear n0
      cases r1
      · go_upto_region 7 with fail
        obtain ⟨P, hP⟩ : ∃ P, P = w1.heap.size := ⟨_, rfl⟩
        replace S := (S.newAt #[.string nk, .slice none 0 0] 75 P hP).front
        rw [← hP]
        clear hP
        generalize w1.alloc (.cells #[.string nk, .slice none 0 0] 75) = w2 at *
        obtain ⟨RB, hRB⟩ : ∃ RB, RB = w2.heap.size := ⟨_, rfl⟩
        replace S := ((S.newAt regs2 9 RB hRB).front.nil rTerm w.heap.size 99).front
        go_wp2_with fail
        rw [← hRB]
        clear hRB
        generalize w2.alloc (.cells regs2 9) = w3 at *
        go_loopw [23] (fun i wr => ∃ (j : Nat) (At : Option Addr) (ct : Nat) (ts : List PTerm), j ≤ 2 ∧ i = .int .i64 j ∧ ts.length ≤ 4 * j ∧ (∀ t ∈ ts, t.region.size ≤ 10) ∧ St b (m + 34 * k + 1 + 16 * j) w wr (.own rTerm w.heap.size 99 (.slice At ts.length ct) ts :: .loc RB regs2 9 :: .loc P #[.string nk, .slice At ts.length ct] 75 :: .loc w.heap.size names3 9 :: polC w.heap.size (.slice A q.length cv) q)) (fun i _ => 2 - (intOf i).toNat)
        case atStart => exact ⟨0, none, 0, [], by omega, rfl, by simp, by simp, S.mono (by omega)⟩
        case round =>
          clear S
          obtain ⟨j, At, ct, ts, hj, rfl, htl, htr, S⟩ := hrel
          have Htr := Lib.hid htr
          clear htr
          by_cases hj2 : j < 2
          · obtain ⟨rg, hrg, hrl⟩ := regs2_at j hj2
            have n0 : wr.cell? ⟨RB, j, none⟩ = some (.string rg) := (S.lv 1 rfl).cell j _ hrg
            clear hrg
            go_wp2_with fail
            clear n0
            have e24 : decide ((j : Int) < 2) = true := decide_eq_true (by omega)
            simp only [e24]
            clear e24
            go_loopw [9] (fun i wr => ∃ (c : Nat) (At : Option Addr) (ct : Nat) (ts : List PTerm), c ≤ 4 ∧ i = .int .i64 (c + 1) ∧ ts.length ≤ 4 * j + c ∧ (∀ t ∈ ts, t.region.size ≤ 10) ∧ St b (m + 34 * k + 1 + 16 * j + 4 * c) w wr (.own rTerm w.heap.size 99 (.slice At ts.length ct) ts :: .loc RB regs2 9 :: .loc P #[.string nk, .slice At ts.length ct] 75 :: .loc w.heap.size names3 9 :: polC w.heap.size (.slice A q.length cv) q)) (fun i _ => 5 - (intOf i).toNat)
            case atStart => exact ⟨0, At, ct, ts, by omega, rfl, by omega, Htr.out, S.mono (by omega)⟩
            case round =>
              clear S Htr htl
              obtain ⟨c, At, ct, ts, hc, rfl, htl, htr, S⟩ := hrel
              have Htr := Lib.hid htr
              have Htl := Lib.hid htl
              have htl9 : ts.length ≤ 8 := by omega
              clear htr htl
              by_cases hc4 : c < 4
              · go_wp2_with fail
                ((with_reducible refine (flip_any b _ _ _ S.g.s (by omega) (by omega) (by omega)).mono ?_); rintro e w5 ⟨r5, rfl, hk_w5, hs_w5⟩)
                replace S := S.step hk_w5 hs_w5
                clear hk_w5 hs_w5
                cases r5
                · go_wp2_with fail
                  ((with_reducible refine (flip_any b _ _ _ S.g.s (by omega) (by omega) (by omega)).mono ?_); rintro e w6 ⟨fr, rfl, hk_w6, hs_w6⟩)
                  replace S := S.step hk_w6 hs_w6
                  clear hk_w6 hs_w6
                  go_upto_region 15 with fail
                  obtain ⟨T, hT⟩ : ∃ T, T = w6.heap.size := ⟨_, rfl⟩
                  replace S := (S.newAt #[.string rg, .int .i64 (c + 1), .bool fr, .int .i64 0, .int .i64 0] 99 T hT).front
                  rw [← hT]
                  clear hT
                  generalize w6.alloc (.cells #[.string rg, .int .i64 (c + 1), .bool fr, .int .i64 0, .int .i64 0] 99) = w7 at *
                  have x2 : w7.cell? ⟨T, 2, none⟩ = some (.bool fr) := (S.lv 0 rfl).cell 2 _ rfl
                  go_upto_if 40 with fail
                  clear x2
                  have HS := Lib.hid S
                  clear S
                  go_cut [9] (fun s9 wx => s9 = .int .i64 (c + 1) ∧ ∃ dy wt : Int, St b (m + 34 * k + 1 + 16 * j + 4 * c + 4) w wx (.loc T #[.string rg, .int .i64 (c + 1), .bool fr, .int .i64 dy, .int .i64 wt] 99 :: .own rTerm w.heap.size 99 (.slice At ts.length ct) ts :: .loc RB regs2 9 :: .loc P #[.string nk, .slice At ts.length ct] 75 :: .loc w.heap.size names3 9 :: polC w.heap.size (.slice A q.length cv) q))
                  case first =>
                    have S := HS.out
                    clear HS
                    cases fr
                    · go_wp2_with fail
                      ((with_reducible refine (pick_le b _ _ _ (0) (100) S.g.s (by first | rfl | simp) (by first | rfl | simp) (intsIn_of (by decide)) (by simp) (by simp) (by omega)).mono ?_); rintro e w8 ⟨dy, dy_lo, dy_hi, rfl, hk_w8, hs_w8⟩)
                      replace S := S.step hk_w8 hs_w8
                      clear hk_w8 hs_w8
                      go_wp2_with fail
                      ((with_reducible refine (pick_le b _ _ _ (0) (100) S.g.s (by first | rfl | simp) (by first | rfl | simp) (intsIn_of (by decide)) (by simp) (by simp) (by omega)).mono ?_); rintro e w9 ⟨wt, wt_lo, wt_hi, rfl, hk_w9, hs_w9⟩)
                      replace S := S.step hk_w9 hs_w9
                      clear hk_w9 hs_w9
                      have x3 : w9.cell? ⟨T, 3, none⟩ = some (.int .i64 0) := (S.lv 0 rfl).cell 3 _ rfl
                      have x4 : w9.cell? ⟨T, 4, none⟩ = some (.int .i64 0) := (S.lv 0 rfl).cell 4 _ rfl
                      have f3 := (S.lv 0 rfl).free 3
                      have f4 := (S.lv 0 rfl).free 4
                      go_wp2_with fail
                      go_meet
                      exact ⟨rfl, dy, wt, ((S.set 0 3 (.int .i64 dy) rfl).set 0 4 (.int .i64 wt) rfl).mono (by omega)⟩
                    · go_wp2_with fail
                      go_meet
                      exact ⟨rfl, 0, 0, S.mono (by omega)⟩
                  case rest =>
                    clear HS
                    obtain ⟨rfl, dy, wt, S⟩ := hcut
                    have hsz := S.g.size
                    have y1 : wc.cell? ⟨P, 1, none⟩ = some (.slice At ts.length ct) := (S.lv 3 rfl).cell 1 _ rfl
                    have x0 : wc.cell? ⟨T, 0, none⟩ = some (.string rg) := (S.lv 0 rfl).cell 0 _ rfl
                    have x1 : wc.cell? ⟨T, 1, none⟩ = some (.int .i64 (c + 1)) := (S.lv 0 rfl).cell 1 _ rfl
                    have x2 : wc.cell? ⟨T, 2, none⟩ = some (.bool fr) := (S.lv 0 rfl).cell 2 _ rfl
                    have x3 : wc.cell? ⟨T, 3, none⟩ = some (.int .i64 dy) := (S.lv 0 rfl).cell 3 _ rfl
                    have x4 : wc.cell? ⟨T, 4, none⟩ = some (.int .i64 wt) := (S.lv 0 rfl).cell 4 _ rfl
                    have hlt := Htl.out
                    go_wp2_with (at_builtin; refine S.app 1 rfl tyTerm rfl _ _ rfl ⟨rg, c + 1, fr, dy, wt⟩ 1 rfl rfl rfl (oneTerm ⟨rg, c + 1, fr, dy, wt⟩) hsz (by omega) (by decide) ?_; intro v' w10 S6; obtain ⟨A6, c6, rfl⟩ := (S6.ow 1 rfl).len; have hCb := (S6.lv 3 rfl).cell 1 (.slice At ts.length ct) rfl; have hCf := (S6.lv 3 rfl).free 1)
                    go_roundw
                    case rel =>
                      have S7 : St b (m + 34 * k + 1 + 16 * j + 4 * c + 4) w (w10.setCell ⟨P, 1, none⟩ (.slice A6 (ts ++ [(⟨rg, c + 1, fr, dy, wt⟩ : PTerm)]).length c6)) (.own rTerm w.heap.size 99 (.slice A6 (ts ++ [(⟨rg, c + 1, fr, dy, wt⟩ : PTerm)]).length c6) (ts ++ [(⟨rg, c + 1, fr, dy, wt⟩ : PTerm)]) :: .loc RB regs2 9 :: .loc P #[.string nk, .slice A6 (ts ++ [(⟨rg, c + 1, fr, dy, wt⟩ : PTerm)]).length c6] 75 :: .loc w.heap.size names3 9 :: polC w.heap.size (.slice A q.length cv) q) := (S6.set 3 1 (.slice A6 (ts ++ [(⟨rg, c + 1, fr, dy, wt⟩ : PTerm)]).length c6) rfl).del 0
                      exact ⟨c + 1, A6, c6, ts ++ [⟨rg, c + 1, fr, dy, wt⟩], by omega, by go_num, by simp; omega, (fun t ht => by
                        rcases List.mem_append.1 ht with ht | ht
                        · exact Htr.out t ht
                        · rw [List.mem_singleton.1 ht]; exact hrl), by rw [show ts.length + 1 = (ts ++ [(⟨rg, c + 1, fr, dy, wt⟩ : PTerm)]).length by simp]; exact S7.mono (show m + 34 * k + 1 + 16 * j + 4 * c + 4 ≤ m + 34 * k + 1 + 16 * j + 4 * (c + 1) by omega)⟩
                    case measure => simp [intOf]; omega
                · go_wp2_with fail
                  go_roundw
                  case rel =>
                    exact ⟨c + 1, At, ct, ts, by omega, by go_num, by have := Htl.out; omega, Htr.out, S.mono (by omega)⟩
                  case measure => simp [intOf]; omega
              · have hlt := Htl.out
                go_wp2_with fail
                go_roundw
                case rel => exact ⟨j + 1, At, ct, ts, by omega, by go_num, by omega, Htr.out, S.mono (by omega)⟩
                case measure => simp [intOf]; omega
          · have hsz := S.g.size
            have y0 : wr.cell? ⟨P, 0, none⟩ = some (.string nk) := (S.lv 2 rfl).cell 0 _ rfl
            have y1 : wr.cell? ⟨P, 1, none⟩ = some (.slice At ts.length ct) := (S.lv 2 rfl).cell 1 _ rfl
            go_wp2_with (at_builtin; refine S.app 4 rfl tyPurp rfl _ _ rfl ⟨nk, At, ct, ts⟩ 1 rfl rfl rfl (onePQ ⟨nk, At, ct, ts⟩) hsz (by omega) (by decide) ?_; intro v' w10 S6; obtain ⟨A6, c6, rfl⟩ := (S6.ow 4 rfl).len)
            go_roundw
            case rel =>
              have hn := Hql.out
              have S7 : St b (m + 34 * k + 1 + 16 * j) w w10 (.loc w.heap.size names3 9 :: polC w.heap.size (.slice A6 (q ++ [(⟨nk, At, ct, ts⟩ : PQ)]).length c6) (q ++ [(⟨nk, At, ct, ts⟩ : PQ)])) := by
                have S8 := ((S6.del 1).del 1).back
                unfold polC
                rw [List.map_append]
                exact S8
              refine ⟨k + 1, A6, c6, q ++ [(⟨nk, At, ct, ts⟩ : PQ)], by omega, by go_num, by simp, by simp; omega, ⟨by simp; omega, fun e he => ?_, fun e he => ?_, fun e he => ?_⟩, S7.mono (by omega)⟩
              · rcases List.mem_append.1 he with he | he
                · exact HQ.out.nm e he
                · rw [List.mem_singleton.1 he]; exact hnl
              · rcases List.mem_append.1 he with he | he
                · exact HQ.out.tl e he
                · rw [List.mem_singleton.1 he]; show ts.length ≤ 9; omega
              · rcases List.mem_append.1 he with he | he
                · exact HQ.out.rg e he
                · rw [List.mem_singleton.1 he]; exact Htr.out
            case measure => simp [intOf]; omega
      · go_wp2_with fail
        go_roundw
        case rel => exact ⟨k + 1, A, cv, q, by omega, by go_num, rfl, by have := Hql.out; omega, HQ.out, S.mono (by omega)⟩
        case measure => simp [intOf]; omega
    · have hn := Hql.out
      by_cases h0 : q.length = 0
      · obtain rfl : q = [] := List.length_eq_zero_iff.1 h0
        go_wp2_with fail
        go_ret
        have hsz := S.g.size
        have S2 := S.call ⟨(SK.refl b wr).alloc (.cells #[.string ⟨#[101, 117]⟩, .int .i64 1, .bool false, .int .i64 0, .int .i64 0] 99), S.g.s.alloc _⟩ (.own rTerm w.heap.size 99 (.slice (some ⟨wr.heap.size, 0, none⟩) 1 1) [⟨⟨#[101, 117]⟩, 1, false, 0, 0⟩]) (Own.ofLV flatTerm (xs := [⟨⟨#[101, 117]⟩, 1, false, 0, 0⟩]) (LV.new wr wr.heap.size _ _ rfl) hsz rfl rfl (by decide)) (fun k e => by cases e; exact Nat.le_refl _)
        have S3 := S2.call ⟨(SK.refl b _).alloc (.cells #[.string ⟨#[110, 101, 119, 115]⟩, .slice (some ⟨wr.heap.size, 0, none⟩) 1 1] 75), S2.g.s.alloc _⟩ (.own rPQ w.heap.size 75 (.slice (some ⟨wr.heap.size + 1, 0, none⟩) 1 1) [⟨⟨#[110, 101, 119, 115]⟩, some ⟨wr.heap.size, 0, none⟩, 1, [⟨⟨#[101, 117]⟩, 1, false, 0, 0⟩]⟩]) (Own.ofLV flatPQ (xs := [⟨⟨#[110, 101, 119, 115]⟩, some ⟨wr.heap.size, 0, none⟩, 1, [⟨⟨#[101, 117]⟩, 1, false, 0, 0⟩]⟩]) (LV.new _ (wr.heap.size + 1) _ _ (by simp)) (by omega) rfl rfl (by simp)) (fun k e => by cases e; simp)
        exact ⟨_, [⟨⟨#[110, 101, 119, 115]⟩, some ⟨wr.heap.size, 0, none⟩, 1, [⟨⟨#[101, 117]⟩, 1, false, 0, 0⟩]⟩], rfl, by simp, ⟨by simp, by simp; decide, by simp, by simp; decide⟩, (((S3.del 0).del 0).swap).mono (by omega)⟩
      · have h0' : ((q.length : Int) == 0) = false := by simpa using h0
        go_wp2_with fail
        go_ret
        exact ⟨_, q, rfl, by omega, HQ.out, (S.del 0).mono (by omega)⟩
end Go.Proofs.YthmkphmciiiagaaGreatDoor

/- What slices.Reverse makes of a short policy. -/
namespace Go.Proofs.YthmkphmciiiagaaGreatDoor
open Go.RowKit
set_option maxRecDepth 100000 in
theorem rev1_any (A : Option Addr) (cap : Nat) (w : World) : Calls Tryz.prog 98 #[.slice A 1 cap] w fun e w' => e = .returned (.tuple #[]) ∧ w = w' := by
  go_enter Tryz.func98, Tryz.ntmps98
  go_wp2_with fail
  go_loopw [2, 3] (fun i j wr => i = .int .i64 0 ∧ j = .int .i64 0 ∧ w = wr) (fun _ _ _ => 0)
  case atStart => exact ⟨rfl, rfl, rfl⟩
  case round =>
    obtain ⟨rfl, rfl, rfl⟩ := hrel
    go_wp2_with fail
    go_end0
    exact ⟨rfl, rfl⟩
set_option maxHeartbeats 4000000 in
set_option maxRecDepth 100000 in
theorem rev2_any {b m : Nat} {w0 w : World} {cs : List Chunk} {B g cap : Nat} {x y : PQ} (S : St b m w0 w (.own rPQ B 75 (.slice (some ⟨g, 0, none⟩) 2 cap) [x, y] :: cs)) :
    Calls Tryz.prog 98 #[.slice (some ⟨g, 0, none⟩) 2 cap] w fun e w' => e = .returned (.tuple #[]) ∧ St b m w0 w' (.own rPQ B 75 (.slice (some ⟨g, 0, none⟩) 2 cap) [y, x] :: cs) := by
  go_enter Tryz.func98, Tryz.ntmps98
  go_wp2_with fail
  go_loopw [2, 3] (fun i j wr => (i = .int .i64 0 ∧ j = .int .i64 1 ∧ St b m w0 wr (.own rPQ B 75 (.slice (some ⟨g, 0, none⟩) 2 cap) [x, y] :: cs)) ∨ (i = .int .i64 1 ∧ j = .int .i64 0 ∧ St b m w0 wr (.own rPQ B 75 (.slice (some ⟨g, 0, none⟩) 2 cap) [y, x] :: cs))) (fun i _ _ => 1 - (intOf i).toNat)
  case atStart => exact .inl ⟨rfl, rfl, S⟩
  case round =>
    clear S
    rcases hrel with ⟨rfl, rfl, S⟩ | ⟨rfl, rfl, S⟩
    · have a0 := Own.cellP flatPQ (S.ow 0 rfl) rfl 0 x rfl 0 (.string x.nm) rfl
      have a1 := Own.cellP flatPQ (S.ow 0 rfl) rfl 0 x rfl 1 (.slice x.A x.ts.length x.c) rfl
      have b0 := Own.cellP flatPQ (S.ow 0 rfl) rfl 1 y rfl 0 (.string y.nm) rfl
      have b1 := Own.cellP flatPQ (S.ow 0 rfl) rfl 1 y rfl 1 (.slice y.A y.ts.length y.c) rfl
      have c0 : wr.cell? ⟨g, 0, none⟩ = some (.string x.nm) := a0.1
      have c1 : wr.cell? ⟨g, 1, none⟩ = some (.slice x.A x.ts.length x.c) := a1.1
      have c2 : wr.cell? ⟨g, 2, none⟩ = some (.string y.nm) := b0.1
      have c3 : wr.cell? ⟨g, 3, none⟩ = some (.slice y.A y.ts.length y.c) := b1.1
      have f0 : wr.frozen? ⟨g, 0, none⟩ = false := a0.2
      have f1 : wr.frozen? ⟨g, 1, none⟩ = false := a1.2
      have f2 : wr.frozen? ⟨g, 2, none⟩ = false := b0.2
      have f3 : wr.frozen? ⟨g, 3, none⟩ = false := b1.2
      clear a0 a1 b0 b1
      go_wp2_with fail
      have HS := Lib.hid S
      clear S
      go_region
      go_wp2_with fail
      go_roundw
      case rel =>
        have S1 := HS.out.put flatPQ 0 rfl rfl 0 x ⟨y.nm, x.A, x.c, x.ts⟩ rfl 0 (by decide) (.string y.nm) rfl
        have S2 := S1.put flatPQ 0 rfl rfl 0 ⟨y.nm, x.A, x.c, x.ts⟩ y rfl 1 (by decide) (.slice y.A y.ts.length y.c) rfl
        have S3 := S2.put flatPQ 0 rfl rfl 1 y ⟨x.nm, y.A, y.c, y.ts⟩ rfl 0 (by decide) (.string x.nm) rfl
        have S4 : St b m w0 ((((wr.setCell ⟨g, 0, none⟩ (.string y.nm)).setCell ⟨g, 1, none⟩ (.slice y.A y.ts.length y.c)).setCell ⟨g, 2, none⟩ (.string x.nm)).setCell ⟨g, 3, none⟩ (.slice x.A x.ts.length x.c)) (.own rPQ B 75 (.slice (some ⟨g, 0, none⟩) 2 cap) [y, x] :: cs) := S3.put flatPQ 0 rfl rfl 1 ⟨x.nm, y.A, y.c, y.ts⟩ x rfl 1 (by decide) (.slice x.A x.ts.length x.c) rfl
        have hd : Drewn ((((wr.setCell ⟨g, 0, none⟩ (.string y.nm)).setCell ⟨g, 1, none⟩ (.slice y.A y.ts.length y.c)).setCell ⟨g, 2, none⟩ (.string x.nm)).setCell ⟨g, 3, none⟩ (.slice x.A x.ts.length x.c)) _ := rfl
        exact .inr ⟨rfl, rfl, S4.below (hd.below _)⟩
      case measure => simp [intOf]
    · go_wp2_with fail
      go_end0
      exact ⟨rfl, S⟩
set_option maxHeartbeats 4000000 in
set_option maxRecDepth 100000 in
theorem rev3_any {b m : Nat} {w0 w : World} {cs : List Chunk} {B g cap : Nat} {x y z : PQ} (S : St b m w0 w (.own rPQ B 75 (.slice (some ⟨g, 0, none⟩) 3 cap) [x, z, y] :: cs)) :
    Calls Tryz.prog 98 #[.slice (some ⟨g, 0, none⟩) 3 cap] w fun e w' => e = .returned (.tuple #[]) ∧ St b m w0 w' (.own rPQ B 75 (.slice (some ⟨g, 0, none⟩) 3 cap) [y, z, x] :: cs) := by
  go_enter Tryz.func98, Tryz.ntmps98
  go_wp2_with fail
  go_loopw [2, 3] (fun i j wr => (i = .int .i64 0 ∧ j = .int .i64 2 ∧ St b m w0 wr (.own rPQ B 75 (.slice (some ⟨g, 0, none⟩) 3 cap) [x, z, y] :: cs)) ∨ (i = .int .i64 1 ∧ j = .int .i64 1 ∧ St b m w0 wr (.own rPQ B 75 (.slice (some ⟨g, 0, none⟩) 3 cap) [y, z, x] :: cs))) (fun i _ _ => 1 - (intOf i).toNat)
  case atStart => exact .inl ⟨rfl, rfl, S⟩
  case round =>
    clear S
    rcases hrel with ⟨rfl, rfl, S⟩ | ⟨rfl, rfl, S⟩
    · have a0 := Own.cellP flatPQ (S.ow 0 rfl) rfl 0 x rfl 0 (.string x.nm) rfl
      have a1 := Own.cellP flatPQ (S.ow 0 rfl) rfl 0 x rfl 1 (.slice x.A x.ts.length x.c) rfl
      have b0 := Own.cellP flatPQ (S.ow 0 rfl) rfl 2 y rfl 0 (.string y.nm) rfl
      have b1 := Own.cellP flatPQ (S.ow 0 rfl) rfl 2 y rfl 1 (.slice y.A y.ts.length y.c) rfl
      have c0 : wr.cell? ⟨g, 0, none⟩ = some (.string x.nm) := a0.1
      have c1 : wr.cell? ⟨g, 1, none⟩ = some (.slice x.A x.ts.length x.c) := a1.1
      have c2 : wr.cell? ⟨g, 4, none⟩ = some (.string y.nm) := b0.1
      have c3 : wr.cell? ⟨g, 5, none⟩ = some (.slice y.A y.ts.length y.c) := b1.1
      have f0 : wr.frozen? ⟨g, 0, none⟩ = false := a0.2
      have f1 : wr.frozen? ⟨g, 1, none⟩ = false := a1.2
      have f2 : wr.frozen? ⟨g, 4, none⟩ = false := b0.2
      have f3 : wr.frozen? ⟨g, 5, none⟩ = false := b1.2
      clear a0 a1 b0 b1
      go_wp2_with fail
      have HS := Lib.hid S
      clear S
      go_region
      go_wp2_with fail
      go_roundw
      case rel =>
        have S1 := HS.out.put flatPQ 0 rfl rfl 0 x ⟨y.nm, x.A, x.c, x.ts⟩ rfl 0 (by decide) (.string y.nm) rfl
        have S2 := S1.put flatPQ 0 rfl rfl 0 ⟨y.nm, x.A, x.c, x.ts⟩ y rfl 1 (by decide) (.slice y.A y.ts.length y.c) rfl
        have S3 := S2.put flatPQ 0 rfl rfl 2 y ⟨x.nm, y.A, y.c, y.ts⟩ rfl 0 (by decide) (.string x.nm) rfl
        have S4 : St b m w0 ((((wr.setCell ⟨g, 0, none⟩ (.string y.nm)).setCell ⟨g, 1, none⟩ (.slice y.A y.ts.length y.c)).setCell ⟨g, 4, none⟩ (.string x.nm)).setCell ⟨g, 5, none⟩ (.slice x.A x.ts.length x.c)) (.own rPQ B 75 (.slice (some ⟨g, 0, none⟩) 3 cap) [y, z, x] :: cs) := S3.put flatPQ 0 rfl rfl 2 ⟨x.nm, y.A, y.c, y.ts⟩ x rfl 1 (by decide) (.slice x.A x.ts.length x.c) rfl
        have hd : Drewn ((((wr.setCell ⟨g, 0, none⟩ (.string y.nm)).setCell ⟨g, 1, none⟩ (.slice y.A y.ts.length y.c)).setCell ⟨g, 4, none⟩ (.string x.nm)).setCell ⟨g, 5, none⟩ (.slice x.A x.ts.length x.c)) _ := rfl
        exact .inr ⟨rfl, rfl, S4.below (hd.below _)⟩
      case measure => simp [intOf]
    · go_wp2_with fail
      go_end0
      exact ⟨rfl, S⟩
theorem reverse_any {b m : Nat} {w0 w : World} {cs : List Chunk} {B g cap : Nat} {q : List PQ} (h1 : 1 ≤ q.length) (h3 : q.length ≤ 3) (S : St b m w0 w (.own rPQ B 75 (.slice (some ⟨g, 0, none⟩) q.length cap) q :: cs)) :
    Calls Tryz.prog 98 #[.slice (some ⟨g, 0, none⟩) q.length cap] w fun e w' => e = .returned (.tuple #[]) ∧ ∃ q' : List PQ, q'.Perm q ∧ St b m w0 w' (.own rPQ B 75 (.slice (some ⟨g, 0, none⟩) q.length cap) q' :: cs) := by
  match q, h1, h3, S with
  | [x], _, _, S => exact (rev1_any _ cap w).mono fun e w' ⟨h1, h2⟩ => ⟨h1, [x], List.Perm.refl _, h2 ▸ S⟩
  | [x, y], _, _, S => exact (rev2_any S).mono fun e w' ⟨h1, h2⟩ => ⟨h1, [y, x], List.Perm.swap _ _ _, h2⟩
  | [x, z, y], _, _, S => exact (rev3_any S).mono fun e w' ⟨h1, h2⟩ => ⟨h1, [y, z, x], (List.reverse_perm [x, z, y]), h2⟩
end Go.Proofs.YthmkphmciiiagaaGreatDoor

/- What the generator Policy makes. -/
namespace Go.Proofs.YthmkphmciiiagaaGreatDoor
open Go.RowKit
theorem St.clear {b m : Nat} {w0 w : World} {cs : List Chunk} (S : St b m w0 w cs) : St b m w0 w [] := ⟨S.g, S.b0, (fun c hc => by cases hc), (fun c hc => by cases hc), List.Pairwise.nil⟩
theorem map_set_same {α β : Type} (f : α → β) (l : List α) (k : Nat) (x y : α) (h : l[k]? = some x) (e : f y = f x) : (l.set k y).map f = l.map f := by
  obtain ⟨hlt, rfl⟩ := List.getElem?_eq_some_iff.1 h
  refine List.ext_getElem? fun i => ?_
  rw [List.getElem?_map, List.getElem?_map, List.getElem?_set]
  by_cases hi : k = i
  · subst hi
    rw [if_pos rfl, if_pos hlt, List.getElem?_eq_getElem hlt]
    simp [e]
  · rw [if_neg hi]
theorem mem_set2 {α : Type} {l : List α} {k : Nat} {y e : α} (h : e ∈ l.set k y) : e = y ∨ e ∈ l := by
  rcases mem_set_cases h with h | ⟨j, _, h⟩
  · exact .inl h
  · exact .inr (List.mem_of_getElem? h)
def DrawsPolicy (b m : Nat) (w : World) (e : Ending) (w' : World) : Prop := ∃ (v : Value) (q : List PQ), e = .returned v ∧ QOk 10 q ∧ St b m w w' (polC w.heap.size v q)
def polFact (B : Nat) (v0 : Value) (i : Nat) (v : Value) (w : World) : Prop :=
  match i with
  | 4 => v = v0
  | 6 => IsLitS B [⟨#[101, 117]⟩, ⟨#[]⟩, ⟨#[122, 122]⟩] v w
  | _ => True
theorem polFact_keep {b B : Nat} (hb : b < B) (v0 : Value) (i : Nat) (v : Value) (w w' : World) (k : SK b w w') (h : polFact B v0 i v w) : polFact B v0 i v w' := by
  unfold polFact at *
  split at h
  · exact h
  · exact h.keep k hb
  · trivial
set_option maxHeartbeats 8000000 in
set_option maxRecDepth 100000 in
theorem policy_any (b m : Nat) (w : World) (hs : Strm b m w) (hm : m ≤ 10000000) :
    Calls Tryz.prog 35 #[.pointer (some ⟨b, 0, none⟩)] w (DrawsPolicy b (m + 130) w) := by
  have S0 := St.start hs
  clear hs
  go_enter Tryz.func35, Tryz.ntmps35
  go_wp2_with fail
  ((with_reducible refine (rightPolicy_any b m _ S0.g.s (by omega)).mono ?_); rintro e w1 ⟨v, q, rfl, hq1, hok, S⟩)
  clear S0
  have HQ := Lib.hid hok
  have hql := hok.len
  clear hok
  obtain ⟨g, cap, rfl, hcap⟩ := (S.ow 0 rfl).form hq1
  go_wp2_with fail
  ((with_reducible refine (flip_any b _ _ _ S.g.s (by omega) (by omega) (by omega)).mono ?_); rintro e w2 ⟨r2, rfl, hk_w2, hs_w2⟩)
  replace S := S.step hk_w2 hs_w2
  clear hk_w2 hs_w2
  cases r2
  · go_wp2_with fail
    go_ret
    exact ⟨_, q, rfl, HQ.out.mono (by omega), S.mono (by omega)⟩
  · go_wp2_with fail
    ((with_reducible refine (next_any b _ _ _ S.g.s (by omega) (by omega) (by omega)).mono ?_); rintro e w3 ⟨kk, kk_lo, kk_hi, rfl, hk_w3, hs_w3⟩)
    replace S := S.step hk_w3 hs_w3
    clear hk_w3 hs_w3
    obtain ⟨k, rfl⟩ := Int.eq_ofNat_of_zero_le (by omega : 0 ≤ kk)
    have hk : k < q.length := by omega
    obtain ⟨x, hx⟩ : ∃ x, q[k]? = some x := ⟨_, List.getElem?_eq_getElem hk⟩
    have Hx := Lib.hid hx
    clear hx
    go_wp2_with fail
    ((with_reducible refine (next_any b _ _ _ S.g.s (by omega) (by omega) (by omega)).mono ?_); rintro e w4 ⟨r4, r4_lo, r4_hi, rfl, hk_w4, hs_w4⟩)
    replace S := S.step hk_w4 hs_w4
    clear hk_w4 hs_w4
    have hr4 : r4 = 0 ∨ r4 = 1 ∨ r4 = 2 ∨ r4 = 3 := by omega
    clear r4_lo r4_hi
    rcases hr4 with h4 | h4 | h4 | h4
    all_goals subst h4
    · go_wp2_with fail
      ((with_reducible refine (one_le b _ _ _ (10) S.g.s (by first | rfl | simp) (by first | rfl | simp) (strsLe_of (by decide)) (by simp) (by simp) (by omega)).mono ?_); rintro e w5 ⟨nm, nm_le, rfl, hk_w5, hs_w5⟩)
      replace S := S.step hk_w5 hs_w5
      clear hk_w5 hs_w5
      have hcell := Own.cellP flatPQ (S.ow 0 rfl) rfl k x Hx.out 0 (.string x.nm) rfl
      have hc0 : w5.cell? ⟨g, k * 2, none⟩ = some (.string x.nm) := hcell.1
      have hf0 : w5.frozen? ⟨g, k * 2, none⟩ = false := hcell.2
      clear hcell
      go_wp2_with fail
      go_ret
      have S6 : St b _ w (w5.setCell ⟨g, k * 2, none⟩ (.string nm)) (.own rPQ w.heap.size 75 (.slice (some ⟨g, 0, none⟩) q.length cap) (q.set k ⟨nm, x.A, x.c, x.ts⟩) :: q.map (tq w.heap.size)) := S.put flatPQ 0 rfl rfl k x ⟨nm, x.A, x.c, x.ts⟩ Hx.out 0 (by decide) (.string nm) rfl
      rw [← map_set_same (tq w.heap.size) q k x ⟨nm, x.A, x.c, x.ts⟩ Hx.out rfl] at S6
      refine ⟨_, _, rfl, ⟨by simp; omega, fun e he => ?_, fun e he => ?_, fun e he => ?_⟩, S6.mono (by omega)⟩
      · rcases mem_set2 he with rfl | he
        · exact nm_le
        · exact HQ.out.nm e he
      · rcases mem_set2 he with rfl | he
        · exact Nat.le_succ_of_le (HQ.out.tl x (List.mem_of_getElem? Hx.out))
        · exact Nat.le_succ_of_le (HQ.out.tl e he)
      · rcases mem_set2 he with rfl | he
        · exact HQ.out.rg x (List.mem_of_getElem? Hx.out)
        · exact HQ.out.rg e he
    · have hcell := Own.cellP flatPQ (S.ow 0 rfl) rfl k x Hx.out 1 (.slice x.A x.ts.length x.c) rfl
      have hc1 : w4.cell? ⟨g, k * 2 + 1, none⟩ = some (.slice x.A x.ts.length x.c) := hcell.1
      clear hcell
      go_wp2_with fail
      refine wp_region_mixG 21 (fun wc => wc.cell? ⟨g, k * 2 + 1, none⟩ = some (.slice x.A x.ts.length x.c)) [.q 0, .q 1, .q 2, .q 3, .q 4, .q 5, .q 8, .q 10, .q 12, .q 14, .e 6, .e 7, .e 9, .e 11, .e 13, .e 15, .q 16, .e 17, .e 18, .q 19, .q 20, .e 21] (by kernel_rfl) (by kernel_rfl) (fun _ hd => (Own.cellP flatPQ ((S.below (hd.below _)).ow 0 rfl) rfl k x Hx.out 1 (.slice x.A x.ts.length x.c) rfl).1) (fun KK hKK wd hd => ?_)
      replace S := S.below (hd.below _)
      clear hd hc1
      repeat (refine mixG_p rfl (fun K hK => ?_); go_simp; (try go_bits); (try simp (disch := omega) only [if_pos]); (try simp (disch := omega) only [if_neg]); (try simp (disch := omega) only [dif_pos]); (try simp (disch := omega) only [dif_neg]); (try go_simp); (refine hK _ ?_; clear hK K))
      refine mixG_load (.slice x.A x.ts.length x.c) rfl rfl rfl rfl (fun _ => rfl) (fun _ h => h) ?_
      repeat (refine mixG_p rfl (fun K hK => ?_); go_simp; (try go_bits); (try simp (disch := omega) only [if_pos]); (try simp (disch := omega) only [if_neg]); (try simp (disch := omega) only [dif_pos]); (try simp (disch := omega) only [dif_neg]); (try go_simp); (refine hK _ ?_; clear hK K))
      have hCa : ∀ o, (wd.alloc o).cell? ⟨g, k * 2 + 1, none⟩ = some (.slice x.A x.ts.length x.c) := fun o => (Own.cellP flatPQ ((S.alloc o).ow 0 rfl) rfl k x Hx.out 1 (.slice x.A x.ts.length x.c) rfl).1
      refine mixG_l rfl rfl (fun K hK => ?_)
      go_wp2_with fail
      refine ⟨by first | exact hCa _ | exact fun _ => hCa _, ?_⟩
      clear hCa
      refine mixG_l rfl rfl (fun K hK => ?_)
      go_wp2_with fail
      ((with_reducible refine (one_le b _ _ _ (10) S.g.s (by first | rfl | simp) (by first | rfl | simp) (strsLe_of (by decide)) (by simp) (by simp) (by omega)).mono ?_); rintro e w5 ⟨rg, rg_le, rfl, hk_w5, hs_w5⟩)
      replace S := S.step hk_w5 hs_w5
      clear hk_w5 hs_w5
      have hCc : w5.cell? ⟨g, k * 2 + 1, none⟩ = some (.slice x.A x.ts.length x.c) := (Own.cellP flatPQ (S.ow 0 rfl) rfl k x Hx.out 1 (.slice x.A x.ts.length x.c) rfl).1
      go_wp2_with fail
      refine ⟨by first | exact hCc | exact fun _ => hCc, ?_⟩
      clear hCc
      refine mixG_l rfl rfl (fun K hK => ?_)
      go_wp2_with fail
      ((with_reducible refine (odd_any b _ _ _ _ S.g.s (by omega) (by omega) (by omega) (by omega)).mono ?_); rintro e w6 ⟨ch, ch_lo, ch_hi, rfl, hk_w6, hs_w6⟩)
      replace S := S.step hk_w6 hs_w6
      clear hk_w6 hs_w6
      have hCc : w6.cell? ⟨g, k * 2 + 1, none⟩ = some (.slice x.A x.ts.length x.c) := (Own.cellP flatPQ (S.ow 0 rfl) rfl k x Hx.out 1 (.slice x.A x.ts.length x.c) rfl).1
      go_wp2_with fail
      refine ⟨by first | exact hCc | exact fun _ => hCc, ?_⟩
      clear hCc
      refine mixG_l rfl rfl (fun K hK => ?_)
      go_wp2_with fail
      ((with_reducible refine (flip_any b _ _ _ S.g.s (by omega) (by omega) (by omega)).mono ?_); rintro e w7 ⟨fr, rfl, hk_w7, hs_w7⟩)
      replace S := S.step hk_w7 hs_w7
      clear hk_w7 hs_w7
      have hCc : w7.cell? ⟨g, k * 2 + 1, none⟩ = some (.slice x.A x.ts.length x.c) := (Own.cellP flatPQ (S.ow 0 rfl) rfl k x Hx.out 1 (.slice x.A x.ts.length x.c) rfl).1
      go_wp2_with fail
      refine ⟨by first | exact hCc | exact fun _ => hCc, ?_⟩
      clear hCc
      refine mixG_l rfl rfl (fun K hK => ?_)
      go_wp2_with fail
      ((with_reducible refine (odd_any b _ _ _ _ S.g.s (by omega) (by omega) (by omega) (by omega)).mono ?_); rintro e w8 ⟨dy, dy_lo, dy_hi, rfl, hk_w8, hs_w8⟩)
      replace S := S.step hk_w8 hs_w8
      clear hk_w8 hs_w8
      have hCc : w8.cell? ⟨g, k * 2 + 1, none⟩ = some (.slice x.A x.ts.length x.c) := (Own.cellP flatPQ (S.ow 0 rfl) rfl k x Hx.out 1 (.slice x.A x.ts.length x.c) rfl).1
      go_wp2_with fail
      refine ⟨by first | exact hCc | exact fun _ => hCc, ?_⟩
      clear hCc
      refine mixG_l rfl rfl (fun K hK => ?_)
      go_wp2_with fail
      ((with_reducible refine (odd_any b _ _ _ _ S.g.s (by omega) (by omega) (by omega) (by omega)).mono ?_); rintro e w9 ⟨wt, wt_lo, wt_hi, rfl, hk_w9, hs_w9⟩)
      replace S := S.step hk_w9 hs_w9
      clear hk_w9 hs_w9
      have hCc : w9.cell? ⟨g, k * 2 + 1, none⟩ = some (.slice x.A x.ts.length x.c) := (Own.cellP flatPQ (S.ow 0 rfl) rfl k x Hx.out 1 (.slice x.A x.ts.length x.c) rfl).1
      go_wp2_with fail
      refine ⟨by first | exact hCc | exact fun _ => hCc, ?_⟩
      clear hCc
      repeat (refine mixG_p rfl (fun K hK => ?_); go_simp; (try go_bits); (try simp (disch := omega) only [if_pos]); (try simp (disch := omega) only [if_neg]); (try simp (disch := omega) only [dif_pos]); (try simp (disch := omega) only [dif_neg]); (try go_simp); (refine hK _ ?_; clear hK K))
      have htl : x.ts.length ≤ 9 := HQ.out.tl x (List.mem_of_getElem? Hx.out)
      have hsz := S.g.size
      have hCa : ∀ o, (w9.alloc o).cell? ⟨g, k * 2 + 1, none⟩ = some (.slice x.A x.ts.length x.c) := fun o => (Own.cellP flatPQ ((S.alloc o).ow 0 rfl) rfl k x Hx.out 1 (.slice x.A x.ts.length x.c) rfl).1
      have SP := S.perm (perm_pick (tq w.heap.size) q k x Hx.out [.own rPQ w.heap.size 75 (.slice (some ⟨g, 0, none⟩) q.length cap) q])
      refine mixG_l rfl rfl (fun K hK => ?_)
      go_wp2_with fail
      first | refine ⟨hCa _, ?_⟩ | refine ⟨fun _ => hCa _, ?_⟩ | skip
      clear hCa
      refine mixG_l rfl rfl (fun K hK => ?_)
      refine SP.app 0 rfl tyTerm rfl _ _ rfl ⟨rg, ch, fr, dy, wt⟩ 1 rfl rfl rfl (oneTerm ⟨rg, ch, fr, dy, wt⟩) hsz (by omega) (by decide) ?_
      intro v' w10 S6
      obtain ⟨A6, c6, rfl⟩ := (S6.ow 0 rfl).len
      have hcell := Own.cellP flatPQ (S6.ow 1 rfl) rfl k x Hx.out 1 (.slice x.A x.ts.length x.c) rfl
      have hCb : w10.cell? ⟨g, k * 2 + 1, none⟩ = some (.slice x.A x.ts.length x.c) := hcell.1
      have hCf : w10.frozen? ⟨g, k * 2 + 1, none⟩ = false := hcell.2
      clear hcell
      go_wp2_with fail
      first | refine ⟨hCb, ?_⟩ | refine ⟨fun _ => hCb, ?_⟩ | skip
      repeat (refine mixG_p rfl (fun K hK => ?_); go_simp; (try go_bits); (try simp (disch := omega) only [if_pos]); (try simp (disch := omega) only [if_neg]); (try simp (disch := omega) only [dif_pos]); (try simp (disch := omega) only [dif_neg]); (try go_simp); (refine hK _ ?_; clear hK K))
      refine mixG_l rfl rfl (fun K hK => ?_)
      go_wp2_with fail
      refine ⟨fun h => absurd rfl h, ?_⟩
      refine mixG_nil ?_
      simp only [Exit.then]
      refine hKK _ _ ?_
      clear hCb hCf
      go_wp2_with fail
      go_ret
      have S7 : St b _ w (w10.setCell ⟨g, k * 2 + 1, none⟩ (.slice A6 (x.ts ++ [(⟨rg, ch, fr, dy, wt⟩ : PTerm)]).length c6)) (tq w.heap.size (⟨x.nm, A6, c6, x.ts ++ [(⟨rg, ch, fr, dy, wt⟩ : PTerm)]⟩ : PQ) :: ([.own rPQ w.heap.size 75 (.slice (some ⟨g, 0, none⟩) q.length cap) (q.set k (⟨x.nm, A6, c6, x.ts ++ [(⟨rg, ch, fr, dy, wt⟩ : PTerm)]⟩ : PQ))] ++ (q.eraseIdx k).map (tq w.heap.size))) := S6.put flatPQ 1 rfl rfl k x (⟨x.nm, A6, c6, x.ts ++ [(⟨rg, ch, fr, dy, wt⟩ : PTerm)]⟩ : PQ) Hx.out 1 (by decide) (.slice A6 (x.ts ++ [(⟨rg, ch, fr, dy, wt⟩ : PTerm)]).length c6) rfl
      have S8 := S7.perm (perm_put (tq w.heap.size) q k x (⟨x.nm, A6, c6, x.ts ++ [(⟨rg, ch, fr, dy, wt⟩ : PTerm)]⟩ : PQ) Hx.out [.own rPQ w.heap.size 75 (.slice (some ⟨g, 0, none⟩) q.length cap) (q.set k (⟨x.nm, A6, c6, x.ts ++ [(⟨rg, ch, fr, dy, wt⟩ : PTerm)]⟩ : PQ))])
      refine ⟨_, q.set k (⟨x.nm, A6, c6, x.ts ++ [(⟨rg, ch, fr, dy, wt⟩ : PTerm)]⟩ : PQ), rfl, ⟨by simp; omega, fun e he => ?_, fun e he => ?_, fun e he => ?_⟩, by rw [show x.ts.length + 1 = (x.ts ++ [(⟨rg, ch, fr, dy, wt⟩ : PTerm)]).length by simp]; exact S8.mono (by omega)⟩
      · rcases mem_set2 he with rfl | he
        · exact HQ.out.nm x (List.mem_of_getElem? Hx.out)
        · exact HQ.out.nm e he
      · rcases mem_set2 he with rfl | he
        · simp; omega
        · exact Nat.le_succ_of_le (HQ.out.tl e he)
      · rcases mem_set2 he with rfl | he
        · intro t ht
          rcases List.mem_append.1 ht with ht | ht
          · exact HQ.out.rg x (List.mem_of_getElem? Hx.out) t ht
          · rw [List.mem_singleton.1 ht]; exact rg_le
        · exact HQ.out.rg e he
    · have Hr := Lib.hid (reverse_any hq1 hql S)
      go_wp2_with fail
      ((with_reducible refine (Hr.out).mono ?_); rintro e w5 ⟨rfl, q', hp, S5⟩)
      clear Hr S
      go_wp2_with fail
      go_ret
      refine ⟨_, q', rfl, ⟨by rw [hp.length_eq]; omega, fun e he => HQ.out.nm e (hp.mem_iff.1 he), fun e he => Nat.le_succ_of_le (HQ.out.tl e (hp.mem_iff.1 he)), fun e he => HQ.out.rg e (hp.mem_iff.1 he)⟩, ?_⟩
      have S6 := S5.perm ((hp.map (tq w.heap.size)).symm.cons _)
      exact S6.mono (by omega)
    · go_wp2_with fail
      go_ret
      exact ⟨_, [], rfl, ⟨by simp, by simp, by simp, by simp⟩, (S.clear.nil rPQ _ _).mono (by omega)⟩
end Go.Proofs.YthmkphmciiiagaaGreatDoor

/- What the generators RightStatements and Statements make. -/
namespace Go.Proofs.YthmkphmciiiagaaGreatDoor
open Go.RowKit
/-- a small statement -/
structure StmSm (s : Stm) : Prop where
  tx : s.text.size ≤ 10000
  pu : s.purpose.size ≤ 1000
  rg : s.region.size ≤ 10
def DrawsStms (b m n : Nat) (w : World) (e : Ending) (w' : World) : Prop := ∃ (v : Value) (l : List Stm), e = .returned v ∧ l.length ≤ n ∧ (∀ s ∈ l, StmSm s) ∧ St b m w w' [.own rStm w.heap.size 38 v l]
theorem tyStm : STy 27 38 rStm.size 88 (.agg #[.int .i64 0, .int .i64 0, .int .i64 0, .string ⟨#[]⟩, .string ⟨#[]⟩, .string ⟨#[]⟩, .int .i64 0, .int .i64 0]) := ⟨Tryz.underlying27, by kernel_rfl, rfl, by decide⟩
theorem oneStm (t : Stm) : ∀ u ∈ t.cells, u.oneCell' = true := fun u hu => by
  simp only [Stm.cells, List.mem_cons, List.not_mem_nil, or_false] at hu
  rcases hu with rfl | rfl | rfl | rfl | rfl | rfl | rfl | rfl <;> rfl
set_option maxHeartbeats 8000000 in
set_option maxRecDepth 100000 in
theorem rightStms_any (b m n : Nat) (A : Option Addr) (xs : List Purp) (c : Nat) (w : World) (hs : Strm b m w) (hm : m ≤ 1000000000) (hn : n ≤ 100) (hP : Pool w) (hPb : 0 ≠ b) (hS : Sl rPurp (Off b) w A xs) (hsm : ∀ p ∈ xs, p.name.size ≤ 1000) (hl : xs.length ≤ 1000) :
    Calls Tryz.prog 31 #[.pointer (some ⟨b, 0, none⟩), .slice A xs.length c, .int .i64 n] w (DrawsStms b (m + 8 * n) n w) := by
  have S := (St.start hs).nil rStm w.heap.size 38
  have HP := Lib.hid hP
  have HS := Lib.hid hS
  have Hsm := Lib.hid hsm
  clear hs hP hS hsm
  go_enter Tryz.func31, Tryz.ntmps31
  go_wp2_with fail
  go_loopw [7, 8, 11] (fun s7 s8 i wr => ∃ (k : Nat) (At : Option Addr) (ca : Nat) (no : Int) (l : List Stm), k ≤ n ∧ i = .int .i64 k ∧ s8 = .int .i64 no ∧ 0 ≤ no ∧ no ≤ 2 * k ∧ s7 = .slice At l.length ca ∧ l.length ≤ k ∧ (∀ s ∈ l, StmSm s) ∧ St b (m + 8 * k) w wr [.own rStm w.heap.size 38 (.slice At l.length ca) l]) (fun _ _ i _ => n - (intOf i).toNat)
  case atStart => exact ⟨0, none, 0, 0, [], by omega, rfl, rfl, by omega, by omega, rfl, by simp, by simp, S.mono (by omega)⟩
  case round =>
    clear S
    obtain ⟨k, At, ca, no, l, hk, rfl, rfl, hno, hno2, rfl, hlk, hls, S⟩ := hrel
    have Hlk := Lib.hid hlk
    have Hls := Lib.hid hls
    clear hlk hls
    by_cases hkn : k < n
    · go_wp2_with fail
      ((with_reducible refine (pick_le b _ _ _ (1) (2) S.g.s (by first | rfl | simp) (by first | rfl | simp) (intsIn_of (by decide)) (by simp) (by simp) (by omega)).mono ?_); rintro e w1 ⟨d, d_lo, d_hi, rfl, hk_w1, hs_w1⟩)
      replace S := S.step hk_w1 hs_w1
      clear hk_w1 hs_w1
      have hwr : IntKind.i64.wrap (no + d) = no + d := IntWalk.i64_in _ (by omega)
      obtain ⟨no', hno'⟩ : ∃ no', no + d = no' := ⟨_, rfl⟩
      rw [hno'] at hwr
      go_wp2_with fail
      ((with_reducible refine (next_any b _ _ _ S.g.s (by omega) (by omega) (by omega)).mono ?_); rintro e w2 ⟨rn, rn_lo, rn_hi, rfl, hk_w2, hs_w2⟩)
      replace S := S.step hk_w2 hs_w2
      clear hk_w2 hs_w2
      go_wp2_with fail
      ((with_reducible refine (pick_le b _ _ _ 0 4000 S.g.s (by first | rfl | simp) (by first | rfl | simp) (by repeat (first | exact intsIn_nil | refine intsIn_cons (by omega) ?_)) (by simp) (by simp) (by omega)).mono ?_); rintro e w3 ⟨at', at_lo, at_hi, rfl, hk_w3, hs_w3⟩)
      replace S := S.step hk_w3 hs_w3
      clear hk_w3 hs_w3
      go_wp2_with fail
      ((with_reducible refine (few_any b _ _ S.g.s (by omega) (HP.out.keep S.g.k hPb) hPb).mono ?_); rintro e w4 ⟨ki, t, ht, rfl, hk4, hs4⟩)
      replace S := S.step hk4 hs4
      clear hk4 hs4
      go_wp2_with fail
      ((with_reducible refine (pick_le b _ _ _ (1) (4) S.g.s (by first | rfl | simp) (by first | rfl | simp) (intsIn_of (by decide)) (by simp) (by simp) (by omega)).mono ?_); rintro e w5 ⟨ch, ch_lo, ch_hi, rfl, hk_w5, hs_w5⟩)
      replace S := S.step hk_w5 hs_w5
      clear hk_w5 hs_w5
      go_wp2_with fail
      ((with_reducible refine (pick_le b _ _ _ (1) (5) S.g.s (by first | rfl | simp) (by first | rfl | simp) (intsIn_of (by decide)) (by simp) (by simp) (by omega)).mono ?_); rintro e w6 ⟨wh, wh_lo, wh_hi, rfl, hk_w6, hs_w6⟩)
      replace S := S.step hk_w6 hs_w6
      clear hk_w6 hs_w6
      go_wp2_with fail
      ((with_reducible refine (one_le b _ _ _ (10) S.g.s (by first | rfl | simp) (by first | rfl | simp) (strsLe_of (by decide)) (by simp) (by simp) (by omega)).mono ?_); rintro e w7 ⟨rg, rg_le, rfl, hk_w7, hs_w7⟩)
      replace S := S.step hk_w7 hs_w7
      clear hk_w7 hs_w7
      go_upto_region 7 with fail
      obtain ⟨X, hX⟩ : ∃ X, X = w7.heap.size := ⟨_, rfl⟩
      replace S := (S.newAt #[.int .i64 no', .int .i64 at', .int .i64 ki, .string t, .string ⟨#[]⟩, .string rg, .int .i64 ch, .int .i64 wh] 38 X hX).front
      rw [← hX]
      clear hX
      generalize w7.alloc (.cells #[.int .i64 no', .int .i64 at', .int .i64 ki, .string t, .string ⟨#[]⟩, .string rg, .int .i64 ch, .int .i64 wh] 38) = w8 at *
      have x7 : w8.cell? ⟨X, 7, none⟩ = some (.int .i64 wh) := (S.lv 0 rfl).cell 7 _ rfl
      obtain ⟨B, HB⟩ : ∃ B, Hid (decide (wh ≤ 3 ∧ 0 < xs.length) = B) := ⟨_, Lib.hid rfl⟩
      go_cut [43] (fun s43 wx => s43 = .bool B ∧ w8 = wx)
      case first =>
        by_cases h3 : wh ≤ 3
        · by_cases h0 : 0 < xs.length
          · obtain rfl : true = B := by rw [← HB.out]; simp [h3, h0]
            go_wp2_with fail
            go_meet
            exact ⟨rfl, rfl⟩
          · obtain rfl : false = B := by rw [← HB.out]; simp [h0]
            go_wp2_with fail
            go_meet
            exact ⟨rfl, rfl⟩
        · obtain rfl : false = B := by rw [← HB.out]; simp [h3]
          go_wp2_with fail
          go_meet
          exact ⟨rfl, rfl⟩
      case rest =>
        obtain ⟨rfl, rfl⟩ := hcut
        clear x7
        go_upto_if 43 with fail
        have HS0 := Lib.hid S
        clear S
        go_cut [9] (fun s9 wx => s9 = .pointer (some ⟨X, 0, none⟩) ∧ ∃ pu : ByteArray, pu.size ≤ 1000 ∧ St b (m + 8 * k + 8) w wx [.loc X #[.int .i64 no', .int .i64 at', .int .i64 ki, .string t, .string pu, .string rg, .int .i64 ch, .int .i64 wh] 38, .own rStm w.heap.size 38 (.slice At l.length ca) l])
        case first =>
          have S := HS0.out
          clear HS0
          cases B
          · go_wp2_with fail
            go_meet
            exact ⟨rfl, _, by decide, S.mono (by omega)⟩
          · have h0 : 0 < xs.length := (of_decide_eq_true HB.out).2
            go_wp2_with fail
            ((with_reducible refine (next_any b _ _ _ S.g.s (by omega) (by omega) (by omega)).mono ?_); rintro e w9 ⟨ri, ri_lo, ri_hi, rfl, hk_w9, hs_w9⟩)
            replace S := S.step hk_w9 hs_w9
            clear hk_w9 hs_w9
            obtain ⟨j, rfl⟩ := Int.eq_ofNat_of_zero_le (by omega : 0 ≤ ri)
            have hj : j < xs.length := by omega
            obtain ⟨p, hp⟩ : ∃ p, xs[j]? = some p := ⟨_, List.getElem?_eq_getElem hj⟩
            obtain ⟨blk, off, Ap, cp, rfl, _, d0, _, _⟩ := (HS.out.keep S.g.k.n).purp j p hp
            have hps := Hsm.out p (List.mem_of_getElem? hp)
            have x4 : w9.cell? ⟨X, 4, none⟩ = some (.string ⟨#[]⟩) := (S.lv 0 rfl).cell 4 _ rfl
            have f4 := (S.lv 0 rfl).free 4
            clear hp
            go_wp2_with fail
            go_meet
            exact ⟨rfl, p.name, hps, (S.set 0 4 (.string p.name) rfl).mono (by omega)⟩
        case rest =>
          clear HS0
          obtain ⟨rfl, pu, hpu, S⟩ := hcut
          have hsz := S.g.size
          have x0 : wc.cell? ⟨X, 0, none⟩ = some (.int .i64 no') := (S.lv 0 rfl).cell 0 _ rfl
          have x1 : wc.cell? ⟨X, 1, none⟩ = some (.int .i64 at') := (S.lv 0 rfl).cell 1 _ rfl
          have x2 : wc.cell? ⟨X, 2, none⟩ = some (.int .i64 ki) := (S.lv 0 rfl).cell 2 _ rfl
          have x3 : wc.cell? ⟨X, 3, none⟩ = some (.string t) := (S.lv 0 rfl).cell 3 _ rfl
          have x4 : wc.cell? ⟨X, 4, none⟩ = some (.string pu) := (S.lv 0 rfl).cell 4 _ rfl
          have x5 : wc.cell? ⟨X, 5, none⟩ = some (.string rg) := (S.lv 0 rfl).cell 5 _ rfl
          have x6 : wc.cell? ⟨X, 6, none⟩ = some (.int .i64 ch) := (S.lv 0 rfl).cell 6 _ rfl
          have x7 : wc.cell? ⟨X, 7, none⟩ = some (.int .i64 wh) := (S.lv 0 rfl).cell 7 _ rfl
          have hlt := Hlk.out
          go_wp2_with (at_builtin; refine S.app 1 rfl tyStm rfl _ _ rfl ⟨no', at', ki, t, pu, rg, ch, wh⟩ 1 rfl rfl rfl (oneStm ⟨no', at', ki, t, pu, rg, ch, wh⟩) hsz (by omega) (by decide) ?_; intro v' w10 S6; obtain ⟨A6, c6, rfl⟩ := (S6.ow 1 rfl).len)
          go_roundw
          case rel =>
            refine ⟨k + 1, A6, c6, no', l ++ [⟨no', at', ki, t, pu, rg, ch, wh⟩], by omega, by go_num, rfl, by omega, by omega, by simp, by simp; omega, (fun s hs => ?_), (S6.del 0).mono (by omega)⟩
            rcases List.mem_append.1 hs with hs | hs
            · exact Hls.out s hs
            · rw [List.mem_singleton.1 hs]; exact ⟨ht, hpu, rg_le⟩
          case measure => simp [intOf]; omega
    · have hlt := Hlk.out
      go_wp2_with fail
      go_ret
      exact ⟨_, l, rfl, by omega, Hls.out, S.mono (by omega)⟩
set_option maxHeartbeats 8000000 in
set_option maxRecDepth 100000 in
theorem stms_any (b m n : Nat) (A : Option Addr) (xs : List Purp) (c : Nat) (w : World) (hs : Strm b m w) (hm : m ≤ 100000000) (hn : n ≤ 100) (hP : Pool w) (hPb : 0 ≠ b) (hS : Sl rPurp (Off b) w A xs) (hsm : ∀ p ∈ xs, p.name.size ≤ 1000) (hl : xs.length ≤ 1000) :
    Calls Tryz.prog 29 #[.pointer (some ⟨b, 0, none⟩), .slice A xs.length c, .int .i64 n] w (DrawsStms b (m + 8 * n + 20) (n + 1) w) := by
  have S0 := St.start hs
  have HP := Lib.hid hP
  have Hr := Lib.hid (rightStms_any b m n A xs c w hs (by omega) hn hP hPb hS hsm hl)
  clear hs hP hS hsm
  go_enter Tryz.func29, Tryz.ntmps29
  go_wp2_with fail
  ((with_reducible refine (Hr.out).mono ?_); rintro e w1 ⟨v, l, rfl, hln, hls, S⟩)
  clear S0 Hr
  have HQ := Lib.hid hls
  clear hls
  by_cases h0 : 0 < l.length
  · obtain ⟨g, cap, rfl, hcap⟩ := (S.ow 0 rfl).form h0
    go_wp2_with fail
    ((with_reducible refine (flip_any b _ _ _ S.g.s (by omega) (by omega) (by omega)).mono ?_); rintro e w2 ⟨r2, rfl, hk_w2, hs_w2⟩)
    replace S := S.step hk_w2 hs_w2
    clear hk_w2 hs_w2
    cases r2
    · go_wp2_with fail
      go_ret
      exact ⟨_, l, rfl, by omega, HQ.out, S.mono (by omega)⟩
    · go_wp2_with fail
      ((with_reducible refine (next_any b _ _ _ S.g.s (by omega) (by omega) (by omega)).mono ?_); rintro e w3 ⟨kk, kk_lo, kk_hi, rfl, hk_w3, hs_w3⟩)
      replace S := S.step hk_w3 hs_w3
      clear hk_w3 hs_w3
      obtain ⟨k, rfl⟩ := Int.eq_ofNat_of_zero_le (by omega : 0 ≤ kk)
      have hk : k < l.length := by omega
      obtain ⟨x, hx⟩ : ∃ x, l[k]? = some x := ⟨_, List.getElem?_eq_getElem hk⟩
      have Hx := Lib.hid hx
      have Hsx := Lib.hid (HQ.out x (List.mem_of_getElem? hx))
      clear hx
      go_wp2_with fail
      ((with_reducible refine (next_any b _ _ _ S.g.s (by omega) (by omega) (by omega)).mono ?_); rintro e w4 ⟨r4, r4_lo, r4_hi, rfl, hk_w4, hs_w4⟩)
      replace S := S.step hk_w4 hs_w4
      clear hk_w4 hs_w4
      have hr4 : r4 = 0 ∨ r4 = 1 ∨ r4 = 2 ∨ r4 = 3 ∨ r4 = 4 ∨ r4 = 5 := by omega
      clear r4_lo r4_hi
      rcases hr4 with h4 | h4 | h4 | h4 | h4 | h4
      all_goals subst h4
      · go_wp2_with fail
        ((with_reducible refine (odd_any b _ _ _ _ S.g.s (by omega) (by omega) (by omega) (by omega)).mono ?_); rintro e w5 ⟨no', no_lo, no_hi, rfl, hk_w5, hs_w5⟩)
        replace S := S.step hk_w5 hs_w5
        clear hk_w5 hs_w5
        go_wp2_with fail
        ((with_reducible refine (odd_any b _ _ _ _ S.g.s (by omega) (by omega) (by omega) (by omega)).mono ?_); rintro e w6 ⟨at', at_lo, at_hi, rfl, hk_w6, hs_w6⟩)
        replace S := S.step hk_w6 hs_w6
        clear hk_w6 hs_w6
        have c0' := Own.cellP flatStm (S.ow 0 rfl) rfl k x Hx.out 0 (.int .i64 x.no) rfl
        have c0 : w6.cell? ⟨g, k * 8, none⟩ = some (.int .i64 x.no) := c0'.1
        have fc0 : w6.frozen? ⟨g, k * 8, none⟩ = false := c0'.2
        clear c0'
        have c1' := Own.cellP flatStm (S.ow 0 rfl) rfl k x Hx.out 1 (.int .i64 x.at') rfl
        have c1 : w6.cell? ⟨g, k * 8 + 1, none⟩ = some (.int .i64 x.at') := c1'.1
        have fc1 : w6.frozen? ⟨g, k * 8 + 1, none⟩ = false := c1'.2
        clear c1'
        go_wp2_with fail
        go_ret
        have S5 := S.put flatStm 0 rfl rfl k x { x with no := no' } Hx.out 0 (by decide) (.int .i64 no') rfl
        have S6 := S5.put flatStm 0 rfl (by simp) k { x with no := no' } { x with no := no', at' := at' } (by rw [List.getElem?_set]; simp [hk]) 1 (by decide) (.int .i64 at') rfl
        simp only [List.set_set] at S6
        refine ⟨_, _, rfl, by simp; omega, fun e he => ?_, S6.mono (by omega)⟩
        rcases mem_set2 he with rfl | he
        · exact ⟨Hsx.out.tx, Hsx.out.pu, Hsx.out.rg⟩
        · exact HQ.out e he
      · go_wp2_with fail
        ((with_reducible refine (spoiledId_any b _ _ S.g.s (by omega) (HP.out.keep S.g.k hPb) hPb).mono ?_); rintro e w5 ⟨k', t', ht', rfl, hk5, hs5⟩)
        replace S := S.step hk5 hs5
        clear hk5 hs5
        have c2' := Own.cellP flatStm (S.ow 0 rfl) rfl k x Hx.out 2 (.int .i64 x.kind) rfl
        have c2 : w5.cell? ⟨g, k * 8 + 2, none⟩ = some (.int .i64 x.kind) := c2'.1
        have fc2 : w5.frozen? ⟨g, k * 8 + 2, none⟩ = false := c2'.2
        clear c2'
        have c3' := Own.cellP flatStm (S.ow 0 rfl) rfl k x Hx.out 3 (.string x.text) rfl
        have c3 : w5.cell? ⟨g, k * 8 + 3, none⟩ = some (.string x.text) := c3'.1
        have fc3 : w5.frozen? ⟨g, k * 8 + 3, none⟩ = false := c3'.2
        clear c3'
        go_wp2_with fail
        go_ret
        have S5 := S.put flatStm 0 rfl rfl k x { x with kind := k' } Hx.out 2 (by decide) (.int .i64 k') rfl
        have S6 := S5.put flatStm 0 rfl (by simp) k { x with kind := k' } { x with kind := k', text := t' } (by rw [List.getElem?_set]; simp [hk]) 3 (by decide) (.string t') rfl
        simp only [List.set_set] at S6
        refine ⟨_, _, rfl, by simp; omega, fun e he => ?_, S6.mono (by omega)⟩
        rcases mem_set2 he with rfl | he
        · exact ⟨ht', Hsx.out.pu, Hsx.out.rg⟩
        · exact HQ.out e he
      · go_wp2_with fail
        ((with_reducible refine (odd_any b _ _ _ _ S.g.s (by omega) (by omega) (by omega) (by omega)).mono ?_); rintro e w5 ⟨ch', ch_lo, ch_hi, rfl, hk_w5, hs_w5⟩)
        replace S := S.step hk_w5 hs_w5
        clear hk_w5 hs_w5
        go_wp2_with fail
        ((with_reducible refine (odd_any b _ _ _ _ S.g.s (by omega) (by omega) (by omega) (by omega)).mono ?_); rintro e w6 ⟨wh', wh_lo, wh_hi, rfl, hk_w6, hs_w6⟩)
        replace S := S.step hk_w6 hs_w6
        clear hk_w6 hs_w6
        have c0' := Own.cellP flatStm (S.ow 0 rfl) rfl k x Hx.out 6 (.int .i64 x.channel) rfl
        have c0 : w6.cell? ⟨g, k * 8 + 6, none⟩ = some (.int .i64 x.channel) := c0'.1
        have fc0 : w6.frozen? ⟨g, k * 8 + 6, none⟩ = false := c0'.2
        clear c0'
        have c1' := Own.cellP flatStm (S.ow 0 rfl) rfl k x Hx.out 7 (.int .i64 x.what) rfl
        have c1 : w6.cell? ⟨g, k * 8 + 7, none⟩ = some (.int .i64 x.what) := c1'.1
        have fc1 : w6.frozen? ⟨g, k * 8 + 7, none⟩ = false := c1'.2
        clear c1'
        go_wp2_with fail
        go_ret
        have S5 := S.put flatStm 0 rfl rfl k x { x with channel := ch' } Hx.out 6 (by decide) (.int .i64 ch') rfl
        have S6 := S5.put flatStm 0 rfl (by simp) k { x with channel := ch' } { x with channel := ch', what := wh' } (by rw [List.getElem?_set]; simp [hk]) 7 (by decide) (.int .i64 wh') rfl
        simp only [List.set_set] at S6
        refine ⟨_, _, rfl, by simp; omega, fun e he => ?_, S6.mono (by omega)⟩
        rcases mem_set2 he with rfl | he
        · exact ⟨Hsx.out.tx, Hsx.out.pu, Hsx.out.rg⟩
        · exact HQ.out e he
      · go_wp2_with fail
        ((with_reducible refine (one_le b _ _ _ (10) S.g.s (by first | rfl | simp) (by first | rfl | simp) (strsLe_of (by decide)) (by simp) (by simp) (by omega)).mono ?_); rintro e w5 ⟨nm, nm_le, rfl, hk_w5, hs_w5⟩)
        replace S := S.step hk_w5 hs_w5
        clear hk_w5 hs_w5
        have c0' := Own.cellP flatStm (S.ow 0 rfl) rfl k x Hx.out 4 (.string x.purpose) rfl
        have c0 : w5.cell? ⟨g, k * 8 + 4, none⟩ = some (.string x.purpose) := c0'.1
        have fc0 : w5.frozen? ⟨g, k * 8 + 4, none⟩ = false := c0'.2
        clear c0'
        go_wp2_with fail
        go_ret
        have S6 := S.put flatStm 0 rfl rfl k x { x with purpose := nm } Hx.out 4 (by decide) (.string nm) rfl
        refine ⟨_, _, rfl, by simp; omega, fun e he => ?_, S6.mono (by omega)⟩
        rcases mem_set2 he with rfl | he
        · exact ⟨Hsx.out.tx, Nat.le_trans nm_le (by decide), Hsx.out.rg⟩
        · exact HQ.out e he
      · go_wp2_with fail
        ((with_reducible refine (one_le b _ _ _ (10) S.g.s (by first | rfl | simp) (by first | rfl | simp) (strsLe_of (by decide)) (by simp) (by simp) (by omega)).mono ?_); rintro e w5 ⟨nm, nm_le, rfl, hk_w5, hs_w5⟩)
        replace S := S.step hk_w5 hs_w5
        clear hk_w5 hs_w5
        have c0' := Own.cellP flatStm (S.ow 0 rfl) rfl k x Hx.out 5 (.string x.region) rfl
        have c0 : w5.cell? ⟨g, k * 8 + 5, none⟩ = some (.string x.region) := c0'.1
        have fc0 : w5.frozen? ⟨g, k * 8 + 5, none⟩ = false := c0'.2
        clear c0'
        go_wp2_with fail
        go_ret
        have S6 := S.put flatStm 0 rfl rfl k x { x with region := nm } Hx.out 5 (by decide) (.string nm) rfl
        refine ⟨_, _, rfl, by simp; omega, fun e he => ?_, S6.mono (by omega)⟩
        rcases mem_set2 he with rfl | he
        · exact ⟨Hsx.out.tx, Hsx.out.pu, nm_le⟩
        · exact HQ.out e he
      · obtain ⟨y, hy⟩ : ∃ y, l[0]? = some y := ⟨_, List.getElem?_eq_getElem h0⟩
        have Hsy := Lib.hid (HQ.out y (List.mem_of_getElem? hy))
        clear Hx Hsx
        obtain ⟨k, hk0⟩ : ∃ k, k = 0 := ⟨0, rfl⟩
        have cellY : ∀ (j : Nat) (u : Value), (Stm.cells y)[j]? = some u → w4.cell? ⟨g, 0 * rStm.size + j, none⟩ = some u := fun j u hu => (Own.cellP flatStm (S.ow 0 rfl) rfl 0 y hy j u hu).1
        have c0 : w4.cell? ⟨g, 0, none⟩ = some (.int .i64 y.no) := cellY 0 _ rfl
        have c1 : w4.cell? ⟨g, 1, none⟩ = some (.int .i64 y.at') := cellY 1 _ rfl
        have c2 : w4.cell? ⟨g, 2, none⟩ = some (.int .i64 y.kind) := cellY 2 _ rfl
        have c3 : w4.cell? ⟨g, 3, none⟩ = some (.string y.text) := cellY 3 _ rfl
        have c4 : w4.cell? ⟨g, 4, none⟩ = some (.string y.purpose) := cellY 4 _ rfl
        have c5 : w4.cell? ⟨g, 5, none⟩ = some (.string y.region) := cellY 5 _ rfl
        have c6 : w4.cell? ⟨g, 6, none⟩ = some (.int .i64 y.channel) := cellY 6 _ rfl
        have c7 : w4.cell? ⟨g, 7, none⟩ = some (.int .i64 y.what) := cellY 7 _ rfl
        have hsz := S.g.size
        have Hy := Lib.hid hy
        clear cellY hy
        go_wp2_with (at_builtin; refine S.app 0 rfl tyStm rfl _ _ rfl y 1 rfl rfl rfl (oneStm y) hsz (by omega) (by decide) ?_; intro v' w10 S6; obtain ⟨A6, c6, rfl⟩ := (S6.ow 0 rfl).len)
        go_ret
        refine ⟨_, l ++ [y], by simp, by simp; omega, fun e he => ?_, S6.mono (by omega)⟩
        rcases List.mem_append.1 he with he | he
        · exact HQ.out e he
        · rw [List.mem_singleton.1 he]; exact Hsy.out
  · obtain rfl : l = [] := List.length_eq_zero_iff.1 (by omega)
    obtain ⟨A2, c2, rfl⟩ := (S.ow 0 rfl).len
    go_wp2_with fail
    go_ret
    exact ⟨_, [], rfl, by simp, by simp, S.mono (by omega)⟩
end Go.Proofs.YthmkphmciiiagaaGreatDoor

/- What was made is of moderate size. -/
namespace Go.Proofs.YthmkphmciiiagaaGreatDoor
open Go.RowKit
theorem QOk.polOk {q : List PQ} (h : QOk 10 q) : PolOk (q.map PQ.purp) where
  len := by have := h.len; simp; omega
  nm := fun p hp => by
    obtain ⟨e, he, rfl⟩ := List.mem_map.1 hp
    have := h.nm e he
    show e.nm.size ≤ _
    omega
  tl := fun p hp => by
    obtain ⟨e, he, rfl⟩ := List.mem_map.1 hp
    have := h.tl e he
    show e.ts.length ≤ _
    omega
  rg := fun p hp t ht => by
    obtain ⟨e, he, rfl⟩ := List.mem_map.1 hp
    have := h.rg e he t ht
    omega
theorem Gg.toBelow {m : Nat} {w w1 : World} {o : Obj} (h : G w.heap.size m (w.alloc o) w1) : Below w.heap.size w w1 :=
  ((Below.refl _ _).alloc (Nat.le_refl _) o).trans (h.k.below (Nat.le_refl _) (by simp))
end Go.Proofs.YthmkphmciiiagaaGreatDoor

/- What person.kindName, IdWords and consent.Seal return. -/
namespace Go.Proofs.YthmkphmciiiagaaGreatDoor
open Go.RowKit
theorem kindName1_any (w : World) : Calls Tryz.prog 150 #[.int .i64 1] w fun e w' => e = .returned (.string ⟨#[109, 97, 105, 108]⟩) ∧ Below w.heap.size w w' := by
  go_enter Tryz.func150, Tryz.ntmps150
  go_wp2_with fail
  go_ret
  exact ⟨rfl, (Below.refl _ _).alloc (Nat.le_refl _) _⟩
set_option maxRecDepth 100000 in
theorem idWords1_any (w : World) : Calls Tryz.prog 71 #[.agg #[.int .i64 1, .string ⟨#[97, 64, 98, 46, 100, 101]⟩]] w fun e w' => e = .returned (.string ⟨#[109, 97, 105, 108, 32, 97, 64, 98, 46, 100, 101]⟩) ∧ Below w.heap.size w w' := by
  have hb0 : Below w.heap.size w (w.alloc (.cells #[.int .i64 1, .string ⟨#[97, 64, 98, 46, 100, 101]⟩] 29)) := (Below.refl _ _).alloc (Nat.le_refl _) _
  have lv := LV.new w w.heap.size #[.int .i64 1, .string ⟨#[97, 64, 98, 46, 100, 101]⟩] 29 rfl
  go_enter Tryz.func71, Tryz.ntmps71
  go_wp2_with fail
  generalize w.alloc (.cells #[.int .i64 1, .string ⟨#[97, 64, 98, 46, 100, 101]⟩] 29) = w1 at *
  refine wp_region_mixG 8 (fun w' => LV w' w.heap.size #[.int .i64 1, .string ⟨#[97, 64, 98, 46, 100, 101]⟩] 29) [.q 0, .q 1, .q 4, .q 5, .e 2, .q 3, .q 6, .q 7] (by kernel_rfl) (by kernel_rfl) (fun w' hd => LV.kb3 lv (hd.below _) lv.lt) (fun KK hKK wd hd => ?_)
  have hC : LV wd w.heap.size #[.int .i64 1, .string ⟨#[97, 64, 98, 46, 100, 101]⟩] 29 := LV.kb3 lv (hd.below _) lv.lt
  have Hbd : Hid (Below w.heap.size w wd) := hb0.trans ((hd.below _).mono hb0.size)
  clear hd lv hb0
  repeat (refine mixG_p rfl (fun K hK => ?_); go_simp; (try go_bits); (try simp (disch := omega) only [if_pos]); (try simp (disch := omega) only [if_neg]); (try simp (disch := omega) only [dif_pos]); (try simp (disch := omega) only [dif_neg]); (try go_simp); (refine hK _ ?_; clear hK K))
  refine mixG_load (.int .i64 1) rfl rfl rfl rfl (fun _ => rfl) (fun w' h => h.cell 0 _ rfl) ?_
  repeat (refine mixG_p rfl (fun K hK => ?_); go_simp; (try go_bits); (try simp (disch := omega) only [if_pos]); (try simp (disch := omega) only [if_neg]); (try simp (disch := omega) only [dif_pos]); (try simp (disch := omega) only [dif_neg]); (try go_simp); (refine hK _ ?_; clear hK K))
  refine mixG_load (.string ⟨#[97, 64, 98, 46, 100, 101]⟩) rfl rfl rfl rfl (fun _ => rfl) (fun w' h => h.cell 1 _ rfl) ?_
  refine mixG_l rfl rfl (fun K hK => ?_)
  go_wp2_with fail
  ((with_reducible refine (kindName1_any wd).mono ?_); rintro e w4 ⟨rfl, hl4⟩)
  have hC4 : LV w4 w.heap.size #[.int .i64 1, .string ⟨#[97, 64, 98, 46, 100, 101]⟩] 29 := LV.kb3 hC hl4 hC.lt
  have Hb4 : Hid (Below w.heap.size w w4) := Hbd.out.trans (hl4.mono Hbd.out.size)
  clear hl4 hC Hbd
  go_wp2_with fail
  refine ⟨fun _ => hC4, ?_⟩
  repeat (refine mixG_p rfl (fun K hK => ?_); go_simp; (try go_bits); (try simp (disch := omega) only [if_pos]); (try simp (disch := omega) only [if_neg]); (try simp (disch := omega) only [dif_pos]); (try simp (disch := omega) only [dif_neg]); (try go_simp); (refine hK _ ?_; clear hK K))
  refine mixG_nil ?_
  simp only [Exit.then]
  refine hKK _ _ ?_
  go_wp2_with fail
  go_ret
  exact ⟨rfl, Hb4.out⟩
theorem sealMade (w : World) (s : ByteArray) (j : Nat) (c : UInt8) (hc : s.data.toList[j]? = some c) : (Lib.bytesWorld w 5 s).cell? ⟨w.heap.size, j, none⟩ = some (.int .u8 c.toNat) := by
  have hj : j < s.size := by
    have : j < s.data.toList.length := (List.getElem?_eq_some_iff.1 hc).1
    exact this
  rw [Lib.bytesWorld_cell w _ s j hj]
  simp [List.getD, hc]
theorem sealBelow (w : World) (s : ByteArray) : Below w.heap.size w (Lib.bytesWorld w 5 s) :=
  ⟨rfl, rfl, rfl, by rw [Lib.bytesWorld_size]; omega, fun k hk => Lib.bytesWorld_at_old w _ s k hk⟩
/-- the sum of bytes -/
def bsum (l : List UInt8) : Nat := (l.map (·.toNat)).sum
theorem bsum_take (l : List UInt8) (k : Nat) (c : UInt8) (h : l[k]? = some c) : bsum (l.take (k + 1)) = bsum (l.take k) + c.toNat := by
  rw [List.take_add_one, h]
  simp [bsum]
set_option maxHeartbeats 4000000 in
set_option maxRecDepth 100000 in
theorem seal1_any (w : World) (hM : MaxL w) : Calls Tryz.prog 18 #[.agg #[.int .i64 1, .string ⟨#[97, 64, 98, 46, 100, 101]⟩]] w fun e w' => (∃ n : Int, 0 < n ∧ e = .returned (.tuple #[.int .i64 n, .int .i64 0])) ∧ Below w.heap.size w w' := by
  have hb0 : Below w.heap.size w (w.alloc (.cells #[.int .i64 1, .string ⟨#[97, 64, 98, 46, 100, 101]⟩] 29)) := (Below.refl _ _).alloc (Nat.le_refl _) _
  have lv := LV.new w w.heap.size #[.int .i64 1, .string ⟨#[97, 64, 98, 46, 100, 101]⟩] 29 rfl
  have e1 : L.idFault 1 ⟨#[97, 64, 98, 46, 100, 101]⟩ = 0 := by decide +kernel
  have Hc := Lib.hid (checkId_any 1 ⟨#[97, 64, 98, 46, 100, 101]⟩ _ (by decide) (hM.below hb0))
  rw [e1] at Hc
  go_enter Tryz.func18, Tryz.ntmps18
  go_wp2_with fail
  ((with_reducible refine (Hc.out).mono ?_); rintro e w2 ⟨rfl, hl2⟩)
  have lv2 := LV.kb3 lv hl2 lv.lt
  have Hb2 : Hid (Below w.heap.size w w2) := hb0.trans (hl2.mono hb0.size)
  have c0 : w2.cell? ⟨w.heap.size, 0, none⟩ = some (.int .i64 1) := lv2.cell 0 _ rfl
  have c1 : w2.cell? ⟨w.heap.size, 1, none⟩ = some (.string ⟨#[97, 64, 98, 46, 100, 101]⟩) := lv2.cell 1 _ rfl
  clear lv lv2 hl2 hb0 Hc
  go_wp2_with fail
  ((with_reducible refine (idWords1_any w2).mono ?_); rintro e w3 ⟨rfl, hl3⟩)
  have Hb3 : Hid (Below w.heap.size w w3) := Hb2.out.trans (hl3.mono Hb2.out.size)
  clear c0 c1 hl3
  have kc := fun w => Lib.run_convert_string_bytes (P := Tryz.prog) w 9 118 5 ⟨#[109, 97, 105, 108, 32, 97, 64, 98, 46, 100, 101]⟩ Tryz.underlying9 Tryz.underlying118 Tryz.underlying5
  have Hm := Lib.hid (sealMade w3 ⟨#[109, 97, 105, 108, 32, 97, 64, 98, 46, 100, 101]⟩)
  have Hbb := Lib.hid (sealBelow w3 ⟨#[109, 97, 105, 108, 32, 97, 64, 98, 46, 100, 101]⟩)
  go_wp2_with fail
  clear kc
  generalize Lib.bytesWorld w3 5 ⟨#[109, 97, 105, 108, 32, 97, 64, 98, 46, 100, 101]⟩ = w4 at *
  go_loopw [5, 6, 18] (fun h s i wr => ∃ (k : Nat) (z : Int), k ≤ 11 ∧ i = .int .i64 k ∧ h = .int .u32 z ∧ (0 ≤ z ∧ z < 4294967296) ∧ s = .int .i64 (bsum ((⟨#[109, 97, 105, 108, 32, 97, 64, 98, 46, 100, 101]⟩ : ByteArray).data.toList.take k) : Nat) ∧ w4 = wr) (fun _ _ i _ => 11 - (intOf i).toNat)
  case atStart => exact ⟨0, 2166136261, by omega, rfl, rfl, by omega, rfl, rfl⟩
  case round =>
    obtain ⟨k, z, hk, rfl, rfl, hz, rfl, rfl⟩ := hrel
    by_cases hlt : k < 11
    · obtain ⟨c, hc⟩ : ∃ c, (⟨#[109, 97, 105, 108, 32, 97, 64, 98, 46, 100, 101]⟩ : ByteArray).data.toList[k]? = some c := ⟨_, List.getElem?_eq_getElem (by show k < 11; exact hlt)⟩
      have c0 := Hm.out k c hc
      have Hbs := Lib.hid (bsum_take _ k c hc)
      have hcl : (c.toNat : Int) < 256 := by have := c.toNat_lt; omega
      have hbl : bsum ((⟨#[109, 97, 105, 108, 32, 97, 64, 98, 46, 100, 101]⟩ : ByteArray).data.toList.take k) ≤ 100000 := by
        have : ∀ j : Fin 12, bsum ((⟨#[109, 97, 105, 108, 32, 97, 64, 98, 46, 100, 101]⟩ : ByteArray).data.toList.take j.val) ≤ 100000 := by decide +kernel
        exact this ⟨k, by omega⟩
      clear hc
      generalize bsum ((⟨#[109, 97, 105, 108, 32, 97, 64, 98, 46, 100, 101]⟩ : ByteArray).data.toList.take k) = q at *
      go_wp2_with fail
      refine ⟨⟨k + 1, _, by omega, by simp, rfl, ⟨Int.emod_nonneg _ (by decide), Int.emod_lt_of_pos _ (by decide)⟩, ?_, trivial⟩, by simp [intOf]; omega⟩
      have hb := Hbs.out
      refine congrArg _ ?_
      refine Eq.trans ?_ (congrArg Int.ofNat hb.symm)
      simp
    · obtain rfl : k = 11 := by omega
      have e11 : bsum ((⟨#[109, 97, 105, 108, 32, 97, 64, 98, 46, 100, 101]⟩ : ByteArray).data.toList.take 11) = 957 := by decide +kernel
      rw [e11]
      go_wp2_with fail
      go_ret2
      exact ⟨⟨z * 1009 + 957, by omega, rfl⟩, Hb3.out.trans (Hbb.out.mono Hb3.out.size)⟩
end Go.Proofs.YthmkphmciiiagaaGreatDoor

/- consents(): package consent answers. -/
namespace Go.Proofs.YthmkphmciiiagaaGreatDoor
open Go.RowKit
abbrev euT : PTerm := ⟨⟨#[101, 117]⟩, 1, true, 0, 0⟩
theorem euSl {w : World} {X Y : Nat} (hT : tLV w X euT) (hP : LV w Y #[.string ⟨#[110, 101, 119, 115]⟩, .slice (some ⟨X, 0, none⟩) 1 1] 75) : Sl rPurp (fun _ => False) w (some ⟨Y, 0, none⟩) [⟨⟨#[110, 101, 119, 115]⟩, [euT]⟩] := by
  have hs : Sl rTerm (fun _ => False) w (some ⟨X, 0, none⟩) [euT] := fun i x hx => by
    obtain ⟨rfl, rfl⟩ : i = 0 ∧ x = euT := by
      cases i with
      | zero => exact ⟨rfl, by simpa using hx.symm⟩
      | succ n => simp at hx
    refine ⟨X, 0, _, rfl, hT.lt, id, rfl, fun j u hu => ?_⟩
    have := hT.cell j u (by rw [← hu]; simp [PTerm.cells])
    simpa using this
  intro i x hx
  obtain ⟨rfl, rfl⟩ : i = 0 ∧ x = ⟨⟨#[110, 101, 119, 115]⟩, [euT]⟩ := by
    cases i with
    | zero => exact ⟨rfl, by simpa using hx.symm⟩
    | succ n => simp at hx
  refine ⟨Y, 0, _, rfl, hP.lt, id, ⟨[.string ⟨#[110, 101, 119, 115]⟩], [.slice (some ⟨X, 0, none⟩) 1 1], rfl, rfl, _, _, rfl, hs⟩, fun j u hu => ?_⟩
  have := hP.cell j u (by rw [← hu]; simp)
  simpa using this
set_option maxHeartbeats 4000000 in
set_option maxRecDepth 100000 in
theorem consents_any (w : World) (hM : MaxL w) : Calls Tryz.prog 14 #[] w fun e w' => e = .returned (.bool true) ∧ Below w.heap.size w w' := by
  have lvI := ((LV.new w w.heap.size #[.int .i64 1, .string ⟨#[97, 64, 98, 46, 100, 101]⟩] 29 rfl).alloc (.cells #[.string ⟨#[101, 117]⟩, .int .i64 1, .bool true, .int .i64 0, .int .i64 0] 99)).alloc (.cells #[.string ⟨#[110, 101, 119, 115]⟩, .slice (some ⟨w.heap.size + 1, 0, none⟩) 1 1] 75)
  have lvT : tLV _ (w.heap.size + 1) euT := (LV.new (w.alloc (.cells #[.int .i64 1, .string ⟨#[97, 64, 98, 46, 100, 101]⟩] 29)) (w.heap.size + 1) #[.string ⟨#[101, 117]⟩, .int .i64 1, .bool true, .int .i64 0, .int .i64 0] 99 (by simp)).alloc (.cells #[.string ⟨#[110, 101, 119, 115]⟩, .slice (some ⟨w.heap.size + 1, 0, none⟩) 1 1] 75)
  have lvP := LV.new ((w.alloc (.cells #[.int .i64 1, .string ⟨#[97, 64, 98, 46, 100, 101]⟩] 29)).alloc (.cells #[.string ⟨#[101, 117]⟩, .int .i64 1, .bool true, .int .i64 0, .int .i64 0] 99)) (w.heap.size + 1 + 1) #[.string ⟨#[110, 101, 119, 115]⟩, .slice (some ⟨w.heap.size + 1, 0, none⟩) 1 1] 75 (by simp)
  have hb0 : Below w.heap.size w (((w.alloc (.cells #[.int .i64 1, .string ⟨#[97, 64, 98, 46, 100, 101]⟩] 29)).alloc (.cells #[.string ⟨#[101, 117]⟩, .int .i64 1, .bool true, .int .i64 0, .int .i64 0] 99)).alloc (.cells #[.string ⟨#[110, 101, 119, 115]⟩, .slice (some ⟨w.heap.size + 1, 0, none⟩) 1 1] 75)) := (((Below.refl _ _).alloc (Nat.le_refl _) _).alloc (by simp) _).alloc (by simp; omega) _
  go_enter Tryz.func14, Tryz.ntmps14
  go_upto_region 3 with fail
  generalize ((w.alloc (.cells #[.int .i64 1, .string ⟨#[97, 64, 98, 46, 100, 101]⟩] 29)).alloc (.cells #[.string ⟨#[101, 117]⟩, .int .i64 1, .bool true, .int .i64 0, .int .i64 0] 99)).alloc (.cells #[.string ⟨#[110, 101, 119, 115]⟩, .slice (some ⟨w.heap.size + 1, 0, none⟩) 1 1] 75) = w1 at *
  have Hm := Lib.hid (mayNil_any (fun _ => False) (some ⟨w.heap.size + 1 + 1, 0, none⟩) [⟨⟨#[110, 101, 119, 115]⟩, [euT]⟩] 1 ⟨#[110, 101, 119, 115]⟩ ⟨#[101, 117]⟩ 1 0 1 ⟨#[97, 64, 98, 46, 100, 101]⟩ euT w1 (euSl lvT lvP) ⟨by decide, by decide, by decide, by decide⟩ (by decide) (by decide) (hM.below hb0) (by decide +kernel) (by decide +kernel) (by decide +kernel) (by kernel_rfl) rfl)
  simp only [List.length_singleton] at Hm
  have i0 : w1.cell? ⟨w.heap.size, 0, none⟩ = some (.int .i64 1) := lvI.cell 0 _ rfl
  have i1 : w1.cell? ⟨w.heap.size, 1, none⟩ = some (.string ⟨#[97, 64, 98, 46, 100, 101]⟩) := lvI.cell 1 _ rfl
  clear lvT lvP
  go_wp2_with fail
  ((with_reducible refine (Hm.out).mono ?_); rintro e w2 ⟨rfl, hl2⟩)
  have mI := LV.kb3 lvI hl2 lvI.lt
  have Hb2 : Hid (Below w.heap.size w w2) := hb0.trans (hl2.mono hb0.size)
  clear i0 i1 lvI hl2 hb0 Hm
  have hb3 : Below w2.heap.size w2 (w2.alloc (.cells (aCs true 1 0) 105)) := (Below.refl _ _).alloc (Nat.le_refl _) _
  have nI := LV.kb3 mI hb3 mI.lt
  have nA := LV.new w2 w2.heap.size (aCs true 1 0) 105 rfl
  have Hb3 : Hid (Below w.heap.size w (w2.alloc (.cells (aCs true 1 0) 105))) := Hb2.out.alloc Hb2.out.size _
  clear mI hb3
  obtain ⟨Y, hY⟩ : ∃ Y, Y = w2.heap.size := ⟨_, rfl⟩
  go_upto_region 4 with fail
  rw [← hY] at nA ⊢
  generalize w2.alloc (.cells (aCs true 1 0) 105) = w3 at *
  clear hY
  have i0 : w3.cell? ⟨w.heap.size, 0, none⟩ = some (.int .i64 1) := nI.cell 0 _ rfl
  have i1 : w3.cell? ⟨w.heap.size, 1, none⟩ = some (.string ⟨#[97, 64, 98, 46, 100, 101]⟩) := nI.cell 1 _ rfl
  have Hs := Lib.hid (seal1_any w3 (hM.below Hb3.out))
  clear nI
  go_wp2_with fail
  ((with_reducible refine (Hs.out).mono ?_); rintro e w4 ⟨⟨n, hn, rfl⟩, hl4⟩)
  have oA := LV.kb3 nA hl4 nA.lt
  have Hb4 : Hid (Below w.heap.size w w4) := Hb3.out.trans (hl4.mono Hb3.out.size)
  have a0 : w4.cell? ⟨Y, 0, none⟩ = some (.bool true) := oA.cell 0 _ rfl
  have hn' : decide (0 < n) = true := by simpa using hn
  clear i0 i1 nA oA hl4 Hs
  go_wp2_with fail
  go_ret
  exact ⟨ret_b (by simp), Hb4.out⟩
end Go.Proofs.YthmkphmciiiagaaGreatDoor

/- The law StatementChecks walked: it returns true, and nothing that was there has turned. -/
namespace Go.Proofs.YthmkphmciiiagaaGreatDoor
open Go.RowKit
theorem StmSm.ok {l : List Stm} (h : ∀ s ∈ l, StmSm s) (hl : l.length ≤ 1000) : StmOk l where
  len := by omega
  tx := fun s hs => by have := (h s hs).tx; omega
  pu := fun s hs => by have := (h s hs).pu; omega
  rg := fun s hs => by have := (h s hs).rg; omega
theorem purp_small {q : List PQ} (hq : QOk 10 q) : ∀ p ∈ q.map PQ.purp, p.name.size ≤ 1000 := fun p hp => by
  obtain ⟨e, he, rfl⟩ := List.mem_map.1 hp
  have := hq.nm e he
  show e.nm.size ≤ _
  omega
end Go.Proofs.YthmkphmciiiagaaGreatDoor

/- What handlaw2.asked makes: a policy, statements, a question and the errors of statements. -/
namespace Go.Proofs.YthmkphmciiiagaaGreatDoor
open Go Go.RowKit
theorem results_ttct {P : Program} {fn : Func} {s t u r : Tmp} {T : TypeId} {a : Addr} {v1 v2 v3 v4 : Value} {w : World} {tmps : Array Value} (h : fn.results = #[.tmp s, .tmp t, .cell u T, .tmp r]) (h1 : tmps.getD s undef = v1) (h2 : tmps.getD t undef = v2) (hp : tmps.getD u undef = .pointer (some a)) (h4 : tmps.getD r undef = v4) (hl : (loadVar T a).run P w = .ok v3 w) :
    (results fn tmps).run P w = .ok (.tuple #[v1, v2, v3, v4]) w := by
  have h1' : tmps[s]?.getD undef = v1 := by simpa using h1
  have h2' : tmps[t]?.getD undef = v2 := by simpa using h2
  have hp' : tmps[u]?.getD undef = .pointer (some a) := by simpa using hp
  have h4' : tmps[r]?.getD undef = v4 := by simpa using h4
  simp [results, h, asAddr, h1', h2', hp', h4', hl]
abbrev qzCs : Array Value := #[.int .i64 0, .string ⟨#[]⟩, .string ⟨#[]⟩, .string ⟨#[]⟩, .int .i64 0, .int .i64 0]
/-- a question of moderate size -/
def QSm (t pu rg : ByteArray) : Prop := t.size ≤ 10000 ∧ pu.size ≤ 10000 ∧ rg.size ≤ 10000
def DrawsAsked (b m : Nat) (w : World) (e : Ending) (w' : World) : Prop :=
  ∃ (B B2 A c : _) (q : List PQ) (v2 : Value) (l : List Stm) (k : Int) (t pu rg : ByteArray) (ch at' : Int),
    e = .returned (.tuple #[.slice A q.length c, v2, qVal k t pu rg ch at', .int .i64 (stmsFault (q.map PQ.purp) l)]) ∧ QOk 10 q ∧ l.length ≤ 14 ∧ (∀ s ∈ l, StmSm s) ∧ QSm t pu rg ∧ w.heap.size ≤ B ∧ w.heap.size ≤ B2 ∧
    St b m w w' (.own rStm B2 38 v2 l :: polC B (.slice A q.length c) q)
theorem MaxL.sk {b : Nat} {w w' : World} (h : MaxL w) (k : SK b w w') (hb : 2 ≠ b) : MaxL w' := by
  obtain ⟨m, h⟩ := h
  exact ⟨m, (World.cell?_of_block (k.block _ (World.block_lt_of_cell? w _ h) hb)).trans h⟩
/-- fewer pieces -/
theorem St.sublist {b m : Nat} {w0 w : World} {cs ds : List Chunk} (S : St b m w0 w cs) (hs : ds.Sublist cs) : St b m w0 w ds := by
  refine ⟨S.g, S.b0, fun c hc => c.mono (fun k _ e => ?_) (S.ok c (hs.subset hc)), fun c hc => S.new c (hs.subset hc), S.sep.sublist hs⟩
  rcases e with e | ⟨x, hx, e⟩
  · exact .inl (.inl e)
  · exact .inl (.inr ⟨x, hs.subset hx, e⟩)
/-- the policy among the pieces can be read -/
theorem St.polFalse {b m : Nat} {w0 w : World} {cs : List Chunk} (S : St b m w0 w cs) {B : Nat} {v : Value} {q : List PQ} (hB : w0.heap.size ≤ B) (hv : Chunk.own rPQ B 75 v q ∈ cs) (ht : ∀ e ∈ q, tq B e ∈ cs) :
    ∃ A c, v = .slice A q.length c ∧ Sl rPurp (Lt w0.heap.size) w A (q.map PQ.purp) := by
  obtain ⟨A, c, h1, _, h2⟩ := S.polSl hB hv ht
  exact ⟨A, c, h1, h2⟩
set_option maxHeartbeats 8000000 in
set_option maxRecDepth 100000 in
theorem asked_any (b m : Nat) (w : World) (hs : Strm b m w) (hm : m ≤ 1000000) (hP : Pool w) (hPb : 0 ≠ b) (hM : MaxL w) (hMb : 2 ≠ b) :
    Calls Tryz.prog 9 #[.pointer (some ⟨b, 0, none⟩)] w (DrawsAsked b (m + 440) w) := by
  have S := (St.start hs).new' qzCs 31
  have HP := Lib.hid hP
  have HM := Lib.hid hM
  have hb := hs.lt
  clear hs hP hM
  go_enter Tryz.func9, Tryz.ntmps9
  go_wp2_with fail
  generalize w.alloc (.cells qzCs 31) = w1 at *
  ((with_reducible refine (rightPolicy_any b m _ S.g.s (by omega)).mono ?_); rintro e w2 ⟨v, q, rfl, _, hq, S1⟩)
  have hsz1 := S.g.size
  replace S : St b (m + 110) w w2 (.loc w.heap.size qzCs 31 :: polC w1.heap.size v q) := S.join S1
  have HQ := Lib.hid (hq.mono (Nat.le_succ 9))
  clear hq S1
  go_wp2_with fail
  ((with_reducible refine (flip_any b _ _ _ S.g.s (by omega) (by omega) (by omega)).mono ?_); rintro e w3 ⟨r3, rfl, hk_w3, hs_w3⟩)
  replace S := S.step hk_w3 hs_w3
  clear hk_w3 hs_w3
  go_upto_if 11 with fail
  have HS0 := Lib.hid S
  clear S
  go_cut [6] (fun s6 wx => ∃ (B : Nat) (v : Value) (q : List PQ), s6 = v ∧ QOk 10 q ∧ w.heap.size ≤ B ∧ St b (m + 241) w wx (.loc w.heap.size qzCs 31 :: polC B v q))
  case first =>
    have S := HS0.out
    clear HS0
    cases r3
    · go_wp2_with fail
      go_meet
      exact ⟨_, v, q, rfl, HQ.out, hsz1, S.mono (by omega)⟩
    · go_wp2_with fail
      ((with_reducible refine (policy_any b _ _ S.g.s (by omega)).mono ?_); rintro e w4 ⟨v', q', rfl, hq', S1⟩)
      have hsz3 := S.g.size
      have S2 := S.join S1
      have S3 : St b (m + 110 + 1 + 130) w w4 (.loc w.heap.size qzCs 31 :: polC w3.heap.size v' q') := by
        exact S2.sublist ((List.sublist_append_right _ _).cons_cons _)
      clear S2 S1 S
      go_wp2_with fail
      go_meet
      exact ⟨_, v', q', rfl, hq', hsz3, S3.mono (by omega)⟩
  case rest =>
    clear HS0 HQ hsz1
    obtain ⟨B, v, q, rfl, hq, hB, S⟩ := hcut
    obtain ⟨A, c, rfl, hS⟩ := S.polFalse hB (List.mem_cons_of_mem _ (List.mem_cons_self ..)) (fun e he => List.mem_cons_of_mem _ (List.mem_cons_of_mem _ (List.mem_map.2 ⟨e, he, rfl⟩)))
    have HS : Hid (Sl rPurp (Off b) wc A (q.map PQ.purp)) := hS.mono (fun k _ e => by show k < _; rw [show k = b from e]; exact hb)
    have HQ := Lib.hid hq
    have hql := hq.len
    have hlen : (q.map PQ.purp).length = q.length := by simp
    have Hlen := Lib.hid hlen
    have hxl : (q.map PQ.purp).length ≤ 1000 := by omega
    have Hnm := Lib.hid (purp_small hq)
    have Hok := Lib.hid hq.polOk
    clear hS hq hlen
    go_wp2_with fail
    ((with_reducible refine (range_any b _ 0 14 _ S.g.s (by omega) (by omega) (by omega) (by omega)).mono ?_); rintro e w5 ⟨r, r0, r1, rfl, hk5, hs5⟩)
    replace S := S.step hk5 hs5
    obtain ⟨n, rfl⟩ := Int.eq_ofNat_of_zero_le r0
    have hn : n ≤ 14 := by omega
    have HS5 := Lib.hid (HS.out.keep hk5.n)
    have Hr := Lib.hid (rightStms_any b _ n A (q.map PQ.purp) c w5 S.g.s (by omega) (by omega) (HP.out.keep S.g.k hPb) hPb HS5.out Hnm.out hxl)
    rw [Hlen.out] at Hr
    clear hk5 hs5 r0 r1 HS
    go_wp2_with fail
    ((with_reducible refine (Hr.out).mono ?_); rintro e w6 ⟨v2, l, rfl, hl, hls, S1⟩)
    have hsz5 := S.g.size
    have HS6 := Lib.hid (HS5.out.keep S1.g.k.n)
    replace S := (S.join S1).perm (List.perm_append_comm)
    have hl14 : l.length ≤ 14 := by omega
    have Hls := Lib.hid hls
    clear S1 Hr HS5 hls hl
    go_wp2_with fail
    ((with_reducible refine (flip_any b _ _ _ S.g.s (by omega) (by omega) (by omega)).mono ?_); rintro e w7 ⟨r7, rfl, hk7, hs7⟩)
    replace S := S.step hk7 hs7
    have HS7 := Lib.hid (HS6.out.keep hk7.n)
    clear hk7 hs7 HS6
    go_upto_if 20 with fail
    have HS0 := Lib.hid S
    clear S
    go_cut [7] (fun s7 wx => ∃ (B2 : Nat) (v2 : Value) (l : List Stm), s7 = v2 ∧ l.length ≤ 14 ∧ (∀ s ∈ l, StmSm s) ∧ w.heap.size ≤ B2 ∧ Sl rPurp (Off b) wx A (q.map PQ.purp) ∧ St b (m + 420) w wx (.own rStm B2 38 v2 l :: .loc w.heap.size qzCs 31 :: polC B (.slice A q.length c) q))
    case first =>
      have S := HS0.out
      clear HS0
      cases r7
      · go_wp2_with fail
        go_meet
        exact ⟨_, v2, l, rfl, hl14, Hls.out, hsz5, HS7.out, S.mono (by omega)⟩
      · have Hr := Lib.hid (stms_any b _ 5 A (q.map PQ.purp) c w7 S.g.s (by omega) (by omega) (HP.out.keep S.g.k hPb) hPb HS7.out Hnm.out hxl)
        rw [Hlen.out, show ((5 : Nat) : Int) = 5 from rfl] at Hr
        go_wp2_with fail
        ((with_reducible refine (Hr.out).mono ?_); rintro e w8 ⟨v3, l3, rfl, hl3, hls3, S1⟩)
        have hsz7 := S.g.size
        have HS8 := Lib.hid (HS7.out.keep S1.g.k.n)
        have S3 := ((S.del 0).join S1).perm (List.perm_append_comm)
        have Hls3 := Lib.hid hls3
        clear S1 S Hr hls3 HS7
        go_wp2_with fail
        go_meet
        exact ⟨_, v3, l3, rfl, by omega, Hls3.out, hsz7, HS8.out, S3.mono (by omega)⟩
    case rest =>
      clear HS0 HS7 Hls hl14 hsz5
      obtain ⟨B2, v2, l, rfl, hl, hls, hB2, hS, S⟩ := hcut
      have HSc := Lib.hid hS
      have Hls := Lib.hid hls
      clear hS hls
      obtain ⟨Al, cl, rfl⟩ := (S.ow 0 rfl).len
      have Hqq := Lib.hid (question_any b _ A (q.map PQ.purp) c wc S.g.s (by omega) (HP.out.keep S.g.k hPb) hPb HSc.out Hnm.out hxl)
      rw [Hlen.out] at Hqq
      go_wp2_with fail
      ((with_reducible refine (Hqq.out).mono ?_); rintro e w9 ⟨k, t, pu, rg, ch, at', ht, hpu, hrg, rfl, hk9, hs9⟩)
      replace S := S.step hk9 hs9
      have HL9 : Hid (Sl rStm (fun _ => False) w9 Al l) := by
        obtain ⟨A', c', e', hS⟩ := ((S.ow 0 rfl).flatM flatStm (M' := fun _ => False)).toSlC (fun _ _ h => h)
        simp only [Value.slice.injEq] at e'
        obtain ⟨rfl, _, rfl⟩ := e'
        exact hS.2
      have HF := Lib.hid (refStms_any (fun _ => False) A Al (q.map PQ.purp) l c cl w9 ((HSc.out.keep hk9.n).mono (fun _ _ h => h.elim)) Hok.out HL9.out (StmSm.ok Hls.out (by omega)) (HM.out.sk S.g.k hMb))
      rw [Hlen.out] at HF
      clear hk9 hs9 Hqq HSc HL9
      go_wp2_with fail
      ((with_reducible refine (HF.out).mono ?_); rintro e w10 ⟨rfl, hl10⟩)
      replace S := S.below hl10
      clear hl10 HF
      have c0 := (S.lv 1 rfl).all
      go_wp2_with fail
      have S2 := (((((S.set 1 0 (.int .i64 k) rfl).set 1 1 (.string t) rfl).set 1 2 (.string pu) rfl).set 1 3 (.string rg) rfl).set 1 4 (.int .i64 ch) rfl).set 1 5 (.int .i64 at') rfl
      exact bodyPost_ret (results_ttct rfl rfl rfl rfl rfl (loadQ (S2.lv 1 rfl))) rfl ⟨B, B2, A, c, q, _, l, k, t, pu, rg, ch, at', rfl, HQ.out, hl, Hls.out, ⟨ht, hpu, hrg⟩, hB, hB2, (S2.del 1).mono (by omega)⟩
end Go.Proofs.YthmkphmciiiagaaGreatDoor

/- What handlaw2.wrongOr returns: the first error. -/
namespace Go.Proofs.YthmkphmciiiagaaGreatDoor
open Go.RowKit
def firstErr : List Int → Int
  | [] => 0
  | e :: r => if e ≠ 0 then e else firstErr r
set_option maxHeartbeats 1000000 in
theorem wrongOr_any (blk : Nat) (es : List Int) (w : World) (h : LV w blk (es.map (Value.int .i64)).toArray 32) (hn : es.length ≤ 1000) :
    Calls Tryz.prog 27 #[.slice (some ⟨blk, 0, none⟩) es.length es.length] w fun e w' => e = .returned (.int .i64 (firstErr es)) ∧ w = w' := by
  obtain ⟨R, HR⟩ : ∃ R, Hid (firstErr es = R) := ⟨_, Lib.hid rfl⟩
  rw [HR.out]
  go_enter Tryz.func27, Tryz.ntmps27
  go_wp2_with fail
  go_loopw [7] (fun i wr => ∃ k : Nat, k ≤ es.length ∧ i = .int .i64 k ∧ firstErr (es.drop k) = R ∧ w = wr) (fun i _ => es.length - (intOf i).toNat)
  case atStart => exact ⟨0, Nat.zero_le _, rfl, HR.out, rfl⟩
  case round =>
    clear HR
    obtain ⟨k, hk, rfl, hr, rfl⟩ := hrel
    have Hr := Lib.hid hr
    clear hr
    by_cases hlt : k < es.length
    · have c0 : w.cell? ⟨blk, k, none⟩ = some (.int .i64 es[k]) := h.cell k _ (by simp [hlt])
      have Hs : Hid (firstErr (es[k] :: es.drop (k + 1)) = R) := by show _ = _; rw [← Hr.out, List.drop_eq_getElem_cons hlt]
      clear Hr
      generalize es[k] = x at *
      by_cases hx : x = 0
      · subst hx
        go_wp2_with fail
        go_roundw
        case rel => exact ⟨k + 1, by omega, by go_num, by rw [← Hs.out, firstErr, if_neg (by simp)], by first | rfl | trivial⟩
        case measure => simp [intOf]; omega
      · have hx' : (x != 0) = true := by simpa using hx
        have Hn : Hid (x = R) := by show _ = _; rw [← Hs.out, firstErr, if_pos hx]
        clear Hs hx
        go_wp2_with fail
        go_ret
        exact ⟨ret_i Hn.out, rfl⟩
    · have Hn : Hid (0 = R) := by show _ = _; rw [← Hr.out, List.drop_eq_nil_of_le (by omega)]; rfl
      clear Hr
      go_wp2_with fail
      go_ret
      exact ⟨ret_i Hn.out, rfl⟩
end Go.Proofs.YthmkphmciiiagaaGreatDoor
