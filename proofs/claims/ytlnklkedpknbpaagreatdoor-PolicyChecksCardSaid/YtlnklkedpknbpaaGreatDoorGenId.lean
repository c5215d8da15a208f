/- What the generators SpoiledId and Id make. -/
import Derived.Test.YtlnklkedpknbpaaGreatDoorRep
import Derived.Test.YtlnklkedpknbpaaGreatDoorPreds
import Derived.Test.YtlnklkedpknbpaaGreatDoorRepeat
import Derived.Test.YtlnklkedpknbpaaGreatDoorRefKey
import Derived.Test.YtlnklkedpknbpaaGreatDoorMix
namespace Go.Proofs.YtlnklkedpknbpaaGreatDoor
open Go.RowKit
/-- what handmake.idPool holds: ids -/
def Pool (w : World) : Prop := ∀ i, i < 10 → ∃ (k : Int) (t : ByteArray), t.size ≤ 100 ∧ w.cell? ⟨0, i * 2, none⟩ = some (.int .i64 k) ∧ w.cell? ⟨0, i * 2 + 1, none⟩ = some (.string t)
theorem Pool.lt {w : World} (h : Pool w) : 0 < w.heap.size := by
  obtain ⟨k, t, _, h1, _⟩ := h 0 (by omega)
  exact World.block_lt_of_cell? w _ h1
theorem Pool.keep {b : Nat} {w w' : World} (h : Pool w) (k : SK b w w') (hb : 0 ≠ b) : Pool w' := fun i hi => by
  obtain ⟨z, t, h0, h1, h2⟩ := h i hi
  exact ⟨z, t, h0, (World.cell?_of_block (k.block _ h.lt hb)).trans h1, (World.cell?_of_block (k.block _ h.lt hb)).trans h2⟩
def DrawsId (b m : Nat) (w : World) (e : Ending) (w' : World) : Prop := ∃ (k : Int) (t : ByteArray), t.size ≤ 10000 ∧ e = .returned (.agg #[.int .i64 k, .string t]) ∧ SK b w w' ∧ Strm b m w'
set_option maxHeartbeats 4000000 in
set_option maxRecDepth 100000 in
theorem spoiledId_any (b m : Nat) (w : World) (hs : Strm b m w) (hm : m ≤ 10000000000) (hP : Pool w) (hPb : 0 ≠ b) :
    Calls Tryz.prog 63 #[.pointer (some ⟨b, 0, none⟩)] w (DrawsId b (m + 9) w) := by
  have hlt := hs.lt
  have HP := Lib.hid hP
  have hPlt := hP.lt
  clear hP
  have g0 := (G.start hs).alloc (.cells #[.int .i64 0, .string ⟨#[]⟩] 29)
  have bR0 := LV.new w w.heap.size #[.int .i64 0, .string ⟨#[]⟩] 29 rfl
  go_enter Tryz.func63, Tryz.ntmps63
  go_wp2_with fail
  ((with_reducible refine (next_any b m _ _ g0.s (by omega) (by omega) (by omega)).mono ?_); rintro e w1 ⟨i, i_lo, i_hi, rfl, hk_w1, hs_w1⟩)
  have hz1 := hk_w1.size
  simp only [World.size_alloc] at hz1
  obtain ⟨j, rfl⟩ := Int.eq_ofNat_of_zero_le i_lo
  have HP1 : Hid (Pool w1) := (HP.out.keep (SK.ofBelow (b := b) ((Below.refl _ _).alloc (Nat.le_refl _) (.cells #[.int .i64 0, .string ⟨#[]⟩] 29))) hPb).keep hk_w1 hPb
  obtain ⟨k, t, t_le, pc0, pc1⟩ := HP1.out j (by omega)
  have g1 := (g0.step hk_w1 hs_w1).alloc (.cells #[.int .i64 k, .string t] 29)
  have bR1 := (LV.keep bR0 hk_w1 (by omega)).alloc (.cells #[.int .i64 k, .string t] 29)
  have bX1 := LV.new w1 w1.heap.size #[.int .i64 k, .string t] 29 rfl
  clear hk_w1 hs_w1 bR0 g0 HP HP1
  go_wp2_with fail
  ((with_reducible refine (next_any b _ _ _ g1.s (by omega) (by omega) (by omega)).mono ?_); rintro e w2 ⟨r, r_lo, r_hi, rfl, hk_w2, hs_w2⟩)
  clear pc0 pc1
  have g2 := g1.step hk_w2 hs_w2
  have bX2 := LV.keep bX1 hk_w2 (by omega)
  have bR2 := LV.keep bR1 hk_w2 (by omega)
  clear hk_w2 hs_w2 g1 bX1 bR1
  by_cases h0 : r = 0
  · subst h0
    go_wp2_with fail
    ((with_reducible refine (pick_le b _ _ _ 0 5 g2.s (by simp) (by simp) (intsIn_of (by decide)) (by simp) (by simp) (by omega)).mono ?_); rintro e w3 ⟨k3, k3_lo, k3_hi, rfl, hk_w3, hs_w3⟩)
    have g3 := g2.step hk_w3 hs_w3
    have bX3 := LV.keep bX2 hk_w3 (by omega)
    have bR3 := LV.keep bR2 hk_w3 (by omega)
    clear hk_w3 hs_w3 g2 bX2 bR2
    have g4 := g3.set (X := w1.heap.size) (by omega) (by omega) 0 (.int .i64 k3)
    have bX4 := bX3.set 0 (.int .i64 k3) #[.int .i64 k3, .string t] rfl
    have bR4 := bR3.other (Y := w1.heap.size) (by omega) 0 (.int .i64 k3)
    have bX3_c0 := bX3.cell 0 _ rfl
    have bX3_c1 := bX3.cell 1 _ rfl
    have bX3_f0 := bX3.free 0
    have bX3_f1 := bX3.free 1
    clear bX3 bR3 g3
    have gf := (g4.set (X := w.heap.size) (by omega) (Nat.le_refl _) 0 (.int .i64 k3)).set (X := w.heap.size) (by omega) (Nat.le_refl _) 1 (.string t)
    have bX4_c0 := bX4.cell 0 _ rfl
    have bX4_c1 := bX4.cell 1 _ rfl
    have bX4_f0 := bX4.free 0
    have bX4_f1 := bX4.free 1
    have bR4_c0 := bR4.cell 0 _ rfl
    have bR4_c1 := bR4.cell 1 _ rfl
    have bR4_f0 := bR4.free 0
    have bR4_f1 := bR4.free 1
    clear g4 bX4 bR4
    go_wp2_with fail
    exact bodyPost_ret (v := .agg #[.int .i64 k3, .string t]) (by simp [results, Tryz.results63, go_sem, bX4_c0, bX4_c1, bR4_c0, bR4_c1]) rfl ⟨_, _, (by omega), rfl, gf.k, gf.s.mono (by omega)⟩
  · have h0' : (r == 0) = false := by simpa using h0
    by_cases h1 : r = 1
    · subst h1
      clear h0 h0'
      go_wp2_with fail
      ((with_reducible refine (repeat_le ⟨#[97]⟩ 65 1000 _ (by decide) (by decide) (by decide) (by decide)).mono ?_); rintro e w3 ⟨ra, ra_le, rfl, hl_w3⟩)
      have g3 := g2.below hl_w3
      have bX3 := LV.keep bX2 (SK.ofBelow (b := b) hl_w3) (by omega)
      have bR3 := LV.keep bR2 (SK.ofBelow (b := b) hl_w3) (by omega)
      clear hl_w3 bX2 bR2 g2
      go_wp2_with fail
      ((with_reducible refine (repeat_le ⟨#[98]⟩ 31 1000 _ (by decide) (by decide) (by decide) (by decide)).mono ?_); rintro e w4 ⟨rb, rb_le, rfl, hl_w4⟩)
      have g4 := g3.below hl_w4
      have bX4 := LV.keep bX3 (SK.ofBelow (b := b) hl_w4) (by omega)
      have bR4 := LV.keep bR3 (SK.ofBelow (b := b) hl_w4) (by omega)
      clear hl_w4 bX3 bR3 g3
      go_wp2_with fail
      ((with_reducible refine (repeat_le ⟨#[97]⟩ 64 1000 _ (by decide) (by decide) (by decide) (by decide)).mono ?_); rintro e w5 ⟨rc, rc_le, rfl, hl_w5⟩)
      have g5 := g4.below hl_w5
      have bX5 := LV.keep bX4 (SK.ofBelow (b := b) hl_w5) (by omega)
      have bR5 := LV.keep bR4 (SK.ofBelow (b := b) hl_w5) (by omega)
      clear hl_w5 bX4 bR4 g4
      go_wp2_with fail
      ((with_reducible refine (repeat_le ⟨#[98]⟩ 12 1000 _ (by decide) (by decide) (by decide) (by decide)).mono ?_); rintro e w6 ⟨rd, rd_le, rfl, hl_w6⟩)
      have g6 := g5.below hl_w6
      have bX6 := LV.keep bX5 (SK.ofBelow (b := b) hl_w6) (by omega)
      have bR6 := LV.keep bR5 (SK.ofBelow (b := b) hl_w6) (by omega)
      clear hl_w6 bX5 bR5 g5
      have l1 : (⟨#[64, 98, 46, 100, 101]⟩ : ByteArray).size = 5 := rfl
      have l2 : (⟨#[97, 64]⟩ : ByteArray).size = 2 := rfl
      have l3 : (⟨#[46, 100, 101]⟩ : ByteArray).size = 3 := rfl
      have l4 : (⟨#[64]⟩ : ByteArray).size = 1 := rfl
      have L1 := Lib.hid l1
      have L2 := Lib.hid l2
      have L3 := Lib.hid l3
      have L4 := Lib.hid l4
      clear l1 l2 l3 l4
      go_wp2_with fail
      ((with_reducible refine (one_le b _ _ _ 5000 g6.s (by simp) (by simp) (by repeat (first | exact strsLe_nil | refine strsLe_cons (by first | decide | (simp only [ByteArray.size_append, L1.out, L2.out, L3.out, L4.out]; omega)) ?_)) (by simp) (by simp) (by omega)).mono ?_); rintro e w7 ⟨t7, t7_le, rfl, hk_w7, hs_w7⟩)
      have g7 := g6.step hk_w7 hs_w7
      have bX7 := LV.keep bX6 hk_w7 (by omega)
      have bR7 := LV.keep bR6 hk_w7 (by omega)
      clear hk_w7 hs_w7 g6 bX6 bR6
      have g8 := g7.set (X := w1.heap.size) (by omega) (by omega) 1 (.string t7)
      have bX8 := bX7.set 1 (.string t7) #[.int .i64 k, .string t7] rfl
      have bR8 := bR7.other (Y := w1.heap.size) (by omega) 1 (.string t7)
      have bX7_c0 := bX7.cell 0 _ rfl
      have bX7_c1 := bX7.cell 1 _ rfl
      have bX7_f0 := bX7.free 0
      have bX7_f1 := bX7.free 1
      clear bX7 bR7 g7
      have gf := (g8.set (X := w.heap.size) (by omega) (Nat.le_refl _) 0 (.int .i64 k)).set (X := w.heap.size) (by omega) (Nat.le_refl _) 1 (.string t7)
      have bX8_c0 := bX8.cell 0 _ rfl
      have bX8_c1 := bX8.cell 1 _ rfl
      have bX8_f0 := bX8.free 0
      have bX8_f1 := bX8.free 1
      have bR8_c0 := bR8.cell 0 _ rfl
      have bR8_c1 := bR8.cell 1 _ rfl
      have bR8_f0 := bR8.free 0
      have bR8_f1 := bR8.free 1
      clear g8 bX8 bR8
      go_wp2_with fail
      exact bodyPost_ret (v := .agg #[.int .i64 k, .string t7]) (by simp [results, Tryz.results63, go_sem, bX8_c0, bX8_c1, bR8_c0, bR8_c1]) rfl ⟨_, _, (by omega), rfl, gf.k, gf.s.mono (by omega)⟩
    · have h1' : (r == 1) = false := by simpa using h1
      clear h0 h1
      have bX2_c0 := bX2.cell 0 _ rfl
      have bX2_c1 := bX2.cell 1 _ rfl
      have bX2_f0 := bX2.free 0
      have bX2_f1 := bX2.free 1
      go_wp2_with fail
      ((with_reducible refine (changed_any b _ t _ _ g2.s (by omega) (by decide) (by omega)).mono ?_); rintro e w3 ⟨t3, t3_le, rfl, hk_w3, hs_w3⟩)
      clear bX2_c0 bX2_c1 bX2_f0 bX2_f1
      have g3 := g2.step hk_w3 hs_w3
      have bX3 := LV.keep bX2 hk_w3 (by omega)
      have bR3 := LV.keep bR2 hk_w3 (by omega)
      clear hk_w3 hs_w3 g2 bX2 bR2
      have g4 := g3.set (X := w1.heap.size) (by omega) (by omega) 1 (.string t3)
      have bX4 := bX3.set 1 (.string t3) #[.int .i64 k, .string t3] rfl
      have bR4 := bR3.other (Y := w1.heap.size) (by omega) 1 (.string t3)
      have e10 : (⟨#[97, 98, 48, 64, 46, 45, 43, 95, 65, 90]⟩ : ByteArray).size = 10 := rfl
      have t4_le : t3.size ≤ 10000 := by rw [e10] at t3_le; omega
      clear e10
      have bX3_c0 := bX3.cell 0 _ rfl
      have bX3_c1 := bX3.cell 1 _ rfl
      have bX3_f0 := bX3.free 0
      have bX3_f1 := bX3.free 1
      clear bX3 bR3 g3 t3_le
      have gf := (g4.set (X := w.heap.size) (by omega) (Nat.le_refl _) 0 (.int .i64 k)).set (X := w.heap.size) (by omega) (Nat.le_refl _) 1 (.string t3)
      have bX4_c0 := bX4.cell 0 _ rfl
      have bX4_c1 := bX4.cell 1 _ rfl
      have bX4_f0 := bX4.free 0
      have bX4_f1 := bX4.free 1
      have bR4_c0 := bR4.cell 0 _ rfl
      have bR4_c1 := bR4.cell 1 _ rfl
      have bR4_f0 := bR4.free 0
      have bR4_f1 := bR4.free 1
      clear g4 bX4 bR4
      go_wp2_with fail
      exact bodyPost_ret (v := .agg #[.int .i64 k, .string t3]) (by simp [results, Tryz.results63, go_sem, bX4_c0, bX4_c1, bR4_c0, bR4_c1]) rfl ⟨_, _, t4_le, rfl, gf.k, gf.s.mono (by omega)⟩
set_option maxHeartbeats 4000000 in
set_option maxRecDepth 100000 in
theorem id_any (b m : Nat) (w : World) (hs : Strm b m w) (hm : m ≤ 1000000000) (hP : Pool w) (hPb : 0 ≠ b) :
    Calls Tryz.prog 30 #[.pointer (some ⟨b, 0, none⟩)] w (DrawsId b (m + 10) w) := by
  have hlt := hs.lt
  have hPlt := hP.lt
  have HP0 : Hid (Pool (w.alloc (.cells #[.int .i64 0, .string ⟨#[]⟩] 29))) := hP.keep (SK.ofBelow (b := b) ((Below.refl _ _).alloc (Nat.le_refl _) _)) hPb
  clear hP
  have g0 := (G.start hs).alloc (.cells #[.int .i64 0, .string ⟨#[]⟩] 29)
  have bR0 := LV.new w w.heap.size #[.int .i64 0, .string ⟨#[]⟩] 29 rfl
  go_enter Tryz.func30, Tryz.ntmps30
  go_wp2_with fail
  ((with_reducible refine (flip_any b m _ _ g0.s (by omega) (by omega) (by omega)).mono ?_); rintro e w1 ⟨r, rfl, hk_w1, hs_w1⟩)
  have HP1 : Hid (Pool w1) := HP0.out.keep hk_w1 hPb
  have g1 := g0.step hk_w1 hs_w1
  have bR1 := LV.keep bR0 hk_w1 (by omega)
  clear hk_w1 hs_w1 g0 bR0 HP0
  cases r
  · go_wp2_with fail
    ((with_reducible refine (next_any b _ _ _ g1.s (by omega) (by omega) (by omega)).mono ?_); rintro e w2 ⟨i, i_lo, i_hi, rfl, hk_w2, hs_w2⟩)
    obtain ⟨j, rfl⟩ := Int.eq_ofNat_of_zero_le i_lo
    have HP2 : Hid (Pool w2) := HP1.out.keep hk_w2 hPb
    obtain ⟨k, t, t_le, pc0, pc1⟩ := HP2.out j (by omega)
    have g2 := g1.step hk_w2 hs_w2
    have bR2 := LV.keep bR1 hk_w2 (by omega)
    have gf := (g2.set (X := w.heap.size) (by omega) (Nat.le_refl _) 0 (.int .i64 k)).set (X := w.heap.size) (by omega) (Nat.le_refl _) 1 (.string t)
    have bR2_c0 := bR2.cell 0 _ rfl
    have bR2_c1 := bR2.cell 1 _ rfl
    have bR2_f0 := bR2.free 0
    have bR2_f1 := bR2.free 1
    clear hk_w2 hs_w2 g1 bR1 g2 bR2 HP1 HP2
    go_wp2_with fail
    exact bodyPost_ret (v := .agg #[.int .i64 k, .string t]) (by simp [results, Tryz.results30, go_sem, bR2_c0, bR2_c1]) rfl ⟨_, _, (by omega), rfl, gf.k, gf.s.mono (by omega)⟩
  · go_wp2_with fail
    ((with_reducible refine (spoiledId_any b _ _ g1.s (by omega) HP1.out hPb).mono ?_); rintro e w2 ⟨k, t, t_le, rfl, hk_w2, hs_w2⟩)
    have g2 := g1.step hk_w2 hs_w2
    have bR2 := LV.keep bR1 hk_w2 (by omega)
    have gf := (g2.set (X := w.heap.size) (by omega) (Nat.le_refl _) 0 (.int .i64 k)).set (X := w.heap.size) (by omega) (Nat.le_refl _) 1 (.string t)
    have bR2_c0 := bR2.cell 0 _ rfl
    have bR2_c1 := bR2.cell 1 _ rfl
    have bR2_f0 := bR2.free 0
    have bR2_f1 := bR2.free 1
    clear hk_w2 hs_w2 g1 bR1 g2 bR2 HP1
    go_wp2_with fail
    exact bodyPost_ret (v := .agg #[.int .i64 k, .string t]) (by simp [results, Tryz.results30, go_sem, bR2_c0, bR2_c1]) rfl ⟨_, _, t_le, rfl, gf.k, gf.s.mono (by omega)⟩
end Go.Proofs.YtlnklkedpknbpaaGreatDoor
