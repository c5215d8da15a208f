/- Several texts in one: Repeat, GenVal, GenFlds, GenId. -/
import Derived.Test.YteabhkmhogmoiaaGreatDoorPackB
import Derived.Test.YteabhkmhogmoiaaGreatDoorShelf
import Derived.Test.YteabhkmhogmoiaaGreatDoorPackV
import Derived.Test.YteabhkmhogmoiaaGreatDoorPackM
/- What strings.Repeat returns: a string of a bounded length. -/
namespace Go.Proofs.YteabhkmhogmoiaaGreatDoor
open Go.RowKit
def GivesStr (M : Nat) (w : World) (e : Ending) (w' : World) : Prop := ∃ s : ByteArray, s.size ≤ M ∧ e = .returned (.string s) ∧ Below w.heap.size w w'
theorem repeat_le (s : ByteArray) (z : Int) (M : Nat) (w : World) (h0 : 0 ≤ z) (hz : z ≤ 1000000) (hM : s.size * z.toNat ≤ M) (hM2 : M ≤ 1000000000) :
    Calls Tryz.prog 201 #[.string s, .int .i64 z] w (GivesStr M w) := by
  obtain ⟨n, rfl⟩ := Int.eq_ofNat_of_zero_le h0
  simp only [Int.toNat_natCast] at hM
  refine (Tryz.strings_Repeat s n w (by omega) (by omega)).mono ?_
  rintro e w' ⟨rfl, hl⟩
  refine ⟨_, ?_, rfl, hl⟩
  show (Lib.repeatL s.data.toList n).length ≤ M
  rw [Lib.repeatL_length, Nat.mul_comm]
  exact hM
end Go.Proofs.YteabhkmhogmoiaaGreatDoor

/- What the generator Value makes. -/
namespace Go.Proofs.YteabhkmhogmoiaaGreatDoor
open Go.RowKit
def DrawsVal (b m : Nat) (w : World) (e : Ending) (w' : World) : Prop := ∃ (k : Int) (t : ByteArray) (n : Int), t.size ≤ 1000 ∧ e = .returned (.agg #[.int .i64 k, .string t, .int .i64 n]) ∧ SK b w w' ∧ Strm b m w'
set_option maxHeartbeats 4000000 in
set_option maxRecDepth 100000 in
theorem value_any (b m : Nat) (w : World) (hs : Strm b m w) (hm : m ≤ 100000000000) :
    Calls Tryz.prog 211 #[.pointer (some ⟨b, 0, none⟩)] w (DrawsVal b (m + 6) w) := by
  have hlt := hs.lt
  have g0 := (G.start hs).alloc (.cells #[.int .i64 0, .string ⟨#[]⟩, .int .i64 0] 202)
  have bR0 := LV.new w w.heap.size #[.int .i64 0, .string ⟨#[]⟩, .int .i64 0] 202 rfl
  go_enter Tryz.func211, Tryz.ntmps211
  go_wp2_with fail
  ((with_reducible refine (pick_le b m _ _ 1 4 g0.s (by simp) (by simp) (intsIn_of (by decide)) (by simp) (by simp) (by omega)).mono ?_); rintro e w1 ⟨k, k_lo, k_hi, rfl, hk_w1, hs_w1⟩)
  have g1 := (g0.step hk_w1 hs_w1).alloc (.cells #[.int .i64 k, .string ⟨#[]⟩, .int .i64 0] 202)
  have bR1 := (LV.keep bR0 hk_w1 (by omega)).alloc (.cells #[.int .i64 k, .string ⟨#[]⟩, .int .i64 0] 202)
  have bX1 := LV.new w1 w1.heap.size #[.int .i64 k, .string ⟨#[]⟩, .int .i64 0] 202 rfl
  have hz1 := hk_w1.size
  simp only [World.size_alloc] at hz1
  clear hk_w1 hs_w1 bR0 g0
  have hkk : k = 1 ∨ k = 2 ∨ k = 3 ∨ k = 4 := by omega
  clear k_lo k_hi
  rcases hkk with hk | hk | hk | hk
  all_goals subst hk
  · go_wp2_with fail
    ((with_reducible refine (one_le b (m + 1) _ _ 100 g1.s (by simp) (by simp) (strsLe_of (by decide)) (by simp) (by simp) (by omega)).mono ?_); rintro e w2 ⟨t, t_le, rfl, hk_w2, hs_w2⟩)
    have g2 := g1.step hk_w2 hs_w2
    have bR2 := LV.keep bR1 hk_w2 (by omega)
    have bX2 := LV.keep bX1 hk_w2 (by omega)
    clear hk_w2 hs_w2 bR1 bX1 g1
    have h4 := g2.set (X := w1.heap.size) (by omega) (by omega) 1 (.string t)
    have bX4 := bX2.set 1 (.string t) #[.int .i64 1, .string t, .int .i64 0] rfl
    have bR4 := bR2.other (Y := w1.heap.size) (by omega) 1 (.string t)
    have bX2_c0 := bX2.cell 0 _ rfl
    have bX2_c1 := bX2.cell 1 _ rfl
    have bX2_c2 := bX2.cell 2 _ rfl
    have bX2_f0 := bX2.free 0
    have bX2_f1 := bX2.free 1
    have bX2_f2 := bX2.free 2
    clear bX2 bR2 g2
    go_wp2_with fail
    ((with_reducible refine (flip_any b (m + 2) _ _ h4.s (by omega) (by omega) (by omega)).mono ?_); rintro e w3 ⟨r3, rfl, hk_w3, hs_w3⟩)
    have g3 := h4.step hk_w3 hs_w3
    have bX3 := LV.keep bX4 hk_w3 (by omega)
    have bR3 := LV.keep bR4 hk_w3 (by omega)
    clear hk_w3 hs_w3 h4 bX4 bR4
    cases r3
    · have gf := ((g3.set (X := w.heap.size) (by omega) (Nat.le_refl _) 0 (.int .i64 1)).set (X := w.heap.size) (by omega) (Nat.le_refl _) 1 (.string t)).set (X := w.heap.size) (by omega) (Nat.le_refl _) 2 (.int .i64 0)
      have bX3_c0 := bX3.cell 0 _ rfl
      have bX3_c1 := bX3.cell 1 _ rfl
      have bX3_c2 := bX3.cell 2 _ rfl
      have bX3_f0 := bX3.free 0
      have bX3_f1 := bX3.free 1
      have bX3_f2 := bX3.free 2
      have bR3_c0 := bR3.cell 0 _ rfl
      have bR3_c1 := bR3.cell 1 _ rfl
      have bR3_c2 := bR3.cell 2 _ rfl
      have bR3_f0 := bR3.free 0
      have bR3_f1 := bR3.free 1
      have bR3_f2 := bR3.free 2
      clear g3 bX3 bR3
      go_wp2_with fail
      exact bodyPost_ret (v := .agg #[.int .i64 1, .string t, .int .i64 0]) (by simp [results, Tryz.results211, go_sem, bR3_c0, bR3_c1, bR3_c2]) rfl ⟨_, _, _, (by omega), rfl, gf.k, gf.s.mono (by omega)⟩
    · go_wp2_with fail
      ((with_reducible refine (next_any b (m + 3) _ _ g3.s (by omega) (by omega) (by omega)).mono ?_); rintro e w4 ⟨r4, r4_lo, r4_hi, rfl, hk_w4, hs_w4⟩)
      have g4 := g3.step hk_w4 hs_w4
      have bX4 := LV.keep bX3 hk_w4 (by omega)
      have bR4 := LV.keep bR3 hk_w4 (by omega)
      clear hk_w4 hs_w4 g3 bX3 bR3
      by_cases h40 : r4 = 0
      · subst h40
        go_wp2_with fail
        ((with_reducible refine (pick_le b (m + 4) _ _ 0 5 g4.s (by simp) (by simp) (intsIn_of (by decide)) (by simp) (by simp) (by omega)).mono ?_); rintro e w5 ⟨k5, k5_lo, k5_hi, rfl, hk_w5, hs_w5⟩)
        have g5 := g4.step hk_w5 hs_w5
        have bX5 := LV.keep bX4 hk_w5 (by omega)
        have bR5 := LV.keep bR4 hk_w5 (by omega)
        clear hk_w5 hs_w5 g4 bX4 bR4
        have g6 := g5.set (X := w1.heap.size) (by omega) (by omega) 0 (.int .i64 k5)
        have bX6 := bX5.set 0 (.int .i64 k5) #[.int .i64 k5, .string t, .int .i64 0] rfl
        have bR6 := bR5.other (Y := w1.heap.size) (by omega) 0 (.int .i64 k5)
        have bX5_c0 := bX5.cell 0 _ rfl
        have bX5_c1 := bX5.cell 1 _ rfl
        have bX5_c2 := bX5.cell 2 _ rfl
        have bX5_f0 := bX5.free 0
        have bX5_f1 := bX5.free 1
        have bX5_f2 := bX5.free 2
        clear bX5 bR5 g5
        have gf := ((g6.set (X := w.heap.size) (by omega) (Nat.le_refl _) 0 (.int .i64 k5)).set (X := w.heap.size) (by omega) (Nat.le_refl _) 1 (.string t)).set (X := w.heap.size) (by omega) (Nat.le_refl _) 2 (.int .i64 0)
        have bX6_c0 := bX6.cell 0 _ rfl
        have bX6_c1 := bX6.cell 1 _ rfl
        have bX6_c2 := bX6.cell 2 _ rfl
        have bX6_f0 := bX6.free 0
        have bX6_f1 := bX6.free 1
        have bX6_f2 := bX6.free 2
        have bR6_c0 := bR6.cell 0 _ rfl
        have bR6_c1 := bR6.cell 1 _ rfl
        have bR6_c2 := bR6.cell 2 _ rfl
        have bR6_f0 := bR6.free 0
        have bR6_f1 := bR6.free 1
        have bR6_f2 := bR6.free 2
        clear g6 bX6 bR6
        go_wp2_with fail
        exact bodyPost_ret (v := .agg #[.int .i64 k5, .string t, .int .i64 0]) (by simp [results, Tryz.results211, go_sem, bR6_c0, bR6_c1, bR6_c2]) rfl ⟨_, _, _, (by omega), rfl, gf.k, gf.s.mono (by omega)⟩
      · have h40' : (r4 == 0) = false := by simpa using h40
        by_cases h41 : r4 = 1
        · subst h41
          clear h40 h40'
          go_wp2_with fail
          ((with_reducible refine (pick_le b (m + 4) _ _ (-1) 1000000000001 g4.s (by simp) (by simp) (intsIn_of (by decide)) (by simp) (by simp) (by omega)).mono ?_); rintro e w5 ⟨n5, n5_lo, n5_hi, rfl, hk_w5, hs_w5⟩)
          have g5 := g4.step hk_w5 hs_w5
          have bX5 := LV.keep bX4 hk_w5 (by omega)
          have bR5 := LV.keep bR4 hk_w5 (by omega)
          clear hk_w5 hs_w5 g4 bX4 bR4
          have g6 := g5.set (X := w1.heap.size) (by omega) (by omega) 2 (.int .i64 n5)
          have bX6 := bX5.set 2 (.int .i64 n5) #[.int .i64 1, .string t, .int .i64 n5] rfl
          have bR6 := bR5.other (Y := w1.heap.size) (by omega) 2 (.int .i64 n5)
          have bX5_c0 := bX5.cell 0 _ rfl
          have bX5_c1 := bX5.cell 1 _ rfl
          have bX5_c2 := bX5.cell 2 _ rfl
          have bX5_f0 := bX5.free 0
          have bX5_f1 := bX5.free 1
          have bX5_f2 := bX5.free 2
          clear bX5 bR5 g5
          have gf := ((g6.set (X := w.heap.size) (by omega) (Nat.le_refl _) 0 (.int .i64 1)).set (X := w.heap.size) (by omega) (Nat.le_refl _) 1 (.string t)).set (X := w.heap.size) (by omega) (Nat.le_refl _) 2 (.int .i64 n5)
          have bX6_c0 := bX6.cell 0 _ rfl
          have bX6_c1 := bX6.cell 1 _ rfl
          have bX6_c2 := bX6.cell 2 _ rfl
          have bX6_f0 := bX6.free 0
          have bX6_f1 := bX6.free 1
          have bX6_f2 := bX6.free 2
          have bR6_c0 := bR6.cell 0 _ rfl
          have bR6_c1 := bR6.cell 1 _ rfl
          have bR6_c2 := bR6.cell 2 _ rfl
          have bR6_f0 := bR6.free 0
          have bR6_f1 := bR6.free 1
          have bR6_f2 := bR6.free 2
          clear g6 bX6 bR6
          go_wp2_with fail
          exact bodyPost_ret (v := .agg #[.int .i64 1, .string t, .int .i64 n5]) (by simp [results, Tryz.results211, go_sem, bR6_c0, bR6_c1, bR6_c2]) rfl ⟨_, _, _, (by omega), rfl, gf.k, gf.s.mono (by omega)⟩
        · have h41' : (r4 == 1) = false := by simpa using h41
          go_wp2_with fail
          go_wp2_with fail
          ((with_reducible refine (repeat_le ⟨#[97]⟩ 200 1000 _ (by decide) (by decide) (by decide) (by decide)).mono ?_); rintro e w5 ⟨ra, ra_le, rfl, hl_w5⟩)
          have g5 := g4.below hl_w5
          have bX5 := LV.keep bX4 (SK.ofBelow (b := b) hl_w5) (by omega)
          have bR5 := LV.keep bR4 (SK.ofBelow (b := b) hl_w5) (by omega)
          clear hl_w5 bX4 bR4 g4
          go_wp2_with fail
          ((with_reducible refine (repeat_le ⟨#[97]⟩ 201 1000 _ (by decide) (by decide) (by decide) (by decide)).mono ?_); rintro e w6 ⟨rb, rb_le, rfl, hl_w6⟩)
          have g6 := g5.below hl_w6
          have bX6 := LV.keep bX5 (SK.ofBelow (b := b) hl_w6) (by omega)
          have bR6 := LV.keep bR5 (SK.ofBelow (b := b) hl_w6) (by omega)
          clear hl_w6 bX5 bR5 g5
          go_wp2_with fail
          ((with_reducible refine (one_le b (m + 4) _ _ 1000 g6.s (by simp) (by simp) (by repeat (first | exact strsLe_nil | refine strsLe_cons (by first | omega | decide) ?_)) (by simp) (by simp) (by omega)).mono ?_); rintro e w7 ⟨t7, t7_le, rfl, hk_w7, hs_w7⟩)
          have g7 := g6.step hk_w7 hs_w7
          have bX7 := LV.keep bX6 hk_w7 (by omega)
          have bR7 := LV.keep bR6 hk_w7 (by omega)
          clear hk_w7 hs_w7 g6 bX6 bR6
          have g8 := g7.set (X := w1.heap.size) (by omega) (by omega) 1 (.string t7)
          have bX8 := bX7.set 1 (.string t7) #[.int .i64 1, .string t7, .int .i64 0] rfl
          have bR8 := bR7.other (Y := w1.heap.size) (by omega) 1 (.string t7)
          have bX7_c0 := bX7.cell 0 _ rfl
          have bX7_c1 := bX7.cell 1 _ rfl
          have bX7_c2 := bX7.cell 2 _ rfl
          have bX7_f0 := bX7.free 0
          have bX7_f1 := bX7.free 1
          have bX7_f2 := bX7.free 2
          clear bX7 bR7 g7
          have gf := ((g8.set (X := w.heap.size) (by omega) (Nat.le_refl _) 0 (.int .i64 1)).set (X := w.heap.size) (by omega) (Nat.le_refl _) 1 (.string t7)).set (X := w.heap.size) (by omega) (Nat.le_refl _) 2 (.int .i64 0)
          have bX8_c0 := bX8.cell 0 _ rfl
          have bX8_c1 := bX8.cell 1 _ rfl
          have bX8_c2 := bX8.cell 2 _ rfl
          have bX8_f0 := bX8.free 0
          have bX8_f1 := bX8.free 1
          have bX8_f2 := bX8.free 2
          have bR8_c0 := bR8.cell 0 _ rfl
          have bR8_c1 := bR8.cell 1 _ rfl
          have bR8_c2 := bR8.cell 2 _ rfl
          have bR8_f0 := bR8.free 0
          have bR8_f1 := bR8.free 1
          have bR8_f2 := bR8.free 2
          clear g8 bX8 bR8
          go_wp2_with fail
          exact bodyPost_ret (v := .agg #[.int .i64 1, .string t7, .int .i64 0]) (by simp [results, Tryz.results211, go_sem, bR8_c0, bR8_c1, bR8_c2]) rfl ⟨_, _, _, t7_le, rfl, gf.k, gf.s.mono (by omega)⟩
  · go_wp2_with fail
    ((with_reducible refine (pick_le b (m + 1) _ _ (-1000000000000) 1000000000000 g1.s (by simp) (by simp) (intsIn_of (by decide)) (by simp) (by simp) (by omega)).mono ?_); rintro e w2 ⟨n, n_lo, n_hi, rfl, hk_w2, hs_w2⟩)
    have g2 := g1.step hk_w2 hs_w2
    have bR2 := LV.keep bR1 hk_w2 (by omega)
    have bX2 := LV.keep bX1 hk_w2 (by omega)
    clear hk_w2 hs_w2 bR1 bX1 g1
    have h4 := g2.set (X := w1.heap.size) (by omega) (by omega) 2 (.int .i64 n)
    have bX4 := bX2.set 2 (.int .i64 n) #[.int .i64 2, .string ⟨#[]⟩, .int .i64 n] rfl
    have bR4 := bR2.other (Y := w1.heap.size) (by omega) 2 (.int .i64 n)
    have bX2_c0 := bX2.cell 0 _ rfl
    have bX2_c1 := bX2.cell 1 _ rfl
    have bX2_c2 := bX2.cell 2 _ rfl
    have bX2_f0 := bX2.free 0
    have bX2_f1 := bX2.free 1
    have bX2_f2 := bX2.free 2
    clear bX2 bR2 g2
    go_wp2_with fail
    ((with_reducible refine (flip_any b (m + 2) _ _ h4.s (by omega) (by omega) (by omega)).mono ?_); rintro e w3 ⟨r3, rfl, hk_w3, hs_w3⟩)
    have g3 := h4.step hk_w3 hs_w3
    have bX3 := LV.keep bX4 hk_w3 (by omega)
    have bR3 := LV.keep bR4 hk_w3 (by omega)
    clear hk_w3 hs_w3 h4 bX4 bR4
    cases r3
    · have gf := ((g3.set (X := w.heap.size) (by omega) (Nat.le_refl _) 0 (.int .i64 2)).set (X := w.heap.size) (by omega) (Nat.le_refl _) 1 (.string (ByteArray.mk #[]))).set (X := w.heap.size) (by omega) (Nat.le_refl _) 2 (.int .i64 n)
      have bX3_c0 := bX3.cell 0 _ rfl
      have bX3_c1 := bX3.cell 1 _ rfl
      have bX3_c2 := bX3.cell 2 _ rfl
      have bX3_f0 := bX3.free 0
      have bX3_f1 := bX3.free 1
      have bX3_f2 := bX3.free 2
      have bR3_c0 := bR3.cell 0 _ rfl
      have bR3_c1 := bR3.cell 1 _ rfl
      have bR3_c2 := bR3.cell 2 _ rfl
      have bR3_f0 := bR3.free 0
      have bR3_f1 := bR3.free 1
      have bR3_f2 := bR3.free 2
      clear g3 bX3 bR3
      go_wp2_with fail
      exact bodyPost_ret (v := .agg #[.int .i64 2, .string (ByteArray.mk #[]), .int .i64 n]) (by simp [results, Tryz.results211, go_sem, bR3_c0, bR3_c1, bR3_c2]) rfl ⟨_, _, _, (by decide), rfl, gf.k, gf.s.mono (by omega)⟩
    · go_wp2_with fail
      ((with_reducible refine (next_any b (m + 3) _ _ g3.s (by omega) (by omega) (by omega)).mono ?_); rintro e w4 ⟨r4, r4_lo, r4_hi, rfl, hk_w4, hs_w4⟩)
      have g4 := g3.step hk_w4 hs_w4
      have bX4 := LV.keep bX3 hk_w4 (by omega)
      have bR4 := LV.keep bR3 hk_w4 (by omega)
      clear hk_w4 hs_w4 g3 bX3 bR3
      by_cases h40 : r4 = 0
      · subst h40
        go_wp2_with fail
        ((with_reducible refine (pick_le b (m + 4) _ _ 0 5 g4.s (by simp) (by simp) (intsIn_of (by decide)) (by simp) (by simp) (by omega)).mono ?_); rintro e w5 ⟨k5, k5_lo, k5_hi, rfl, hk_w5, hs_w5⟩)
        have g5 := g4.step hk_w5 hs_w5
        have bX5 := LV.keep bX4 hk_w5 (by omega)
        have bR5 := LV.keep bR4 hk_w5 (by omega)
        clear hk_w5 hs_w5 g4 bX4 bR4
        have g6 := g5.set (X := w1.heap.size) (by omega) (by omega) 0 (.int .i64 k5)
        have bX6 := bX5.set 0 (.int .i64 k5) #[.int .i64 k5, .string (ByteArray.mk #[]), .int .i64 n] rfl
        have bR6 := bR5.other (Y := w1.heap.size) (by omega) 0 (.int .i64 k5)
        have bX5_c0 := bX5.cell 0 _ rfl
        have bX5_c1 := bX5.cell 1 _ rfl
        have bX5_c2 := bX5.cell 2 _ rfl
        have bX5_f0 := bX5.free 0
        have bX5_f1 := bX5.free 1
        have bX5_f2 := bX5.free 2
        clear bX5 bR5 g5
        have gf := ((g6.set (X := w.heap.size) (by omega) (Nat.le_refl _) 0 (.int .i64 k5)).set (X := w.heap.size) (by omega) (Nat.le_refl _) 1 (.string (ByteArray.mk #[]))).set (X := w.heap.size) (by omega) (Nat.le_refl _) 2 (.int .i64 n)
        have bX6_c0 := bX6.cell 0 _ rfl
        have bX6_c1 := bX6.cell 1 _ rfl
        have bX6_c2 := bX6.cell 2 _ rfl
        have bX6_f0 := bX6.free 0
        have bX6_f1 := bX6.free 1
        have bX6_f2 := bX6.free 2
        have bR6_c0 := bR6.cell 0 _ rfl
        have bR6_c1 := bR6.cell 1 _ rfl
        have bR6_c2 := bR6.cell 2 _ rfl
        have bR6_f0 := bR6.free 0
        have bR6_f1 := bR6.free 1
        have bR6_f2 := bR6.free 2
        clear g6 bX6 bR6
        go_wp2_with fail
        exact bodyPost_ret (v := .agg #[.int .i64 k5, .string (ByteArray.mk #[]), .int .i64 n]) (by simp [results, Tryz.results211, go_sem, bR6_c0, bR6_c1, bR6_c2]) rfl ⟨_, _, _, (by decide), rfl, gf.k, gf.s.mono (by omega)⟩
      · have h40' : (r4 == 0) = false := by simpa using h40
        by_cases h41 : r4 = 1
        · subst h41
          clear h40 h40'
          go_wp2_with fail
          ((with_reducible refine (pick_le b (m + 4) _ _ (-1) 1000000000001 g4.s (by simp) (by simp) (intsIn_of (by decide)) (by simp) (by simp) (by omega)).mono ?_); rintro e w5 ⟨n5, n5_lo, n5_hi, rfl, hk_w5, hs_w5⟩)
          have g5 := g4.step hk_w5 hs_w5
          have bX5 := LV.keep bX4 hk_w5 (by omega)
          have bR5 := LV.keep bR4 hk_w5 (by omega)
          clear hk_w5 hs_w5 g4 bX4 bR4
          have g6 := g5.set (X := w1.heap.size) (by omega) (by omega) 2 (.int .i64 n5)
          have bX6 := bX5.set 2 (.int .i64 n5) #[.int .i64 2, .string (ByteArray.mk #[]), .int .i64 n5] rfl
          have bR6 := bR5.other (Y := w1.heap.size) (by omega) 2 (.int .i64 n5)
          have bX5_c0 := bX5.cell 0 _ rfl
          have bX5_c1 := bX5.cell 1 _ rfl
          have bX5_c2 := bX5.cell 2 _ rfl
          have bX5_f0 := bX5.free 0
          have bX5_f1 := bX5.free 1
          have bX5_f2 := bX5.free 2
          clear bX5 bR5 g5
          have gf := ((g6.set (X := w.heap.size) (by omega) (Nat.le_refl _) 0 (.int .i64 2)).set (X := w.heap.size) (by omega) (Nat.le_refl _) 1 (.string (ByteArray.mk #[]))).set (X := w.heap.size) (by omega) (Nat.le_refl _) 2 (.int .i64 n5)
          have bX6_c0 := bX6.cell 0 _ rfl
          have bX6_c1 := bX6.cell 1 _ rfl
          have bX6_c2 := bX6.cell 2 _ rfl
          have bX6_f0 := bX6.free 0
          have bX6_f1 := bX6.free 1
          have bX6_f2 := bX6.free 2
          have bR6_c0 := bR6.cell 0 _ rfl
          have bR6_c1 := bR6.cell 1 _ rfl
          have bR6_c2 := bR6.cell 2 _ rfl
          have bR6_f0 := bR6.free 0
          have bR6_f1 := bR6.free 1
          have bR6_f2 := bR6.free 2
          clear g6 bX6 bR6
          go_wp2_with fail
          exact bodyPost_ret (v := .agg #[.int .i64 2, .string (ByteArray.mk #[]), .int .i64 n5]) (by simp [results, Tryz.results211, go_sem, bR6_c0, bR6_c1, bR6_c2]) rfl ⟨_, _, _, (by decide), rfl, gf.k, gf.s.mono (by omega)⟩
        · have h41' : (r4 == 1) = false := by simpa using h41
          go_wp2_with fail
          go_wp2_with fail
          ((with_reducible refine (repeat_le ⟨#[97]⟩ 200 1000 _ (by decide) (by decide) (by decide) (by decide)).mono ?_); rintro e w5 ⟨ra, ra_le, rfl, hl_w5⟩)
          have g5 := g4.below hl_w5
          have bX5 := LV.keep bX4 (SK.ofBelow (b := b) hl_w5) (by omega)
          have bR5 := LV.keep bR4 (SK.ofBelow (b := b) hl_w5) (by omega)
          clear hl_w5 bX4 bR4 g4
          go_wp2_with fail
          ((with_reducible refine (repeat_le ⟨#[97]⟩ 201 1000 _ (by decide) (by decide) (by decide) (by decide)).mono ?_); rintro e w6 ⟨rb, rb_le, rfl, hl_w6⟩)
          have g6 := g5.below hl_w6
          have bX6 := LV.keep bX5 (SK.ofBelow (b := b) hl_w6) (by omega)
          have bR6 := LV.keep bR5 (SK.ofBelow (b := b) hl_w6) (by omega)
          clear hl_w6 bX5 bR5 g5
          go_wp2_with fail
          ((with_reducible refine (one_le b (m + 4) _ _ 1000 g6.s (by simp) (by simp) (by repeat (first | exact strsLe_nil | refine strsLe_cons (by first | omega | decide) ?_)) (by simp) (by simp) (by omega)).mono ?_); rintro e w7 ⟨t7, t7_le, rfl, hk_w7, hs_w7⟩)
          have g7 := g6.step hk_w7 hs_w7
          have bX7 := LV.keep bX6 hk_w7 (by omega)
          have bR7 := LV.keep bR6 hk_w7 (by omega)
          clear hk_w7 hs_w7 g6 bX6 bR6
          have g8 := g7.set (X := w1.heap.size) (by omega) (by omega) 1 (.string t7)
          have bX8 := bX7.set 1 (.string t7) #[.int .i64 2, .string t7, .int .i64 n] rfl
          have bR8 := bR7.other (Y := w1.heap.size) (by omega) 1 (.string t7)
          have bX7_c0 := bX7.cell 0 _ rfl
          have bX7_c1 := bX7.cell 1 _ rfl
          have bX7_c2 := bX7.cell 2 _ rfl
          have bX7_f0 := bX7.free 0
          have bX7_f1 := bX7.free 1
          have bX7_f2 := bX7.free 2
          clear bX7 bR7 g7
          have gf := ((g8.set (X := w.heap.size) (by omega) (Nat.le_refl _) 0 (.int .i64 2)).set (X := w.heap.size) (by omega) (Nat.le_refl _) 1 (.string t7)).set (X := w.heap.size) (by omega) (Nat.le_refl _) 2 (.int .i64 n)
          have bX8_c0 := bX8.cell 0 _ rfl
          have bX8_c1 := bX8.cell 1 _ rfl
          have bX8_c2 := bX8.cell 2 _ rfl
          have bX8_f0 := bX8.free 0
          have bX8_f1 := bX8.free 1
          have bX8_f2 := bX8.free 2
          have bR8_c0 := bR8.cell 0 _ rfl
          have bR8_c1 := bR8.cell 1 _ rfl
          have bR8_c2 := bR8.cell 2 _ rfl
          have bR8_f0 := bR8.free 0
          have bR8_f1 := bR8.free 1
          have bR8_f2 := bR8.free 2
          clear g8 bX8 bR8
          go_wp2_with fail
          exact bodyPost_ret (v := .agg #[.int .i64 2, .string t7, .int .i64 n]) (by simp [results, Tryz.results211, go_sem, bR8_c0, bR8_c1, bR8_c2]) rfl ⟨_, _, _, t7_le, rfl, gf.k, gf.s.mono (by omega)⟩
  · go_wp2_with fail
    ((with_reducible refine (next_any b (m + 1) _ _ g1.s (by omega) (by omega) (by omega)).mono ?_); rintro e w2 ⟨n, n_lo, n_hi, rfl, hk_w2, hs_w2⟩)
    have g2 := g1.step hk_w2 hs_w2
    have bR2 := LV.keep bR1 hk_w2 (by omega)
    have bX2 := LV.keep bX1 hk_w2 (by omega)
    clear hk_w2 hs_w2 bR1 bX1 g1
    have h4 := g2.set (X := w1.heap.size) (by omega) (by omega) 2 (.int .i64 n)
    have bX4 := bX2.set 2 (.int .i64 n) #[.int .i64 3, .string ⟨#[]⟩, .int .i64 n] rfl
    have bR4 := bR2.other (Y := w1.heap.size) (by omega) 2 (.int .i64 n)
    have bX2_c0 := bX2.cell 0 _ rfl
    have bX2_c1 := bX2.cell 1 _ rfl
    have bX2_c2 := bX2.cell 2 _ rfl
    have bX2_f0 := bX2.free 0
    have bX2_f1 := bX2.free 1
    have bX2_f2 := bX2.free 2
    clear bX2 bR2 g2
    go_wp2_with fail
    ((with_reducible refine (flip_any b (m + 2) _ _ h4.s (by omega) (by omega) (by omega)).mono ?_); rintro e w3 ⟨r3, rfl, hk_w3, hs_w3⟩)
    have g3 := h4.step hk_w3 hs_w3
    have bX3 := LV.keep bX4 hk_w3 (by omega)
    have bR3 := LV.keep bR4 hk_w3 (by omega)
    clear hk_w3 hs_w3 h4 bX4 bR4
    cases r3
    · have gf := ((g3.set (X := w.heap.size) (by omega) (Nat.le_refl _) 0 (.int .i64 3)).set (X := w.heap.size) (by omega) (Nat.le_refl _) 1 (.string (ByteArray.mk #[]))).set (X := w.heap.size) (by omega) (Nat.le_refl _) 2 (.int .i64 n)
      have bX3_c0 := bX3.cell 0 _ rfl
      have bX3_c1 := bX3.cell 1 _ rfl
      have bX3_c2 := bX3.cell 2 _ rfl
      have bX3_f0 := bX3.free 0
      have bX3_f1 := bX3.free 1
      have bX3_f2 := bX3.free 2
      have bR3_c0 := bR3.cell 0 _ rfl
      have bR3_c1 := bR3.cell 1 _ rfl
      have bR3_c2 := bR3.cell 2 _ rfl
      have bR3_f0 := bR3.free 0
      have bR3_f1 := bR3.free 1
      have bR3_f2 := bR3.free 2
      clear g3 bX3 bR3
      go_wp2_with fail
      exact bodyPost_ret (v := .agg #[.int .i64 3, .string (ByteArray.mk #[]), .int .i64 n]) (by simp [results, Tryz.results211, go_sem, bR3_c0, bR3_c1, bR3_c2]) rfl ⟨_, _, _, (by decide), rfl, gf.k, gf.s.mono (by omega)⟩
    · go_wp2_with fail
      ((with_reducible refine (next_any b (m + 3) _ _ g3.s (by omega) (by omega) (by omega)).mono ?_); rintro e w4 ⟨r4, r4_lo, r4_hi, rfl, hk_w4, hs_w4⟩)
      have g4 := g3.step hk_w4 hs_w4
      have bX4 := LV.keep bX3 hk_w4 (by omega)
      have bR4 := LV.keep bR3 hk_w4 (by omega)
      clear hk_w4 hs_w4 g3 bX3 bR3
      by_cases h40 : r4 = 0
      · subst h40
        go_wp2_with fail
        ((with_reducible refine (pick_le b (m + 4) _ _ 0 5 g4.s (by simp) (by simp) (intsIn_of (by decide)) (by simp) (by simp) (by omega)).mono ?_); rintro e w5 ⟨k5, k5_lo, k5_hi, rfl, hk_w5, hs_w5⟩)
        have g5 := g4.step hk_w5 hs_w5
        have bX5 := LV.keep bX4 hk_w5 (by omega)
        have bR5 := LV.keep bR4 hk_w5 (by omega)
        clear hk_w5 hs_w5 g4 bX4 bR4
        have g6 := g5.set (X := w1.heap.size) (by omega) (by omega) 0 (.int .i64 k5)
        have bX6 := bX5.set 0 (.int .i64 k5) #[.int .i64 k5, .string (ByteArray.mk #[]), .int .i64 n] rfl
        have bR6 := bR5.other (Y := w1.heap.size) (by omega) 0 (.int .i64 k5)
        have bX5_c0 := bX5.cell 0 _ rfl
        have bX5_c1 := bX5.cell 1 _ rfl
        have bX5_c2 := bX5.cell 2 _ rfl
        have bX5_f0 := bX5.free 0
        have bX5_f1 := bX5.free 1
        have bX5_f2 := bX5.free 2
        clear bX5 bR5 g5
        have gf := ((g6.set (X := w.heap.size) (by omega) (Nat.le_refl _) 0 (.int .i64 k5)).set (X := w.heap.size) (by omega) (Nat.le_refl _) 1 (.string (ByteArray.mk #[]))).set (X := w.heap.size) (by omega) (Nat.le_refl _) 2 (.int .i64 n)
        have bX6_c0 := bX6.cell 0 _ rfl
        have bX6_c1 := bX6.cell 1 _ rfl
        have bX6_c2 := bX6.cell 2 _ rfl
        have bX6_f0 := bX6.free 0
        have bX6_f1 := bX6.free 1
        have bX6_f2 := bX6.free 2
        have bR6_c0 := bR6.cell 0 _ rfl
        have bR6_c1 := bR6.cell 1 _ rfl
        have bR6_c2 := bR6.cell 2 _ rfl
        have bR6_f0 := bR6.free 0
        have bR6_f1 := bR6.free 1
        have bR6_f2 := bR6.free 2
        clear g6 bX6 bR6
        go_wp2_with fail
        exact bodyPost_ret (v := .agg #[.int .i64 k5, .string (ByteArray.mk #[]), .int .i64 n]) (by simp [results, Tryz.results211, go_sem, bR6_c0, bR6_c1, bR6_c2]) rfl ⟨_, _, _, (by decide), rfl, gf.k, gf.s.mono (by omega)⟩
      · have h40' : (r4 == 0) = false := by simpa using h40
        by_cases h41 : r4 = 1
        · subst h41
          clear h40 h40'
          go_wp2_with fail
          ((with_reducible refine (pick_le b (m + 4) _ _ (-1) 1000000000001 g4.s (by simp) (by simp) (intsIn_of (by decide)) (by simp) (by simp) (by omega)).mono ?_); rintro e w5 ⟨n5, n5_lo, n5_hi, rfl, hk_w5, hs_w5⟩)
          have g5 := g4.step hk_w5 hs_w5
          have bX5 := LV.keep bX4 hk_w5 (by omega)
          have bR5 := LV.keep bR4 hk_w5 (by omega)
          clear hk_w5 hs_w5 g4 bX4 bR4
          have g6 := g5.set (X := w1.heap.size) (by omega) (by omega) 2 (.int .i64 n5)
          have bX6 := bX5.set 2 (.int .i64 n5) #[.int .i64 3, .string (ByteArray.mk #[]), .int .i64 n5] rfl
          have bR6 := bR5.other (Y := w1.heap.size) (by omega) 2 (.int .i64 n5)
          have bX5_c0 := bX5.cell 0 _ rfl
          have bX5_c1 := bX5.cell 1 _ rfl
          have bX5_c2 := bX5.cell 2 _ rfl
          have bX5_f0 := bX5.free 0
          have bX5_f1 := bX5.free 1
          have bX5_f2 := bX5.free 2
          clear bX5 bR5 g5
          have gf := ((g6.set (X := w.heap.size) (by omega) (Nat.le_refl _) 0 (.int .i64 3)).set (X := w.heap.size) (by omega) (Nat.le_refl _) 1 (.string (ByteArray.mk #[]))).set (X := w.heap.size) (by omega) (Nat.le_refl _) 2 (.int .i64 n5)
          have bX6_c0 := bX6.cell 0 _ rfl
          have bX6_c1 := bX6.cell 1 _ rfl
          have bX6_c2 := bX6.cell 2 _ rfl
          have bX6_f0 := bX6.free 0
          have bX6_f1 := bX6.free 1
          have bX6_f2 := bX6.free 2
          have bR6_c0 := bR6.cell 0 _ rfl
          have bR6_c1 := bR6.cell 1 _ rfl
          have bR6_c2 := bR6.cell 2 _ rfl
          have bR6_f0 := bR6.free 0
          have bR6_f1 := bR6.free 1
          have bR6_f2 := bR6.free 2
          clear g6 bX6 bR6
          go_wp2_with fail
          exact bodyPost_ret (v := .agg #[.int .i64 3, .string (ByteArray.mk #[]), .int .i64 n5]) (by simp [results, Tryz.results211, go_sem, bR6_c0, bR6_c1, bR6_c2]) rfl ⟨_, _, _, (by decide), rfl, gf.k, gf.s.mono (by omega)⟩
        · have h41' : (r4 == 1) = false := by simpa using h41
          go_wp2_with fail
          go_wp2_with fail
          ((with_reducible refine (repeat_le ⟨#[97]⟩ 200 1000 _ (by decide) (by decide) (by decide) (by decide)).mono ?_); rintro e w5 ⟨ra, ra_le, rfl, hl_w5⟩)
          have g5 := g4.below hl_w5
          have bX5 := LV.keep bX4 (SK.ofBelow (b := b) hl_w5) (by omega)
          have bR5 := LV.keep bR4 (SK.ofBelow (b := b) hl_w5) (by omega)
          clear hl_w5 bX4 bR4 g4
          go_wp2_with fail
          ((with_reducible refine (repeat_le ⟨#[97]⟩ 201 1000 _ (by decide) (by decide) (by decide) (by decide)).mono ?_); rintro e w6 ⟨rb, rb_le, rfl, hl_w6⟩)
          have g6 := g5.below hl_w6
          have bX6 := LV.keep bX5 (SK.ofBelow (b := b) hl_w6) (by omega)
          have bR6 := LV.keep bR5 (SK.ofBelow (b := b) hl_w6) (by omega)
          clear hl_w6 bX5 bR5 g5
          go_wp2_with fail
          ((with_reducible refine (one_le b (m + 4) _ _ 1000 g6.s (by simp) (by simp) (by repeat (first | exact strsLe_nil | refine strsLe_cons (by first | omega | decide) ?_)) (by simp) (by simp) (by omega)).mono ?_); rintro e w7 ⟨t7, t7_le, rfl, hk_w7, hs_w7⟩)
          have g7 := g6.step hk_w7 hs_w7
          have bX7 := LV.keep bX6 hk_w7 (by omega)
          have bR7 := LV.keep bR6 hk_w7 (by omega)
          clear hk_w7 hs_w7 g6 bX6 bR6
          have g8 := g7.set (X := w1.heap.size) (by omega) (by omega) 1 (.string t7)
          have bX8 := bX7.set 1 (.string t7) #[.int .i64 3, .string t7, .int .i64 n] rfl
          have bR8 := bR7.other (Y := w1.heap.size) (by omega) 1 (.string t7)
          have bX7_c0 := bX7.cell 0 _ rfl
          have bX7_c1 := bX7.cell 1 _ rfl
          have bX7_c2 := bX7.cell 2 _ rfl
          have bX7_f0 := bX7.free 0
          have bX7_f1 := bX7.free 1
          have bX7_f2 := bX7.free 2
          clear bX7 bR7 g7
          have gf := ((g8.set (X := w.heap.size) (by omega) (Nat.le_refl _) 0 (.int .i64 3)).set (X := w.heap.size) (by omega) (Nat.le_refl _) 1 (.string t7)).set (X := w.heap.size) (by omega) (Nat.le_refl _) 2 (.int .i64 n)
          have bX8_c0 := bX8.cell 0 _ rfl
          have bX8_c1 := bX8.cell 1 _ rfl
          have bX8_c2 := bX8.cell 2 _ rfl
          have bX8_f0 := bX8.free 0
          have bX8_f1 := bX8.free 1
          have bX8_f2 := bX8.free 2
          have bR8_c0 := bR8.cell 0 _ rfl
          have bR8_c1 := bR8.cell 1 _ rfl
          have bR8_c2 := bR8.cell 2 _ rfl
          have bR8_f0 := bR8.free 0
          have bR8_f1 := bR8.free 1
          have bR8_f2 := bR8.free 2
          clear g8 bX8 bR8
          go_wp2_with fail
          exact bodyPost_ret (v := .agg #[.int .i64 3, .string t7, .int .i64 n]) (by simp [results, Tryz.results211, go_sem, bR8_c0, bR8_c1, bR8_c2]) rfl ⟨_, _, _, t7_le, rfl, gf.k, gf.s.mono (by omega)⟩
  · go_wp2_with fail
    ((with_reducible refine (pick_le b (m + 1) _ _ 0 4321439 g1.s (by simp) (by simp) (intsIn_of (by decide)) (by simp) (by simp) (by omega)).mono ?_); rintro e w2 ⟨n, n_lo, n_hi, rfl, hk_w2, hs_w2⟩)
    have g2 := g1.step hk_w2 hs_w2
    have bR2 := LV.keep bR1 hk_w2 (by omega)
    have bX2 := LV.keep bX1 hk_w2 (by omega)
    clear hk_w2 hs_w2 bR1 bX1 g1
    have h4 := g2.set (X := w1.heap.size) (by omega) (by omega) 2 (.int .i64 n)
    have bX4 := bX2.set 2 (.int .i64 n) #[.int .i64 4, .string ⟨#[]⟩, .int .i64 n] rfl
    have bR4 := bR2.other (Y := w1.heap.size) (by omega) 2 (.int .i64 n)
    have bX2_c0 := bX2.cell 0 _ rfl
    have bX2_c1 := bX2.cell 1 _ rfl
    have bX2_c2 := bX2.cell 2 _ rfl
    have bX2_f0 := bX2.free 0
    have bX2_f1 := bX2.free 1
    have bX2_f2 := bX2.free 2
    clear bX2 bR2 g2
    go_wp2_with fail
    ((with_reducible refine (flip_any b (m + 2) _ _ h4.s (by omega) (by omega) (by omega)).mono ?_); rintro e w3 ⟨r3, rfl, hk_w3, hs_w3⟩)
    have g3 := h4.step hk_w3 hs_w3
    have bX3 := LV.keep bX4 hk_w3 (by omega)
    have bR3 := LV.keep bR4 hk_w3 (by omega)
    clear hk_w3 hs_w3 h4 bX4 bR4
    cases r3
    · have gf := ((g3.set (X := w.heap.size) (by omega) (Nat.le_refl _) 0 (.int .i64 4)).set (X := w.heap.size) (by omega) (Nat.le_refl _) 1 (.string (ByteArray.mk #[]))).set (X := w.heap.size) (by omega) (Nat.le_refl _) 2 (.int .i64 n)
      have bX3_c0 := bX3.cell 0 _ rfl
      have bX3_c1 := bX3.cell 1 _ rfl
      have bX3_c2 := bX3.cell 2 _ rfl
      have bX3_f0 := bX3.free 0
      have bX3_f1 := bX3.free 1
      have bX3_f2 := bX3.free 2
      have bR3_c0 := bR3.cell 0 _ rfl
      have bR3_c1 := bR3.cell 1 _ rfl
      have bR3_c2 := bR3.cell 2 _ rfl
      have bR3_f0 := bR3.free 0
      have bR3_f1 := bR3.free 1
      have bR3_f2 := bR3.free 2
      clear g3 bX3 bR3
      go_wp2_with fail
      exact bodyPost_ret (v := .agg #[.int .i64 4, .string (ByteArray.mk #[]), .int .i64 n]) (by simp [results, Tryz.results211, go_sem, bR3_c0, bR3_c1, bR3_c2]) rfl ⟨_, _, _, (by decide), rfl, gf.k, gf.s.mono (by omega)⟩
    · go_wp2_with fail
      ((with_reducible refine (next_any b (m + 3) _ _ g3.s (by omega) (by omega) (by omega)).mono ?_); rintro e w4 ⟨r4, r4_lo, r4_hi, rfl, hk_w4, hs_w4⟩)
      have g4 := g3.step hk_w4 hs_w4
      have bX4 := LV.keep bX3 hk_w4 (by omega)
      have bR4 := LV.keep bR3 hk_w4 (by omega)
      clear hk_w4 hs_w4 g3 bX3 bR3
      by_cases h40 : r4 = 0
      · subst h40
        go_wp2_with fail
        ((with_reducible refine (pick_le b (m + 4) _ _ 0 5 g4.s (by simp) (by simp) (intsIn_of (by decide)) (by simp) (by simp) (by omega)).mono ?_); rintro e w5 ⟨k5, k5_lo, k5_hi, rfl, hk_w5, hs_w5⟩)
        have g5 := g4.step hk_w5 hs_w5
        have bX5 := LV.keep bX4 hk_w5 (by omega)
        have bR5 := LV.keep bR4 hk_w5 (by omega)
        clear hk_w5 hs_w5 g4 bX4 bR4
        have g6 := g5.set (X := w1.heap.size) (by omega) (by omega) 0 (.int .i64 k5)
        have bX6 := bX5.set 0 (.int .i64 k5) #[.int .i64 k5, .string (ByteArray.mk #[]), .int .i64 n] rfl
        have bR6 := bR5.other (Y := w1.heap.size) (by omega) 0 (.int .i64 k5)
        have bX5_c0 := bX5.cell 0 _ rfl
        have bX5_c1 := bX5.cell 1 _ rfl
        have bX5_c2 := bX5.cell 2 _ rfl
        have bX5_f0 := bX5.free 0
        have bX5_f1 := bX5.free 1
        have bX5_f2 := bX5.free 2
        clear bX5 bR5 g5
        have gf := ((g6.set (X := w.heap.size) (by omega) (Nat.le_refl _) 0 (.int .i64 k5)).set (X := w.heap.size) (by omega) (Nat.le_refl _) 1 (.string (ByteArray.mk #[]))).set (X := w.heap.size) (by omega) (Nat.le_refl _) 2 (.int .i64 n)
        have bX6_c0 := bX6.cell 0 _ rfl
        have bX6_c1 := bX6.cell 1 _ rfl
        have bX6_c2 := bX6.cell 2 _ rfl
        have bX6_f0 := bX6.free 0
        have bX6_f1 := bX6.free 1
        have bX6_f2 := bX6.free 2
        have bR6_c0 := bR6.cell 0 _ rfl
        have bR6_c1 := bR6.cell 1 _ rfl
        have bR6_c2 := bR6.cell 2 _ rfl
        have bR6_f0 := bR6.free 0
        have bR6_f1 := bR6.free 1
        have bR6_f2 := bR6.free 2
        clear g6 bX6 bR6
        go_wp2_with fail
        exact bodyPost_ret (v := .agg #[.int .i64 k5, .string (ByteArray.mk #[]), .int .i64 n]) (by simp [results, Tryz.results211, go_sem, bR6_c0, bR6_c1, bR6_c2]) rfl ⟨_, _, _, (by decide), rfl, gf.k, gf.s.mono (by omega)⟩
      · have h40' : (r4 == 0) = false := by simpa using h40
        by_cases h41 : r4 = 1
        · subst h41
          clear h40 h40'
          go_wp2_with fail
          ((with_reducible refine (pick_le b (m + 4) _ _ (-1) 1000000000001 g4.s (by simp) (by simp) (intsIn_of (by decide)) (by simp) (by simp) (by omega)).mono ?_); rintro e w5 ⟨n5, n5_lo, n5_hi, rfl, hk_w5, hs_w5⟩)
          have g5 := g4.step hk_w5 hs_w5
          have bX5 := LV.keep bX4 hk_w5 (by omega)
          have bR5 := LV.keep bR4 hk_w5 (by omega)
          clear hk_w5 hs_w5 g4 bX4 bR4
          have g6 := g5.set (X := w1.heap.size) (by omega) (by omega) 2 (.int .i64 n5)
          have bX6 := bX5.set 2 (.int .i64 n5) #[.int .i64 4, .string (ByteArray.mk #[]), .int .i64 n5] rfl
          have bR6 := bR5.other (Y := w1.heap.size) (by omega) 2 (.int .i64 n5)
          have bX5_c0 := bX5.cell 0 _ rfl
          have bX5_c1 := bX5.cell 1 _ rfl
          have bX5_c2 := bX5.cell 2 _ rfl
          have bX5_f0 := bX5.free 0
          have bX5_f1 := bX5.free 1
          have bX5_f2 := bX5.free 2
          clear bX5 bR5 g5
          have gf := ((g6.set (X := w.heap.size) (by omega) (Nat.le_refl _) 0 (.int .i64 4)).set (X := w.heap.size) (by omega) (Nat.le_refl _) 1 (.string (ByteArray.mk #[]))).set (X := w.heap.size) (by omega) (Nat.le_refl _) 2 (.int .i64 n5)
          have bX6_c0 := bX6.cell 0 _ rfl
          have bX6_c1 := bX6.cell 1 _ rfl
          have bX6_c2 := bX6.cell 2 _ rfl
          have bX6_f0 := bX6.free 0
          have bX6_f1 := bX6.free 1
          have bX6_f2 := bX6.free 2
          have bR6_c0 := bR6.cell 0 _ rfl
          have bR6_c1 := bR6.cell 1 _ rfl
          have bR6_c2 := bR6.cell 2 _ rfl
          have bR6_f0 := bR6.free 0
          have bR6_f1 := bR6.free 1
          have bR6_f2 := bR6.free 2
          clear g6 bX6 bR6
          go_wp2_with fail
          exact bodyPost_ret (v := .agg #[.int .i64 4, .string (ByteArray.mk #[]), .int .i64 n5]) (by simp [results, Tryz.results211, go_sem, bR6_c0, bR6_c1, bR6_c2]) rfl ⟨_, _, _, (by decide), rfl, gf.k, gf.s.mono (by omega)⟩
        · have h41' : (r4 == 1) = false := by simpa using h41
          go_wp2_with fail
          go_wp2_with fail
          ((with_reducible refine (repeat_le ⟨#[97]⟩ 200 1000 _ (by decide) (by decide) (by decide) (by decide)).mono ?_); rintro e w5 ⟨ra, ra_le, rfl, hl_w5⟩)
          have g5 := g4.below hl_w5
          have bX5 := LV.keep bX4 (SK.ofBelow (b := b) hl_w5) (by omega)
          have bR5 := LV.keep bR4 (SK.ofBelow (b := b) hl_w5) (by omega)
          clear hl_w5 bX4 bR4 g4
          go_wp2_with fail
          ((with_reducible refine (repeat_le ⟨#[97]⟩ 201 1000 _ (by decide) (by decide) (by decide) (by decide)).mono ?_); rintro e w6 ⟨rb, rb_le, rfl, hl_w6⟩)
          have g6 := g5.below hl_w6
          have bX6 := LV.keep bX5 (SK.ofBelow (b := b) hl_w6) (by omega)
          have bR6 := LV.keep bR5 (SK.ofBelow (b := b) hl_w6) (by omega)
          clear hl_w6 bX5 bR5 g5
          go_wp2_with fail
          ((with_reducible refine (one_le b (m + 4) _ _ 1000 g6.s (by simp) (by simp) (by repeat (first | exact strsLe_nil | refine strsLe_cons (by first | omega | decide) ?_)) (by simp) (by simp) (by omega)).mono ?_); rintro e w7 ⟨t7, t7_le, rfl, hk_w7, hs_w7⟩)
          have g7 := g6.step hk_w7 hs_w7
          have bX7 := LV.keep bX6 hk_w7 (by omega)
          have bR7 := LV.keep bR6 hk_w7 (by omega)
          clear hk_w7 hs_w7 g6 bX6 bR6
          have g8 := g7.set (X := w1.heap.size) (by omega) (by omega) 1 (.string t7)
          have bX8 := bX7.set 1 (.string t7) #[.int .i64 4, .string t7, .int .i64 n] rfl
          have bR8 := bR7.other (Y := w1.heap.size) (by omega) 1 (.string t7)
          have bX7_c0 := bX7.cell 0 _ rfl
          have bX7_c1 := bX7.cell 1 _ rfl
          have bX7_c2 := bX7.cell 2 _ rfl
          have bX7_f0 := bX7.free 0
          have bX7_f1 := bX7.free 1
          have bX7_f2 := bX7.free 2
          clear bX7 bR7 g7
          have gf := ((g8.set (X := w.heap.size) (by omega) (Nat.le_refl _) 0 (.int .i64 4)).set (X := w.heap.size) (by omega) (Nat.le_refl _) 1 (.string t7)).set (X := w.heap.size) (by omega) (Nat.le_refl _) 2 (.int .i64 n)
          have bX8_c0 := bX8.cell 0 _ rfl
          have bX8_c1 := bX8.cell 1 _ rfl
          have bX8_c2 := bX8.cell 2 _ rfl
          have bX8_f0 := bX8.free 0
          have bX8_f1 := bX8.free 1
          have bX8_f2 := bX8.free 2
          have bR8_c0 := bR8.cell 0 _ rfl
          have bR8_c1 := bR8.cell 1 _ rfl
          have bR8_c2 := bR8.cell 2 _ rfl
          have bR8_f0 := bR8.free 0
          have bR8_f1 := bR8.free 1
          have bR8_f2 := bR8.free 2
          clear g8 bX8 bR8
          go_wp2_with fail
          exact bodyPost_ret (v := .agg #[.int .i64 4, .string t7, .int .i64 n]) (by simp [results, Tryz.results211, go_sem, bR8_c0, bR8_c1, bR8_c2]) rfl ⟨_, _, _, t7_le, rfl, gf.k, gf.s.mono (by omega)⟩
end Go.Proofs.YteabhkmhogmoiaaGreatDoor

/- What the generator Fields makes. -/
namespace Go.Proofs.YteabhkmhogmoiaaGreatDoor
open Go.RowKit
def Names (w : World) : Prop := w.cell? ⟨0, 0, none⟩ = some (.string ⟨#[97, 103, 101]⟩) ∧ w.cell? ⟨0, 1, none⟩ = some (.string ⟨#[99, 105, 116, 121]⟩) ∧ w.cell? ⟨0, 2, none⟩ = some (.string ⟨#[106, 111, 105, 110, 101, 100]⟩) ∧
  w.cell? ⟨0, 3, none⟩ = some (.string ⟨#[110, 97, 109, 101]⟩) ∧ w.cell? ⟨0, 4, none⟩ = some (.string ⟨#[112, 108, 97, 110]⟩) ∧ w.cell? ⟨0, 5, none⟩ = some (.string ⟨#[118, 105, 112]⟩)
theorem Names.lt {w : World} (h : Names w) : 0 < w.heap.size := World.block_lt_of_cell? w _ h.1
theorem Names.keep {b : Nat} {w w' : World} (h : Names w) (k : SK b w w') (hb : 0 ≠ b) : Names w' := by
  have e : ∀ j, w'.cell? ⟨0, j, none⟩ = w.cell? ⟨0, j, none⟩ := fun j => World.cell?_of_block (k.block _ h.lt hb)
  obtain ⟨h0, h1, h2, h3, h4, h5⟩ := h
  exact ⟨(e 0).trans h0, (e 1).trans h1, (e 2).trans h2, (e 3).trans h3, (e 4).trans h4, (e 5).trans h5⟩
theorem names_ix (k : Nat) (hk : k < 6) : ∃ s : ByteArray, s.size ≤ 100 ∧ ∀ w, (Instr.index 130 (.agg #[.string ⟨#[97, 103, 101]⟩, .string ⟨#[99, 105, 116, 121]⟩, .string ⟨#[106, 111, 105, 110, 101, 100]⟩, .string ⟨#[110, 97, 109, 101]⟩, .string ⟨#[112, 108, 97, 110]⟩, .string ⟨#[118, 105, 112]⟩]) (.int .i64 k)).run Tryz.prog w = .ok (.string s) w := by
  obtain rfl | rfl | rfl | rfl | rfl | rfl : k = 0 ∨ k = 1 ∨ k = 2 ∨ k = 3 ∨ k = 4 ∨ k = 5 := by omega
  · exact ⟨⟨#[97, 103, 101]⟩, by decide, fun _ => by kernel_rfl⟩
  · exact ⟨⟨#[99, 105, 116, 121]⟩, by decide, fun _ => by kernel_rfl⟩
  · exact ⟨⟨#[106, 111, 105, 110, 101, 100]⟩, by decide, fun _ => by kernel_rfl⟩
  · exact ⟨⟨#[110, 97, 109, 101]⟩, by decide, fun _ => by kernel_rfl⟩
  · exact ⟨⟨#[112, 108, 97, 110]⟩, by decide, fun _ => by kernel_rfl⟩
  · exact ⟨⟨#[118, 105, 112]⟩, by decide, fun _ => by kernel_rfl⟩
theorem tyFld : STy 54 204 rFld.size 48 (.agg #[.string ⟨#[]⟩, .int .i64 0, .string ⟨#[]⟩, .int .i64 0]) := ⟨Tryz.underlying54, by kernel_rfl, rfl, by decide⟩
theorem flatFld : rFld.Flat Fld.cells := fun _ _ _ _ => Iff.rfl
theorem oneFld (f : Fld) : ∀ u ∈ f.cells, u.oneCell' = true := fun u hu => by
  simp only [Fld.cells, List.mem_cons, List.not_mem_nil, or_false] at hu
  rcases hu with rfl | rfl | rfl | rfl <;> rfl
def Fld.tiny (f : Fld) : Prop := f.name.size ≤ 1000 ∧ f.text.size ≤ 1000
def DrawsFlds (b m M : Nat) (w : World) (e : Ending) (w' : World) : Prop := ∃ (v : Value) (xs : List Fld), e = .returned v ∧ Own rFld (Off b) w.heap.size 204 w' v xs ∧ xs.length ≤ M ∧ (∀ f ∈ xs, f.tiny) ∧ G b m w w'
theorem off_ge {b B : Nat} (h : b < B) : ∀ k, B ≤ k → ¬ Off b k := fun k hk e => by unfold Off at e; omega
theorem Own.stepG {α : Type} {r : Rep α} {b B E : Nat} {w w' : World} {v : Value} {xs : List α} (h : Own r (Off b) B E w v xs) (k : SK b w w') (hb : b < B) : Own r (Off b) B E w' v xs := h.keep k.n (off_ge hb)
theorem tiny_snoc {xs : List Fld} {f : Fld} (h : ∀ g ∈ xs, g.tiny) (hf : f.tiny) : ∀ g ∈ xs ++ [f], g.tiny := fun g hg => by
  rcases List.mem_append.1 hg with h' | h'
  · exact h g h'
  · rw [List.mem_singleton.1 h']; exact hf
set_option maxHeartbeats 4000000 in
set_option maxRecDepth 100000 in
theorem fields_any (b m : Nat) (z : Int) (w : World) (hs : Strm b m w) (hm : m ≤ 10000000000) (hN : Names w) :
    Calls Tryz.prog 115 #[.pointer (some ⟨b, 0, none⟩), .int .i64 z] w (DrawsFlds b (m + 100) 7 w) := by
  have hlt := hs.lt
  obtain ⟨n0, n1, n2, n3, n4, n5⟩ := hN
  have Hs := Lib.hid hs
  clear hs
  go_enter Tryz.func115, Tryz.ntmps115
  go_wp2_with fail
  clear n0 n1 n2 n3 n4 n5
  go_loopw [5, 9] (fun v i wr => ∃ (k : Nat) (xs : List Fld), k ≤ 6 ∧ i = .int .i64 k ∧ Own rFld (Off b) w.heap.size 204 wr v xs ∧ xs.length ≤ k ∧ (∀ f ∈ xs, f.tiny) ∧ G b (m + k * 7) w wr) (fun _ i _ => 6 - (intOf i).toNat)
  case atStart => exact ⟨0, [], by omega, rfl, Own.nil _ _ _ _ _, by simp, (fun _ h => by cases h), (G.start Hs.out).mono (by omega)⟩
  case round =>
    obtain ⟨k, xs, hk, rfl, hown, hxl, hti, hg⟩ := hrel
    have Hown := Lib.hid hown
    have Hti := Lib.hid hti
    have hgz := hg.size
    clear hown hti Hs
    obtain ⟨A, c, rfl⟩ := Hown.out.len
    by_cases hlt6 : k < 6
    · obtain ⟨nm, hnm, hix⟩ := names_ix k hlt6
      by_cases hz : (xs.length : Int) < z
      · go_wp2_with fail
        ((with_reducible refine (flip_any b (m + k * 7) _ _ hg.s (by omega) (by omega) (by omega)).mono ?_); rintro e w2 ⟨r2, rfl, hk_w2, hs_w2⟩)
        have g2 := hg.step hk_w2 hs_w2
        have Ho2 := Lib.hid (Hown.out.stepG hk_w2 hlt)
        clear hk_w2 hs_w2 Hown hg hix
        cases r2
        · go_wp2_with fail
          go_roundw
          case rel => exact ⟨k + 1, xs, by omega, by go_num, Ho2.out, by omega, Hti.out, g2.mono (by omega)⟩
          case measure => simp [intOf]; omega
        · go_wp2_with fail
          ((with_reducible refine (value_any b (m + k * 7 + 1) _ g2.s (by omega)).mono ?_); rintro e w3 ⟨vk, vt, vn, vt_le, rfl, hk_w3, hs_w3⟩)
          have g3 := g2.step hk_w3 hs_w3
          have hz3 := g3.size
          have Ho3 := Lib.hid (Ho2.out.stepG hk_w3 hlt)
          clear hk_w3 hs_w3 Ho2 g2
          go_wp2_with (at_builtin; refine app_flat (w0 := w3) flatFld tyFld rfl _ _ rfl (Off b) w.heap.size _ xs ⟨nm, vk, vt, vn⟩ _ rfl Ho3.out rfl rfl (oneFld _) (by omega) (by omega) (by decide) ?_; intro v' w4 ho4 hl4)
          go_roundw
          case rel => exact ⟨k + 1, xs ++ [⟨nm, vk, vt, vn⟩], by omega, by go_num, ho4, by simp; omega, tiny_snoc Hti.out ⟨by show nm.size ≤ _; omega, vt_le⟩, (g3.belowB hl4 hlt).mono (by omega)⟩
          case measure => simp [intOf]; omega
      · have hz' : decide ((xs.length : Int) < z) = false := by simpa using hz
        go_wp2_with fail
        go_roundw
        case rel => exact ⟨k + 1, xs, by omega, by go_num, Hown.out, by omega, Hti.out, hg.mono (by omega)⟩
        case measure => simp [intOf]; omega
    · go_wp2_with fail
      ((with_reducible refine (flip_any b (m + k * 7) _ _ hg.s (by omega) (by omega) (by omega)).mono ?_); rintro e w2 ⟨r2, rfl, hk_w2, hs_w2⟩)
      have g2 := hg.step hk_w2 hs_w2
      have Ho2 := Lib.hid (Hown.out.stepG hk_w2 hlt)
      clear hk_w2 hs_w2 Hown hg
      cases r2
      · go_wp2_with fail
        go_ret
        exact ⟨_, xs, rfl, Ho2.out, by omega, Hti.out, g2.mono (by omega)⟩
      · go_wp2_with fail
        ((with_reducible refine (repeat_le ⟨#[122]⟩ 41 1000 _ (by decide) (by decide) (by decide) (by decide)).mono ?_); rintro e w3 ⟨ra, ra_le, rfl, hl_w3⟩)
        have g3 := g2.below hl_w3
        have Ho3 := Lib.hid (Ho2.out.stepG (SK.ofBelow hl_w3) hlt)
        clear hl_w3 g2 Ho2
        go_wp2_with fail
        ((with_reducible refine (one_le b _ _ _ 1000 g3.s (by simp) (by simp) (by repeat (first | exact strsLe_nil | refine strsLe_cons (by first | omega | decide) ?_)) (by simp) (by simp) (by omega)).mono ?_); rintro e w4 ⟨nm, nm_le, rfl, hk_w4, hs_w4⟩)
        have g4 := g3.step hk_w4 hs_w4
        have Ho4 := Lib.hid (Ho3.out.stepG hk_w4 hlt)
        clear hk_w4 hs_w4 g3 Ho3
        go_wp2_with fail
        ((with_reducible refine (value_any b _ _ g4.s (by omega)).mono ?_); rintro e w5 ⟨vk, vt, vn, vt_le, rfl, hk_w5, hs_w5⟩)
        have g5 := g4.step hk_w5 hs_w5
        have Ho5 := Lib.hid (Ho4.out.stepG hk_w5 hlt)
        have hz5 := g5.size
        clear hk_w5 hs_w5 g4 Ho4
        go_wp2_with (at_builtin; refine app_flat (w0 := w5) flatFld tyFld rfl _ _ rfl (Off b) w.heap.size _ xs ⟨nm, vk, vt, vn⟩ _ rfl Ho5.out rfl rfl (oneFld _) (by omega) (by omega) (by decide) ?_; intro v' w6 ho6 hl6)
        go_ret
        exact ⟨v', xs ++ [⟨nm, vk, vt, vn⟩], rfl, ho6, by simp; omega, tiny_snoc Hti.out ⟨nm_le, vt_le⟩, (g5.belowB hl6 hlt).mono (by omega)⟩
end Go.Proofs.YteabhkmhogmoiaaGreatDoor

/- What the generators SpoiledId and Id make. -/
namespace Go.Proofs.YteabhkmhogmoiaaGreatDoor
open Go.RowKit
def Pool (w : World) : Prop := ∀ i, i < 10 → ∃ (k : Int) (t : ByteArray), t.size ≤ 100 ∧ w.cell? ⟨1, i * 2, none⟩ = some (.int .i64 k) ∧ w.cell? ⟨1, i * 2 + 1, none⟩ = some (.string t)
theorem Pool.lt {w : World} (h : Pool w) : 1 < w.heap.size := by
  obtain ⟨k, t, _, h1, _⟩ := h 0 (by omega)
  exact World.block_lt_of_cell? w _ h1
theorem Pool.keep {b : Nat} {w w' : World} (h : Pool w) (k : SK b w w') (hb : 1 ≠ b) : Pool w' := fun i hi => by
  obtain ⟨z, t, h0, h1, h2⟩ := h i hi
  exact ⟨z, t, h0, (World.cell?_of_block (k.block _ h.lt hb)).trans h1, (World.cell?_of_block (k.block _ h.lt hb)).trans h2⟩
def DrawsId (b m : Nat) (w : World) (e : Ending) (w' : World) : Prop := ∃ (k : Int) (t : ByteArray), t.size ≤ 10000 ∧ e = .returned (.agg #[.int .i64 k, .string t]) ∧ SK b w w' ∧ Strm b m w'
set_option maxHeartbeats 4000000 in
set_option maxRecDepth 100000 in
theorem spoiledId_any (b m : Nat) (w : World) (hs : Strm b m w) (hm : m ≤ 10000000000) (hP : Pool w) (hPb : 1 ≠ b) :
    Calls Tryz.prog 106 #[.pointer (some ⟨b, 0, none⟩)] w (DrawsId b (m + 9) w) := by
  have hlt := hs.lt
  have HP := Lib.hid hP
  have hPlt := hP.lt
  clear hP
  have g0 := (G.start hs).alloc (.cells #[.int .i64 0, .string ⟨#[]⟩] 35)
  have bR0 := LV.new w w.heap.size #[.int .i64 0, .string ⟨#[]⟩] 35 rfl
  go_enter Tryz.func106, Tryz.ntmps106
  go_wp2_with fail
  ((with_reducible refine (next_any b m _ _ g0.s (by omega) (by omega) (by omega)).mono ?_); rintro e w1 ⟨i, i_lo, i_hi, rfl, hk_w1, hs_w1⟩)
  have hz1 := hk_w1.size
  simp only [World.size_alloc] at hz1
  obtain ⟨j, rfl⟩ := Int.eq_ofNat_of_zero_le i_lo
  have HP1 : Hid (Pool w1) := (HP.out.keep (SK.ofBelow (b := b) ((Below.refl _ _).alloc (Nat.le_refl _) (.cells #[.int .i64 0, .string ⟨#[]⟩] 35))) hPb).keep hk_w1 hPb
  obtain ⟨k, t, t_le, pc0, pc1⟩ := HP1.out j (by omega)
  have g1 := (g0.step hk_w1 hs_w1).alloc (.cells #[.int .i64 k, .string t] 35)
  have bR1 := (LV.keep bR0 hk_w1 (by omega)).alloc (.cells #[.int .i64 k, .string t] 35)
  have bX1 := LV.new w1 w1.heap.size #[.int .i64 k, .string t] 35 rfl
  clear hk_w1 hs_w1 bR0 g0 HP HP1
  go_wp2_with fail
  ((with_reducible refine (next_any b _ _ _ g1.s (by omega) (by omega) (by omega)).mono ?_); rintro e w2 ⟨r, r_lo, r_hi, rfl, hk_w2, hs_w2⟩)
  clear pc0 pc1
  have g2 := g1.step hk_w2 hs_w2
  have bX2 := LV.keep bX1 hk_w2 (by omega)
  have bR2 := LV.keep bR1 hk_w2 (by omega)
  clear hk_w2 hs_w2 g1 bX1 bR1
  by_cases h0 : r = 0
  · subst h0
    go_wp2_with fail
    ((with_reducible refine (pick_le b _ _ _ 0 5 g2.s (by simp) (by simp) (intsIn_of (by decide)) (by simp) (by simp) (by omega)).mono ?_); rintro e w3 ⟨k3, k3_lo, k3_hi, rfl, hk_w3, hs_w3⟩)
    have g3 := g2.step hk_w3 hs_w3
    have bX3 := LV.keep bX2 hk_w3 (by omega)
    have bR3 := LV.keep bR2 hk_w3 (by omega)
    clear hk_w3 hs_w3 g2 bX2 bR2
    have g4 := g3.set (X := w1.heap.size) (by omega) (by omega) 0 (.int .i64 k3)
    have bX4 := bX3.set 0 (.int .i64 k3) #[.int .i64 k3, .string t] rfl
    have bR4 := bR3.other (Y := w1.heap.size) (by omega) 0 (.int .i64 k3)
    have bX3_c0 := bX3.cell 0 _ rfl
    have bX3_c1 := bX3.cell 1 _ rfl
    have bX3_f0 := bX3.free 0
    have bX3_f1 := bX3.free 1
    clear bX3 bR3 g3
    have gf := (g4.set (X := w.heap.size) (by omega) (Nat.le_refl _) 0 (.int .i64 k3)).set (X := w.heap.size) (by omega) (Nat.le_refl _) 1 (.string t)
    have bX4_c0 := bX4.cell 0 _ rfl
    have bX4_c1 := bX4.cell 1 _ rfl
    have bX4_f0 := bX4.free 0
    have bX4_f1 := bX4.free 1
    have bR4_c0 := bR4.cell 0 _ rfl
    have bR4_c1 := bR4.cell 1 _ rfl
    have bR4_f0 := bR4.free 0
    have bR4_f1 := bR4.free 1
    clear g4 bX4 bR4
    go_wp2_with fail
    exact bodyPost_ret (v := .agg #[.int .i64 k3, .string t]) (by simp [results, Tryz.results106, go_sem, bR4_c0, bR4_c1]) rfl ⟨_, _, (by omega), rfl, gf.k, gf.s.mono (by omega)⟩
  · have h0' : (r == 0) = false := by simpa using h0
    by_cases h1 : r = 1
    · subst h1
      clear h0 h0'
      go_wp2_with fail
      ((with_reducible refine (repeat_le ⟨#[97]⟩ 65 1000 _ (by decide) (by decide) (by decide) (by decide)).mono ?_); rintro e w3 ⟨ra, ra_le, rfl, hl_w3⟩)
      have g3 := g2.below hl_w3
      have bX3 := LV.keep bX2 (SK.ofBelow (b := b) hl_w3) (by omega)
      have bR3 := LV.keep bR2 (SK.ofBelow (b := b) hl_w3) (by omega)
      clear hl_w3 bX2 bR2 g2
      go_wp2_with fail
      ((with_reducible refine (repeat_le ⟨#[98]⟩ 31 1000 _ (by decide) (by decide) (by decide) (by decide)).mono ?_); rintro e w4 ⟨rb, rb_le, rfl, hl_w4⟩)
      have g4 := g3.below hl_w4
      have bX4 := LV.keep bX3 (SK.ofBelow (b := b) hl_w4) (by omega)
      have bR4 := LV.keep bR3 (SK.ofBelow (b := b) hl_w4) (by omega)
      clear hl_w4 bX3 bR3 g3
      go_wp2_with fail
      ((with_reducible refine (repeat_le ⟨#[97]⟩ 64 1000 _ (by decide) (by decide) (by decide) (by decide)).mono ?_); rintro e w5 ⟨rc, rc_le, rfl, hl_w5⟩)
      have g5 := g4.below hl_w5
      have bX5 := LV.keep bX4 (SK.ofBelow (b := b) hl_w5) (by omega)
      have bR5 := LV.keep bR4 (SK.ofBelow (b := b) hl_w5) (by omega)
      clear hl_w5 bX4 bR4 g4
      go_wp2_with fail
      ((with_reducible refine (repeat_le ⟨#[98]⟩ 12 1000 _ (by decide) (by decide) (by decide) (by decide)).mono ?_); rintro e w6 ⟨rd, rd_le, rfl, hl_w6⟩)
      have g6 := g5.below hl_w6
      have bX6 := LV.keep bX5 (SK.ofBelow (b := b) hl_w6) (by omega)
      have bR6 := LV.keep bR5 (SK.ofBelow (b := b) hl_w6) (by omega)
      clear hl_w6 bX5 bR5 g5
      have l1 : (⟨#[64, 98, 46, 100, 101]⟩ : ByteArray).size = 5 := rfl
      have l2 : (⟨#[97, 64]⟩ : ByteArray).size = 2 := rfl
      have l3 : (⟨#[46, 100, 101]⟩ : ByteArray).size = 3 := rfl
      have l4 : (⟨#[64]⟩ : ByteArray).size = 1 := rfl
      have L1 := Lib.hid l1
      have L2 := Lib.hid l2
      have L3 := Lib.hid l3
      have L4 := Lib.hid l4
      clear l1 l2 l3 l4
      go_wp2_with fail
      ((with_reducible refine (one_le b _ _ _ 5000 g6.s (by simp) (by simp) (by repeat (first | exact strsLe_nil | refine strsLe_cons (by first | decide | (simp only [ByteArray.size_append, L1.out, L2.out, L3.out, L4.out]; omega)) ?_)) (by simp) (by simp) (by omega)).mono ?_); rintro e w7 ⟨t7, t7_le, rfl, hk_w7, hs_w7⟩)
      have g7 := g6.step hk_w7 hs_w7
      have bX7 := LV.keep bX6 hk_w7 (by omega)
      have bR7 := LV.keep bR6 hk_w7 (by omega)
      clear hk_w7 hs_w7 g6 bX6 bR6
      have g8 := g7.set (X := w1.heap.size) (by omega) (by omega) 1 (.string t7)
      have bX8 := bX7.set 1 (.string t7) #[.int .i64 k, .string t7] rfl
      have bR8 := bR7.other (Y := w1.heap.size) (by omega) 1 (.string t7)
      have bX7_c0 := bX7.cell 0 _ rfl
      have bX7_c1 := bX7.cell 1 _ rfl
      have bX7_f0 := bX7.free 0
      have bX7_f1 := bX7.free 1
      clear bX7 bR7 g7
      have gf := (g8.set (X := w.heap.size) (by omega) (Nat.le_refl _) 0 (.int .i64 k)).set (X := w.heap.size) (by omega) (Nat.le_refl _) 1 (.string t7)
      have bX8_c0 := bX8.cell 0 _ rfl
      have bX8_c1 := bX8.cell 1 _ rfl
      have bX8_f0 := bX8.free 0
      have bX8_f1 := bX8.free 1
      have bR8_c0 := bR8.cell 0 _ rfl
      have bR8_c1 := bR8.cell 1 _ rfl
      have bR8_f0 := bR8.free 0
      have bR8_f1 := bR8.free 1
      clear g8 bX8 bR8
      go_wp2_with fail
      exact bodyPost_ret (v := .agg #[.int .i64 k, .string t7]) (by simp [results, Tryz.results106, go_sem, bR8_c0, bR8_c1]) rfl ⟨_, _, (by omega), rfl, gf.k, gf.s.mono (by omega)⟩
    · have h1' : (r == 1) = false := by simpa using h1
      clear h0 h1
      have bX2_c0 := bX2.cell 0 _ rfl
      have bX2_c1 := bX2.cell 1 _ rfl
      have bX2_f0 := bX2.free 0
      have bX2_f1 := bX2.free 1
      go_wp2_with fail
      ((with_reducible refine (changed_any b _ t _ _ g2.s (by omega) (by decide) (by omega)).mono ?_); rintro e w3 ⟨t3, t3_le, rfl, hk_w3, hs_w3⟩)
      clear bX2_c0 bX2_c1 bX2_f0 bX2_f1
      have g3 := g2.step hk_w3 hs_w3
      have bX3 := LV.keep bX2 hk_w3 (by omega)
      have bR3 := LV.keep bR2 hk_w3 (by omega)
      clear hk_w3 hs_w3 g2 bX2 bR2
      have g4 := g3.set (X := w1.heap.size) (by omega) (by omega) 1 (.string t3)
      have bX4 := bX3.set 1 (.string t3) #[.int .i64 k, .string t3] rfl
      have bR4 := bR3.other (Y := w1.heap.size) (by omega) 1 (.string t3)
      have e10 : (⟨#[97, 98, 48, 64, 46, 45, 43, 95, 65, 90]⟩ : ByteArray).size = 10 := rfl
      have t4_le : t3.size ≤ 10000 := by rw [e10] at t3_le; omega
      clear e10
      have bX3_c0 := bX3.cell 0 _ rfl
      have bX3_c1 := bX3.cell 1 _ rfl
      have bX3_f0 := bX3.free 0
      have bX3_f1 := bX3.free 1
      clear bX3 bR3 g3 t3_le
      have gf := (g4.set (X := w.heap.size) (by omega) (Nat.le_refl _) 0 (.int .i64 k)).set (X := w.heap.size) (by omega) (Nat.le_refl _) 1 (.string t3)
      have bX4_c0 := bX4.cell 0 _ rfl
      have bX4_c1 := bX4.cell 1 _ rfl
      have bX4_f0 := bX4.free 0
      have bX4_f1 := bX4.free 1
      have bR4_c0 := bR4.cell 0 _ rfl
      have bR4_c1 := bR4.cell 1 _ rfl
      have bR4_f0 := bR4.free 0
      have bR4_f1 := bR4.free 1
      clear g4 bX4 bR4
      go_wp2_with fail
      exact bodyPost_ret (v := .agg #[.int .i64 k, .string t3]) (by simp [results, Tryz.results106, go_sem, bR4_c0, bR4_c1]) rfl ⟨_, _, t4_le, rfl, gf.k, gf.s.mono (by omega)⟩
set_option maxHeartbeats 4000000 in
set_option maxRecDepth 100000 in
theorem id_any (b m : Nat) (w : World) (hs : Strm b m w) (hm : m ≤ 1000000000) (hP : Pool w) (hPb : 1 ≠ b) :
    Calls Tryz.prog 53 #[.pointer (some ⟨b, 0, none⟩)] w (DrawsId b (m + 10) w) := by
  have hlt := hs.lt
  have hPlt := hP.lt
  have HP0 : Hid (Pool (w.alloc (.cells #[.int .i64 0, .string ⟨#[]⟩] 35))) := hP.keep (SK.ofBelow (b := b) ((Below.refl _ _).alloc (Nat.le_refl _) _)) hPb
  clear hP
  have g0 := (G.start hs).alloc (.cells #[.int .i64 0, .string ⟨#[]⟩] 35)
  have bR0 := LV.new w w.heap.size #[.int .i64 0, .string ⟨#[]⟩] 35 rfl
  go_enter Tryz.func53, Tryz.ntmps53
  go_wp2_with fail
  ((with_reducible refine (flip_any b m _ _ g0.s (by omega) (by omega) (by omega)).mono ?_); rintro e w1 ⟨r, rfl, hk_w1, hs_w1⟩)
  have HP1 : Hid (Pool w1) := HP0.out.keep hk_w1 hPb
  have g1 := g0.step hk_w1 hs_w1
  have bR1 := LV.keep bR0 hk_w1 (by omega)
  clear hk_w1 hs_w1 g0 bR0 HP0
  cases r
  · go_wp2_with fail
    ((with_reducible refine (next_any b _ _ _ g1.s (by omega) (by omega) (by omega)).mono ?_); rintro e w2 ⟨i, i_lo, i_hi, rfl, hk_w2, hs_w2⟩)
    obtain ⟨j, rfl⟩ := Int.eq_ofNat_of_zero_le i_lo
    have HP2 : Hid (Pool w2) := HP1.out.keep hk_w2 hPb
    obtain ⟨k, t, t_le, pc0, pc1⟩ := HP2.out j (by omega)
    have g2 := g1.step hk_w2 hs_w2
    have bR2 := LV.keep bR1 hk_w2 (by omega)
    have gf := (g2.set (X := w.heap.size) (by omega) (Nat.le_refl _) 0 (.int .i64 k)).set (X := w.heap.size) (by omega) (Nat.le_refl _) 1 (.string t)
    have bR2_c0 := bR2.cell 0 _ rfl
    have bR2_c1 := bR2.cell 1 _ rfl
    have bR2_f0 := bR2.free 0
    have bR2_f1 := bR2.free 1
    clear hk_w2 hs_w2 g1 bR1 g2 bR2 HP1 HP2
    go_wp2_with fail
    exact bodyPost_ret (v := .agg #[.int .i64 k, .string t]) (by simp [results, Tryz.results53, go_sem, bR2_c0, bR2_c1]) rfl ⟨_, _, (by omega), rfl, gf.k, gf.s.mono (by omega)⟩
  · go_wp2_with fail
    ((with_reducible refine (spoiledId_any b _ _ g1.s (by omega) HP1.out hPb).mono ?_); rintro e w2 ⟨k, t, t_le, rfl, hk_w2, hs_w2⟩)
    have g2 := g1.step hk_w2 hs_w2
    have bR2 := LV.keep bR1 hk_w2 (by omega)
    have gf := (g2.set (X := w.heap.size) (by omega) (Nat.le_refl _) 0 (.int .i64 k)).set (X := w.heap.size) (by omega) (Nat.le_refl _) 1 (.string t)
    have bR2_c0 := bR2.cell 0 _ rfl
    have bR2_c1 := bR2.cell 1 _ rfl
    have bR2_f0 := bR2.free 0
    have bR2_f1 := bR2.free 1
    clear hk_w2 hs_w2 g1 bR1 g2 bR2 HP1
    go_wp2_with fail
    exact bodyPost_ret (v := .agg #[.int .i64 k, .string t]) (by simp [results, Tryz.results53, go_sem, bR2_c0, bR2_c1]) rfl ⟨_, _, t_le, rfl, gf.k, gf.s.mono (by omega)⟩
end Go.Proofs.YteabhkmhogmoiaaGreatDoor
