/- Several texts in one: GenVal, GenFlds, Same. -/
import Derived.Test.YtmlpkejeglpciaaGreatDoorPkAB
import Derived.Test.YtmlpkejeglpciaaGreatDoorPkAC
import Derived.Test.YtmlpkejeglpciaaGreatDoorShelf
import Derived.Test.YtmlpkejeglpciaaGreatDoorPkAL
import Derived.Test.YtmlpkejeglpciaaGreatDoorPkAD
import Derived.Test.YtmlpkejeglpciaaGreatDoorPkAE
import Derived.Test.YtmlpkejeglpciaaGreatDoorPkAG
/- What the generator Value makes. -/
namespace Go.Proofs.YtmlpkejeglpciaaGreatDoor
open Go.RowKit
def DrawsVal (b m : Nat) (w : World) (e : Ending) (w' : World) : Prop := ∃ (k : Int) (t : ByteArray) (n : Int), t.size ≤ 1000 ∧ e = .returned (.agg #[.int .i64 k, .string t, .int .i64 n]) ∧ SK b w w' ∧ Strm b m w'
set_option maxHeartbeats 4000000 in
set_option maxRecDepth 100000 in
theorem value_any (b m : Nat) (w : World) (hs : Strm b m w) (hm : m ≤ 100000000000) :
    Calls Tryz.prog 116 #[.pointer (some ⟨b, 0, none⟩)] w (DrawsVal b (m + 6) w) := by
  have hlt := hs.lt
  have g0 := (G.start hs).alloc (.cells #[.int .i64 0, .string ⟨#[]⟩, .int .i64 0] 121)
  have bR0 := LV.new w w.heap.size #[.int .i64 0, .string ⟨#[]⟩, .int .i64 0] 121 rfl
  go_enter Tryz.func116, Tryz.ntmps116
  go_wp2_with fail
  refine (pick_le b m _ _ 1 4 g0.s (by simp) (by simp) (intsIn_of (by decide)) (by simp) (by simp) (by omega)).mono ?_
  rintro e w1 ⟨k, k_lo, k_hi, rfl, hk_w1, hs_w1⟩
  have g1 := (g0.step hk_w1 hs_w1).alloc (.cells #[.int .i64 k, .string ⟨#[]⟩, .int .i64 0] 121)
  have bR1 := (LV.keep bR0 hk_w1 (by omega)).alloc (.cells #[.int .i64 k, .string ⟨#[]⟩, .int .i64 0] 121)
  have bX1 := LV.new w1 w1.heap.size #[.int .i64 k, .string ⟨#[]⟩, .int .i64 0] 121 rfl
  have hz1 := hk_w1.size
  simp only [World.size_alloc] at hz1
  clear hk_w1 hs_w1 bR0 g0
  have hkk : k = 1 ∨ k = 2 ∨ k = 3 ∨ k = 4 := by omega
  clear k_lo k_hi
  rcases hkk with hk | hk | hk | hk
  all_goals subst hk
  · go_wp2_with fail
    refine (one_le b (m + 1) _ _ 100 g1.s (by simp) (by simp) (strsLe_of (by decide)) (by simp) (by simp) (by omega)).mono ?_
    rintro e w2 ⟨t, t_le, rfl, hk_w2, hs_w2⟩
    have g2 := g1.step hk_w2 hs_w2
    have bR2 := LV.keep bR1 hk_w2 (by omega)
    have bX2 := LV.keep bX1 hk_w2 (by omega)
    clear hk_w2 hs_w2 bR1 bX1 g1
    have h4 := g2.set (X := w1.heap.size) (by omega) (by omega) 1 (.string t)
    have bX4 := bX2.set 1 (.string t) #[.int .i64 1, .string t, .int .i64 0] rfl
    have bR4 := bR2.other (Y := w1.heap.size) (by omega) 1 (.string t)
    have bX2_c0 := bX2.cell 0 _ rfl
    have bX2_c1 := bX2.cell 1 _ rfl
    have bX2_c2 := bX2.cell 2 _ rfl
    have bX2_f0 := bX2.free 0
    have bX2_f1 := bX2.free 1
    have bX2_f2 := bX2.free 2
    clear bX2 bR2 g2
    go_wp2_with fail
    refine (flip_any b (m + 2) _ _ h4.s (by omega) (by omega) (by omega)).mono ?_
    rintro e w3 ⟨r3, rfl, hk_w3, hs_w3⟩
    have g3 := h4.step hk_w3 hs_w3
    have bX3 := LV.keep bX4 hk_w3 (by omega)
    have bR3 := LV.keep bR4 hk_w3 (by omega)
    clear hk_w3 hs_w3 h4 bX4 bR4
    cases r3
    · have gf := ((g3.set (X := w.heap.size) (by omega) (Nat.le_refl _) 0 (.int .i64 1)).set (X := w.heap.size) (by omega) (Nat.le_refl _) 1 (.string t)).set (X := w.heap.size) (by omega) (Nat.le_refl _) 2 (.int .i64 0)
      have bX3_c0 := bX3.cell 0 _ rfl
      have bX3_c1 := bX3.cell 1 _ rfl
      have bX3_c2 := bX3.cell 2 _ rfl
      have bX3_f0 := bX3.free 0
      have bX3_f1 := bX3.free 1
      have bX3_f2 := bX3.free 2
      have bR3_c0 := bR3.cell 0 _ rfl
      have bR3_c1 := bR3.cell 1 _ rfl
      have bR3_c2 := bR3.cell 2 _ rfl
      have bR3_f0 := bR3.free 0
      have bR3_f1 := bR3.free 1
      have bR3_f2 := bR3.free 2
      clear g3 bX3 bR3
      go_wp2_with fail
      exact bodyPost_ret (v := .agg #[.int .i64 1, .string t, .int .i64 0]) (by simp [results, Tryz.results116, go_sem, bR3_c0, bR3_c1, bR3_c2]) rfl ⟨_, _, _, (by omega), rfl, gf.k, gf.s.mono (by omega)⟩
    · go_wp2_with fail
      refine (next_any b (m + 3) _ _ g3.s (by omega) (by omega) (by omega)).mono ?_
      rintro e w4 ⟨r4, r4_lo, r4_hi, rfl, hk_w4, hs_w4⟩
      have g4 := g3.step hk_w4 hs_w4
      have bX4 := LV.keep bX3 hk_w4 (by omega)
      have bR4 := LV.keep bR3 hk_w4 (by omega)
      clear hk_w4 hs_w4 g3 bX3 bR3
      by_cases h40 : r4 = 0
      · subst h40
        go_wp2_with fail
        refine (pick_le b (m + 4) _ _ 0 5 g4.s (by simp) (by simp) (intsIn_of (by decide)) (by simp) (by simp) (by omega)).mono ?_
        rintro e w5 ⟨k5, k5_lo, k5_hi, rfl, hk_w5, hs_w5⟩
        have g5 := g4.step hk_w5 hs_w5
        have bX5 := LV.keep bX4 hk_w5 (by omega)
        have bR5 := LV.keep bR4 hk_w5 (by omega)
        clear hk_w5 hs_w5 g4 bX4 bR4
        have g6 := g5.set (X := w1.heap.size) (by omega) (by omega) 0 (.int .i64 k5)
        have bX6 := bX5.set 0 (.int .i64 k5) #[.int .i64 k5, .string t, .int .i64 0] rfl
        have bR6 := bR5.other (Y := w1.heap.size) (by omega) 0 (.int .i64 k5)
        have bX5_c0 := bX5.cell 0 _ rfl
        have bX5_c1 := bX5.cell 1 _ rfl
        have bX5_c2 := bX5.cell 2 _ rfl
        have bX5_f0 := bX5.free 0
        have bX5_f1 := bX5.free 1
        have bX5_f2 := bX5.free 2
        clear bX5 bR5 g5
        have gf := ((g6.set (X := w.heap.size) (by omega) (Nat.le_refl _) 0 (.int .i64 k5)).set (X := w.heap.size) (by omega) (Nat.le_refl _) 1 (.string t)).set (X := w.heap.size) (by omega) (Nat.le_refl _) 2 (.int .i64 0)
        have bX6_c0 := bX6.cell 0 _ rfl
        have bX6_c1 := bX6.cell 1 _ rfl
        have bX6_c2 := bX6.cell 2 _ rfl
        have bX6_f0 := bX6.free 0
        have bX6_f1 := bX6.free 1
        have bX6_f2 := bX6.free 2
        have bR6_c0 := bR6.cell 0 _ rfl
        have bR6_c1 := bR6.cell 1 _ rfl
        have bR6_c2 := bR6.cell 2 _ rfl
        have bR6_f0 := bR6.free 0
        have bR6_f1 := bR6.free 1
        have bR6_f2 := bR6.free 2
        clear g6 bX6 bR6
        go_wp2_with fail
        exact bodyPost_ret (v := .agg #[.int .i64 k5, .string t, .int .i64 0]) (by simp [results, Tryz.results116, go_sem, bR6_c0, bR6_c1, bR6_c2]) rfl ⟨_, _, _, (by omega), rfl, gf.k, gf.s.mono (by omega)⟩
      · have h40' : (r4 == 0) = false := by simpa using h40
        by_cases h41 : r4 = 1
        · subst h41
          clear h40 h40'
          go_wp2_with fail
          refine (pick_le b (m + 4) _ _ (-1) 1000000000001 g4.s (by simp) (by simp) (intsIn_of (by decide)) (by simp) (by simp) (by omega)).mono ?_
          rintro e w5 ⟨n5, n5_lo, n5_hi, rfl, hk_w5, hs_w5⟩
          have g5 := g4.step hk_w5 hs_w5
          have bX5 := LV.keep bX4 hk_w5 (by omega)
          have bR5 := LV.keep bR4 hk_w5 (by omega)
          clear hk_w5 hs_w5 g4 bX4 bR4
          have g6 := g5.set (X := w1.heap.size) (by omega) (by omega) 2 (.int .i64 n5)
          have bX6 := bX5.set 2 (.int .i64 n5) #[.int .i64 1, .string t, .int .i64 n5] rfl
          have bR6 := bR5.other (Y := w1.heap.size) (by omega) 2 (.int .i64 n5)
          have bX5_c0 := bX5.cell 0 _ rfl
          have bX5_c1 := bX5.cell 1 _ rfl
          have bX5_c2 := bX5.cell 2 _ rfl
          have bX5_f0 := bX5.free 0
          have bX5_f1 := bX5.free 1
          have bX5_f2 := bX5.free 2
          clear bX5 bR5 g5
          have gf := ((g6.set (X := w.heap.size) (by omega) (Nat.le_refl _) 0 (.int .i64 1)).set (X := w.heap.size) (by omega) (Nat.le_refl _) 1 (.string t)).set (X := w.heap.size) (by omega) (Nat.le_refl _) 2 (.int .i64 n5)
          have bX6_c0 := bX6.cell 0 _ rfl
          have bX6_c1 := bX6.cell 1 _ rfl
          have bX6_c2 := bX6.cell 2 _ rfl
          have bX6_f0 := bX6.free 0
          have bX6_f1 := bX6.free 1
          have bX6_f2 := bX6.free 2
          have bR6_c0 := bR6.cell 0 _ rfl
          have bR6_c1 := bR6.cell 1 _ rfl
          have bR6_c2 := bR6.cell 2 _ rfl
          have bR6_f0 := bR6.free 0
          have bR6_f1 := bR6.free 1
          have bR6_f2 := bR6.free 2
          clear g6 bX6 bR6
          go_wp2_with fail
          exact bodyPost_ret (v := .agg #[.int .i64 1, .string t, .int .i64 n5]) (by simp [results, Tryz.results116, go_sem, bR6_c0, bR6_c1, bR6_c2]) rfl ⟨_, _, _, (by omega), rfl, gf.k, gf.s.mono (by omega)⟩
        · have h41' : (r4 == 1) = false := by simpa using h41
          go_wp2_with fail
          go_wp2_with fail
          refine (repeat_le ⟨#[97]⟩ 200 1000 _ (by decide) (by decide) (by decide) (by decide)).mono ?_
          rintro e w5 ⟨ra, ra_le, rfl, hl_w5⟩
          have g5 := g4.below hl_w5
          have bX5 := LV.keep bX4 (SK.ofBelow (b := b) hl_w5) (by omega)
          have bR5 := LV.keep bR4 (SK.ofBelow (b := b) hl_w5) (by omega)
          clear hl_w5 bX4 bR4 g4
          go_wp2_with fail
          refine (repeat_le ⟨#[97]⟩ 201 1000 _ (by decide) (by decide) (by decide) (by decide)).mono ?_
          rintro e w6 ⟨rb, rb_le, rfl, hl_w6⟩
          have g6 := g5.below hl_w6
          have bX6 := LV.keep bX5 (SK.ofBelow (b := b) hl_w6) (by omega)
          have bR6 := LV.keep bR5 (SK.ofBelow (b := b) hl_w6) (by omega)
          clear hl_w6 bX5 bR5 g5
          go_wp2_with fail
          refine (one_le b (m + 4) _ _ 1000 g6.s (by simp) (by simp) (by repeat (first | exact strsLe_nil | refine strsLe_cons (by first | omega | decide) ?_)) (by simp) (by simp) (by omega)).mono ?_
          rintro e w7 ⟨t7, t7_le, rfl, hk_w7, hs_w7⟩
          have g7 := g6.step hk_w7 hs_w7
          have bX7 := LV.keep bX6 hk_w7 (by omega)
          have bR7 := LV.keep bR6 hk_w7 (by omega)
          clear hk_w7 hs_w7 g6 bX6 bR6
          have g8 := g7.set (X := w1.heap.size) (by omega) (by omega) 1 (.string t7)
          have bX8 := bX7.set 1 (.string t7) #[.int .i64 1, .string t7, .int .i64 0] rfl
          have bR8 := bR7.other (Y := w1.heap.size) (by omega) 1 (.string t7)
          have bX7_c0 := bX7.cell 0 _ rfl
          have bX7_c1 := bX7.cell 1 _ rfl
          have bX7_c2 := bX7.cell 2 _ rfl
          have bX7_f0 := bX7.free 0
          have bX7_f1 := bX7.free 1
          have bX7_f2 := bX7.free 2
          clear bX7 bR7 g7
          have gf := ((g8.set (X := w.heap.size) (by omega) (Nat.le_refl _) 0 (.int .i64 1)).set (X := w.heap.size) (by omega) (Nat.le_refl _) 1 (.string t7)).set (X := w.heap.size) (by omega) (Nat.le_refl _) 2 (.int .i64 0)
          have bX8_c0 := bX8.cell 0 _ rfl
          have bX8_c1 := bX8.cell 1 _ rfl
          have bX8_c2 := bX8.cell 2 _ rfl
          have bX8_f0 := bX8.free 0
          have bX8_f1 := bX8.free 1
          have bX8_f2 := bX8.free 2
          have bR8_c0 := bR8.cell 0 _ rfl
          have bR8_c1 := bR8.cell 1 _ rfl
          have bR8_c2 := bR8.cell 2 _ rfl
          have bR8_f0 := bR8.free 0
          have bR8_f1 := bR8.free 1
          have bR8_f2 := bR8.free 2
          clear g8 bX8 bR8
          go_wp2_with fail
          exact bodyPost_ret (v := .agg #[.int .i64 1, .string t7, .int .i64 0]) (by simp [results, Tryz.results116, go_sem, bR8_c0, bR8_c1, bR8_c2]) rfl ⟨_, _, _, t7_le, rfl, gf.k, gf.s.mono (by omega)⟩
  · go_wp2_with fail
    refine (pick_le b (m + 1) _ _ (-1000000000000) 1000000000000 g1.s (by simp) (by simp) (intsIn_of (by decide)) (by simp) (by simp) (by omega)).mono ?_
    rintro e w2 ⟨n, n_lo, n_hi, rfl, hk_w2, hs_w2⟩
    have g2 := g1.step hk_w2 hs_w2
    have bR2 := LV.keep bR1 hk_w2 (by omega)
    have bX2 := LV.keep bX1 hk_w2 (by omega)
    clear hk_w2 hs_w2 bR1 bX1 g1
    have h4 := g2.set (X := w1.heap.size) (by omega) (by omega) 2 (.int .i64 n)
    have bX4 := bX2.set 2 (.int .i64 n) #[.int .i64 2, .string ⟨#[]⟩, .int .i64 n] rfl
    have bR4 := bR2.other (Y := w1.heap.size) (by omega) 2 (.int .i64 n)
    have bX2_c0 := bX2.cell 0 _ rfl
    have bX2_c1 := bX2.cell 1 _ rfl
    have bX2_c2 := bX2.cell 2 _ rfl
    have bX2_f0 := bX2.free 0
    have bX2_f1 := bX2.free 1
    have bX2_f2 := bX2.free 2
    clear bX2 bR2 g2
    go_wp2_with fail
    refine (flip_any b (m + 2) _ _ h4.s (by omega) (by omega) (by omega)).mono ?_
    rintro e w3 ⟨r3, rfl, hk_w3, hs_w3⟩
    have g3 := h4.step hk_w3 hs_w3
    have bX3 := LV.keep bX4 hk_w3 (by omega)
    have bR3 := LV.keep bR4 hk_w3 (by omega)
    clear hk_w3 hs_w3 h4 bX4 bR4
    cases r3
    · have gf := ((g3.set (X := w.heap.size) (by omega) (Nat.le_refl _) 0 (.int .i64 2)).set (X := w.heap.size) (by omega) (Nat.le_refl _) 1 (.string (ByteArray.mk #[]))).set (X := w.heap.size) (by omega) (Nat.le_refl _) 2 (.int .i64 n)
      have bX3_c0 := bX3.cell 0 _ rfl
      have bX3_c1 := bX3.cell 1 _ rfl
      have bX3_c2 := bX3.cell 2 _ rfl
      have bX3_f0 := bX3.free 0
      have bX3_f1 := bX3.free 1
      have bX3_f2 := bX3.free 2
      have bR3_c0 := bR3.cell 0 _ rfl
      have bR3_c1 := bR3.cell 1 _ rfl
      have bR3_c2 := bR3.cell 2 _ rfl
      have bR3_f0 := bR3.free 0
      have bR3_f1 := bR3.free 1
      have bR3_f2 := bR3.free 2
      clear g3 bX3 bR3
      go_wp2_with fail
      exact bodyPost_ret (v := .agg #[.int .i64 2, .string (ByteArray.mk #[]), .int .i64 n]) (by simp [results, Tryz.results116, go_sem, bR3_c0, bR3_c1, bR3_c2]) rfl ⟨_, _, _, (by decide), rfl, gf.k, gf.s.mono (by omega)⟩
    · go_wp2_with fail
      refine (next_any b (m + 3) _ _ g3.s (by omega) (by omega) (by omega)).mono ?_
      rintro e w4 ⟨r4, r4_lo, r4_hi, rfl, hk_w4, hs_w4⟩
      have g4 := g3.step hk_w4 hs_w4
      have bX4 := LV.keep bX3 hk_w4 (by omega)
      have bR4 := LV.keep bR3 hk_w4 (by omega)
      clear hk_w4 hs_w4 g3 bX3 bR3
      by_cases h40 : r4 = 0
      · subst h40
        go_wp2_with fail
        refine (pick_le b (m + 4) _ _ 0 5 g4.s (by simp) (by simp) (intsIn_of (by decide)) (by simp) (by simp) (by omega)).mono ?_
        rintro e w5 ⟨k5, k5_lo, k5_hi, rfl, hk_w5, hs_w5⟩
        have g5 := g4.step hk_w5 hs_w5
        have bX5 := LV.keep bX4 hk_w5 (by omega)
        have bR5 := LV.keep bR4 hk_w5 (by omega)
        clear hk_w5 hs_w5 g4 bX4 bR4
        have g6 := g5.set (X := w1.heap.size) (by omega) (by omega) 0 (.int .i64 k5)
        have bX6 := bX5.set 0 (.int .i64 k5) #[.int .i64 k5, .string (ByteArray.mk #[]), .int .i64 n] rfl
        have bR6 := bR5.other (Y := w1.heap.size) (by omega) 0 (.int .i64 k5)
        have bX5_c0 := bX5.cell 0 _ rfl
        have bX5_c1 := bX5.cell 1 _ rfl
        have bX5_c2 := bX5.cell 2 _ rfl
        have bX5_f0 := bX5.free 0
        have bX5_f1 := bX5.free 1
        have bX5_f2 := bX5.free 2
        clear bX5 bR5 g5
        have gf := ((g6.set (X := w.heap.size) (by omega) (Nat.le_refl _) 0 (.int .i64 k5)).set (X := w.heap.size) (by omega) (Nat.le_refl _) 1 (.string (ByteArray.mk #[]))).set (X := w.heap.size) (by omega) (Nat.le_refl _) 2 (.int .i64 n)
        have bX6_c0 := bX6.cell 0 _ rfl
        have bX6_c1 := bX6.cell 1 _ rfl
        have bX6_c2 := bX6.cell 2 _ rfl
        have bX6_f0 := bX6.free 0
        have bX6_f1 := bX6.free 1
        have bX6_f2 := bX6.free 2
        have bR6_c0 := bR6.cell 0 _ rfl
        have bR6_c1 := bR6.cell 1 _ rfl
        have bR6_c2 := bR6.cell 2 _ rfl
        have bR6_f0 := bR6.free 0
        have bR6_f1 := bR6.free 1
        have bR6_f2 := bR6.free 2
        clear g6 bX6 bR6
        go_wp2_with fail
        exact bodyPost_ret (v := .agg #[.int .i64 k5, .string (ByteArray.mk #[]), .int .i64 n]) (by simp [results, Tryz.results116, go_sem, bR6_c0, bR6_c1, bR6_c2]) rfl ⟨_, _, _, (by decide), rfl, gf.k, gf.s.mono (by omega)⟩
      · have h40' : (r4 == 0) = false := by simpa using h40
        by_cases h41 : r4 = 1
        · subst h41
          clear h40 h40'
          go_wp2_with fail
          refine (pick_le b (m + 4) _ _ (-1) 1000000000001 g4.s (by simp) (by simp) (intsIn_of (by decide)) (by simp) (by simp) (by omega)).mono ?_
          rintro e w5 ⟨n5, n5_lo, n5_hi, rfl, hk_w5, hs_w5⟩
          have g5 := g4.step hk_w5 hs_w5
          have bX5 := LV.keep bX4 hk_w5 (by omega)
          have bR5 := LV.keep bR4 hk_w5 (by omega)
          clear hk_w5 hs_w5 g4 bX4 bR4
          have g6 := g5.set (X := w1.heap.size) (by omega) (by omega) 2 (.int .i64 n5)
          have bX6 := bX5.set 2 (.int .i64 n5) #[.int .i64 2, .string (ByteArray.mk #[]), .int .i64 n5] rfl
          have bR6 := bR5.other (Y := w1.heap.size) (by omega) 2 (.int .i64 n5)
          have bX5_c0 := bX5.cell 0 _ rfl
          have bX5_c1 := bX5.cell 1 _ rfl
          have bX5_c2 := bX5.cell 2 _ rfl
          have bX5_f0 := bX5.free 0
          have bX5_f1 := bX5.free 1
          have bX5_f2 := bX5.free 2
          clear bX5 bR5 g5
          have gf := ((g6.set (X := w.heap.size) (by omega) (Nat.le_refl _) 0 (.int .i64 2)).set (X := w.heap.size) (by omega) (Nat.le_refl _) 1 (.string (ByteArray.mk #[]))).set (X := w.heap.size) (by omega) (Nat.le_refl _) 2 (.int .i64 n5)
          have bX6_c0 := bX6.cell 0 _ rfl
          have bX6_c1 := bX6.cell 1 _ rfl
          have bX6_c2 := bX6.cell 2 _ rfl
          have bX6_f0 := bX6.free 0
          have bX6_f1 := bX6.free 1
          have bX6_f2 := bX6.free 2
          have bR6_c0 := bR6.cell 0 _ rfl
          have bR6_c1 := bR6.cell 1 _ rfl
          have bR6_c2 := bR6.cell 2 _ rfl
          have bR6_f0 := bR6.free 0
          have bR6_f1 := bR6.free 1
          have bR6_f2 := bR6.free 2
          clear g6 bX6 bR6
          go_wp2_with fail
          exact bodyPost_ret (v := .agg #[.int .i64 2, .string (ByteArray.mk #[]), .int .i64 n5]) (by simp [results, Tryz.results116, go_sem, bR6_c0, bR6_c1, bR6_c2]) rfl ⟨_, _, _, (by decide), rfl, gf.k, gf.s.mono (by omega)⟩
        · have h41' : (r4 == 1) = false := by simpa using h41
          go_wp2_with fail
          go_wp2_with fail
          refine (repeat_le ⟨#[97]⟩ 200 1000 _ (by decide) (by decide) (by decide) (by decide)).mono ?_
          rintro e w5 ⟨ra, ra_le, rfl, hl_w5⟩
          have g5 := g4.below hl_w5
          have bX5 := LV.keep bX4 (SK.ofBelow (b := b) hl_w5) (by omega)
          have bR5 := LV.keep bR4 (SK.ofBelow (b := b) hl_w5) (by omega)
          clear hl_w5 bX4 bR4 g4
          go_wp2_with fail
          refine (repeat_le ⟨#[97]⟩ 201 1000 _ (by decide) (by decide) (by decide) (by decide)).mono ?_
          rintro e w6 ⟨rb, rb_le, rfl, hl_w6⟩
          have g6 := g5.below hl_w6
          have bX6 := LV.keep bX5 (SK.ofBelow (b := b) hl_w6) (by omega)
          have bR6 := LV.keep bR5 (SK.ofBelow (b := b) hl_w6) (by omega)
          clear hl_w6 bX5 bR5 g5
          go_wp2_with fail
          refine (one_le b (m + 4) _ _ 1000 g6.s (by simp) (by simp) (by repeat (first | exact strsLe_nil | refine strsLe_cons (by first | omega | decide) ?_)) (by simp) (by simp) (by omega)).mono ?_
          rintro e w7 ⟨t7, t7_le, rfl, hk_w7, hs_w7⟩
          have g7 := g6.step hk_w7 hs_w7
          have bX7 := LV.keep bX6 hk_w7 (by omega)
          have bR7 := LV.keep bR6 hk_w7 (by omega)
          clear hk_w7 hs_w7 g6 bX6 bR6
          have g8 := g7.set (X := w1.heap.size) (by omega) (by omega) 1 (.string t7)
          have bX8 := bX7.set 1 (.string t7) #[.int .i64 2, .string t7, .int .i64 n] rfl
          have bR8 := bR7.other (Y := w1.heap.size) (by omega) 1 (.string t7)
          have bX7_c0 := bX7.cell 0 _ rfl
          have bX7_c1 := bX7.cell 1 _ rfl
          have bX7_c2 := bX7.cell 2 _ rfl
          have bX7_f0 := bX7.free 0
          have bX7_f1 := bX7.free 1
          have bX7_f2 := bX7.free 2
          clear bX7 bR7 g7
          have gf := ((g8.set (X := w.heap.size) (by omega) (Nat.le_refl _) 0 (.int .i64 2)).set (X := w.heap.size) (by omega) (Nat.le_refl _) 1 (.string t7)).set (X := w.heap.size) (by omega) (Nat.le_refl _) 2 (.int .i64 n)
          have bX8_c0 := bX8.cell 0 _ rfl
          have bX8_c1 := bX8.cell 1 _ rfl
          have bX8_c2 := bX8.cell 2 _ rfl
          have bX8_f0 := bX8.free 0
          have bX8_f1 := bX8.free 1
          have bX8_f2 := bX8.free 2
          have bR8_c0 := bR8.cell 0 _ rfl
          have bR8_c1 := bR8.cell 1 _ rfl
          have bR8_c2 := bR8.cell 2 _ rfl
          have bR8_f0 := bR8.free 0
          have bR8_f1 := bR8.free 1
          have bR8_f2 := bR8.free 2
          clear g8 bX8 bR8
          go_wp2_with fail
          exact bodyPost_ret (v := .agg #[.int .i64 2, .string t7, .int .i64 n]) (by simp [results, Tryz.results116, go_sem, bR8_c0, bR8_c1, bR8_c2]) rfl ⟨_, _, _, t7_le, rfl, gf.k, gf.s.mono (by omega)⟩
  · go_wp2_with fail
    refine (next_any b (m + 1) _ _ g1.s (by omega) (by omega) (by omega)).mono ?_
    rintro e w2 ⟨n, n_lo, n_hi, rfl, hk_w2, hs_w2⟩
    have g2 := g1.step hk_w2 hs_w2
    have bR2 := LV.keep bR1 hk_w2 (by omega)
    have bX2 := LV.keep bX1 hk_w2 (by omega)
    clear hk_w2 hs_w2 bR1 bX1 g1
    have h4 := g2.set (X := w1.heap.size) (by omega) (by omega) 2 (.int .i64 n)
    have bX4 := bX2.set 2 (.int .i64 n) #[.int .i64 3, .string ⟨#[]⟩, .int .i64 n] rfl
    have bR4 := bR2.other (Y := w1.heap.size) (by omega) 2 (.int .i64 n)
    have bX2_c0 := bX2.cell 0 _ rfl
    have bX2_c1 := bX2.cell 1 _ rfl
    have bX2_c2 := bX2.cell 2 _ rfl
    have bX2_f0 := bX2.free 0
    have bX2_f1 := bX2.free 1
    have bX2_f2 := bX2.free 2
    clear bX2 bR2 g2
    go_wp2_with fail
    refine (flip_any b (m + 2) _ _ h4.s (by omega) (by omega) (by omega)).mono ?_
    rintro e w3 ⟨r3, rfl, hk_w3, hs_w3⟩
    have g3 := h4.step hk_w3 hs_w3
    have bX3 := LV.keep bX4 hk_w3 (by omega)
    have bR3 := LV.keep bR4 hk_w3 (by omega)
    clear hk_w3 hs_w3 h4 bX4 bR4
    cases r3
    · have gf := ((g3.set (X := w.heap.size) (by omega) (Nat.le_refl _) 0 (.int .i64 3)).set (X := w.heap.size) (by omega) (Nat.le_refl _) 1 (.string (ByteArray.mk #[]))).set (X := w.heap.size) (by omega) (Nat.le_refl _) 2 (.int .i64 n)
      have bX3_c0 := bX3.cell 0 _ rfl
      have bX3_c1 := bX3.cell 1 _ rfl
      have bX3_c2 := bX3.cell 2 _ rfl
      have bX3_f0 := bX3.free 0
      have bX3_f1 := bX3.free 1
      have bX3_f2 := bX3.free 2
      have bR3_c0 := bR3.cell 0 _ rfl
      have bR3_c1 := bR3.cell 1 _ rfl
      have bR3_c2 := bR3.cell 2 _ rfl
      have bR3_f0 := bR3.free 0
      have bR3_f1 := bR3.free 1
      have bR3_f2 := bR3.free 2
      clear g3 bX3 bR3
      go_wp2_with fail
      exact bodyPost_ret (v := .agg #[.int .i64 3, .string (ByteArray.mk #[]), .int .i64 n]) (by simp [results, Tryz.results116, go_sem, bR3_c0, bR3_c1, bR3_c2]) rfl ⟨_, _, _, (by decide), rfl, gf.k, gf.s.mono (by omega)⟩
    · go_wp2_with fail
      refine (next_any b (m + 3) _ _ g3.s (by omega) (by omega) (by omega)).mono ?_
      rintro e w4 ⟨r4, r4_lo, r4_hi, rfl, hk_w4, hs_w4⟩
      have g4 := g3.step hk_w4 hs_w4
      have bX4 := LV.keep bX3 hk_w4 (by omega)
      have bR4 := LV.keep bR3 hk_w4 (by omega)
      clear hk_w4 hs_w4 g3 bX3 bR3
      by_cases h40 : r4 = 0
      · subst h40
        go_wp2_with fail
        refine (pick_le b (m + 4) _ _ 0 5 g4.s (by simp) (by simp) (intsIn_of (by decide)) (by simp) (by simp) (by omega)).mono ?_
        rintro e w5 ⟨k5, k5_lo, k5_hi, rfl, hk_w5, hs_w5⟩
        have g5 := g4.step hk_w5 hs_w5
        have bX5 := LV.keep bX4 hk_w5 (by omega)
        have bR5 := LV.keep bR4 hk_w5 (by omega)
        clear hk_w5 hs_w5 g4 bX4 bR4
        have g6 := g5.set (X := w1.heap.size) (by omega) (by omega) 0 (.int .i64 k5)
        have bX6 := bX5.set 0 (.int .i64 k5) #[.int .i64 k5, .string (ByteArray.mk #[]), .int .i64 n] rfl
        have bR6 := bR5.other (Y := w1.heap.size) (by omega) 0 (.int .i64 k5)
        have bX5_c0 := bX5.cell 0 _ rfl
        have bX5_c1 := bX5.cell 1 _ rfl
        have bX5_c2 := bX5.cell 2 _ rfl
        have bX5_f0 := bX5.free 0
        have bX5_f1 := bX5.free 1
        have bX5_f2 := bX5.free 2
        clear bX5 bR5 g5
        have gf := ((g6.set (X := w.heap.size) (by omega) (Nat.le_refl _) 0 (.int .i64 k5)).set (X := w.heap.size) (by omega) (Nat.le_refl _) 1 (.string (ByteArray.mk #[]))).set (X := w.heap.size) (by omega) (Nat.le_refl _) 2 (.int .i64 n)
        have bX6_c0 := bX6.cell 0 _ rfl
        have bX6_c1 := bX6.cell 1 _ rfl
        have bX6_c2 := bX6.cell 2 _ rfl
        have bX6_f0 := bX6.free 0
        have bX6_f1 := bX6.free 1
        have bX6_f2 := bX6.free 2
        have bR6_c0 := bR6.cell 0 _ rfl
        have bR6_c1 := bR6.cell 1 _ rfl
        have bR6_c2 := bR6.cell 2 _ rfl
        have bR6_f0 := bR6.free 0
        have bR6_f1 := bR6.free 1
        have bR6_f2 := bR6.free 2
        clear g6 bX6 bR6
        go_wp2_with fail
        exact bodyPost_ret (v := .agg #[.int .i64 k5, .string (ByteArray.mk #[]), .int .i64 n]) (by simp [results, Tryz.results116, go_sem, bR6_c0, bR6_c1, bR6_c2]) rfl ⟨_, _, _, (by decide), rfl, gf.k, gf.s.mono (by omega)⟩
      · have h40' : (r4 == 0) = false := by simpa using h40
        by_cases h41 : r4 = 1
        · subst h41
          clear h40 h40'
          go_wp2_with fail
          refine (pick_le b (m + 4) _ _ (-1) 1000000000001 g4.s (by simp) (by simp) (intsIn_of (by decide)) (by simp) (by simp) (by omega)).mono ?_
          rintro e w5 ⟨n5, n5_lo, n5_hi, rfl, hk_w5, hs_w5⟩
          have g5 := g4.step hk_w5 hs_w5
          have bX5 := LV.keep bX4 hk_w5 (by omega)
          have bR5 := LV.keep bR4 hk_w5 (by omega)
          clear hk_w5 hs_w5 g4 bX4 bR4
          have g6 := g5.set (X := w1.heap.size) (by omega) (by omega) 2 (.int .i64 n5)
          have bX6 := bX5.set 2 (.int .i64 n5) #[.int .i64 3, .string (ByteArray.mk #[]), .int .i64 n5] rfl
          have bR6 := bR5.other (Y := w1.heap.size) (by omega) 2 (.int .i64 n5)
          have bX5_c0 := bX5.cell 0 _ rfl
          have bX5_c1 := bX5.cell 1 _ rfl
          have bX5_c2 := bX5.cell 2 _ rfl
          have bX5_f0 := bX5.free 0
          have bX5_f1 := bX5.free 1
          have bX5_f2 := bX5.free 2
          clear bX5 bR5 g5
          have gf := ((g6.set (X := w.heap.size) (by omega) (Nat.le_refl _) 0 (.int .i64 3)).set (X := w.heap.size) (by omega) (Nat.le_refl _) 1 (.string (ByteArray.mk #[]))).set (X := w.heap.size) (by omega) (Nat.le_refl _) 2 (.int .i64 n5)
          have bX6_c0 := bX6.cell 0 _ rfl
          have bX6_c1 := bX6.cell 1 _ rfl
          have bX6_c2 := bX6.cell 2 _ rfl
          have bX6_f0 := bX6.free 0
          have bX6_f1 := bX6.free 1
          have bX6_f2 := bX6.free 2
          have bR6_c0 := bR6.cell 0 _ rfl
          have bR6_c1 := bR6.cell 1 _ rfl
          have bR6_c2 := bR6.cell 2 _ rfl
          have bR6_f0 := bR6.free 0
          have bR6_f1 := bR6.free 1
          have bR6_f2 := bR6.free 2
          clear g6 bX6 bR6
          go_wp2_with fail
          exact bodyPost_ret (v := .agg #[.int .i64 3, .string (ByteArray.mk #[]), .int .i64 n5]) (by simp [results, Tryz.results116, go_sem, bR6_c0, bR6_c1, bR6_c2]) rfl ⟨_, _, _, (by decide), rfl, gf.k, gf.s.mono (by omega)⟩
        · have h41' : (r4 == 1) = false := by simpa using h41
          go_wp2_with fail
          go_wp2_with fail
          refine (repeat_le ⟨#[97]⟩ 200 1000 _ (by decide) (by decide) (by decide) (by decide)).mono ?_
          rintro e w5 ⟨ra, ra_le, rfl, hl_w5⟩
          have g5 := g4.below hl_w5
          have bX5 := LV.keep bX4 (SK.ofBelow (b := b) hl_w5) (by omega)
          have bR5 := LV.keep bR4 (SK.ofBelow (b := b) hl_w5) (by omega)
          clear hl_w5 bX4 bR4 g4
          go_wp2_with fail
          refine (repeat_le ⟨#[97]⟩ 201 1000 _ (by decide) (by decide) (by decide) (by decide)).mono ?_
          rintro e w6 ⟨rb, rb_le, rfl, hl_w6⟩
          have g6 := g5.below hl_w6
          have bX6 := LV.keep bX5 (SK.ofBelow (b := b) hl_w6) (by omega)
          have bR6 := LV.keep bR5 (SK.ofBelow (b := b) hl_w6) (by omega)
          clear hl_w6 bX5 bR5 g5
          go_wp2_with fail
          refine (one_le b (m + 4) _ _ 1000 g6.s (by simp) (by simp) (by repeat (first | exact strsLe_nil | refine strsLe_cons (by first | omega | decide) ?_)) (by simp) (by simp) (by omega)).mono ?_
          rintro e w7 ⟨t7, t7_le, rfl, hk_w7, hs_w7⟩
          have g7 := g6.step hk_w7 hs_w7
          have bX7 := LV.keep bX6 hk_w7 (by omega)
          have bR7 := LV.keep bR6 hk_w7 (by omega)
          clear hk_w7 hs_w7 g6 bX6 bR6
          have g8 := g7.set (X := w1.heap.size) (by omega) (by omega) 1 (.string t7)
          have bX8 := bX7.set 1 (.string t7) #[.int .i64 3, .string t7, .int .i64 n] rfl
          have bR8 := bR7.other (Y := w1.heap.size) (by omega) 1 (.string t7)
          have bX7_c0 := bX7.cell 0 _ rfl
          have bX7_c1 := bX7.cell 1 _ rfl
          have bX7_c2 := bX7.cell 2 _ rfl
          have bX7_f0 := bX7.free 0
          have bX7_f1 := bX7.free 1
          have bX7_f2 := bX7.free 2
          clear bX7 bR7 g7
          have gf := ((g8.set (X := w.heap.size) (by omega) (Nat.le_refl _) 0 (.int .i64 3)).set (X := w.heap.size) (by omega) (Nat.le_refl _) 1 (.string t7)).set (X := w.heap.size) (by omega) (Nat.le_refl _) 2 (.int .i64 n)
          have bX8_c0 := bX8.cell 0 _ rfl
          have bX8_c1 := bX8.cell 1 _ rfl
          have bX8_c2 := bX8.cell 2 _ rfl
          have bX8_f0 := bX8.free 0
          have bX8_f1 := bX8.free 1
          have bX8_f2 := bX8.free 2
          have bR8_c0 := bR8.cell 0 _ rfl
          have bR8_c1 := bR8.cell 1 _ rfl
          have bR8_c2 := bR8.cell 2 _ rfl
          have bR8_f0 := bR8.free 0
          have bR8_f1 := bR8.free 1
          have bR8_f2 := bR8.free 2
          clear g8 bX8 bR8
          go_wp2_with fail
          exact bodyPost_ret (v := .agg #[.int .i64 3, .string t7, .int .i64 n]) (by simp [results, Tryz.results116, go_sem, bR8_c0, bR8_c1, bR8_c2]) rfl ⟨_, _, _, t7_le, rfl, gf.k, gf.s.mono (by omega)⟩
  · go_wp2_with fail
    refine (pick_le b (m + 1) _ _ 0 4321439 g1.s (by simp) (by simp) (intsIn_of (by decide)) (by simp) (by simp) (by omega)).mono ?_
    rintro e w2 ⟨n, n_lo, n_hi, rfl, hk_w2, hs_w2⟩
    have g2 := g1.step hk_w2 hs_w2
    have bR2 := LV.keep bR1 hk_w2 (by omega)
    have bX2 := LV.keep bX1 hk_w2 (by omega)
    clear hk_w2 hs_w2 bR1 bX1 g1
    have h4 := g2.set (X := w1.heap.size) (by omega) (by omega) 2 (.int .i64 n)
    have bX4 := bX2.set 2 (.int .i64 n) #[.int .i64 4, .string ⟨#[]⟩, .int .i64 n] rfl
    have bR4 := bR2.other (Y := w1.heap.size) (by omega) 2 (.int .i64 n)
    have bX2_c0 := bX2.cell 0 _ rfl
    have bX2_c1 := bX2.cell 1 _ rfl
    have bX2_c2 := bX2.cell 2 _ rfl
    have bX2_f0 := bX2.free 0
    have bX2_f1 := bX2.free 1
    have bX2_f2 := bX2.free 2
    clear bX2 bR2 g2
    go_wp2_with fail
    refine (flip_any b (m + 2) _ _ h4.s (by omega) (by omega) (by omega)).mono ?_
    rintro e w3 ⟨r3, rfl, hk_w3, hs_w3⟩
    have g3 := h4.step hk_w3 hs_w3
    have bX3 := LV.keep bX4 hk_w3 (by omega)
    have bR3 := LV.keep bR4 hk_w3 (by omega)
    clear hk_w3 hs_w3 h4 bX4 bR4
    cases r3
    · have gf := ((g3.set (X := w.heap.size) (by omega) (Nat.le_refl _) 0 (.int .i64 4)).set (X := w.heap.size) (by omega) (Nat.le_refl _) 1 (.string (ByteArray.mk #[]))).set (X := w.heap.size) (by omega) (Nat.le_refl _) 2 (.int .i64 n)
      have bX3_c0 := bX3.cell 0 _ rfl
      have bX3_c1 := bX3.cell 1 _ rfl
      have bX3_c2 := bX3.cell 2 _ rfl
      have bX3_f0 := bX3.free 0
      have bX3_f1 := bX3.free 1
      have bX3_f2 := bX3.free 2
      have bR3_c0 := bR3.cell 0 _ rfl
      have bR3_c1 := bR3.cell 1 _ rfl
      have bR3_c2 := bR3.cell 2 _ rfl
      have bR3_f0 := bR3.free 0
      have bR3_f1 := bR3.free 1
      have bR3_f2 := bR3.free 2
      clear g3 bX3 bR3
      go_wp2_with fail
      exact bodyPost_ret (v := .agg #[.int .i64 4, .string (ByteArray.mk #[]), .int .i64 n]) (by simp [results, Tryz.results116, go_sem, bR3_c0, bR3_c1, bR3_c2]) rfl ⟨_, _, _, (by decide), rfl, gf.k, gf.s.mono (by omega)⟩
    · go_wp2_with fail
      refine (next_any b (m + 3) _ _ g3.s (by omega) (by omega) (by omega)).mono ?_
      rintro e w4 ⟨r4, r4_lo, r4_hi, rfl, hk_w4, hs_w4⟩
      have g4 := g3.step hk_w4 hs_w4
      have bX4 := LV.keep bX3 hk_w4 (by omega)
      have bR4 := LV.keep bR3 hk_w4 (by omega)
      clear hk_w4 hs_w4 g3 bX3 bR3
      by_cases h40 : r4 = 0
      · subst h40
        go_wp2_with fail
        refine (pick_le b (m + 4) _ _ 0 5 g4.s (by simp) (by simp) (intsIn_of (by decide)) (by simp) (by simp) (by omega)).mono ?_
        rintro e w5 ⟨k5, k5_lo, k5_hi, rfl, hk_w5, hs_w5⟩
        have g5 := g4.step hk_w5 hs_w5
        have bX5 := LV.keep bX4 hk_w5 (by omega)
        have bR5 := LV.keep bR4 hk_w5 (by omega)
        clear hk_w5 hs_w5 g4 bX4 bR4
        have g6 := g5.set (X := w1.heap.size) (by omega) (by omega) 0 (.int .i64 k5)
        have bX6 := bX5.set 0 (.int .i64 k5) #[.int .i64 k5, .string (ByteArray.mk #[]), .int .i64 n] rfl
        have bR6 := bR5.other (Y := w1.heap.size) (by omega) 0 (.int .i64 k5)
        have bX5_c0 := bX5.cell 0 _ rfl
        have bX5_c1 := bX5.cell 1 _ rfl
        have bX5_c2 := bX5.cell 2 _ rfl
        have bX5_f0 := bX5.free 0
        have bX5_f1 := bX5.free 1
        have bX5_f2 := bX5.free 2
        clear bX5 bR5 g5
        have gf := ((g6.set (X := w.heap.size) (by omega) (Nat.le_refl _) 0 (.int .i64 k5)).set (X := w.heap.size) (by omega) (Nat.le_refl _) 1 (.string (ByteArray.mk #[]))).set (X := w.heap.size) (by omega) (Nat.le_refl _) 2 (.int .i64 n)
        have bX6_c0 := bX6.cell 0 _ rfl
        have bX6_c1 := bX6.cell 1 _ rfl
        have bX6_c2 := bX6.cell 2 _ rfl
        have bX6_f0 := bX6.free 0
        have bX6_f1 := bX6.free 1
        have bX6_f2 := bX6.free 2
        have bR6_c0 := bR6.cell 0 _ rfl
        have bR6_c1 := bR6.cell 1 _ rfl
        have bR6_c2 := bR6.cell 2 _ rfl
        have bR6_f0 := bR6.free 0
        have bR6_f1 := bR6.free 1
        have bR6_f2 := bR6.free 2
        clear g6 bX6 bR6
        go_wp2_with fail
        exact bodyPost_ret (v := .agg #[.int .i64 k5, .string (ByteArray.mk #[]), .int .i64 n]) (by simp [results, Tryz.results116, go_sem, bR6_c0, bR6_c1, bR6_c2]) rfl ⟨_, _, _, (by decide), rfl, gf.k, gf.s.mono (by omega)⟩
      · have h40' : (r4 == 0) = false := by simpa using h40
        by_cases h41 : r4 = 1
        · subst h41
          clear h40 h40'
          go_wp2_with fail
          refine (pick_le b (m + 4) _ _ (-1) 1000000000001 g4.s (by simp) (by simp) (intsIn_of (by decide)) (by simp) (by simp) (by omega)).mono ?_
          rintro e w5 ⟨n5, n5_lo, n5_hi, rfl, hk_w5, hs_w5⟩
          have g5 := g4.step hk_w5 hs_w5
          have bX5 := LV.keep bX4 hk_w5 (by omega)
          have bR5 := LV.keep bR4 hk_w5 (by omega)
          clear hk_w5 hs_w5 g4 bX4 bR4
          have g6 := g5.set (X := w1.heap.size) (by omega) (by omega) 2 (.int .i64 n5)
          have bX6 := bX5.set 2 (.int .i64 n5) #[.int .i64 4, .string (ByteArray.mk #[]), .int .i64 n5] rfl
          have bR6 := bR5.other (Y := w1.heap.size) (by omega) 2 (.int .i64 n5)
          have bX5_c0 := bX5.cell 0 _ rfl
          have bX5_c1 := bX5.cell 1 _ rfl
          have bX5_c2 := bX5.cell 2 _ rfl
          have bX5_f0 := bX5.free 0
          have bX5_f1 := bX5.free 1
          have bX5_f2 := bX5.free 2
          clear bX5 bR5 g5
          have gf := ((g6.set (X := w.heap.size) (by omega) (Nat.le_refl _) 0 (.int .i64 4)).set (X := w.heap.size) (by omega) (Nat.le_refl _) 1 (.string (ByteArray.mk #[]))).set (X := w.heap.size) (by omega) (Nat.le_refl _) 2 (.int .i64 n5)
          have bX6_c0 := bX6.cell 0 _ rfl
          have bX6_c1 := bX6.cell 1 _ rfl
          have bX6_c2 := bX6.cell 2 _ rfl
          have bX6_f0 := bX6.free 0
          have bX6_f1 := bX6.free 1
          have bX6_f2 := bX6.free 2
          have bR6_c0 := bR6.cell 0 _ rfl
          have bR6_c1 := bR6.cell 1 _ rfl
          have bR6_c2 := bR6.cell 2 _ rfl
          have bR6_f0 := bR6.free 0
          have bR6_f1 := bR6.free 1
          have bR6_f2 := bR6.free 2
          clear g6 bX6 bR6
          go_wp2_with fail
          exact bodyPost_ret (v := .agg #[.int .i64 4, .string (ByteArray.mk #[]), .int .i64 n5]) (by simp [results, Tryz.results116, go_sem, bR6_c0, bR6_c1, bR6_c2]) rfl ⟨_, _, _, (by decide), rfl, gf.k, gf.s.mono (by omega)⟩
        · have h41' : (r4 == 1) = false := by simpa using h41
          go_wp2_with fail
          go_wp2_with fail
          refine (repeat_le ⟨#[97]⟩ 200 1000 _ (by decide) (by decide) (by decide) (by decide)).mono ?_
          rintro e w5 ⟨ra, ra_le, rfl, hl_w5⟩
          have g5 := g4.below hl_w5
          have bX5 := LV.keep bX4 (SK.ofBelow (b := b) hl_w5) (by omega)
          have bR5 := LV.keep bR4 (SK.ofBelow (b := b) hl_w5) (by omega)
          clear hl_w5 bX4 bR4 g4
          go_wp2_with fail
          refine (repeat_le ⟨#[97]⟩ 201 1000 _ (by decide) (by decide) (by decide) (by decide)).mono ?_
          rintro e w6 ⟨rb, rb_le, rfl, hl_w6⟩
          have g6 := g5.below hl_w6
          have bX6 := LV.keep bX5 (SK.ofBelow (b := b) hl_w6) (by omega)
          have bR6 := LV.keep bR5 (SK.ofBelow (b := b) hl_w6) (by omega)
          clear hl_w6 bX5 bR5 g5
          go_wp2_with fail
          refine (one_le b (m + 4) _ _ 1000 g6.s (by simp) (by simp) (by repeat (first | exact strsLe_nil | refine strsLe_cons (by first | omega | decide) ?_)) (by simp) (by simp) (by omega)).mono ?_
          rintro e w7 ⟨t7, t7_le, rfl, hk_w7, hs_w7⟩
          have g7 := g6.step hk_w7 hs_w7
          have bX7 := LV.keep bX6 hk_w7 (by omega)
          have bR7 := LV.keep bR6 hk_w7 (by omega)
          clear hk_w7 hs_w7 g6 bX6 bR6
          have g8 := g7.set (X := w1.heap.size) (by omega) (by omega) 1 (.string t7)
          have bX8 := bX7.set 1 (.string t7) #[.int .i64 4, .string t7, .int .i64 n] rfl
          have bR8 := bR7.other (Y := w1.heap.size) (by omega) 1 (.string t7)
          have bX7_c0 := bX7.cell 0 _ rfl
          have bX7_c1 := bX7.cell 1 _ rfl
          have bX7_c2 := bX7.cell 2 _ rfl
          have bX7_f0 := bX7.free 0
          have bX7_f1 := bX7.free 1
          have bX7_f2 := bX7.free 2
          clear bX7 bR7 g7
          have gf := ((g8.set (X := w.heap.size) (by omega) (Nat.le_refl _) 0 (.int .i64 4)).set (X := w.heap.size) (by omega) (Nat.le_refl _) 1 (.string t7)).set (X := w.heap.size) (by omega) (Nat.le_refl _) 2 (.int .i64 n)
          have bX8_c0 := bX8.cell 0 _ rfl
          have bX8_c1 := bX8.cell 1 _ rfl
          have bX8_c2 := bX8.cell 2 _ rfl
          have bX8_f0 := bX8.free 0
          have bX8_f1 := bX8.free 1
          have bX8_f2 := bX8.free 2
          have bR8_c0 := bR8.cell 0 _ rfl
          have bR8_c1 := bR8.cell 1 _ rfl
          have bR8_c2 := bR8.cell 2 _ rfl
          have bR8_f0 := bR8.free 0
          have bR8_f1 := bR8.free 1
          have bR8_f2 := bR8.free 2
          clear g8 bX8 bR8
          go_wp2_with fail
          exact bodyPost_ret (v := .agg #[.int .i64 4, .string t7, .int .i64 n]) (by simp [results, Tryz.results116, go_sem, bR8_c0, bR8_c1, bR8_c2]) rfl ⟨_, _, _, t7_le, rfl, gf.k, gf.s.mono (by omega)⟩
end Go.Proofs.YtmlpkejeglpciaaGreatDoor

/- What the generator Fields makes. -/
namespace Go.Proofs.YtmlpkejeglpciaaGreatDoor
open Go.RowKit
def Names (w : World) : Prop := w.cell? ⟨1, 0, none⟩ = some (.string ⟨#[97, 103, 101]⟩) ∧ w.cell? ⟨1, 1, none⟩ = some (.string ⟨#[99, 105, 116, 121]⟩) ∧ w.cell? ⟨1, 2, none⟩ = some (.string ⟨#[106, 111, 105, 110, 101, 100]⟩) ∧
  w.cell? ⟨1, 3, none⟩ = some (.string ⟨#[110, 97, 109, 101]⟩) ∧ w.cell? ⟨1, 4, none⟩ = some (.string ⟨#[112, 108, 97, 110]⟩) ∧ w.cell? ⟨1, 5, none⟩ = some (.string ⟨#[118, 105, 112]⟩)
theorem Names.lt {w : World} (h : Names w) : 1 < w.heap.size := World.block_lt_of_cell? w _ h.1
theorem Names.keep {b : Nat} {w w' : World} (h : Names w) (k : SK b w w') (hb : 1 ≠ b) : Names w' := by
  have e : ∀ j, w'.cell? ⟨1, j, none⟩ = w.cell? ⟨1, j, none⟩ := fun j => World.cell?_of_block (k.block _ h.lt hb)
  obtain ⟨h0, h1, h2, h3, h4, h5⟩ := h
  exact ⟨(e 0).trans h0, (e 1).trans h1, (e 2).trans h2, (e 3).trans h3, (e 4).trans h4, (e 5).trans h5⟩
theorem names_ix (k : Nat) (hk : k < 6) : ∃ s : ByteArray, s.size ≤ 100 ∧ ∀ w, (Instr.index 74 (.agg #[.string ⟨#[97, 103, 101]⟩, .string ⟨#[99, 105, 116, 121]⟩, .string ⟨#[106, 111, 105, 110, 101, 100]⟩, .string ⟨#[110, 97, 109, 101]⟩, .string ⟨#[112, 108, 97, 110]⟩, .string ⟨#[118, 105, 112]⟩]) (.int .i64 k)).run Tryz.prog w = .ok (.string s) w := by
  obtain rfl | rfl | rfl | rfl | rfl | rfl : k = 0 ∨ k = 1 ∨ k = 2 ∨ k = 3 ∨ k = 4 ∨ k = 5 := by omega
  · exact ⟨⟨#[97, 103, 101]⟩, by decide, fun _ => by kernel_rfl⟩
  · exact ⟨⟨#[99, 105, 116, 121]⟩, by decide, fun _ => by kernel_rfl⟩
  · exact ⟨⟨#[106, 111, 105, 110, 101, 100]⟩, by decide, fun _ => by kernel_rfl⟩
  · exact ⟨⟨#[110, 97, 109, 101]⟩, by decide, fun _ => by kernel_rfl⟩
  · exact ⟨⟨#[112, 108, 97, 110]⟩, by decide, fun _ => by kernel_rfl⟩
  · exact ⟨⟨#[118, 105, 112]⟩, by decide, fun _ => by kernel_rfl⟩
theorem tyFld : STy 45 123 rFld.size 48 (.agg #[.string ⟨#[]⟩, .int .i64 0, .string ⟨#[]⟩, .int .i64 0]) := ⟨Tryz.underlying45, by kernel_rfl, rfl, by decide⟩
theorem flatFld : rFld.Flat Fld.cells := fun _ _ _ _ => Iff.rfl
theorem oneFld (f : Fld) : ∀ u ∈ f.cells, u.oneCell' = true := fun u hu => by
  simp only [Fld.cells, List.mem_cons, List.not_mem_nil, or_false] at hu
  rcases hu with rfl | rfl | rfl | rfl <;> rfl
def Fld.tiny (f : Fld) : Prop := f.name.size ≤ 1000 ∧ f.text.size ≤ 1000
def DrawsFlds (b m M : Nat) (w : World) (e : Ending) (w' : World) : Prop := ∃ (v : Value) (xs : List Fld), e = .returned v ∧ Own rFld (Off b) w.heap.size 123 w' v xs ∧ xs.length ≤ M ∧ (∀ f ∈ xs, f.tiny) ∧ G b m w w'
theorem off_ge {b B : Nat} (h : b < B) : ∀ k, B ≤ k → ¬ Off b k := fun k hk e => by unfold Off at e; omega
theorem Own.stepG {α : Type} {r : Rep α} {b B E : Nat} {w w' : World} {v : Value} {xs : List α} (h : Own r (Off b) B E w v xs) (k : SK b w w') (hb : b < B) : Own r (Off b) B E w' v xs := h.keep k.n (off_ge hb)
theorem tiny_snoc {xs : List Fld} {f : Fld} (h : ∀ g ∈ xs, g.tiny) (hf : f.tiny) : ∀ g ∈ xs ++ [f], g.tiny := fun g hg => by
  rcases List.mem_append.1 hg with h' | h'
  · exact h g h'
  · rw [List.mem_singleton.1 h']; exact hf
set_option maxHeartbeats 4000000 in
set_option maxRecDepth 100000 in
theorem fields_any (b m : Nat) (z : Int) (w : World) (hs : Strm b m w) (hm : m ≤ 10000000000) (hN : Names w) :
    Calls Tryz.prog 166 #[.pointer (some ⟨b, 0, none⟩), .int .i64 z] w (DrawsFlds b (m + 100) 7 w) := by
  have hlt := hs.lt
  obtain ⟨n0, n1, n2, n3, n4, n5⟩ := hN
  have Hs := Lib.hid hs
  clear hs
  go_enter Tryz.func166, Tryz.ntmps166
  go_wp2_with fail
  clear n0 n1 n2 n3 n4 n5
  go_loopw [5, 9] (fun v i wr => ∃ (k : Nat) (xs : List Fld), k ≤ 6 ∧ i = .int .i64 k ∧ Own rFld (Off b) w.heap.size 123 wr v xs ∧ xs.length ≤ k ∧ (∀ f ∈ xs, f.tiny) ∧ G b (m + k * 7) w wr) (fun _ i _ => 6 - (intOf i).toNat)
  case atStart => exact ⟨0, [], by omega, rfl, Own.nil _ _ _ _ _, by simp, (fun _ h => by cases h), (G.start Hs.out).mono (by omega)⟩
  case round =>
    obtain ⟨k, xs, hk, rfl, hown, hxl, hti, hg⟩ := hrel
    have Hown := Lib.hid hown
    have Hti := Lib.hid hti
    have hgz := hg.size
    clear hown hti Hs
    obtain ⟨A, c, rfl⟩ := Hown.out.len
    by_cases hlt6 : k < 6
    · obtain ⟨nm, hnm, hix⟩ := names_ix k hlt6
      by_cases hz : (xs.length : Int) < z
      · go_wp2_with fail
        refine (flip_any b (m + k * 7) _ _ hg.s (by omega) (by omega) (by omega)).mono ?_
        rintro e w2 ⟨r2, rfl, hk_w2, hs_w2⟩
        have g2 := hg.step hk_w2 hs_w2
        have Ho2 := Lib.hid (Hown.out.stepG hk_w2 hlt)
        clear hk_w2 hs_w2 Hown hg hix
        cases r2
        · go_wp2_with fail
          go_roundw
          case rel => exact ⟨k + 1, xs, by omega, by go_num, Ho2.out, by omega, Hti.out, g2.mono (by omega)⟩
          case measure => simp [intOf]; omega
        · go_wp2_with fail
          refine (value_any b (m + k * 7 + 1) _ g2.s (by omega)).mono ?_
          rintro e w3 ⟨vk, vt, vn, vt_le, rfl, hk_w3, hs_w3⟩
          have g3 := g2.step hk_w3 hs_w3
          have hz3 := g3.size
          have Ho3 := Lib.hid (Ho2.out.stepG hk_w3 hlt)
          clear hk_w3 hs_w3 Ho2 g2
          go_wp2_with (at_builtin; refine app_flat (w0 := w3) flatFld tyFld rfl _ _ rfl (Off b) w.heap.size _ xs ⟨nm, vk, vt, vn⟩ _ rfl Ho3.out rfl rfl (oneFld _) (by omega) (by omega) (by decide) ?_; intro v' w4 ho4 hl4)
          go_roundw
          case rel => exact ⟨k + 1, xs ++ [⟨nm, vk, vt, vn⟩], by omega, by go_num, ho4, by simp; omega, tiny_snoc Hti.out ⟨by show nm.size ≤ _; omega, vt_le⟩, (g3.belowB hl4 hlt).mono (by omega)⟩
          case measure => simp [intOf]; omega
      · have hz' : decide ((xs.length : Int) < z) = false := by simpa using hz
        go_wp2_with fail
        go_roundw
        case rel => exact ⟨k + 1, xs, by omega, by go_num, Hown.out, by omega, Hti.out, hg.mono (by omega)⟩
        case measure => simp [intOf]; omega
    · go_wp2_with fail
      refine (flip_any b (m + k * 7) _ _ hg.s (by omega) (by omega) (by omega)).mono ?_
      rintro e w2 ⟨r2, rfl, hk_w2, hs_w2⟩
      have g2 := hg.step hk_w2 hs_w2
      have Ho2 := Lib.hid (Hown.out.stepG hk_w2 hlt)
      clear hk_w2 hs_w2 Hown hg
      cases r2
      · go_wp2_with fail
        go_ret
        exact ⟨_, xs, rfl, Ho2.out, by omega, Hti.out, g2.mono (by omega)⟩
      · go_wp2_with fail
        refine (repeat_le ⟨#[122]⟩ 41 1000 _ (by decide) (by decide) (by decide) (by decide)).mono ?_
        rintro e w3 ⟨ra, ra_le, rfl, hl_w3⟩
        have g3 := g2.below hl_w3
        have Ho3 := Lib.hid (Ho2.out.stepG (SK.ofBelow hl_w3) hlt)
        clear hl_w3 g2 Ho2
        go_wp2_with fail
        refine (one_le b _ _ _ 1000 g3.s (by simp) (by simp) (by repeat (first | exact strsLe_nil | refine strsLe_cons (by first | omega | decide) ?_)) (by simp) (by simp) (by omega)).mono ?_
        rintro e w4 ⟨nm, nm_le, rfl, hk_w4, hs_w4⟩
        have g4 := g3.step hk_w4 hs_w4
        have Ho4 := Lib.hid (Ho3.out.stepG hk_w4 hlt)
        clear hk_w4 hs_w4 g3 Ho3
        go_wp2_with fail
        refine (value_any b _ _ g4.s (by omega)).mono ?_
        rintro e w5 ⟨vk, vt, vn, vt_le, rfl, hk_w5, hs_w5⟩
        have g5 := g4.step hk_w5 hs_w5
        have Ho5 := Lib.hid (Ho4.out.stepG hk_w5 hlt)
        have hz5 := g5.size
        clear hk_w5 hs_w5 g4 Ho4
        go_wp2_with (at_builtin; refine app_flat (w0 := w5) flatFld tyFld rfl _ _ rfl (Off b) w.heap.size _ xs ⟨nm, vk, vt, vn⟩ _ rfl Ho5.out rfl rfl (oneFld _) (by omega) (by omega) (by decide) ?_; intro v' w6 ho6 hl6)
        go_ret
        exact ⟨v', xs ++ [⟨nm, vk, vt, vn⟩], rfl, ho6, by simp; omega, tiny_snoc Hti.out ⟨nm_le, vt_le⟩, (g5.belowB hl6 hlt).mono (by omega)⟩
end Go.Proofs.YtmlpkejeglpciaaGreatDoor

/- Equal events: what handref2.SameEvent, handlaw2.sameEvents, slices.Equal and slices.Clone of fields return. -/
namespace Go.Proofs.YtmlpkejeglpciaaGreatDoor
open Go Go.RowKit
set_option maxHeartbeats 4000000 in
set_option maxRecDepth 100000 in
theorem eqFld_any (N : Nat → Prop) (A A2 : Option Addr) (xs : List Fld) (c c2 : Nat) (w : World) (h1 : Sl rFld N w A xs) (h2 : Sl rFld N w A2 xs) (hl : xs.length ≤ 1000000000) :
    Calls Tryz.prog 126 #[.slice A xs.length c, .slice A2 xs.length c2] w fun e w' => e = .returned (.bool true) ∧ Below w.heap.size w w' := by
  have H1 := Lib.hid h1
  have H2 := Lib.hid h2
  clear h1 h2
  go_enter Tryz.func126, Tryz.ntmps126
  go_wp2_with fail
  go_loopw [13] (fun i wr => ∃ j : Nat, j ≤ xs.length ∧ i = .int .i64 j ∧ Below w.heap.size w wr) (fun i _ => xs.length - (intOf i).toNat)
  case atStart => exact ⟨0, Nat.zero_le _, rfl, Below.refl _ _⟩
  case round =>
    obtain ⟨j, hj, rfl, hb⟩ := hrel
    by_cases hlt : j < xs.length
    · obtain ⟨e, hf⟩ : ∃ e, xs[j]? = some e := ⟨_, List.getElem?_eq_getElem hlt⟩
      obtain ⟨b1, o1, rfl, _, d0, d1, d2, d3⟩ := (H1.out.keepB hb).fld j e hf
      obtain ⟨b2, o2, rfl, _, f0, f1, f2, f3⟩ := (H2.out.keepB hb).fld j e hf
      clear hf
      go_wp2_with fail
      go_quiet (fail)
      go_wp2_with fail
      go_roundw
      case rel => exact ⟨j + 1, by omega, by go_num, hb.trans (below_drewN _ _ _)⟩
      case measure => simp [intOf]; omega
    · go_wp2_with fail
      go_ret
      exact ⟨rfl, hb⟩
set_option maxHeartbeats 4000000 in
set_option maxRecDepth 100000 in
theorem sameEv_any (N : Nat → Prop) (e : Evt) (A A2 : Option Addr) (c c2 : Nat) (w : World) (h1 : Sl rFld N w A e.flds) (h2 : Sl rFld N w A2 e.flds) (hl : e.flds.length ≤ 1000000) :
    Calls Tryz.prog 57 #[.agg (evCs e A c), .agg (evCs e A2 c2)] w fun r w' => r = .returned (.bool true) ∧ Below w.heap.size w w' := by
  have S : Mem w ((w.alloc (.cells (evCs e A c) 47)).alloc (.cells (evCs e A2 c2) 47)) [.loc w.heap.size (evCs e A c) 47, .loc (w.heap.size + 1) (evCs e A2 c2) 47] := ((Mem.start w).new' _ _).newAt _ _ _ (by simp)
  have He := Lib.hid (eqFld_any N A A2 e.flds c c2 _ (h1.keepB S.b) (h2.keepB S.b) (by omega))
  clear h1 h2 hl
  go_enter Tryz.func57, Tryz.ntmps57
  go_upto_region 1 with fail
  obtain ⟨Y, hY⟩ : ∃ Y, Y = w.heap.size + 1 := ⟨_, rfl⟩
  obtain ⟨X, hX⟩ : ∃ X, X = w.heap.size := ⟨_, rfl⟩
  rw [← hY, ← hX] at S ⊢
  clear hY hX
  generalize (w.alloc (.cells (evCs e A c) 47)).alloc (.cells (evCs e A2 c2) 47) = w1 at *
  have c0 := (S.lv 0 rfl).all
  have c1 := (S.lv 1 rfl).all
  go_wp2_with fail
  refine (He.out).mono ?_
  rintro r w2 ⟨rfl, hl2⟩
  replace S := S.below hl2
  clear He hl2 c0 c1
  go_wp2_with fail
  go_ret
  exact ⟨rfl, S.b⟩
set_option maxHeartbeats 4000000 in
set_option maxRecDepth 100000 in
theorem sameEvs_any (N : Nat → Prop) (A A2 : Option Addr) (xs : List Evt) (c c2 : Nat) (w : World) (h1 : Sl rEvt N w A xs) (h2 : Sl rEvt N w A2 xs) (hl : xs.length ≤ 1000000) (hf : ∀ e ∈ xs, e.flds.length ≤ 1000000) :
    Calls Tryz.prog 64 #[.slice A xs.length c, .slice A2 xs.length c2, .func (.func 57) #[] #[]] w fun r w' => r = .returned (.bool true) ∧ Below w.heap.size w w' := by
  have H1 := Lib.hid (fun w' (h : Below w.heap.size w w') => h1.keepB h)
  have H2 := Lib.hid (fun w' (h : Below w.heap.size w w') => h2.keepB h)
  have Hf := Lib.hid hf
  clear h1 h2 hf
  go_enter Tryz.func64, Tryz.ntmps64
  go_wp2_with fail
  go_loopw [7, 17] (fun s7 i wr => ∃ j : Nat, j ≤ xs.length ∧ i = .int .i64 j ∧ Below w.heap.size w wr) (fun _ i _ => xs.length - (intOf i).toNat)
  case atStart => exact ⟨0, Nat.zero_le _, rfl, Below.refl _ _⟩
  case round =>
    obtain ⟨j, hj, rfl, hb⟩ := hrel
    by_cases hlt : j < xs.length
    · obtain ⟨e, he⟩ : ∃ e, xs[j]? = some e := ⟨_, List.getElem?_eq_getElem hlt⟩
      obtain ⟨b1, o1, Af, cf, rfl, _, d0, d1, d2, d3, d4, d5, hs1⟩ := (H1.out wr hb).evt j e he
      obtain ⟨b2, o2, Ag, cg, rfl, _, f0, f1, f2, f3, f4, f5, hs2⟩ := (H2.out wr hb).evt j e he
      have hfl := Hf.out e (List.mem_of_getElem? he)
      have S : Mem wr ((wr.alloc (.cells (evCs e Af cf) 47)).alloc (.cells (evCs e Ag cg) 47)) [.loc wr.heap.size (evCs e Af cf) 47, .loc (wr.heap.size + 1) (evCs e Ag cg) 47] := ((Mem.start wr).new' _ _).newAt _ _ _ (by simp)
      have Hc := Lib.hid (sameEv_any N e Af Ag cf cg _ (hs1.keepB S.b) (hs2.keepB S.b) hfl)
      have Hb := Lib.hid (hb.trans (S.b.mono hb.size))
      have g0 := d0
      have hb1 : Below wr.heap.size wr (wr.alloc (.cells (evCs e Af cf) 47)) := (Below.refl _ _).alloc (Nat.le_refl _) _
      clear hs1 hs2 he hb g0
      go_upto_region 6 with fail
      clear d0 d1 d2 d3 d4 d5
      have k0 := (hb1.cell (p := ⟨b2, o2 + j * 6, none⟩) (World.block_lt_of_cell? wr _ f0)).trans f0
      have k1 := (hb1.cell (p := ⟨b2, o2 + j * 6 + 1, none⟩) (World.block_lt_of_cell? wr _ f1)).trans f1
      have k2 := (hb1.cell (p := ⟨b2, o2 + j * 6 + 2, none⟩) (World.block_lt_of_cell? wr _ f2)).trans f2
      have k3 := (hb1.cell (p := ⟨b2, o2 + j * 6 + 3, none⟩) (World.block_lt_of_cell? wr _ f3)).trans f3
      have k4 := (hb1.cell (p := ⟨b2, o2 + j * 6 + 4, none⟩) (World.block_lt_of_cell? wr _ f4)).trans f4
      have k5 := (hb1.cell (p := ⟨b2, o2 + j * 6 + 5, none⟩) (World.block_lt_of_cell? wr _ f5)).trans f5
      clear f0 f1 f2 f3 f4 f5 hb1
      go_upto_region 7 with fail
      clear k0 k1 k2 k3 k4 k5
      obtain ⟨Y, hY⟩ : ∃ Y, Y = wr.heap.size + 1 := ⟨_, rfl⟩
      obtain ⟨X, hX⟩ : ∃ X, X = wr.heap.size := ⟨_, rfl⟩
      (try rw [World.size_alloc])
      rw [← hY, ← hX] at S ⊢
      clear hY hX
      generalize (wr.alloc (.cells (evCs e Af cf) 47)).alloc (.cells (evCs e Ag cg) 47) = w1 at *
      have c0 := (S.lv 0 rfl).all
      have c1 := (S.lv 1 rfl).all
      go_wp2_with fail
      refine (Hc.out).mono ?_
      rintro r w2 ⟨rfl, hl2⟩
      have Hb2 : Hid (Below w.heap.size w w2) := Hb.out.trans (hl2.mono Hb.out.size)
      clear Hc hl2 c0 c1
      go_wp2_with fail
      go_roundw
      case rel => exact ⟨j + 1, by omega, by go_num, Hb2.out⟩
      case measure => simp [intOf]; omega
    · go_wp2_with fail
      go_ret
      exact ⟨rfl, hb⟩
theorem sameEvents_any (N : Nat → Prop) (A A2 : Option Addr) (xs : List Evt) (c c2 : Nat) (w : World) (h1 : Sl rEvt N w A xs) (h2 : Sl rEvt N w A2 xs) (hl : xs.length ≤ 1000000) (hf : ∀ e ∈ xs, e.flds.length ≤ 1000000) :
    Calls Tryz.prog 18 #[.slice A xs.length c, .slice A2 xs.length c2] w fun r w' => r = .returned (.bool true) ∧ Below w.heap.size w w' := by
  have Hc := Lib.hid (sameEvs_any N A A2 xs c c2 w h1 h2 hl hf)
  clear h1 h2 hf
  go_enter Tryz.func18, Tryz.ntmps18
  go_wp2_with fail
  refine (Hc.out).mono ?_
  rintro r w2 ⟨rfl, hl2⟩
  go_wp2_with fail
  go_ret
  exact ⟨rfl, hl2⟩
def GivesFl (l : List Fld) (w : World) (e : Ending) (w' : World) : Prop := ∃ A c, e = .returned (.slice A l.length c) ∧ Mem w w' [.sl rFld A l]
set_option maxHeartbeats 4000000 in
set_option maxRecDepth 100000 in
theorem cloneF_any (A : Option Addr) (l : List Fld) (c : Nat) (w : World) (hL : Sl rFld (fun _ => False) w A l) (hl : l.length ≤ 1000) :
    Calls Tryz.prog 178 #[.slice A l.length c] w (GivesFl l w) := by
  have he : ∀ (a : Option Addr) (n c : Nat) (w : World), (binOp .eql 45 (.slice a n c) (.slice none 0 0)).run Tryz.prog w = .ok (.bool a.isNone) w := fun a n c w => Lib.run_eql_slice_nil w _ _ a n c 0 0 tyFld.under
  cases A with
  | none =>
    obtain rfl := Sl.nilOf hL
    have S : Mem w w [.sl rFld none []] := ((Mem.start w).nil rFld w.heap.size 123).frz 0 rfl |>.elim fun A h => h.elim fun c h => by
      obtain ⟨h1, h2⟩ := h
      cases h1
      exact h2
    go_enter Tryz.func178, Tryz.ntmps178
    go_wp2_with fail
    go_ret
    exact ⟨none, 0, rfl, S⟩
  | some ad =>
    have S := (Mem.start w).newAt #[] 123 w.heap.size rfl
    have S1 : Mem w (w.alloc (.cells #[] 123)) [.own rFld w.heap.size 123 (.slice (some ⟨w.heap.size, 0, none⟩) 0 0) []] := S.room (r := rFld) 0 rfl rfl (by decide) rfl
    have Hc := Lib.hid (Sl.flatCells flatFld (fun _ => rfl) (hL.keepB S1.b))
    have hsz := S1.b.size
    have HS := Lib.hid S1
    have Hl := Lib.hid hl
    clear S S1 hL hl
    go_enter Tryz.func178, Tryz.ntmps178
    go_wp2_with (at_builtin; refine HS.out.appN flatFld 0 rfl tyFld rfl _ _ rfl l l.length c rfl rfl ad rfl Hc.out (fun y _ => oneFld y) (fun _ => rfl) hsz (by simp only [List.length_nil]; have := Hl.out; omega) (by decide) ?_; intro v5 w5 S5)
    obtain ⟨A5, c5, e5, S6⟩ := S5.frz 0 rfl
    go_ret
    exact ⟨A5, c5, by rw [e5]; rfl, S6⟩
end Go.Proofs.YtmlpkejeglpciaaGreatDoor
