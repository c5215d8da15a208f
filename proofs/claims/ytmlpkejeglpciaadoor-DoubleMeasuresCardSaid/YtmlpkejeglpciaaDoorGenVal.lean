/- What the generator Value makes. -/
import Derived.Test.YtmlpkejeglpciaaDoorRep
import Derived.Test.YtmlpkejeglpciaaDoorFields
import Derived.Test.YtmlpkejeglpciaaDoorShelf
import Derived.Test.YtmlpkejeglpciaaDoorRepeat
namespace Go.Proofs.YtmlpkejeglpciaaDoor
open Go.RowKit
def DrawsVal (b m : Nat) (w : World) (e : Ending) (w' : World) : Prop := ∃ (k : Int) (t : ByteArray) (n : Int), t.size ≤ 1000 ∧ e = .returned (.agg #[.int .i64 k, .string t, .int .i64 n]) ∧ SK b w w' ∧ Strm b m w'
set_option maxHeartbeats 4000000 in
set_option maxRecDepth 100000 in
theorem value_any (b m : Nat) (w : World) (hs : Strm b m w) (hm : m ≤ 100000000000) :
    Calls Tryd.prog 19 #[.pointer (some ⟨b, 0, none⟩)] w (DrawsVal b (m + 6) w) := by
  have hlt := hs.lt
  have g0 := (G.start hs).alloc (.cells #[.int .i64 0, .string ⟨#[]⟩, .int .i64 0] 49)
  have bR0 := LV.new w w.heap.size #[.int .i64 0, .string ⟨#[]⟩, .int .i64 0] 49 rfl
  go_enter Tryd.func19, Tryd.ntmps19
  go_wp2_with fail
  refine (pick_le b m _ _ 1 4 g0.s (by simp) (by simp) (intsIn_of (by decide)) (by simp) (by simp) (by omega)).mono ?_
  rintro e w1 ⟨k, k_lo, k_hi, rfl, hk_w1, hs_w1⟩
  have g1 := (g0.step hk_w1 hs_w1).alloc (.cells #[.int .i64 k, .string ⟨#[]⟩, .int .i64 0] 49)
  have bR1 := (LV.keep bR0 hk_w1 (by omega)).alloc (.cells #[.int .i64 k, .string ⟨#[]⟩, .int .i64 0] 49)
  have bX1 := LV.new w1 w1.heap.size #[.int .i64 k, .string ⟨#[]⟩, .int .i64 0] 49 rfl
  have hz1 := hk_w1.size
  simp only [World.size_alloc] at hz1
  clear hk_w1 hs_w1 bR0 g0
  have hkk : k = 1 ∨ k = 2 ∨ k = 3 ∨ k = 4 := by omega
  clear k_lo k_hi
  rcases hkk with hk | hk | hk | hk
  all_goals subst hk
  · go_wp2_with fail
    refine (one_le b (m + 1) _ _ 100 g1.s (by simp) (by simp) (strsLe_of (by decide)) (by simp) (by simp) (by omega)).mono ?_
    rintro e w2 ⟨t, t_le, rfl, hk_w2, hs_w2⟩
    have g2 := g1.step hk_w2 hs_w2
    have bR2 := LV.keep bR1 hk_w2 (by omega)
    have bX2 := LV.keep bX1 hk_w2 (by omega)
    clear hk_w2 hs_w2 bR1 bX1 g1
    have h4 := g2.set (X := w1.heap.size) (by omega) (by omega) 1 (.string t)
    have bX4 := bX2.set 1 (.string t) #[.int .i64 1, .string t, .int .i64 0] rfl
    have bR4 := bR2.other (Y := w1.heap.size) (by omega) 1 (.string t)
    have bX2_c0 := bX2.cell 0 _ rfl
    have bX2_c1 := bX2.cell 1 _ rfl
    have bX2_c2 := bX2.cell 2 _ rfl
    have bX2_f0 := bX2.free 0
    have bX2_f1 := bX2.free 1
    have bX2_f2 := bX2.free 2
    clear bX2 bR2 g2
    go_wp2_with fail
    refine (flip_any b (m + 2) _ _ h4.s (by omega) (by omega) (by omega)).mono ?_
    rintro e w3 ⟨r3, rfl, hk_w3, hs_w3⟩
    have g3 := h4.step hk_w3 hs_w3
    have bX3 := LV.keep bX4 hk_w3 (by omega)
    have bR3 := LV.keep bR4 hk_w3 (by omega)
    clear hk_w3 hs_w3 h4 bX4 bR4
    cases r3
    · have gf := ((g3.set (X := w.heap.size) (by omega) (Nat.le_refl _) 0 (.int .i64 1)).set (X := w.heap.size) (by omega) (Nat.le_refl _) 1 (.string t)).set (X := w.heap.size) (by omega) (Nat.le_refl _) 2 (.int .i64 0)
      have bX3_c0 := bX3.cell 0 _ rfl
      have bX3_c1 := bX3.cell 1 _ rfl
      have bX3_c2 := bX3.cell 2 _ rfl
      have bX3_f0 := bX3.free 0
      have bX3_f1 := bX3.free 1
      have bX3_f2 := bX3.free 2
      have bR3_c0 := bR3.cell 0 _ rfl
      have bR3_c1 := bR3.cell 1 _ rfl
      have bR3_c2 := bR3.cell 2 _ rfl
      have bR3_f0 := bR3.free 0
      have bR3_f1 := bR3.free 1
      have bR3_f2 := bR3.free 2
      clear g3 bX3 bR3
      go_wp2_with fail
      exact bodyPost_ret (v := .agg #[.int .i64 1, .string t, .int .i64 0]) (by simp [results, Tryd.results19, go_sem, bR3_c0, bR3_c1, bR3_c2]) rfl ⟨_, _, _, (by omega), rfl, gf.k, gf.s.mono (by omega)⟩
    · go_wp2_with fail
      refine (next_any b (m + 3) _ _ g3.s (by omega) (by omega) (by omega)).mono ?_
      rintro e w4 ⟨r4, r4_lo, r4_hi, rfl, hk_w4, hs_w4⟩
      have g4 := g3.step hk_w4 hs_w4
      have bX4 := LV.keep bX3 hk_w4 (by omega)
      have bR4 := LV.keep bR3 hk_w4 (by omega)
      clear hk_w4 hs_w4 g3 bX3 bR3
      by_cases h40 : r4 = 0
      · subst h40
        go_wp2_with fail
        refine (pick_le b (m + 4) _ _ 0 5 g4.s (by simp) (by simp) (intsIn_of (by decide)) (by simp) (by simp) (by omega)).mono ?_
        rintro e w5 ⟨k5, k5_lo, k5_hi, rfl, hk_w5, hs_w5⟩
        have g5 := g4.step hk_w5 hs_w5
        have bX5 := LV.keep bX4 hk_w5 (by omega)
        have bR5 := LV.keep bR4 hk_w5 (by omega)
        clear hk_w5 hs_w5 g4 bX4 bR4
        have g6 := g5.set (X := w1.heap.size) (by omega) (by omega) 0 (.int .i64 k5)
        have bX6 := bX5.set 0 (.int .i64 k5) #[.int .i64 k5, .string t, .int .i64 0] rfl
        have bR6 := bR5.other (Y := w1.heap.size) (by omega) 0 (.int .i64 k5)
        have bX5_c0 := bX5.cell 0 _ rfl
        have bX5_c1 := bX5.cell 1 _ rfl
        have bX5_c2 := bX5.cell 2 _ rfl
        have bX5_f0 := bX5.free 0
        have bX5_f1 := bX5.free 1
        have bX5_f2 := bX5.free 2
        clear bX5 bR5 g5
        have gf := ((g6.set (X := w.heap.size) (by omega) (Nat.le_refl _) 0 (.int .i64 k5)).set (X := w.heap.size) (by omega) (Nat.le_refl _) 1 (.string t)).set (X := w.heap.size) (by omega) (Nat.le_refl _) 2 (.int .i64 0)
        have bX6_c0 := bX6.cell 0 _ rfl
        have bX6_c1 := bX6.cell 1 _ rfl
        have bX6_c2 := bX6.cell 2 _ rfl
        have bX6_f0 := bX6.free 0
        have bX6_f1 := bX6.free 1
        have bX6_f2 := bX6.free 2
        have bR6_c0 := bR6.cell 0 _ rfl
        have bR6_c1 := bR6.cell 1 _ rfl
        have bR6_c2 := bR6.cell 2 _ rfl
        have bR6_f0 := bR6.free 0
        have bR6_f1 := bR6.free 1
        have bR6_f2 := bR6.free 2
        clear g6 bX6 bR6
        go_wp2_with fail
        exact bodyPost_ret (v := .agg #[.int .i64 k5, .string t, .int .i64 0]) (by simp [results, Tryd.results19, go_sem, bR6_c0, bR6_c1, bR6_c2]) rfl ⟨_, _, _, (by omega), rfl, gf.k, gf.s.mono (by omega)⟩
      · have h40' : (r4 == 0) = false := by simpa using h40
        by_cases h41 : r4 = 1
        · subst h41
          clear h40 h40'
          go_wp2_with fail
          refine (pick_le b (m + 4) _ _ (-1) 1000000000001 g4.s (by simp) (by simp) (intsIn_of (by decide)) (by simp) (by simp) (by omega)).mono ?_
          rintro e w5 ⟨n5, n5_lo, n5_hi, rfl, hk_w5, hs_w5⟩
          have g5 := g4.step hk_w5 hs_w5
          have bX5 := LV.keep bX4 hk_w5 (by omega)
          have bR5 := LV.keep bR4 hk_w5 (by omega)
          clear hk_w5 hs_w5 g4 bX4 bR4
          have g6 := g5.set (X := w1.heap.size) (by omega) (by omega) 2 (.int .i64 n5)
          have bX6 := bX5.set 2 (.int .i64 n5) #[.int .i64 1, .string t, .int .i64 n5] rfl
          have bR6 := bR5.other (Y := w1.heap.size) (by omega) 2 (.int .i64 n5)
          have bX5_c0 := bX5.cell 0 _ rfl
          have bX5_c1 := bX5.cell 1 _ rfl
          have bX5_c2 := bX5.cell 2 _ rfl
          have bX5_f0 := bX5.free 0
          have bX5_f1 := bX5.free 1
          have bX5_f2 := bX5.free 2
          clear bX5 bR5 g5
          have gf := ((g6.set (X := w.heap.size) (by omega) (Nat.le_refl _) 0 (.int .i64 1)).set (X := w.heap.size) (by omega) (Nat.le_refl _) 1 (.string t)).set (X := w.heap.size) (by omega) (Nat.le_refl _) 2 (.int .i64 n5)
          have bX6_c0 := bX6.cell 0 _ rfl
          have bX6_c1 := bX6.cell 1 _ rfl
          have bX6_c2 := bX6.cell 2 _ rfl
          have bX6_f0 := bX6.free 0
          have bX6_f1 := bX6.free 1
          have bX6_f2 := bX6.free 2
          have bR6_c0 := bR6.cell 0 _ rfl
          have bR6_c1 := bR6.cell 1 _ rfl
          have bR6_c2 := bR6.cell 2 _ rfl
          have bR6_f0 := bR6.free 0
          have bR6_f1 := bR6.free 1
          have bR6_f2 := bR6.free 2
          clear g6 bX6 bR6
          go_wp2_with fail
          exact bodyPost_ret (v := .agg #[.int .i64 1, .string t, .int .i64 n5]) (by simp [results, Tryd.results19, go_sem, bR6_c0, bR6_c1, bR6_c2]) rfl ⟨_, _, _, (by omega), rfl, gf.k, gf.s.mono (by omega)⟩
        · have h41' : (r4 == 1) = false := by simpa using h41
          go_wp2_with fail
          go_wp2_with fail
          refine (repeat_le ⟨#[97]⟩ 200 1000 _ (by decide) (by decide) (by decide) (by decide)).mono ?_
          rintro e w5 ⟨ra, ra_le, rfl, hl_w5⟩
          have g5 := g4.below hl_w5
          have bX5 := LV.keep bX4 (SK.ofBelow (b := b) hl_w5) (by omega)
          have bR5 := LV.keep bR4 (SK.ofBelow (b := b) hl_w5) (by omega)
          clear hl_w5 bX4 bR4 g4
          go_wp2_with fail
          refine (repeat_le ⟨#[97]⟩ 201 1000 _ (by decide) (by decide) (by decide) (by decide)).mono ?_
          rintro e w6 ⟨rb, rb_le, rfl, hl_w6⟩
          have g6 := g5.below hl_w6
          have bX6 := LV.keep bX5 (SK.ofBelow (b := b) hl_w6) (by omega)
          have bR6 := LV.keep bR5 (SK.ofBelow (b := b) hl_w6) (by omega)
          clear hl_w6 bX5 bR5 g5
          go_wp2_with fail
          refine (one_le b (m + 4) _ _ 1000 g6.s (by simp) (by simp) (by repeat (first | exact strsLe_nil | refine strsLe_cons (by first | omega | decide) ?_)) (by simp) (by simp) (by omega)).mono ?_
          rintro e w7 ⟨t7, t7_le, rfl, hk_w7, hs_w7⟩
          have g7 := g6.step hk_w7 hs_w7
          have bX7 := LV.keep bX6 hk_w7 (by omega)
          have bR7 := LV.keep bR6 hk_w7 (by omega)
          clear hk_w7 hs_w7 g6 bX6 bR6
          have g8 := g7.set (X := w1.heap.size) (by omega) (by omega) 1 (.string t7)
          have bX8 := bX7.set 1 (.string t7) #[.int .i64 1, .string t7, .int .i64 0] rfl
          have bR8 := bR7.other (Y := w1.heap.size) (by omega) 1 (.string t7)
          have bX7_c0 := bX7.cell 0 _ rfl
          have bX7_c1 := bX7.cell 1 _ rfl
          have bX7_c2 := bX7.cell 2 _ rfl
          have bX7_f0 := bX7.free 0
          have bX7_f1 := bX7.free 1
          have bX7_f2 := bX7.free 2
          clear bX7 bR7 g7
          have gf := ((g8.set (X := w.heap.size) (by omega) (Nat.le_refl _) 0 (.int .i64 1)).set (X := w.heap.size) (by omega) (Nat.le_refl _) 1 (.string t7)).set (X := w.heap.size) (by omega) (Nat.le_refl _) 2 (.int .i64 0)
          have bX8_c0 := bX8.cell 0 _ rfl
          have bX8_c1 := bX8.cell 1 _ rfl
          have bX8_c2 := bX8.cell 2 _ rfl
          have bX8_f0 := bX8.free 0
          have bX8_f1 := bX8.free 1
          have bX8_f2 := bX8.free 2
          have bR8_c0 := bR8.cell 0 _ rfl
          have bR8_c1 := bR8.cell 1 _ rfl
          have bR8_c2 := bR8.cell 2 _ rfl
          have bR8_f0 := bR8.free 0
          have bR8_f1 := bR8.free 1
          have bR8_f2 := bR8.free 2
          clear g8 bX8 bR8
          go_wp2_with fail
          exact bodyPost_ret (v := .agg #[.int .i64 1, .string t7, .int .i64 0]) (by simp [results, Tryd.results19, go_sem, bR8_c0, bR8_c1, bR8_c2]) rfl ⟨_, _, _, t7_le, rfl, gf.k, gf.s.mono (by omega)⟩
  · go_wp2_with fail
    refine (pick_le b (m + 1) _ _ (-1000000000000) 1000000000000 g1.s (by simp) (by simp) (intsIn_of (by decide)) (by simp) (by simp) (by omega)).mono ?_
    rintro e w2 ⟨n, n_lo, n_hi, rfl, hk_w2, hs_w2⟩
    have g2 := g1.step hk_w2 hs_w2
    have bR2 := LV.keep bR1 hk_w2 (by omega)
    have bX2 := LV.keep bX1 hk_w2 (by omega)
    clear hk_w2 hs_w2 bR1 bX1 g1
    have h4 := g2.set (X := w1.heap.size) (by omega) (by omega) 2 (.int .i64 n)
    have bX4 := bX2.set 2 (.int .i64 n) #[.int .i64 2, .string ⟨#[]⟩, .int .i64 n] rfl
    have bR4 := bR2.other (Y := w1.heap.size) (by omega) 2 (.int .i64 n)
    have bX2_c0 := bX2.cell 0 _ rfl
    have bX2_c1 := bX2.cell 1 _ rfl
    have bX2_c2 := bX2.cell 2 _ rfl
    have bX2_f0 := bX2.free 0
    have bX2_f1 := bX2.free 1
    have bX2_f2 := bX2.free 2
    clear bX2 bR2 g2
    go_wp2_with fail
    refine (flip_any b (m + 2) _ _ h4.s (by omega) (by omega) (by omega)).mono ?_
    rintro e w3 ⟨r3, rfl, hk_w3, hs_w3⟩
    have g3 := h4.step hk_w3 hs_w3
    have bX3 := LV.keep bX4 hk_w3 (by omega)
    have bR3 := LV.keep bR4 hk_w3 (by omega)
    clear hk_w3 hs_w3 h4 bX4 bR4
    cases r3
    · have gf := ((g3.set (X := w.heap.size) (by omega) (Nat.le_refl _) 0 (.int .i64 2)).set (X := w.heap.size) (by omega) (Nat.le_refl _) 1 (.string (ByteArray.mk #[]))).set (X := w.heap.size) (by omega) (Nat.le_refl _) 2 (.int .i64 n)
      have bX3_c0 := bX3.cell 0 _ rfl
      have bX3_c1 := bX3.cell 1 _ rfl
      have bX3_c2 := bX3.cell 2 _ rfl
      have bX3_f0 := bX3.free 0
      have bX3_f1 := bX3.free 1
      have bX3_f2 := bX3.free 2
      have bR3_c0 := bR3.cell 0 _ rfl
      have bR3_c1 := bR3.cell 1 _ rfl
      have bR3_c2 := bR3.cell 2 _ rfl
      have bR3_f0 := bR3.free 0
      have bR3_f1 := bR3.free 1
      have bR3_f2 := bR3.free 2
      clear g3 bX3 bR3
      go_wp2_with fail
      exact bodyPost_ret (v := .agg #[.int .i64 2, .string (ByteArray.mk #[]), .int .i64 n]) (by simp [results, Tryd.results19, go_sem, bR3_c0, bR3_c1, bR3_c2]) rfl ⟨_, _, _, (by decide), rfl, gf.k, gf.s.mono (by omega)⟩
    · go_wp2_with fail
      refine (next_any b (m + 3) _ _ g3.s (by omega) (by omega) (by omega)).mono ?_
      rintro e w4 ⟨r4, r4_lo, r4_hi, rfl, hk_w4, hs_w4⟩
      have g4 := g3.step hk_w4 hs_w4
      have bX4 := LV.keep bX3 hk_w4 (by omega)
      have bR4 := LV.keep bR3 hk_w4 (by omega)
      clear hk_w4 hs_w4 g3 bX3 bR3
      by_cases h40 : r4 = 0
      · subst h40
        go_wp2_with fail
        refine (pick_le b (m + 4) _ _ 0 5 g4.s (by simp) (by simp) (intsIn_of (by decide)) (by simp) (by simp) (by omega)).mono ?_
        rintro e w5 ⟨k5, k5_lo, k5_hi, rfl, hk_w5, hs_w5⟩
        have g5 := g4.step hk_w5 hs_w5
        have bX5 := LV.keep bX4 hk_w5 (by omega)
        have bR5 := LV.keep bR4 hk_w5 (by omega)
        clear hk_w5 hs_w5 g4 bX4 bR4
        have g6 := g5.set (X := w1.heap.size) (by omega) (by omega) 0 (.int .i64 k5)
        have bX6 := bX5.set 0 (.int .i64 k5) #[.int .i64 k5, .string (ByteArray.mk #[]), .int .i64 n] rfl
        have bR6 := bR5.other (Y := w1.heap.size) (by omega) 0 (.int .i64 k5)
        have bX5_c0 := bX5.cell 0 _ rfl
        have bX5_c1 := bX5.cell 1 _ rfl
        have bX5_c2 := bX5.cell 2 _ rfl
        have bX5_f0 := bX5.free 0
        have bX5_f1 := bX5.free 1
        have bX5_f2 := bX5.free 2
        clear bX5 bR5 g5
        have gf := ((g6.set (X := w.heap.size) (by omega) (Nat.le_refl _) 0 (.int .i64 k5)).set (X := w.heap.size) (by omega) (Nat.le_refl _) 1 (.string (ByteArray.mk #[]))).set (X := w.heap.size) (by omega) (Nat.le_refl _) 2 (.int .i64 n)
        have bX6_c0 := bX6.cell 0 _ rfl
        have bX6_c1 := bX6.cell 1 _ rfl
        have bX6_c2 := bX6.cell 2 _ rfl
        have bX6_f0 := bX6.free 0
        have bX6_f1 := bX6.free 1
        have bX6_f2 := bX6.free 2
        have bR6_c0 := bR6.cell 0 _ rfl
        have bR6_c1 := bR6.cell 1 _ rfl
        have bR6_c2 := bR6.cell 2 _ rfl
        have bR6_f0 := bR6.free 0
        have bR6_f1 := bR6.free 1
        have bR6_f2 := bR6.free 2
        clear g6 bX6 bR6
        go_wp2_with fail
        exact bodyPost_ret (v := .agg #[.int .i64 k5, .string (ByteArray.mk #[]), .int .i64 n]) (by simp [results, Tryd.results19, go_sem, bR6_c0, bR6_c1, bR6_c2]) rfl ⟨_, _, _, (by decide), rfl, gf.k, gf.s.mono (by omega)⟩
      · have h40' : (r4 == 0) = false := by simpa using h40
        by_cases h41 : r4 = 1
        · subst h41
          clear h40 h40'
          go_wp2_with fail
          refine (pick_le b (m + 4) _ _ (-1) 1000000000001 g4.s (by simp) (by simp) (intsIn_of (by decide)) (by simp) (by simp) (by omega)).mono ?_
          rintro e w5 ⟨n5, n5_lo, n5_hi, rfl, hk_w5, hs_w5⟩
          have g5 := g4.step hk_w5 hs_w5
          have bX5 := LV.keep bX4 hk_w5 (by omega)
          have bR5 := LV.keep bR4 hk_w5 (by omega)
          clear hk_w5 hs_w5 g4 bX4 bR4
          have g6 := g5.set (X := w1.heap.size) (by omega) (by omega) 2 (.int .i64 n5)
          have bX6 := bX5.set 2 (.int .i64 n5) #[.int .i64 2, .string (ByteArray.mk #[]), .int .i64 n5] rfl
          have bR6 := bR5.other (Y := w1.heap.size) (by omega) 2 (.int .i64 n5)
          have bX5_c0 := bX5.cell 0 _ rfl
          have bX5_c1 := bX5.cell 1 _ rfl
          have bX5_c2 := bX5.cell 2 _ rfl
          have bX5_f0 := bX5.free 0
          have bX5_f1 := bX5.free 1
          have bX5_f2 := bX5.free 2
          clear bX5 bR5 g5
          have gf := ((g6.set (X := w.heap.size) (by omega) (Nat.le_refl _) 0 (.int .i64 2)).set (X := w.heap.size) (by omega) (Nat.le_refl _) 1 (.string (ByteArray.mk #[]))).set (X := w.heap.size) (by omega) (Nat.le_refl _) 2 (.int .i64 n5)
          have bX6_c0 := bX6.cell 0 _ rfl
          have bX6_c1 := bX6.cell 1 _ rfl
          have bX6_c2 := bX6.cell 2 _ rfl
          have bX6_f0 := bX6.free 0
          have bX6_f1 := bX6.free 1
          have bX6_f2 := bX6.free 2
          have bR6_c0 := bR6.cell 0 _ rfl
          have bR6_c1 := bR6.cell 1 _ rfl
          have bR6_c2 := bR6.cell 2 _ rfl
          have bR6_f0 := bR6.free 0
          have bR6_f1 := bR6.free 1
          have bR6_f2 := bR6.free 2
          clear g6 bX6 bR6
          go_wp2_with fail
          exact bodyPost_ret (v := .agg #[.int .i64 2, .string (ByteArray.mk #[]), .int .i64 n5]) (by simp [results, Tryd.results19, go_sem, bR6_c0, bR6_c1, bR6_c2]) rfl ⟨_, _, _, (by decide), rfl, gf.k, gf.s.mono (by omega)⟩
        · have h41' : (r4 == 1) = false := by simpa using h41
          go_wp2_with fail
          go_wp2_with fail
          refine (repeat_le ⟨#[97]⟩ 200 1000 _ (by decide) (by decide) (by decide) (by decide)).mono ?_
          rintro e w5 ⟨ra, ra_le, rfl, hl_w5⟩
          have g5 := g4.below hl_w5
          have bX5 := LV.keep bX4 (SK.ofBelow (b := b) hl_w5) (by omega)
          have bR5 := LV.keep bR4 (SK.ofBelow (b := b) hl_w5) (by omega)
          clear hl_w5 bX4 bR4 g4
          go_wp2_with fail
          refine (repeat_le ⟨#[97]⟩ 201 1000 _ (by decide) (by decide) (by decide) (by decide)).mono ?_
          rintro e w6 ⟨rb, rb_le, rfl, hl_w6⟩
          have g6 := g5.below hl_w6
          have bX6 := LV.keep bX5 (SK.ofBelow (b := b) hl_w6) (by omega)
          have bR6 := LV.keep bR5 (SK.ofBelow (b := b) hl_w6) (by omega)
          clear hl_w6 bX5 bR5 g5
          go_wp2_with fail
          refine (one_le b (m + 4) _ _ 1000 g6.s (by simp) (by simp) (by repeat (first | exact strsLe_nil | refine strsLe_cons (by first | omega | decide) ?_)) (by simp) (by simp) (by omega)).mono ?_
          rintro e w7 ⟨t7, t7_le, rfl, hk_w7, hs_w7⟩
          have g7 := g6.step hk_w7 hs_w7
          have bX7 := LV.keep bX6 hk_w7 (by omega)
          have bR7 := LV.keep bR6 hk_w7 (by omega)
          clear hk_w7 hs_w7 g6 bX6 bR6
          have g8 := g7.set (X := w1.heap.size) (by omega) (by omega) 1 (.string t7)
          have bX8 := bX7.set 1 (.string t7) #[.int .i64 2, .string t7, .int .i64 n] rfl
          have bR8 := bR7.other (Y := w1.heap.size) (by omega) 1 (.string t7)
          have bX7_c0 := bX7.cell 0 _ rfl
          have bX7_c1 := bX7.cell 1 _ rfl
          have bX7_c2 := bX7.cell 2 _ rfl
          have bX7_f0 := bX7.free 0
          have bX7_f1 := bX7.free 1
          have bX7_f2 := bX7.free 2
          clear bX7 bR7 g7
          have gf := ((g8.set (X := w.heap.size) (by omega) (Nat.le_refl _) 0 (.int .i64 2)).set (X := w.heap.size) (by omega) (Nat.le_refl _) 1 (.string t7)).set (X := w.heap.size) (by omega) (Nat.le_refl _) 2 (.int .i64 n)
          have bX8_c0 := bX8.cell 0 _ rfl
          have bX8_c1 := bX8.cell 1 _ rfl
          have bX8_c2 := bX8.cell 2 _ rfl
          have bX8_f0 := bX8.free 0
          have bX8_f1 := bX8.free 1
          have bX8_f2 := bX8.free 2
          have bR8_c0 := bR8.cell 0 _ rfl
          have bR8_c1 := bR8.cell 1 _ rfl
          have bR8_c2 := bR8.cell 2 _ rfl
          have bR8_f0 := bR8.free 0
          have bR8_f1 := bR8.free 1
          have bR8_f2 := bR8.free 2
          clear g8 bX8 bR8
          go_wp2_with fail
          exact bodyPost_ret (v := .agg #[.int .i64 2, .string t7, .int .i64 n]) (by simp [results, Tryd.results19, go_sem, bR8_c0, bR8_c1, bR8_c2]) rfl ⟨_, _, _, t7_le, rfl, gf.k, gf.s.mono (by omega)⟩
  · go_wp2_with fail
    refine (next_any b (m + 1) _ _ g1.s (by omega) (by omega) (by omega)).mono ?_
    rintro e w2 ⟨n, n_lo, n_hi, rfl, hk_w2, hs_w2⟩
    have g2 := g1.step hk_w2 hs_w2
    have bR2 := LV.keep bR1 hk_w2 (by omega)
    have bX2 := LV.keep bX1 hk_w2 (by omega)
    clear hk_w2 hs_w2 bR1 bX1 g1
    have h4 := g2.set (X := w1.heap.size) (by omega) (by omega) 2 (.int .i64 n)
    have bX4 := bX2.set 2 (.int .i64 n) #[.int .i64 3, .string ⟨#[]⟩, .int .i64 n] rfl
    have bR4 := bR2.other (Y := w1.heap.size) (by omega) 2 (.int .i64 n)
    have bX2_c0 := bX2.cell 0 _ rfl
    have bX2_c1 := bX2.cell 1 _ rfl
    have bX2_c2 := bX2.cell 2 _ rfl
    have bX2_f0 := bX2.free 0
    have bX2_f1 := bX2.free 1
    have bX2_f2 := bX2.free 2
    clear bX2 bR2 g2
    go_wp2_with fail
    refine (flip_any b (m + 2) _ _ h4.s (by omega) (by omega) (by omega)).mono ?_
    rintro e w3 ⟨r3, rfl, hk_w3, hs_w3⟩
    have g3 := h4.step hk_w3 hs_w3
    have bX3 := LV.keep bX4 hk_w3 (by omega)
    have bR3 := LV.keep bR4 hk_w3 (by omega)
    clear hk_w3 hs_w3 h4 bX4 bR4
    cases r3
    · have gf := ((g3.set (X := w.heap.size) (by omega) (Nat.le_refl _) 0 (.int .i64 3)).set (X := w.heap.size) (by omega) (Nat.le_refl _) 1 (.string (ByteArray.mk #[]))).set (X := w.heap.size) (by omega) (Nat.le_refl _) 2 (.int .i64 n)
      have bX3_c0 := bX3.cell 0 _ rfl
      have bX3_c1 := bX3.cell 1 _ rfl
      have bX3_c2 := bX3.cell 2 _ rfl
      have bX3_f0 := bX3.free 0
      have bX3_f1 := bX3.free 1
      have bX3_f2 := bX3.free 2
      have bR3_c0 := bR3.cell 0 _ rfl
      have bR3_c1 := bR3.cell 1 _ rfl
      have bR3_c2 := bR3.cell 2 _ rfl
      have bR3_f0 := bR3.free 0
      have bR3_f1 := bR3.free 1
      have bR3_f2 := bR3.free 2
      clear g3 bX3 bR3
      go_wp2_with fail
      exact bodyPost_ret (v := .agg #[.int .i64 3, .string (ByteArray.mk #[]), .int .i64 n]) (by simp [results, Tryd.results19, go_sem, bR3_c0, bR3_c1, bR3_c2]) rfl ⟨_, _, _, (by decide), rfl, gf.k, gf.s.mono (by omega)⟩
    · go_wp2_with fail
      refine (next_any b (m + 3) _ _ g3.s (by omega) (by omega) (by omega)).mono ?_
      rintro e w4 ⟨r4, r4_lo, r4_hi, rfl, hk_w4, hs_w4⟩
      have g4 := g3.step hk_w4 hs_w4
      have bX4 := LV.keep bX3 hk_w4 (by omega)
      have bR4 := LV.keep bR3 hk_w4 (by omega)
      clear hk_w4 hs_w4 g3 bX3 bR3
      by_cases h40 : r4 = 0
      · subst h40
        go_wp2_with fail
        refine (pick_le b (m + 4) _ _ 0 5 g4.s (by simp) (by simp) (intsIn_of (by decide)) (by simp) (by simp) (by omega)).mono ?_
        rintro e w5 ⟨k5, k5_lo, k5_hi, rfl, hk_w5, hs_w5⟩
        have g5 := g4.step hk_w5 hs_w5
        have bX5 := LV.keep bX4 hk_w5 (by omega)
        have bR5 := LV.keep bR4 hk_w5 (by omega)
        clear hk_w5 hs_w5 g4 bX4 bR4
        have g6 := g5.set (X := w1.heap.size) (by omega) (by omega) 0 (.int .i64 k5)
        have bX6 := bX5.set 0 (.int .i64 k5) #[.int .i64 k5, .string (ByteArray.mk #[]), .int .i64 n] rfl
        have bR6 := bR5.other (Y := w1.heap.size) (by omega) 0 (.int .i64 k5)
        have bX5_c0 := bX5.cell 0 _ rfl
        have bX5_c1 := bX5.cell 1 _ rfl
        have bX5_c2 := bX5.cell 2 _ rfl
        have bX5_f0 := bX5.free 0
        have bX5_f1 := bX5.free 1
        have bX5_f2 := bX5.free 2
        clear bX5 bR5 g5
        have gf := ((g6.set (X := w.heap.size) (by omega) (Nat.le_refl _) 0 (.int .i64 k5)).set (X := w.heap.size) (by omega) (Nat.le_refl _) 1 (.string (ByteArray.mk #[]))).set (X := w.heap.size) (by omega) (Nat.le_refl _) 2 (.int .i64 n)
        have bX6_c0 := bX6.cell 0 _ rfl
        have bX6_c1 := bX6.cell 1 _ rfl
        have bX6_c2 := bX6.cell 2 _ rfl
        have bX6_f0 := bX6.free 0
        have bX6_f1 := bX6.free 1
        have bX6_f2 := bX6.free 2
        have bR6_c0 := bR6.cell 0 _ rfl
        have bR6_c1 := bR6.cell 1 _ rfl
        have bR6_c2 := bR6.cell 2 _ rfl
        have bR6_f0 := bR6.free 0
        have bR6_f1 := bR6.free 1
        have bR6_f2 := bR6.free 2
        clear g6 bX6 bR6
        go_wp2_with fail
        exact bodyPost_ret (v := .agg #[.int .i64 k5, .string (ByteArray.mk #[]), .int .i64 n]) (by simp [results, Tryd.results19, go_sem, bR6_c0, bR6_c1, bR6_c2]) rfl ⟨_, _, _, (by decide), rfl, gf.k, gf.s.mono (by omega)⟩
      · have h40' : (r4 == 0) = false := by simpa using h40
        by_cases h41 : r4 = 1
        · subst h41
          clear h40 h40'
          go_wp2_with fail
          refine (pick_le b (m + 4) _ _ (-1) 1000000000001 g4.s (by simp) (by simp) (intsIn_of (by decide)) (by simp) (by simp) (by omega)).mono ?_
          rintro e w5 ⟨n5, n5_lo, n5_hi, rfl, hk_w5, hs_w5⟩
          have g5 := g4.step hk_w5 hs_w5
          have bX5 := LV.keep bX4 hk_w5 (by omega)
          have bR5 := LV.keep bR4 hk_w5 (by omega)
          clear hk_w5 hs_w5 g4 bX4 bR4
          have g6 := g5.set (X := w1.heap.size) (by omega) (by omega) 2 (.int .i64 n5)
          have bX6 := bX5.set 2 (.int .i64 n5) #[.int .i64 3, .string (ByteArray.mk #[]), .int .i64 n5] rfl
          have bR6 := bR5.other (Y := w1.heap.size) (by omega) 2 (.int .i64 n5)
          have bX5_c0 := bX5.cell 0 _ rfl
          have bX5_c1 := bX5.cell 1 _ rfl
          have bX5_c2 := bX5.cell 2 _ rfl
          have bX5_f0 := bX5.free 0
          have bX5_f1 := bX5.free 1
          have bX5_f2 := bX5.free 2
          clear bX5 bR5 g5
          have gf := ((g6.set (X := w.heap.size) (by omega) (Nat.le_refl _) 0 (.int .i64 3)).set (X := w.heap.size) (by omega) (Nat.le_refl _) 1 (.string (ByteArray.mk #[]))).set (X := w.heap.size) (by omega) (Nat.le_refl _) 2 (.int .i64 n5)
          have bX6_c0 := bX6.cell 0 _ rfl
          have bX6_c1 := bX6.cell 1 _ rfl
          have bX6_c2 := bX6.cell 2 _ rfl
          have bX6_f0 := bX6.free 0
          have bX6_f1 := bX6.free 1
          have bX6_f2 := bX6.free 2
          have bR6_c0 := bR6.cell 0 _ rfl
          have bR6_c1 := bR6.cell 1 _ rfl
          have bR6_c2 := bR6.cell 2 _ rfl
          have bR6_f0 := bR6.free 0
          have bR6_f1 := bR6.free 1
          have bR6_f2 := bR6.free 2
          clear g6 bX6 bR6
          go_wp2_with fail
          exact bodyPost_ret (v := .agg #[.int .i64 3, .string (ByteArray.mk #[]), .int .i64 n5]) (by simp [results, Tryd.results19, go_sem, bR6_c0, bR6_c1, bR6_c2]) rfl ⟨_, _, _, (by decide), rfl, gf.k, gf.s.mono (by omega)⟩
        · have h41' : (r4 == 1) = false := by simpa using h41
          go_wp2_with fail
          go_wp2_with fail
          refine (repeat_le ⟨#[97]⟩ 200 1000 _ (by decide) (by decide) (by decide) (by decide)).mono ?_
          rintro e w5 ⟨ra, ra_le, rfl, hl_w5⟩
          have g5 := g4.below hl_w5
          have bX5 := LV.keep bX4 (SK.ofBelow (b := b) hl_w5) (by omega)
          have bR5 := LV.keep bR4 (SK.ofBelow (b := b) hl_w5) (by omega)
          clear hl_w5 bX4 bR4 g4
          go_wp2_with fail
          refine (repeat_le ⟨#[97]⟩ 201 1000 _ (by decide) (by decide) (by decide) (by decide)).mono ?_
          rintro e w6 ⟨rb, rb_le, rfl, hl_w6⟩
          have g6 := g5.below hl_w6
          have bX6 := LV.keep bX5 (SK.ofBelow (b := b) hl_w6) (by omega)
          have bR6 := LV.keep bR5 (SK.ofBelow (b := b) hl_w6) (by omega)
          clear hl_w6 bX5 bR5 g5
          go_wp2_with fail
          refine (one_le b (m + 4) _ _ 1000 g6.s (by simp) (by simp) (by repeat (first | exact strsLe_nil | refine strsLe_cons (by first | omega | decide) ?_)) (by simp) (by simp) (by omega)).mono ?_
          rintro e w7 ⟨t7, t7_le, rfl, hk_w7, hs_w7⟩
          have g7 := g6.step hk_w7 hs_w7
          have bX7 := LV.keep bX6 hk_w7 (by omega)
          have bR7 := LV.keep bR6 hk_w7 (by omega)
          clear hk_w7 hs_w7 g6 bX6 bR6
          have g8 := g7.set (X := w1.heap.size) (by omega) (by omega) 1 (.string t7)
          have bX8 := bX7.set 1 (.string t7) #[.int .i64 3, .string t7, .int .i64 n] rfl
          have bR8 := bR7.other (Y := w1.heap.size) (by omega) 1 (.string t7)
          have bX7_c0 := bX7.cell 0 _ rfl
          have bX7_c1 := bX7.cell 1 _ rfl
          have bX7_c2 := bX7.cell 2 _ rfl
          have bX7_f0 := bX7.free 0
          have bX7_f1 := bX7.free 1
          have bX7_f2 := bX7.free 2
          clear bX7 bR7 g7
          have gf := ((g8.set (X := w.heap.size) (by omega) (Nat.le_refl _) 0 (.int .i64 3)).set (X := w.heap.size) (by omega) (Nat.le_refl _) 1 (.string t7)).set (X := w.heap.size) (by omega) (Nat.le_refl _) 2 (.int .i64 n)
          have bX8_c0 := bX8.cell 0 _ rfl
          have bX8_c1 := bX8.cell 1 _ rfl
          have bX8_c2 := bX8.cell 2 _ rfl
          have bX8_f0 := bX8.free 0
          have bX8_f1 := bX8.free 1
          have bX8_f2 := bX8.free 2
          have bR8_c0 := bR8.cell 0 _ rfl
          have bR8_c1 := bR8.cell 1 _ rfl
          have bR8_c2 := bR8.cell 2 _ rfl
          have bR8_f0 := bR8.free 0
          have bR8_f1 := bR8.free 1
          have bR8_f2 := bR8.free 2
          clear g8 bX8 bR8
          go_wp2_with fail
          exact bodyPost_ret (v := .agg #[.int .i64 3, .string t7, .int .i64 n]) (by simp [results, Tryd.results19, go_sem, bR8_c0, bR8_c1, bR8_c2]) rfl ⟨_, _, _, t7_le, rfl, gf.k, gf.s.mono (by omega)⟩
  · go_wp2_with fail
    refine (pick_le b (m + 1) _ _ 0 4321439 g1.s (by simp) (by simp) (intsIn_of (by decide)) (by simp) (by simp) (by omega)).mono ?_
    rintro e w2 ⟨n, n_lo, n_hi, rfl, hk_w2, hs_w2⟩
    have g2 := g1.step hk_w2 hs_w2
    have bR2 := LV.keep bR1 hk_w2 (by omega)
    have bX2 := LV.keep bX1 hk_w2 (by omega)
    clear hk_w2 hs_w2 bR1 bX1 g1
    have h4 := g2.set (X := w1.heap.size) (by omega) (by omega) 2 (.int .i64 n)
    have bX4 := bX2.set 2 (.int .i64 n) #[.int .i64 4, .string ⟨#[]⟩, .int .i64 n] rfl
    have bR4 := bR2.other (Y := w1.heap.size) (by omega) 2 (.int .i64 n)
    have bX2_c0 := bX2.cell 0 _ rfl
    have bX2_c1 := bX2.cell 1 _ rfl
    have bX2_c2 := bX2.cell 2 _ rfl
    have bX2_f0 := bX2.free 0
    have bX2_f1 := bX2.free 1
    have bX2_f2 := bX2.free 2
    clear bX2 bR2 g2
    go_wp2_with fail
    refine (flip_any b (m + 2) _ _ h4.s (by omega) (by omega) (by omega)).mono ?_
    rintro e w3 ⟨r3, rfl, hk_w3, hs_w3⟩
    have g3 := h4.step hk_w3 hs_w3
    have bX3 := LV.keep bX4 hk_w3 (by omega)
    have bR3 := LV.keep bR4 hk_w3 (by omega)
    clear hk_w3 hs_w3 h4 bX4 bR4
    cases r3
    · have gf := ((g3.set (X := w.heap.size) (by omega) (Nat.le_refl _) 0 (.int .i64 4)).set (X := w.heap.size) (by omega) (Nat.le_refl _) 1 (.string (ByteArray.mk #[]))).set (X := w.heap.size) (by omega) (Nat.le_refl _) 2 (.int .i64 n)
      have bX3_c0 := bX3.cell 0 _ rfl
      have bX3_c1 := bX3.cell 1 _ rfl
      have bX3_c2 := bX3.cell 2 _ rfl
      have bX3_f0 := bX3.free 0
      have bX3_f1 := bX3.free 1
      have bX3_f2 := bX3.free 2
      have bR3_c0 := bR3.cell 0 _ rfl
      have bR3_c1 := bR3.cell 1 _ rfl
      have bR3_c2 := bR3.cell 2 _ rfl
      have bR3_f0 := bR3.free 0
      have bR3_f1 := bR3.free 1
      have bR3_f2 := bR3.free 2
      clear g3 bX3 bR3
      go_wp2_with fail
      exact bodyPost_ret (v := .agg #[.int .i64 4, .string (ByteArray.mk #[]), .int .i64 n]) (by simp [results, Tryd.results19, go_sem, bR3_c0, bR3_c1, bR3_c2]) rfl ⟨_, _, _, (by decide), rfl, gf.k, gf.s.mono (by omega)⟩
    · go_wp2_with fail
      refine (next_any b (m + 3) _ _ g3.s (by omega) (by omega) (by omega)).mono ?_
      rintro e w4 ⟨r4, r4_lo, r4_hi, rfl, hk_w4, hs_w4⟩
      have g4 := g3.step hk_w4 hs_w4
      have bX4 := LV.keep bX3 hk_w4 (by omega)
      have bR4 := LV.keep bR3 hk_w4 (by omega)
      clear hk_w4 hs_w4 g3 bX3 bR3
      by_cases h40 : r4 = 0
      · subst h40
        go_wp2_with fail
        refine (pick_le b (m + 4) _ _ 0 5 g4.s (by simp) (by simp) (intsIn_of (by decide)) (by simp) (by simp) (by omega)).mono ?_
        rintro e w5 ⟨k5, k5_lo, k5_hi, rfl, hk_w5, hs_w5⟩
        have g5 := g4.step hk_w5 hs_w5
        have bX5 := LV.keep bX4 hk_w5 (by omega)
        have bR5 := LV.keep bR4 hk_w5 (by omega)
        clear hk_w5 hs_w5 g4 bX4 bR4
        have g6 := g5.set (X := w1.heap.size) (by omega) (by omega) 0 (.int .i64 k5)
        have bX6 := bX5.set 0 (.int .i64 k5) #[.int .i64 k5, .string (ByteArray.mk #[]), .int .i64 n] rfl
        have bR6 := bR5.other (Y := w1.heap.size) (by omega) 0 (.int .i64 k5)
        have bX5_c0 := bX5.cell 0 _ rfl
        have bX5_c1 := bX5.cell 1 _ rfl
        have bX5_c2 := bX5.cell 2 _ rfl
        have bX5_f0 := bX5.free 0
        have bX5_f1 := bX5.free 1
        have bX5_f2 := bX5.free 2
        clear bX5 bR5 g5
        have gf := ((g6.set (X := w.heap.size) (by omega) (Nat.le_refl _) 0 (.int .i64 k5)).set (X := w.heap.size) (by omega) (Nat.le_refl _) 1 (.string (ByteArray.mk #[]))).set (X := w.heap.size) (by omega) (Nat.le_refl _) 2 (.int .i64 n)
        have bX6_c0 := bX6.cell 0 _ rfl
        have bX6_c1 := bX6.cell 1 _ rfl
        have bX6_c2 := bX6.cell 2 _ rfl
        have bX6_f0 := bX6.free 0
        have bX6_f1 := bX6.free 1
        have bX6_f2 := bX6.free 2
        have bR6_c0 := bR6.cell 0 _ rfl
        have bR6_c1 := bR6.cell 1 _ rfl
        have bR6_c2 := bR6.cell 2 _ rfl
        have bR6_f0 := bR6.free 0
        have bR6_f1 := bR6.free 1
        have bR6_f2 := bR6.free 2
        clear g6 bX6 bR6
        go_wp2_with fail
        exact bodyPost_ret (v := .agg #[.int .i64 k5, .string (ByteArray.mk #[]), .int .i64 n]) (by simp [results, Tryd.results19, go_sem, bR6_c0, bR6_c1, bR6_c2]) rfl ⟨_, _, _, (by decide), rfl, gf.k, gf.s.mono (by omega)⟩
      · have h40' : (r4 == 0) = false := by simpa using h40
        by_cases h41 : r4 = 1
        · subst h41
          clear h40 h40'
          go_wp2_with fail
          refine (pick_le b (m + 4) _ _ (-1) 1000000000001 g4.s (by simp) (by simp) (intsIn_of (by decide)) (by simp) (by simp) (by omega)).mono ?_
          rintro e w5 ⟨n5, n5_lo, n5_hi, rfl, hk_w5, hs_w5⟩
          have g5 := g4.step hk_w5 hs_w5
          have bX5 := LV.keep bX4 hk_w5 (by omega)
          have bR5 := LV.keep bR4 hk_w5 (by omega)
          clear hk_w5 hs_w5 g4 bX4 bR4
          have g6 := g5.set (X := w1.heap.size) (by omega) (by omega) 2 (.int .i64 n5)
          have bX6 := bX5.set 2 (.int .i64 n5) #[.int .i64 4, .string (ByteArray.mk #[]), .int .i64 n5] rfl
          have bR6 := bR5.other (Y := w1.heap.size) (by omega) 2 (.int .i64 n5)
          have bX5_c0 := bX5.cell 0 _ rfl
          have bX5_c1 := bX5.cell 1 _ rfl
          have bX5_c2 := bX5.cell 2 _ rfl
          have bX5_f0 := bX5.free 0
          have bX5_f1 := bX5.free 1
          have bX5_f2 := bX5.free 2
          clear bX5 bR5 g5
          have gf := ((g6.set (X := w.heap.size) (by omega) (Nat.le_refl _) 0 (.int .i64 4)).set (X := w.heap.size) (by omega) (Nat.le_refl _) 1 (.string (ByteArray.mk #[]))).set (X := w.heap.size) (by omega) (Nat.le_refl _) 2 (.int .i64 n5)
          have bX6_c0 := bX6.cell 0 _ rfl
          have bX6_c1 := bX6.cell 1 _ rfl
          have bX6_c2 := bX6.cell 2 _ rfl
          have bX6_f0 := bX6.free 0
          have bX6_f1 := bX6.free 1
          have bX6_f2 := bX6.free 2
          have bR6_c0 := bR6.cell 0 _ rfl
          have bR6_c1 := bR6.cell 1 _ rfl
          have bR6_c2 := bR6.cell 2 _ rfl
          have bR6_f0 := bR6.free 0
          have bR6_f1 := bR6.free 1
          have bR6_f2 := bR6.free 2
          clear g6 bX6 bR6
          go_wp2_with fail
          exact bodyPost_ret (v := .agg #[.int .i64 4, .string (ByteArray.mk #[]), .int .i64 n5]) (by simp [results, Tryd.results19, go_sem, bR6_c0, bR6_c1, bR6_c2]) rfl ⟨_, _, _, (by decide), rfl, gf.k, gf.s.mono (by omega)⟩
        · have h41' : (r4 == 1) = false := by simpa using h41
          go_wp2_with fail
          go_wp2_with fail
          refine (repeat_le ⟨#[97]⟩ 200 1000 _ (by decide) (by decide) (by decide) (by decide)).mono ?_
          rintro e w5 ⟨ra, ra_le, rfl, hl_w5⟩
          have g5 := g4.below hl_w5
          have bX5 := LV.keep bX4 (SK.ofBelow (b := b) hl_w5) (by omega)
          have bR5 := LV.keep bR4 (SK.ofBelow (b := b) hl_w5) (by omega)
          clear hl_w5 bX4 bR4 g4
          go_wp2_with fail
          refine (repeat_le ⟨#[97]⟩ 201 1000 _ (by decide) (by decide) (by decide) (by decide)).mono ?_
          rintro e w6 ⟨rb, rb_le, rfl, hl_w6⟩
          have g6 := g5.below hl_w6
          have bX6 := LV.keep bX5 (SK.ofBelow (b := b) hl_w6) (by omega)
          have bR6 := LV.keep bR5 (SK.ofBelow (b := b) hl_w6) (by omega)
          clear hl_w6 bX5 bR5 g5
          go_wp2_with fail
          refine (one_le b (m + 4) _ _ 1000 g6.s (by simp) (by simp) (by repeat (first | exact strsLe_nil | refine strsLe_cons (by first | omega | decide) ?_)) (by simp) (by simp) (by omega)).mono ?_
          rintro e w7 ⟨t7, t7_le, rfl, hk_w7, hs_w7⟩
          have g7 := g6.step hk_w7 hs_w7
          have bX7 := LV.keep bX6 hk_w7 (by omega)
          have bR7 := LV.keep bR6 hk_w7 (by omega)
          clear hk_w7 hs_w7 g6 bX6 bR6
          have g8 := g7.set (X := w1.heap.size) (by omega) (by omega) 1 (.string t7)
          have bX8 := bX7.set 1 (.string t7) #[.int .i64 4, .string t7, .int .i64 n] rfl
          have bR8 := bR7.other (Y := w1.heap.size) (by omega) 1 (.string t7)
          have bX7_c0 := bX7.cell 0 _ rfl
          have bX7_c1 := bX7.cell 1 _ rfl
          have bX7_c2 := bX7.cell 2 _ rfl
          have bX7_f0 := bX7.free 0
          have bX7_f1 := bX7.free 1
          have bX7_f2 := bX7.free 2
          clear bX7 bR7 g7
          have gf := ((g8.set (X := w.heap.size) (by omega) (Nat.le_refl _) 0 (.int .i64 4)).set (X := w.heap.size) (by omega) (Nat.le_refl _) 1 (.string t7)).set (X := w.heap.size) (by omega) (Nat.le_refl _) 2 (.int .i64 n)
          have bX8_c0 := bX8.cell 0 _ rfl
          have bX8_c1 := bX8.cell 1 _ rfl
          have bX8_c2 := bX8.cell 2 _ rfl
          have bX8_f0 := bX8.free 0
          have bX8_f1 := bX8.free 1
          have bX8_f2 := bX8.free 2
          have bR8_c0 := bR8.cell 0 _ rfl
          have bR8_c1 := bR8.cell 1 _ rfl
          have bR8_c2 := bR8.cell 2 _ rfl
          have bR8_f0 := bR8.free 0
          have bR8_f1 := bR8.free 1
          have bR8_f2 := bR8.free 2
          clear g8 bX8 bR8
          go_wp2_with fail
          exact bodyPost_ret (v := .agg #[.int .i64 4, .string t7, .int .i64 n]) (by simp [results, Tryd.results19, go_sem, bR8_c0, bR8_c1, bR8_c2]) rfl ⟨_, _, _, t7_le, rfl, gf.k, gf.s.mono (by omega)⟩
end Go.Proofs.YtmlpkejeglpciaaDoor
