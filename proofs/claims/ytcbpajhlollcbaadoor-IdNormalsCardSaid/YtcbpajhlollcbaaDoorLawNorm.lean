/- The law IdNormals walked: it returns true, and nothing that was there has turned. -/
import Derived.Test.YtcbpajhlollcbaaDoorRepeat
import Derived.Test.YtcbpajhlollcbaaDoorNormalOf
import Derived.Test.YtcbpajhlollcbaaDoorPeople
namespace Go.Proofs.YtcbpajhlollcbaaDoor
open Go.RowKit
def DrawsText (b m : Nat) (w : World) (e : Ending) (w' : World) : Prop := ∃ (k : Int) (t c : ByteArray), t.size ≤ 1000 ∧ c.size ≤ 100 ∧ e = .returned (.tuple #[.int .i64 k, .string t, .string c]) ∧ SK b w w' ∧ Strm b m w'
set_option maxHeartbeats 4000000 in
set_option maxRecDepth 100000 in
theorem idText_any (b m : Nat) (w : World) (hs : Strm b m w) (hm : m ≤ 1000000000) :
    Calls Tryd.prog 47 #[.pointer (some ⟨b, 0, none⟩)] w (DrawsText b (m + 20) w) := by
  have g0 := G.start hs
  clear hs
  go_enter Tryd.func47, Tryd.ntmps47
  go_wp2_with fail
  ((with_reducible refine (pick_le b m _ _ 0 5 g0.s (by simp) (by simp) (intsIn_of (by decide)) (by simp) (by simp) (by omega)).mono ?_); rintro e w1 ⟨k, k_lo, k_hi, rfl, hk_w1, hs_w1⟩)
  have g1 := g0.step hk_w1 hs_w1
  clear hk_w1 hs_w1 g0
  go_wp2_with fail
  ((with_reducible refine (one_le b _ _ _ 100 g1.s (by simp) (by simp) (strsLe_of (by decide)) (by simp) (by simp) (by omega)).mono ?_); rintro e w2 ⟨t, t_le, rfl, hk_w2, hs_w2⟩)
  have g2 := g1.step hk_w2 hs_w2
  clear hk_w2 hs_w2 g1
  go_wp2_with fail
  ((with_reducible refine (flip_any b _ _ _ g2.s (by omega) (by omega) (by omega)).mono ?_); rintro e w3 ⟨r3, rfl, hk_w3, hs_w3⟩)
  have g3 := g2.step hk_w3 hs_w3
  clear hk_w3 hs_w3 g2
  have e8 : (⟨#[43, 48, 32, 64, 45, 46, 97, 66]⟩ : ByteArray).size = 8 := rfl
  have E8 := Lib.hid e8
  clear e8
  cases r3
  · go_wp2_with fail
    ((with_reducible refine (flip_any b _ _ _ g3.s (by omega) (by omega) (by omega)).mono ?_); rintro e w4 ⟨r4, rfl, hk_w4, hs_w4⟩)
    have g4 := g3.step hk_w4 hs_w4
    clear hk_w4 hs_w4 g3
    cases r4
    · go_wp2_with fail
      ((with_reducible refine (one_le b _ _ _ 100 g4.s (by simp) (by simp) (strsLe_of (by decide)) (by simp) (by simp) (by omega)).mono ?_); rintro e w5 ⟨c, c_le, rfl, hk_w5, hs_w5⟩)
      have g5 := g4.step hk_w5 hs_w5
      go_wp2_with fail
      go_ret3
      exact ⟨k, t, c, by omega, c_le, rfl, g5.k, g5.s.mono (by omega)⟩
    · go_wp2_with fail
      ((with_reducible refine (pick_le b _ _ _ 200 201 g4.s (by simp) (by simp) (intsIn_of (by decide)) (by simp) (by simp) (by omega)).mono ?_); rintro e w5 ⟨n, n_lo, n_hi, rfl, hk_w5, hs_w5⟩)
      have g5 := g4.step hk_w5 hs_w5
      clear hk_w5 hs_w5 g4
      go_wp2_with fail
      ((with_reducible refine (repeat_le ⟨#[49]⟩ n 1000 _ (by omega) (by omega) (by rw [show (ByteArray.mk #[49]).size = 1 from rfl]; omega) (by decide)).mono ?_); rintro e w6 ⟨t6, t6_le, rfl, hl6⟩)
      have g6 := g5.below hl6
      go_wp2_with fail
      ((with_reducible refine (one_le b _ _ _ 100 g6.s (by simp) (by simp) (strsLe_of (by decide)) (by simp) (by simp) (by omega)).mono ?_); rintro e w7 ⟨c, c_le, rfl, hk_w7, hs_w7⟩)
      have g7 := g6.step hk_w7 hs_w7
      go_wp2_with fail
      go_ret3
      exact ⟨k, t6, c, t6_le, c_le, rfl, g7.k, g7.s.mono (by omega)⟩
  · go_wp2_with fail
    ((with_reducible refine (changed_any b _ t _ _ g3.s (by omega) (by decide) (by omega)).mono ?_); rintro e w3b ⟨t3, t3_le, rfl, hk_w3b, hs_w3b⟩)
    have g3b := g3.step hk_w3b hs_w3b
    rw [E8.out] at t3_le
    clear hk_w3b hs_w3b g3
    go_wp2_with fail
    ((with_reducible refine (flip_any b _ _ _ g3b.s (by omega) (by omega) (by omega)).mono ?_); rintro e w4 ⟨r4, rfl, hk_w4, hs_w4⟩)
    have g4 := g3b.step hk_w4 hs_w4
    clear hk_w4 hs_w4 g3b
    cases r4
    · go_wp2_with fail
      ((with_reducible refine (one_le b _ _ _ 100 g4.s (by simp) (by simp) (strsLe_of (by decide)) (by simp) (by simp) (by omega)).mono ?_); rintro e w5 ⟨c, c_le, rfl, hk_w5, hs_w5⟩)
      have g5 := g4.step hk_w5 hs_w5
      go_wp2_with fail
      go_ret3
      exact ⟨k, t3, c, by omega, c_le, rfl, g5.k, g5.s.mono (by omega)⟩
    · go_wp2_with fail
      ((with_reducible refine (pick_le b _ _ _ 200 201 g4.s (by simp) (by simp) (intsIn_of (by decide)) (by simp) (by simp) (by omega)).mono ?_); rintro e w5 ⟨n, n_lo, n_hi, rfl, hk_w5, hs_w5⟩)
      have g5 := g4.step hk_w5 hs_w5
      clear hk_w5 hs_w5 g4
      go_wp2_with fail
      ((with_reducible refine (repeat_le ⟨#[49]⟩ n 1000 _ (by omega) (by omega) (by rw [show (ByteArray.mk #[49]).size = 1 from rfl]; omega) (by decide)).mono ?_); rintro e w6 ⟨t6, t6_le, rfl, hl6⟩)
      have g6 := g5.below hl6
      go_wp2_with fail
      ((with_reducible refine (one_le b _ _ _ 100 g6.s (by simp) (by simp) (strsLe_of (by decide)) (by simp) (by simp) (by omega)).mono ?_); rintro e w7 ⟨c, c_le, rfl, hk_w7, hs_w7⟩)
      have g7 := g6.step hk_w7 hs_w7
      go_wp2_with fail
      go_ret3
      exact ⟨k, t6, c, t6_le, c_le, rfl, g7.k, g7.s.mono (by omega)⟩
theorem normV_form (k : Int) (t c : ByteArray) : ∃ (a : Int) (s : ByteArray) (e : Int), normV k t c = .tuple #[.agg #[.int .i64 a, .string s], .int .i64 e] := by
  unfold normV badV outV
  repeat' split
  all_goals exact ⟨_, _, _, rfl⟩
theorem G.toBelow {m : Nat} {w w1 : World} {o : Obj} (h : G w.heap.size m (w.alloc o) w1) : Below w.heap.size w w1 :=
  ((Below.refl _ _).alloc (Nat.le_refl _) o).trans (h.k.below (Nat.le_refl _) (by simp))
set_option maxHeartbeats 4000000 in
set_option maxRecDepth 100000 in
theorem idNormals_any (v : Value) (w : World) (hv : IntsIn v w) (hT : Tabs w) (hM : MaxL w) :
    Calls Tryd.prog 8 #[v] w fun e w' => e = .returned (.bool true) ∧ Below w.heap.size w w' := by
  obtain ⟨va, vn, vc, rfl⟩ : ∃ a n c, v = .slice a n c := by
    rcases hv with ⟨a, c, rfl⟩ | ⟨k, off, len, cap, rfl, _⟩
    · exact ⟨_, _, _, rfl⟩
    · exact ⟨_, _, _, rfl⟩
  have g0 := G.start (Strm.start hv)
  have HT := Lib.hid hT
  have HM := Lib.hid hM
  clear hT hv hM
  go_enter Tryd.func8, Tryd.ntmps8
  go_wp2_with fail
  ((with_reducible refine (idText_any w.heap.size 0 _ g0.s (by omega)).mono ?_); rintro e w1 ⟨k, t, c, t_le, c_le, rfl, hk_w1, hs_w1⟩)
  have Hb1 := Lib.hid (g0.step hk_w1 hs_w1).toBelow
  clear hk_w1 hs_w1 g0
  have Hn1 : Hid (∀ w', MaxL w' → Calls Tryd.prog 48 #[.int .i64 k, .string t, .string c] w' fun e w'' => e = .returned (normV k t c) ∧ Below w'.heap.size w' w'') := fun w' h => normal_any k t c w' (by omega) (by omega) h
  have Hn2 : Hid (∀ w', MaxL w' → Calls Tryd.prog 49 #[.int .i64 k, .string t, .string c] w' fun e w'' => e = .returned (normV k t c) ∧ Below w'.heap.size w' w'') := fun w' h => normalOf_any k t c w' (by omega) (by omega) h
  obtain ⟨a, s, f, hV⟩ := normV_form k t c
  rw [hV] at Hn1 Hn2
  clear hV
  go_wp2_with fail
  ((with_reducible refine (Hn1.out _ (HM.out.below Hb1.out)).mono ?_); rintro e w2 ⟨rfl, hl_w2⟩)
  have hz_w2 := hl_w2.size
  have Hb2 : Hid (Below w.heap.size w w2) := Hb1.out.trans (hl_w2.mono Hb1.out.size)
  clear hl_w2 hz_w2 Hb1 Hn1
  have Hba : Hid (Below w.heap.size w (w2.alloc (.cells #[.int .i64 a, .string s] 76))) := Hb2.out.alloc Hb2.out.size _
  have lvX := LV.new w2 w2.heap.size #[.int .i64 a, .string s] 76 rfl
  go_wp2_with fail
  ((with_reducible refine (Hn2.out _ (HM.out.below Hba.out)).mono ?_); rintro e w3 ⟨rfl, hl_w3⟩)
  have hz_w3 := hl_w3.size
  have Hb3 : Hid (Below w.heap.size w w3) := Hba.out.trans (hl_w3.mono Hba.out.size)
  have lvX3 := (lvX.keepB hl_w3 lvX.lt).alloc (.cells #[.int .i64 a, .string s] 76)
  have lvY := LV.new w3 w3.heap.size #[.int .i64 a, .string s] 76 rfl
  have Hb4 : Hid (Below w.heap.size w (w3.alloc (.cells #[.int .i64 a, .string s] 76))) := Hb3.out.alloc Hb3.out.size _
  clear hl_w3 hz_w3 Hba lvX Hn2 Hb3 Hb2
  have lvX3_c0 := lvX3.cell 0 _ rfl
  have lvX3_c1 := lvX3.cell 1 _ rfl
  have lvX3_f0 := lvX3.free 0
  have lvX3_f1 := lvX3.free 1
  have lvY_c0 := lvY.cell 0 _ rfl
  have lvY_c1 := lvY.cell 1 _ rfl
  have lvY_f0 := lvY.free 0
  have lvY_f1 := lvY.free 1
  go_wp2_with fail
  ((with_reducible refine (people_any _ (Utf8Tabs_below HT.out Hb4.out)).mono ?_); rintro e w5 ⟨rfl, hl_w5⟩)
  have hz_w5 := hl_w5.size
  go_wp2_with fail
  go_ret
  exact ⟨rfl, Hb4.out.trans (hl_w5.mono Hb4.out.size)⟩
end Go.Proofs.YtcbpajhlollcbaaDoor
