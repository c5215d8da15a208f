/- The law StringDistances walked: it returns true, and nothing that was there has turned. -/
import Derived.Test.YtmpndobeildbhabDoorPeople
import Derived.Test.YtmpndobeildbhabDoorFar
namespace Go.Proofs.YtmpndobeildbhabDoor
open Go.RowKit

set_option maxHeartbeats 4000000 in
set_option maxRecDepth 100000 in
theorem stringDistances_any (v : Value) (w : World) (hv : IntsIn v w) (hT : Tabs w) :
    Calls Tryd.prog 3 #[v] w fun e w' => e = .returned (.bool true) ∧ Below w.heap.size w w' := by
  obtain ⟨va, vn, vc, rfl⟩ : ∃ a n c, v = .slice a n c := by
    rcases hv with ⟨a, c, rfl⟩ | ⟨k, off, len, cap, rfl, _⟩
    · exact ⟨_, _, _, rfl⟩
    · exact ⟨_, _, _, rfl⟩
  have hs0 := Strm.start hv
  have HT := Lib.hid hT
  clear hT hv
  have Hb0 : Hid (Below w.heap.size w (w.alloc (.cells #[.slice va vn vc, .int .i64 0] 25))) := (Below.refl _ _).alloc (Nat.le_refl _) _
  go_enter Tryd.func3, Tryd.ntmps3
  go_wp2_with fail
  ((with_reducible refine (strange_any w.heap.size 0 _ hs0 (by omega)).mono ?_); rintro e w1 ⟨a, ha, rfl, hk1, hs1⟩)
  have Hb1 : Hid (Below w.heap.size w w1) := Hb0.out.trans (hk1.below (Nat.le_refl _) (by simp))
  clear hk1 hs0 Hb0
  go_wp2_with fail
  ((with_reducible refine (strange_any w.heap.size 9 _ hs1 (by omega)).mono ?_); rintro e w2 ⟨b, hb, rfl, hk2, hs2⟩)
  have Hb2 : Hid (Below w.heap.size w w2) := Hb1.out.trans (hk2.below (Nat.le_refl _) Hb1.out.size)
  clear hk2 hs1 Hb1
  go_wp2_with fail
  ((with_reducible refine (flip_any w.heap.size 18 _ _ hs2 (by omega) (by omega) (by omega)).mono ?_); rintro e w3 ⟨r1, rfl, hk3, hs3⟩)
  have Hb3 : Hid (Below w.heap.size w w3) := Hb2.out.trans (hk3.below (Nat.le_refl _) Hb2.out.size)
  clear hk3 hs2 Hb2
  cases r1
  · clear ha hb
    go_wp2_with fail
    ((with_reducible refine (flip_any w.heap.size 19 _ _ hs3 (by omega) (by omega) (by omega)).mono ?_); rintro e w6 ⟨r2, rfl, hk6, hs6⟩)
    have Hb6 : Hid (Below w.heap.size w w6) := Hb3.out.trans (hk6.below (Nat.le_refl _) Hb3.out.size)
    clear hk6
    cases r2
    · have Hp : Hid (∀ wx, Below w.heap.size w wx → Calls Tryd.prog 10 #[] wx fun e w' => e = .returned (.bool true) ∧ Below wx.heap.size wx w') := fun wx h => people_any wx (Utf8Tabs_below HT.out h)
      clear hs6
      by_cases ha : 200 < a.size
      · go_wp2_with fail
        ((with_reducible refine (distance_large a b _ (.inl ha)).mono ?_); rintro e wa ⟨rfl, rfl⟩)
        go_wp2_with fail
        ((with_reducible refine (Hp.out _ Hb6.out).mono ?_); rintro e wb ⟨rfl, hlb⟩)
        go_wp2_with fail
        go_ret
        exact ⟨rfl, Hb6.out.trans (hlb.mono Hb6.out.size)⟩
      · by_cases hb : 200 < b.size
        · go_wp2_with fail
          ((with_reducible refine (distance_large a b _ (.inr hb)).mono ?_); rintro e wa ⟨rfl, rfl⟩)
          go_wp2_with fail
          ((with_reducible refine (Hp.out _ Hb6.out).mono ?_); rintro e wb ⟨rfl, hlb⟩)
          go_wp2_with fail
          go_ret
          exact ⟨rfl, Hb6.out.trans (hlb.mono Hb6.out.size)⟩
        · go_wp2_with fail
          ((with_reducible refine (distance_any a b _ (by omega) (by omega) (Utf8Tabs_below HT.out Hb6.out)).mono ?_); rintro e wa ⟨rfl, hla⟩)
          have Hba : Hid (Below w.heap.size w wa) := Hb6.out.trans (hla.mono Hb6.out.size)
          clear hla
          go_wp2_with fail
          ((with_reducible refine (refFar_any a b _ (by omega) (by omega) (Utf8Tabs_below HT.out Hba.out)).mono ?_); rintro e wc ⟨rfl, hlc⟩)
          have Hbc : Hid (Below w.heap.size w wc) := Hba.out.trans (hlc.mono Hba.out.size)
          clear hlc
          go_wp2_with fail
          ((with_reducible refine (Hp.out _ Hbc.out).mono ?_); rintro e wb ⟨rfl, hlb⟩)
          go_wp2_with fail
          go_ret
          exact ⟨rfl, Hbc.out.trans (hlb.mono Hbc.out.size)⟩
    · go_wp2_with fail
      ((with_reducible refine (changed_any w.heap.size _ _ _ _ hs6 (by simp [ByteArray.size]) (by simp [ByteArray.size]) (by omega)).mono ?_); rintro e w7 ⟨t7, ht7, rfl, hk7, hs7⟩)
      have Hb7 : Hid (Below w.heap.size w w7) := Hb6.out.trans (hk7.below (Nat.le_refl _) Hb6.out.size)
      have ht8 : t7.size ≤ 8 := ht7
      clear hk7 hs6 ht7
      go_wp2_with fail
      ((with_reducible refine (pick_lit w.heap.size _ 3 [99, 100, 101] hs7 (by decide) (by simp) (by omega) (by omega) (by omega)).mono ?_); rintro e w8 ⟨n, hn, rfl, hk8, hs8⟩)
      have Hb8 : Hid (Below w.heap.size w w8) := Hb7.out.trans (hk8.below (Nat.le_refl _) Hb7.out.size)
      have hn2 : 0 ≤ n ∧ n ≤ 101 := by simp at hn; omega
      clear hk8 hs7 hn
      obtain ⟨n, rfl⟩ := Int.eq_ofNat_of_zero_le hn2.1
      have hmul : t7.size * n ≤ 8 * 101 := Nat.mul_le_mul ht8 (by omega)
      go_wp2_with fail
      ((with_reducible refine (Tryd.strings_Repeat t7 n _ (by omega) (by omega)).mono ?_); rintro e w9 ⟨rfl, hl9⟩)
      have Hb9 : Hid (Below w.heap.size w w9) := Hb8.out.trans (hl9.mono Hb8.out.size)
      clear hl9
      obtain ⟨a2, Ha2⟩ : ∃ a2 : ByteArray, Hid (ByteArray.mk (Lib.repeatL t7.data.toList n).toArray = a2) := ⟨_, Lib.hid rfl⟩
      rw [Ha2.out]
      have Hp : Hid (∀ wx, Below w.heap.size w wx → Calls Tryd.prog 10 #[] wx fun e w' => e = .returned (.bool true) ∧ Below wx.heap.size wx w') := fun wx h => people_any wx (Utf8Tabs_below HT.out h)
      clear hs8
      by_cases ha : 200 < a2.size
      · go_wp2_with fail
        ((with_reducible refine (distance_large a2 b _ (.inl ha)).mono ?_); rintro e wa ⟨rfl, rfl⟩)
        go_wp2_with fail
        ((with_reducible refine (Hp.out _ Hb9.out).mono ?_); rintro e wb ⟨rfl, hlb⟩)
        go_wp2_with fail
        go_ret
        exact ⟨rfl, Hb9.out.trans (hlb.mono Hb9.out.size)⟩
      · by_cases hb : 200 < b.size
        · go_wp2_with fail
          ((with_reducible refine (distance_large a2 b _ (.inr hb)).mono ?_); rintro e wa ⟨rfl, rfl⟩)
          go_wp2_with fail
          ((with_reducible refine (Hp.out _ Hb9.out).mono ?_); rintro e wb ⟨rfl, hlb⟩)
          go_wp2_with fail
          go_ret
          exact ⟨rfl, Hb9.out.trans (hlb.mono Hb9.out.size)⟩
        · go_wp2_with fail
          ((with_reducible refine (distance_any a2 b _ (by omega) (by omega) (Utf8Tabs_below HT.out Hb9.out)).mono ?_); rintro e wa ⟨rfl, hla⟩)
          have Hba : Hid (Below w.heap.size w wa) := Hb9.out.trans (hla.mono Hb9.out.size)
          clear hla
          go_wp2_with fail
          ((with_reducible refine (refFar_any a2 b _ (by omega) (by omega) (Utf8Tabs_below HT.out Hba.out)).mono ?_); rintro e wc ⟨rfl, hlc⟩)
          have Hbc : Hid (Below w.heap.size w wc) := Hba.out.trans (hlc.mono Hba.out.size)
          clear hlc
          go_wp2_with fail
          ((with_reducible refine (Hp.out _ Hbc.out).mono ?_); rintro e wb ⟨rfl, hlb⟩)
          go_wp2_with fail
          go_ret
          exact ⟨rfl, Hbc.out.trans (hlb.mono Hbc.out.size)⟩
  · go_wp2_with fail
    ((with_reducible refine (changed_any w.heap.size 19 a _ _ hs3 (by omega) (by simp [ByteArray.size]) (by omega)).mono ?_); rintro e w4 ⟨t4, ht4, rfl, hk4, hs4⟩)
    have Hb4 : Hid (Below w.heap.size w w4) := Hb3.out.trans (hk4.below (Nat.le_refl _) Hb3.out.size)
    have e4 : (ByteArray.mk #[97, 98]).size = 2 := rfl
    have ht5 : t4.size ≤ 100 := by rw [e4] at ht4; omega
    clear hk4 hs3 Hb3 e4 ht4
    go_wp2_with fail
    ((with_reducible refine (changed_any w.heap.size 22 t4 _ _ hs4 (by omega) (by simp [ByteArray.size]) (by omega)).mono ?_); rintro e w5 ⟨b2, hb2, rfl, hk5, hs5⟩)
    have Hb5 : Hid (Below w.heap.size w w5) := Hb4.out.trans (hk5.below (Nat.le_refl _) Hb4.out.size)
    clear hk5 hs4 Hb4 hb2 ha hb
    go_wp2_with fail
    ((with_reducible refine (flip_any w.heap.size 25 _ _ hs5 (by omega) (by omega) (by omega)).mono ?_); rintro e w6 ⟨r2, rfl, hk6, hs6⟩)
    have Hb6 : Hid (Below w.heap.size w w6) := Hb5.out.trans (hk6.below (Nat.le_refl _) Hb5.out.size)
    clear hk6
    cases r2
    · have Hp : Hid (∀ wx, Below w.heap.size w wx → Calls Tryd.prog 10 #[] wx fun e w' => e = .returned (.bool true) ∧ Below wx.heap.size wx w') := fun wx h => people_any wx (Utf8Tabs_below HT.out h)
      clear hs6
      by_cases ha : 200 < a.size
      · go_wp2_with fail
        ((with_reducible refine (distance_large a b2 _ (.inl ha)).mono ?_); rintro e wa ⟨rfl, rfl⟩)
        go_wp2_with fail
        ((with_reducible refine (Hp.out _ Hb6.out).mono ?_); rintro e wb ⟨rfl, hlb⟩)
        go_wp2_with fail
        go_ret
        exact ⟨rfl, Hb6.out.trans (hlb.mono Hb6.out.size)⟩
      · by_cases hb : 200 < b2.size
        · go_wp2_with fail
          ((with_reducible refine (distance_large a b2 _ (.inr hb)).mono ?_); rintro e wa ⟨rfl, rfl⟩)
          go_wp2_with fail
          ((with_reducible refine (Hp.out _ Hb6.out).mono ?_); rintro e wb ⟨rfl, hlb⟩)
          go_wp2_with fail
          go_ret
          exact ⟨rfl, Hb6.out.trans (hlb.mono Hb6.out.size)⟩
        · go_wp2_with fail
          ((with_reducible refine (distance_any a b2 _ (by omega) (by omega) (Utf8Tabs_below HT.out Hb6.out)).mono ?_); rintro e wa ⟨rfl, hla⟩)
          have Hba : Hid (Below w.heap.size w wa) := Hb6.out.trans (hla.mono Hb6.out.size)
          clear hla
          go_wp2_with fail
          ((with_reducible refine (refFar_any a b2 _ (by omega) (by omega) (Utf8Tabs_below HT.out Hba.out)).mono ?_); rintro e wc ⟨rfl, hlc⟩)
          have Hbc : Hid (Below w.heap.size w wc) := Hba.out.trans (hlc.mono Hba.out.size)
          clear hlc
          go_wp2_with fail
          ((with_reducible refine (Hp.out _ Hbc.out).mono ?_); rintro e wb ⟨rfl, hlb⟩)
          go_wp2_with fail
          go_ret
          exact ⟨rfl, Hbc.out.trans (hlb.mono Hbc.out.size)⟩
    · go_wp2_with fail
      ((with_reducible refine (changed_any w.heap.size _ _ _ _ hs6 (by simp [ByteArray.size]) (by simp [ByteArray.size]) (by omega)).mono ?_); rintro e w7 ⟨t7, ht7, rfl, hk7, hs7⟩)
      have Hb7 : Hid (Below w.heap.size w w7) := Hb6.out.trans (hk7.below (Nat.le_refl _) Hb6.out.size)
      have ht8 : t7.size ≤ 8 := ht7
      clear hk7 hs6 ht7
      go_wp2_with fail
      ((with_reducible refine (pick_lit w.heap.size _ 3 [99, 100, 101] hs7 (by decide) (by simp) (by omega) (by omega) (by omega)).mono ?_); rintro e w8 ⟨n, hn, rfl, hk8, hs8⟩)
      have Hb8 : Hid (Below w.heap.size w w8) := Hb7.out.trans (hk8.below (Nat.le_refl _) Hb7.out.size)
      have hn2 : 0 ≤ n ∧ n ≤ 101 := by simp at hn; omega
      clear hk8 hs7 hn
      obtain ⟨n, rfl⟩ := Int.eq_ofNat_of_zero_le hn2.1
      have hmul : t7.size * n ≤ 8 * 101 := Nat.mul_le_mul ht8 (by omega)
      go_wp2_with fail
      ((with_reducible refine (Tryd.strings_Repeat t7 n _ (by omega) (by omega)).mono ?_); rintro e w9 ⟨rfl, hl9⟩)
      have Hb9 : Hid (Below w.heap.size w w9) := Hb8.out.trans (hl9.mono Hb8.out.size)
      clear hl9
      obtain ⟨a2, Ha2⟩ : ∃ a2 : ByteArray, Hid (ByteArray.mk (Lib.repeatL t7.data.toList n).toArray = a2) := ⟨_, Lib.hid rfl⟩
      rw [Ha2.out]
      have Hp : Hid (∀ wx, Below w.heap.size w wx → Calls Tryd.prog 10 #[] wx fun e w' => e = .returned (.bool true) ∧ Below wx.heap.size wx w') := fun wx h => people_any wx (Utf8Tabs_below HT.out h)
      clear hs8
      by_cases ha : 200 < a2.size
      · go_wp2_with fail
        ((with_reducible refine (distance_large a2 b2 _ (.inl ha)).mono ?_); rintro e wa ⟨rfl, rfl⟩)
        go_wp2_with fail
        ((with_reducible refine (Hp.out _ Hb9.out).mono ?_); rintro e wb ⟨rfl, hlb⟩)
        go_wp2_with fail
        go_ret
        exact ⟨rfl, Hb9.out.trans (hlb.mono Hb9.out.size)⟩
      · by_cases hb : 200 < b2.size
        · go_wp2_with fail
          ((with_reducible refine (distance_large a2 b2 _ (.inr hb)).mono ?_); rintro e wa ⟨rfl, rfl⟩)
          go_wp2_with fail
          ((with_reducible refine (Hp.out _ Hb9.out).mono ?_); rintro e wb ⟨rfl, hlb⟩)
          go_wp2_with fail
          go_ret
          exact ⟨rfl, Hb9.out.trans (hlb.mono Hb9.out.size)⟩
        · go_wp2_with fail
          ((with_reducible refine (distance_any a2 b2 _ (by omega) (by omega) (Utf8Tabs_below HT.out Hb9.out)).mono ?_); rintro e wa ⟨rfl, hla⟩)
          have Hba : Hid (Below w.heap.size w wa) := Hb9.out.trans (hla.mono Hb9.out.size)
          clear hla
          go_wp2_with fail
          ((with_reducible refine (refFar_any a2 b2 _ (by omega) (by omega) (Utf8Tabs_below HT.out Hba.out)).mono ?_); rintro e wc ⟨rfl, hlc⟩)
          have Hbc : Hid (Below w.heap.size w wc) := Hba.out.trans (hlc.mono Hba.out.size)
          clear hlc
          go_wp2_with fail
          ((with_reducible refine (Hp.out _ Hbc.out).mono ?_); rintro e wb ⟨rfl, hlb⟩)
          go_wp2_with fail
          go_ret
          exact ⟨rfl, Hbc.out.trans (hlb.mono Hbc.out.size)⟩
end Go.Proofs.YtmpndobeildbhabDoor
