/- The law StringQuotes walked: it returns true, and nothing that was there has turned. -/
import Derived.Test.YtmpndobeildbhaaDoorPeople
import Derived.Test.YtmpndobeildbhaaDoorUnquoted
namespace Go.Proofs.YtmpndobeildbhaaDoor
open Go.RowKit

theorem flat_quote (l : List UInt8) : (Q.quote l).length ≤ 4 * l.length + 2 := by
  have := Q.flat_len l
  simp only [Q.quote, List.length_cons, List.length_append, List.length_nil]; omega

set_option maxHeartbeats 2000000 in
set_option maxRecDepth 100000 in
theorem stringQuotes_any (v : Value) (w : World) (hv : IntsIn v w) (hT : Tabs w) :
    Calls Tryd.prog 3 #[v] w fun e w' => e = .returned (.bool true) ∧ Below w.heap.size w w' := by
  obtain ⟨va, vn, vc, rfl⟩ : ∃ a n c, v = .slice a n c := by
    rcases hv with ⟨a, c, rfl⟩ | ⟨k, off, len, cap, rfl, _⟩
    · exact ⟨_, _, _, rfl⟩
    · exact ⟨_, _, _, rfl⟩
  have hs0 := Strm.start hv
  have HT := Lib.hid hT
  clear hT hv
  have Hb0 : Hid (Below w.heap.size w (w.alloc (.cells #[.slice va vn vc, .int .i64 0] 25))) := (Below.refl _ _).alloc (Nat.le_refl _) _
  go_enter Tryd.func3, Tryd.ntmps3
  go_wp2_with fail
  ((with_reducible refine (strange_any w.heap.size 0 _ hs0 (by omega)).mono ?_); rintro e w1 ⟨a, ha, rfl, hk1, hs1⟩)
  have Hb1 : Hid (Below w.heap.size w w1) := Hb0.out.trans (hk1.below (Nat.le_refl _) (by simp))
  have hz1 := Hb1.out.size
  clear hk1 hs0 Hb0
  go_wp2_with fail
  ((with_reducible refine (quote_any a _ (by omega)).mono ?_); rintro e w2 ⟨rfl, hl2⟩)
  have Hb2 : Hid (Below w.heap.size w w2) := Hb1.out.trans (hl2.mono (by omega))
  have hs2 := hs1.keep hl2
  have hz2 := Hb2.out.size
  clear hl2 hs1 Hb1 hz1
  go_wp2_with fail
  ((with_reducible refine (quoted_any a _ (by omega)).mono ?_); rintro e w3 ⟨rfl, hl3⟩)
  have Hb3 : Hid (Below w.heap.size w w3) := Hb2.out.trans (hl3.mono (by omega))
  have hs3 := hs2.keep hl3
  have hz3 := Hb3.out.size
  clear hl3 hs2 Hb2 hz2
  obtain ⟨q, Hq⟩ : ∃ q : ByteArray, Hid (ByteArray.mk (Q.quote a.data.toList).toArray = q) := ⟨_, Lib.hid rfl⟩
  have hq : q.size ≤ 130 := by
    rw [← Hq.out]
    have h1 := flat_quote a.data.toList
    have h2 : a.data.toList.length = a.size := rfl
    show (Q.quote a.data.toList).toArray.size ≤ 130
    rw [List.size_toArray]; omega
  rw [Hq.out]
  go_wp2_with fail
  ((with_reducible refine (quoted_any a _ (by omega)).mono ?_); rintro e w4 ⟨rfl, hl4⟩)
  have Hb4 : Hid (Below w.heap.size w w4) := Hb3.out.trans (hl4.mono (by omega))
  have hs4 := hs3.keep hl4
  have hz4 := Hb4.out.size
  clear hl4 hs3 Hb3 hz3
  rw [Hq.out]
  go_wp2_with fail
  ((with_reducible refine (strange_any w.heap.size 9 _ hs4 (by omega)).mono ?_); rintro e w5 ⟨s2, hs2z, rfl, hk5, hs5⟩)
  have Hb5 : Hid (Below w.heap.size w w5) := Hb4.out.trans (hk5.below (Nat.le_refl _) (by omega))
  have hz5 := Hb5.out.size
  clear hk5 hs4 Hb4 hz4
  go_wp2_with fail
  ((with_reducible refine (pick_lit w.heap.size 18 4 [0, 0, 1, 2] hs5 (by decide) (by simp) (by omega) (by omega) (by omega)).mono ?_); rintro e w7 ⟨n, hn, rfl, hk7, hs7⟩)
  have hn2 : 0 ≤ n ∧ n ≤ 2 := by simp at hn; omega
  have Hb7 : Hid (Below w.heap.size w w7) := Hb5.out.trans (hk7.below (Nat.le_refl _) (by omega))
  have hz7 := Hb7.out.size
  clear hk7 hs5 Hb5 hz5 hn
  obtain ⟨n, rfl⟩ := Int.eq_ofNat_of_zero_le hn2.1
  go_wp2_with fail
  go_loopw [5, 30] (fun t i wr => ∃ (k : Nat) (tt : ByteArray), k ≤ n ∧ i = .int .i64 k ∧ t = .string tt ∧ tt.size ≤ 200 + 14 * k ∧ Strm w.heap.size (19 + 3 * k) wr ∧ Below w.heap.size w wr) (fun _ i _ => n - (intOf i).toNat)
  case atStart => exact ⟨0, q ++ s2, Nat.zero_le _, rfl, rfl, by rw [ByteArray.size_append]; omega, hs7, Hb7.out⟩
  case round =>
    obtain ⟨k, t, hk, rfl, rfl, htz, hsk, hbk⟩ := hrel
    clear hs7 Hb7 hz7
    have hzk := hbk.size
    by_cases hlt : k < n
    · go_wp2_with fail
      ((with_reducible refine (changed_any w.heap.size (19 + 3 * k) t _ _ hsk (by omega) (by simp [ByteArray.size]) (by omega)).mono ?_); rintro e w8 ⟨t2, ht2, rfl, hk8, hs8⟩)
      have e10 : (ByteArray.mk #[34, 92, 110, 120, 48, 97, 70, 32, 55, 102]).size = 10 := rfl
      have ht3 : t2.size ≤ t.size + 14 := by rw [e10] at ht2; omega
      clear e10
      have hb8 := hbk.trans (hk8.below (Nat.le_refl _) (by omega))
      clear ht2 hk8
      go_wp2_with fail
      go_roundw
      case rel => exact ⟨k + 1, t2, by omega, by go_num, rfl, by omega, hs8, hb8⟩
      case measure => simp [intOf]; omega
    · clear hsk
      go_wp2_with fail
      ((with_reducible refine (unquote_any t _ (by omega)).mono ?_); rintro e w8 ⟨rfl, hl8⟩)
      have Hb8 : Hid (Below w.heap.size w w8) := hbk.trans (hl8.mono (by omega))
      have hz8 := Hb8.out.size
      clear hl8 hbk hzk
      have Hu : Hid (∀ wx, Calls Tryd.prog 10 #[.string t] wx fun e w' => e = .returned (unqR (Q.unq Q.stepP t.data.toList)) ∧ Below wx.heap.size wx w') := fun wx =>
        (unquoted_any t wx (by omega)).mono fun e w' ⟨h1, h2⟩ => ⟨by rw [h1, Q.unq_same], h2⟩
      have Hp : Hid (∀ wx, Below w.heap.size w wx → Calls Tryd.prog 11 #[] wx fun e w' => e = .returned (.bool true) ∧ Below wx.heap.size wx w') := fun wx h => people_any wx (Utf8Tabs_below HT.out h)
      obtain ⟨U, HU⟩ : ∃ U, Hid (Q.unq Q.stepP t.data.toList = U) := ⟨_, Lib.hid rfl⟩
      rw [HU.out] at Hu ⊢
      clear HU
      cases U with
      | none =>
        simp only [unqV]
        simp only [unqR] at Hu
        go_wp2_with fail
        ((with_reducible refine (Hu.out _).mono ?_); rintro e w9 ⟨rfl, hl9⟩)
        have Hb9 : Hid (Below w.heap.size w w9) := Hb8.out.trans (hl9.mono (by omega))
        have hz9 := Hb9.out.size
        clear hl9 Hb8 hz8
        go_wp2_with fail
        ((with_reducible refine (Hp.out _ Hb9.out).mono ?_); rintro e w10 ⟨rfl, hl10⟩)
        go_wp2_with fail
        go_ret
        exact ⟨rfl, Hb9.out.trans (hl10.mono (by omega))⟩
      | some p =>
        simp only [unqV]
        simp only [unqR] at Hu
        go_wp2_with fail
        ((with_reducible refine (Hu.out _).mono ?_); rintro e w9 ⟨rfl, hl9⟩)
        have Hb9 : Hid (Below w.heap.size w w9) := Hb8.out.trans (hl9.mono (by omega))
        have hz9 := Hb9.out.size
        clear hl9 Hb8 hz8
        go_wp2_with fail
        ((with_reducible refine (Hp.out _ Hb9.out).mono ?_); rintro e w10 ⟨rfl, hl10⟩)
        go_wp2_with fail
        go_ret
        exact ⟨rfl, Hb9.out.trans (hl10.mono (by omega))⟩
end Go.Proofs.YtmpndobeildbhaaDoor
