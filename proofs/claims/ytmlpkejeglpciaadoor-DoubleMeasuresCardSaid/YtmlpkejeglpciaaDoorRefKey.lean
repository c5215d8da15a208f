/- What handref2.in, only and Key return. -/
import Derived.Test.YtmlpkejeglpciaaDoorPreds
import Derived.Test.YtmlpkejeglpciaaDoorShelf
namespace Go.Proofs.YtmlpkejeglpciaaDoor
open Go.RowKit

theorem in_any (n a b : Int) (w : World) : Calls Tryd.prog 24 #[.int .i64 n, .int .i64 a, .int .i64 b] w fun e w' => e = .returned (.bool (decide (a ≤ n ∧ n ≤ b))) ∧ w = w' := by
  by_cases h1 : a ≤ n <;> by_cases h2 : n ≤ b
  all_goals
    simp only [h1, h2, and_true, and_false, decide_true, decide_false]
    go_enter Tryd.func24, Tryd.ntmps24
    go_wp2
    go_ret
    exact ⟨rfl, rfl⟩
theorem toList_isEmpty (l : List UInt8) : (ByteArray.mk l.toArray).toList.isEmpty = l.isEmpty := by
  cases l with
  | nil => exact (str_nil rfl).2
  | cons a t => exact (str_ne (by simp [ByteArray.size])).2
theorem only_any (s cs : ByteArray) (w : World) (hs : s.size ≤ 1000000000) (hc : cs.size ≤ 1000) (ha : cs.data.toList.all (fun b => decide (b.toNat < 128)) = true) :
    Calls Tryd.prog 41 #[.string s, .string cs] w fun e w' => e = .returned (.bool (s.data.toList.all (cs.data.toList.contains ·))) ∧ Below w.heap.size w w' := by
  have Ha : Hid (∀ (j : Nat) b, cs.data.toList[j]? = some b → b.toNat < 128) := fun j b h => by
    have := List.all_eq_true.1 ha b (List.mem_of_getElem? h)
    simpa using this
  clear ha
  rw [← L.trimS_isEmpty]
  have Hc : Hid (∀ w, Calls Tryd.prog 63 #[.string s, .string cs] w fun e w' => e = .returned (.string ⟨(Lib.trimS s.data.toList cs.data.toList).toArray⟩) ∧ Below w.heap.size w w') := fun w => Tryd.strings_Trim_ascii s cs w (by omega) (by omega) Ha.out
  generalize Lib.trimS s.data.toList cs.data.toList = t at *
  go_enter Tryd.func41, Tryd.ntmps41
  go_wp2_with fail
  refine (Hc.out _).mono ?_
  rintro e w1 ⟨rfl, hl_w1⟩
  have hz_w1 := hl_w1.size
  go_wp2_with fail
  go_ret
  exact ⟨rfl, hl_w1⟩
theorem Key_any (s : ByteArray) (w : World) (hs : s.size ≤ 1000000000) :
    Calls Tryd.prog 23 #[.string s] w fun e w' => e = .returned (.bool (L.isKey s)) ∧ Below w.heap.size w w' := by
  have Ho : Hid (∀ w t, t.size ≤ 1000000000 → Calls Tryd.prog 41 #[.string t, .string ⟨#[97, 98, 99, 100, 101, 102, 103, 104, 105, 106, 107, 108, 109, 110, 111, 112, 113, 114, 115, 116, 117, 118, 119, 120, 121, 122]⟩] w fun e w' => e = .returned (.bool (t.data.toList.all L.isSmall)) ∧ Below w.heap.size w w') := fun w t h =>
    (only_any t ⟨#[97, 98, 99, 100, 101, 102, 103, 104, 105, 106, 107, 108, 109, 110, 111, 112, 113, 114, 115, 116, 117, 118, 119, 120, 121, 122]⟩ w h (by decide) (by decide)).mono fun e w' ⟨h1, h2⟩ => ⟨by rw [h1]; congr 3; exact funext L.smalls_has, h2⟩
  have Hk : Hid (∀ w, Calls Tryd.prog 41 #[.string s, .string ⟨#[97, 98, 99, 100, 101, 102, 103, 104, 105, 106, 107, 108, 109, 110, 111, 112, 113, 114, 115, 116, 117, 118, 119, 120, 121, 122, 48, 49, 50, 51, 52, 53, 54, 55, 56, 57, 45, 95]⟩] w fun e w' => e = .returned (.bool (s.data.toList.all L.keyByte)) ∧ Below w.heap.size w w') := fun w =>
    (only_any s ⟨#[97, 98, 99, 100, 101, 102, 103, 104, 105, 106, 107, 108, 109, 110, 111, 112, 113, 114, 115, 116, 117, 118, 119, 120, 121, 122, 48, 49, 50, 51, 52, 53, 54, 55, 56, 57, 45, 95]⟩ w hs (by decide) (by decide)).mono fun e w' ⟨h1, h2⟩ => ⟨by rw [h1]; congr 3; exact funext L.keys_has, h2⟩
  obtain ⟨R, HR⟩ : ∃ R, Hid (L.isKey s = R) := ⟨_, Lib.hid rfl⟩
  rw [HR.out]
  by_cases h1 : 1 ≤ s.size ∧ s.size ≤ 40
  · have e1 : decide ((1 : Int) ≤ s.size ∧ (s.size : Int) ≤ 40) = true := by simp; omega
    have hs0 : 1 ≤ s.size := h1.1
    have E2 : Hid ((decide (1 ≤ s.size) && decide (s.size ≤ 40)) = true) := by show _ = _; simp [h1]
    have Ht : Hid ((s.extract 0 1).data.toList.all L.isSmall = L.isSmall (s.data.toList.headD 0)) := by
      show _ = _
      obtain ⟨⟨l⟩⟩ := s
      cases l with
      | nil => simp [ByteArray.size] at hs0
      | cons a t => rw [Lib.extract_data]; simp
    have Hx : Hid ((s.extract 0 1).size ≤ 1000000000) := by show _ ≤ _; rw [ByteArray.size_extract]; omega
    have Ho1 : Hid (∀ w, Calls Tryd.prog 41 #[.string (s.extract 0 1), .string ⟨#[97, 98, 99, 100, 101, 102, 103, 104, 105, 106, 107, 108, 109, 110, 111, 112, 113, 114, 115, 116, 117, 118, 119, 120, 121, 122]⟩] w fun e w' => e = .returned (.bool (L.isSmall (s.data.toList.headD 0))) ∧ Below w.heap.size w w') := fun w => (Ho.out w _ Hx.out).mono fun e w' ⟨h1, h2⟩ => ⟨by rw [h1, Ht.out], h2⟩
    clear Ho
    by_cases h2 : L.isSmall (s.data.toList.headD 0) = true
    · rw [h2] at Ho1
      go_enter Tryd.func23, Tryd.ntmps23
      go_wp2_with fail
      refine (in_any _ _ _ _).mono ?_
      rintro e _ ⟨rfl, rfl⟩
      rw [e1]
      go_wp2_with fail
      refine (Ho1.out _).mono ?_
      rintro e w1 ⟨rfl, hl_w1⟩
      have hz_w1 := hl_w1.size
      go_wp2_with fail
      refine (Hk.out _).mono ?_
      rintro e w2 ⟨rfl, hl_w2⟩
      have hz_w2 := hl_w2.size
      go_wp2_with fail
      go_ret
      exact ⟨ret_b (by rw [← HR.out, L.isKey, E2.out, h2, Bool.true_and, Bool.true_and]; simp), hl_w1.trans (hl_w2.mono (by omega))⟩
    · have h2 : L.isSmall (s.data.toList.headD 0) = false := by simpa using h2
      rw [h2] at Ho1
      go_enter Tryd.func23, Tryd.ntmps23
      go_wp2_with fail
      refine (in_any _ _ _ _).mono ?_
      rintro e _ ⟨rfl, rfl⟩
      rw [e1]
      go_wp2_with fail
      refine (Ho1.out _).mono ?_
      rintro e w1 ⟨rfl, hl_w1⟩
      have hz_w1 := hl_w1.size
      go_wp2_with fail
      go_ret
      exact ⟨ret_b (by rw [← HR.out, L.isKey, E2.out, h2, Bool.true_and, Bool.false_and]), hl_w1⟩
  · have e1 : decide ((1 : Int) ≤ s.size ∧ (s.size : Int) ≤ 40) = false := by simp; omega
    go_enter Tryd.func23, Tryd.ntmps23
    go_wp2_with fail
    refine (in_any _ _ _ _).mono ?_
    rintro e _ ⟨rfl, rfl⟩
    rw [e1]
    go_wp2_with fail
    go_ret
    refine ⟨ret_b ?_, Below.refl _ _⟩
    rw [← HR.out]
    have e2 : (decide (1 ≤ s.size) && decide (s.size ≤ 40)) = false := by simp; omega
    simp [L.isKey, e2]
end Go.Proofs.YtmlpkejeglpciaaDoor
