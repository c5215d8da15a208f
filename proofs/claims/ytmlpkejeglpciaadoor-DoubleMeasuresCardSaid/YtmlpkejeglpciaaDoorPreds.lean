/- What the predicates on bytes of package person return, and IsKey. -/
import Derived.Test.YtmlpkejeglpciaaDoorKey
import Derived.Test.YtmlpkejeglpciaaDoorWordLaw
namespace Go.Proofs.YtmlpkejeglpciaaDoor
open Go.RowKit

theorem ret_b {a b : Bool} (h : a = b) : Ending.returned (.bool a) = .returned (.bool b) := by rw [h]
theorem ret_i {k : IntKind} {a b : Int} (h : a = b) : Ending.returned (.int k a) = .returned (.int k b) := by rw [h]
theorem small_pb : PB 42 L.isSmall := fun c w => (small_any c.toNat w).mono fun e w' ⟨h1, h2⟩ => ⟨by rw [h1]; congr 2; unfold L.isSmall; rw [Bool.eq_iff_iff]; simp; omega, h2⟩
theorem digit_pb : PB 45 L.isDigit := fun c w => (digit_any c.toNat w).mono fun e w' ⟨h1, h2⟩ => ⟨by rw [h1]; congr 2; unfold L.isDigit; rw [Bool.eq_iff_iff]; simp; omega, h2⟩
theorem isKey1_pb : PB 44 L.keyByte := by
  intro c w
  unfold L.keyByte
  by_cases h1 : L.isSmall c = true
  · go_enter Tryd.func44, Tryd.ntmps44
    go_wp2_with fail
    refine (small_pb c _).mono ?_
    rintro e _ ⟨rfl, rfl⟩
    rw [h1]
    go_wp2_with fail
    go_ret
    exact ⟨by simp [h1], rfl⟩
  · have h1 : L.isSmall c = false := by simpa using h1
    by_cases h2 : L.isDigit c = true
    · go_enter Tryd.func44, Tryd.ntmps44
      go_wp2_with fail
      refine (small_pb c _).mono ?_
      rintro e _ ⟨rfl, rfl⟩
      rw [h1]
      go_wp2_with fail
      refine (digit_pb c _).mono ?_
      rintro e _ ⟨rfl, rfl⟩
      rw [h2]
      go_wp2_with fail
      go_ret
      exact ⟨by simp [h1, h2], rfl⟩
    · have h2 : L.isDigit c = false := by simpa using h2
      go_enter Tryd.func44, Tryd.ntmps44
      go_wp2_with fail
      refine (small_pb c _).mono ?_
      rintro e _ ⟨rfl, rfl⟩
      rw [h1]
      go_wp2_with fail
      refine (digit_pb c _).mono ?_
      rintro e _ ⟨rfl, rfl⟩
      rw [h2]
      go_wp2_with fail
      all_goals
        go_ret
        refine ⟨ret_b ?_, rfl⟩
        rw [Bool.eq_iff_iff]
        simp [h1, h2]
        omega
theorem checkText1_pb : PB 68 L.textByte := by
  intro c w
  unfold L.textByte
  go_enter Tryd.func68, Tryd.ntmps68
  go_wp2_with fail
  all_goals
    go_ret
    refine ⟨ret_b ?_, rfl⟩
    rw [Bool.eq_iff_iff]
    simp
    omega
theorem headD_at (s : ByteArray) (h : 0 < s.size) : s.data.toList.headD 0 = s[0] := by
  obtain ⟨⟨l⟩⟩ := s
  cases l with
  | nil => simp [ByteArray.size] at h
  | cons a t => rfl
theorem isKey_any (s : ByteArray) (w : World) (hs : s.size ≤ 1000000000) :
    Calls Tryd.prog 25 #[.string s] w fun e w' => e = .returned (.bool (L.isKey s)) ∧ w = w' := by
  unfold L.isKey
  by_cases h1 : 1 ≤ s.size ∧ s.size ≤ 40
  · have e1 : decide ((1 : Int) ≤ s.size ∧ (s.size : Int) ≤ 40) = true := by simp; omega
    have hh := headD_at s (by omega)
    have Hh : Hid (s.data.toList.headD 0 = s[0]'(by omega)) := Lib.hid hh
    have hs0 : 0 < s.size := by omega
    rw [Hh.out]
    clear hh
    by_cases h2 : L.isSmall (s[0]'(by omega)) = true
    · go_enter Tryd.func25, Tryd.ntmps25
      go_wp2_with fail
      refine (within_any _ _ _ _).mono ?_
      rintro e _ ⟨rfl, rfl⟩
      rw [e1]
      go_wp2_with fail
      refine (small_pb _ _).mono ?_
      rintro e _ ⟨rfl, rfl⟩
      rw [h2]
      go_wp2_with fail
      refine (all_any _ _ isKey1_pb s _ hs (fun _ _ => by kernel_rfl)).mono ?_
      rintro e _ ⟨rfl, rfl⟩
      go_wp2_with fail
      go_ret
      exact ⟨by simp [h1, h2], rfl⟩
    · have h2 : L.isSmall (s[0]'(by omega)) = false := by simpa using h2
      go_enter Tryd.func25, Tryd.ntmps25
      go_wp2_with fail
      refine (within_any _ _ _ _).mono ?_
      rintro e _ ⟨rfl, rfl⟩
      rw [e1]
      go_wp2_with fail
      refine (small_pb _ _).mono ?_
      rintro e _ ⟨rfl, rfl⟩
      rw [h2]
      go_wp2_with fail
      go_ret
      exact ⟨by simp [h1, h2], rfl⟩
  · have e1 : decide ((1 : Int) ≤ s.size ∧ (s.size : Int) ≤ 40) = false := by simp; omega
    have e2 : (decide (1 ≤ s.size) && decide (s.size ≤ 40)) = false := by simp; omega
    rw [e2]
    go_enter Tryd.func25, Tryd.ntmps25
    go_wp2_with fail
    refine (within_any _ _ _ _).mono ?_
    rintro e _ ⟨rfl, rfl⟩
    rw [e1]
    go_wp2_with fail
    go_ret
    exact ⟨by simp, rfl⟩
end Go.Proofs.YtmlpkejeglpciaaDoor
