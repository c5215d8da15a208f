/- What the small predicates on bytes and numbers of package person return: within, digit, small, capital, all. -/
import Derived.Test.YtmlpkejeglpciaaDoorStream
namespace Go.Proofs.YtmlpkejeglpciaaDoor
open Go.RowKit

theorem small_any (n : Int) (w : World) : Calls Tryd.prog 42 #[.int .u8 n] w fun e w' => e = .returned (.bool (decide (97 ≤ n ∧ n ≤ 122))) ∧ w = w' := by
  by_cases h1 : 97 ≤ n <;> by_cases h2 : n ≤ 122
  all_goals
    simp only [h1, h2, and_true, and_false, decide_true, decide_false]
    go_enter Tryd.func42, Tryd.ntmps42
    go_wp2
    go_ret
    exact ⟨rfl, rfl⟩
theorem within_any (n a b : Int) (w : World) : Calls Tryd.prog 26 #[.int .i64 n, .int .i64 a, .int .i64 b] w fun e w' => e = .returned (.bool (decide (a ≤ n ∧ n ≤ b))) ∧ w = w' := by
  by_cases h1 : a ≤ n <;> by_cases h2 : n ≤ b
  all_goals
    simp only [h1, h2, and_true, and_false, decide_true, decide_false]
    go_enter Tryd.func26, Tryd.ntmps26
    go_wp2
    go_ret
    exact ⟨rfl, rfl⟩
theorem digit_any (n : Int) (w : World) : Calls Tryd.prog 45 #[.int .u8 n] w fun e w' => e = .returned (.bool (decide (48 ≤ n ∧ n ≤ 57))) ∧ w = w' := by
  by_cases h1 : 48 ≤ n <;> by_cases h2 : n ≤ 57
  all_goals
    simp only [h1, h2, and_true, and_false, decide_true, decide_false]
    go_enter Tryd.func45, Tryd.ntmps45
    go_wp2
    go_ret
    exact ⟨rfl, rfl⟩
/-- The function g decides p of a byte. -/
abbrev PB (g : Nat) (p : UInt8 → Bool) : Prop := ∀ (c : UInt8) (w : World), Calls Tryd.prog g #[.int .u8 (c.toNat : Int)] w fun e w' => e = .returned (.bool (p c)) ∧ w = w'

set_option maxHeartbeats 1000000 in
set_option maxRecDepth 100000 in
theorem all_any (g : Nat) (p : UInt8 → Bool) (hp : PB g p) (s : ByteArray) (w : World) (hs : s.size ≤ 1000000000) (eg : ∀ args w, (callFunc g args).run Tryd.prog w = .ok (.enter g args) w) :
    Calls Tryd.prog 43 #[.string s, .func (.func g) #[] #[]] w fun e w' => e = .returned (.bool (s.data.toList.all p)) ∧ w = w' := by
  obtain ⟨R, HR⟩ : ∃ R, Hid (s.data.toList.all p = R) := ⟨_, Lib.hid rfl⟩
  rw [HR.out]
  have hsl : s.data.toList.length = s.size := rfl
  have Hsl := Lib.hid hsl
  clear hsl
  go_enter Tryd.func43, Tryd.ntmps43
  go_wp2_with fail
  go_loopw [8] (fun i wr => ∃ k : Nat, k ≤ s.size ∧ i = .int .i64 k ∧ wr = w ∧ (s.data.toList.take k).all p = true) (fun i _ => s.size - (intOf i).toNat)
  case atStart => exact ⟨0, Nat.zero_le _, rfl, rfl, by simp⟩
  case round =>
    obtain ⟨k, hk, rfl, rfl, hr⟩ := hrel
    have Hr := Lib.hid hr
    clear hr
    by_cases hlt : k < s.size
    · by_cases hc : p s[k] = true
      · have Hc := Lib.hid hc
        go_wp2_with fail
        refine (hp _ _).mono ?_
        rintro e w1 ⟨rfl, rfl⟩
        rw [hc]
        clear hc
        go_wp2_with fail
        go_roundw
        case rel =>
          refine ⟨k + 1, by omega, by go_num, trivial, ?_⟩
          rw [List.take_succ_eq_append_getElem (by rw [Hsl.out]; exact hlt), List.all_append, Hr.out]
          simp only [List.all_cons, List.all_nil, Bool.and_true, Bool.true_and]
          exact Hc.out
        case measure => simp [intOf]; omega
      · have hc' : p s[k] = false := by simpa using hc
        have HF : Hid (false = R) := by
          show _ = _
          rw [← HR.out]; symm
          rw [List.all_eq_false]
          exact ⟨s[k], List.getElem_mem (l := s.data.toList) (by rw [Hsl.out]; exact hlt), by simpa using hc'⟩
        go_wp2_with fail
        refine (hp _ _).mono ?_
        rintro e w1 ⟨rfl, rfl⟩
        rw [hc']
        clear hc hc'
        go_wp2
        go_ret
        exact ⟨by simp [← HF.out], rfl⟩
    · have HF : Hid (true = R) := by
        show _ = _
        rw [← HR.out, ← Hr.out, List.take_of_length_le (by rw [Hsl.out]; omega)]
      go_wp2
      go_ret
      exact ⟨by simp [← HF.out], rfl⟩
end Go.Proofs.YtmlpkejeglpciaaDoor
