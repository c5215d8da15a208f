/- What person.checkText and CheckValue return. -/
import Derived.Test.YtmlpkejeglpciaaDoorPreds
import Derived.Test.YtmlpkejeglpciaaDoorPoints
import Derived.Test.YtmlpkejeglpciaaDoorShelf
namespace Go.Proofs.YtmlpkejeglpciaaDoor
open Go.RowKit
def textOk (s : ByteArray) : Bool := Lib.validD s.data.toList && s.data.toList.all L.textByte
def textFault (s : ByteArray) : Int := if 200 < s.size then 2 else if textOk s then 0 else 3
theorem checkText_any (s : ByteArray) (w : World) (hs : s.size ≤ 1000000000) (hT : Tabs w) :
    Calls Tryd.prog 58 #[.string s] w fun e w' => e = .returned (.int .i64 (textFault s)) ∧ Below w.heap.size w w' := by
  have HT := Lib.hid hT
  clear hT
  have Hv : Hid (∀ w, Tabs w → Calls Tryd.prog 67 #[.string s] w fun e w' => e = .returned (.bool (Lib.validD s.data.toList)) ∧ Below w.heap.size w w') := fun w h => Tryd.utf8_ValidString s w (by omega) h
  obtain ⟨R, HR⟩ : ∃ R, Hid (textFault s = R) := ⟨_, Lib.hid rfl⟩
  rw [HR.out]
  by_cases h1 : 200 < s.size
  · go_enter Tryd.func58, Tryd.ntmps58
    go_wp2_with fail
    go_ret
    exact ⟨ret_i (by rw [← HR.out]; simp [textFault, h1]), Below.refl _ _⟩
  · by_cases h2 : Lib.validD s.data.toList = true
    · rw [h2] at Hv
      by_cases h3 : s.data.toList.all L.textByte = true
      · go_enter Tryd.func58, Tryd.ntmps58
        go_wp2_with fail
        refine (Hv.out _ HT.out).mono ?_
        rintro e w1 ⟨rfl, hl_w1⟩
        have hz_w1 := hl_w1.size
        go_wp2_with fail
        refine (all_any _ _ checkText1_pb s _ hs (fun _ _ => by kernel_rfl)).mono ?_
        rintro e _ ⟨rfl, rfl⟩
        rw [h3]
        go_wp2_with fail
        go_ret
        exact ⟨ret_i (by rw [← HR.out, textFault, textOk, if_neg h1, h2, h3]; rfl), hl_w1⟩
      · have h3 : s.data.toList.all L.textByte = false := by simpa using h3
        go_enter Tryd.func58, Tryd.ntmps58
        go_wp2_with fail
        refine (Hv.out _ HT.out).mono ?_
        rintro e w1 ⟨rfl, hl_w1⟩
        have hz_w1 := hl_w1.size
        go_wp2_with fail
        refine (all_any _ _ checkText1_pb s _ hs (fun _ _ => by kernel_rfl)).mono ?_
        rintro e _ ⟨rfl, rfl⟩
        rw [h3]
        go_wp2_with fail
        go_ret
        exact ⟨ret_i (by rw [← HR.out, textFault, textOk, if_neg h1, h2, h3]; rfl), hl_w1⟩
    · have h2 : Lib.validD s.data.toList = false := by simpa using h2
      rw [h2] at Hv
      go_enter Tryd.func58, Tryd.ntmps58
      go_wp2_with fail
      refine (Hv.out _ HT.out).mono ?_
      rintro e w1 ⟨rfl, hl_w1⟩
      have hz_w1 := hl_w1.size
      go_wp2_with fail
      go_ret
      exact ⟨ret_i (by rw [← HR.out, textFault, textOk, if_neg h1, h2]; rfl), hl_w1⟩
/-- what is wrong with a value -/
def valueFault (k : Int) (t : ByteArray) (n : Int) : Int :=
  if k = 1 then (if n ≠ 0 then 3 else textFault t)
  else if k = 2 then (if ¬ t.toList = [] then 3 else if -1000000000000 ≤ n ∧ n ≤ 1000000000000 then 0 else 1)
  else if k = 3 then (if ¬ t.toList = [] then 3 else if 0 ≤ n ∧ n ≤ 1 then 0 else 1)
  else if k = 4 then (if ¬ t.toList = [] then 3 else if 0 ≤ n ∧ n ≤ 4321439 then 0 else 1)
  else 4
theorem checkValue_any (k n : Int) (t : ByteArray) (w : World) (hs : t.size ≤ 1000000000) (hT : Tabs w) :
    Calls Tryd.prog 38 #[.agg #[.int .i64 k, .string t, .int .i64 n]] w fun e w' => e = .returned (.int .i64 (valueFault k t n)) ∧ Below w.heap.size w w' := by
  have HT := Lib.hid hT
  clear hT
  obtain ⟨R, HR⟩ : ∃ R, Hid (valueFault k t n = R) := ⟨_, Lib.hid rfl⟩
  rw [HR.out]
  have Hc : Hid (∀ w', Below w.heap.size w w' → Calls Tryd.prog 58 #[.string t] w' fun e w'' => e = .returned (.int .i64 (textFault t)) ∧ Below w'.heap.size w' w'') := fun w' h => checkText_any t w' hs (Utf8Tabs_below HT.out h)
  have Hb : Hid (Below w.heap.size w (w.alloc (.cells #[.int .i64 k, .string t, .int .i64 n] 49))) := (Below.refl _ _).alloc (Nat.le_refl _) _
  go_enter Tryd.func38, Tryd.ntmps38
  go_wp2_with (first | (go_at_call 26; refine (within_any _ _ _ _).mono ?_; rintro e _ ⟨rfl, rfl⟩) | (go_at_call 58; refine (Hc.out _ Hb.out).mono ?_; rintro e w1 ⟨rfl, hl_w1⟩))
  all_goals
    go_ret
    first
      | refine ⟨ret_i ?_, Hb.out⟩
      | refine ⟨ret_i ?_, Hb.out.trans (hl_w1.mono (by simp))⟩
    rw [← HR.out]
    unfold valueFault
    clear HR Hb Hc HT
    simp_all
  all_goals omega
end Go.Proofs.YtmlpkejeglpciaaDoor
