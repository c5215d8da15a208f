/- Comparisons of strings and numbers: what cmp.Compare and cmp.Or return, and that strings are ordered. -/
import Derived.Test.YtmlpkejeglpciaaDoorRefKey
import Derived.WalkLawsBesides
import Derived.Sort.Walk0
namespace Go.Proofs.YtmlpkejeglpciaaDoor
open Go.RowKit
/-- strings are held against each other, byte by byte -/
def cmpS (a b : ByteArray) : Int := if Op.bytesLess a.toList b.toList then -1 else if (a.toList == b.toList) then 0 else 1
theorem isNaN_any (s : ByteArray) (w : World) : Calls Tryd.prog 69 #[.string s] w fun e w' => e = .returned (.bool false) ∧ w = w' := by
  go_enter Tryd.func69, Tryd.ntmps69
  go_wp2_with fail
  go_ret
  exact ⟨by simp, rfl⟩
theorem compareS_any (a b : ByteArray) (w : World) : Calls Tryd.prog 61 #[.string a, .string b] w fun e w' => e = .returned (.int .i64 (cmpS a b)) ∧ w = w' := by
  obtain ⟨R, HR⟩ : ∃ R, Hid (cmpS a b = R) := ⟨_, Lib.hid rfl⟩
  rw [HR.out]
  go_enter Tryd.func61, Tryd.ntmps61
  go_wp2_with (first | (go_at_call 69; refine (isNaN_any _ _).mono ?_; rintro e _ ⟨rfl, rfl⟩))
  all_goals (go_ret; refine ⟨ret_i ?_, rfl⟩; rw [← HR.out]; unfold cmpS; clear HR; simp_all)
/-- a stands before b -/
def ltS (a b : ByteArray) : Bool := Op.bytesLess a.toList b.toList
theorem ltS_trans {a b c : ByteArray} (h1 : ltS a b = true) (h2 : ltS b c = true) : ltS a c = true := by
  unfold ltS at *
  have e : ∀ x y : List UInt8, Op.bytesLess x y = decide (x < y) := bytesLess_eq
  rw [e] at h1 h2 ⊢
  simp only [decide_eq_true_eq] at *
  exact List.lt_trans h1 h2
theorem cmpS_neg (a b : ByteArray) : cmpS a b < 0 ↔ ltS a b = true := by
  unfold cmpS ltS
  split
  · rename_i h; simp [h]
  · rename_i h; split <;> simp [h]
theorem ltS_irr (a : ByteArray) : ltS a a = false := by
  unfold ltS
  have e : ∀ x y : List UInt8, Op.bytesLess x y = decide (x < y) := bytesLess_eq
  rw [e]
  simp
theorem cmpS_zero (a b : ByteArray) : cmpS a b = 0 ↔ a = b := by
  constructor
  · intro h
    unfold cmpS at h
    split at h
    · cases h
    · split at h
      · rename_i h2
        rw [ByteArray.toList_eq, ByteArray.toList_eq] at h2
        exact WideShapes.bytes_inj (by simpa using h2)
      · cases h
  · rintro rfl
    have := ltS_irr a
    unfold ltS at this
    unfold cmpS
    rw [this]
    simp
/-- a is not behind b -/
def leS (a b : ByteArray) : Bool := Op.bytesLess a.toList b.toList || (a.toList == b.toList)
theorem bytes_tri : ∀ x y : List UInt8, Op.bytesLess y x = false → (y == x) = false → Op.bytesLess x y = true
  | [], [], _, h => by simp at h
  | [], _ :: _, _, _ => by simp [Op.bytesLess]
  | _ :: _, [], h, _ => by simp [Op.bytesLess] at h
  | a :: x, b :: y, h1, h2 => by
    simp only [Op.bytesLess, Bool.or_eq_false_iff, decide_eq_false_iff_not, Bool.and_eq_false_iff] at h1
    simp only [Op.bytesLess, Bool.or_eq_true, decide_eq_true_eq, Bool.and_eq_true, beq_iff_eq]
    by_cases hab : a < b
    · exact .inl hab
    · have e : a = b := UInt8.le_antisymm (UInt8.not_lt.1 h1.1) (UInt8.not_lt.1 hab)
      subst e
      refine .inr ⟨rfl, bytes_tri x y ?_ ?_⟩
      · rcases h1.2 with h | h
        · simp at h
        · exact h
      · simpa using h2
theorem ltS_of_not_le {a b : ByteArray} (h : leS b a = false) : ltS a b = true := by
  unfold leS at h
  simp only [Bool.or_eq_false_iff] at h
  exact bytes_tri _ _ h.1 h.2
theorem cmpS_pos (a b : ByteArray) : 0 < cmpS a b ↔ ltS b a = true := by
  unfold cmpS ltS
  split
  · rename_i h
    constructor
    · intro h2; simp at h2
    · intro h2
      have := ltS_trans (a := a) (b := b) (c := a) h h2
      rw [ltS_irr] at this
      cases this
  · rename_i h
    split
    · rename_i h2
      have e : a = b := by
        rw [ByteArray.toList_eq, ByteArray.toList_eq] at h2
        exact WideShapes.bytes_inj (by simpa using h2)
      subst e
      have := ltS_irr a
      unfold ltS at this
      simp [this]
    · rename_i h2
      refine ⟨fun _ => bytes_tri _ _ (by simpa using h) (by simpa using h2), fun _ => by decide⟩
end Go.Proofs.YtmlpkejeglpciaaDoor
