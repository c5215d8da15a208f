/- Comparisons of strings and numbers: what cmp.Compare and cmp.Or return, and that strings are ordered. -/
import Derived.Test.YtlnklkedpknbpaaGreatDoorRefKey
import Derived.WalkLawsBesides
import Derived.Sort.Walk0
namespace Go.Proofs.YtlnklkedpknbpaaGreatDoor
open Go.RowKit
/-- strings are held against each other, byte by byte -/
def cmpS (a b : ByteArray) : Int := if Op.bytesLess a.toList b.toList then -1 else if (a.toList == b.toList) then 0 else 1
theorem isNaN_any (s : ByteArray) (w : World) : Calls Tryz.prog 166 #[.string s] w fun e w' => e = .returned (.bool false) ∧ w = w' := by
  go_enter Tryz.func166, Tryz.ntmps166
  go_wp2_with fail
  go_ret
  exact ⟨by simp, rfl⟩
theorem compareS_any (a b : ByteArray) (w : World) : Calls Tryz.prog 117 #[.string a, .string b] w fun e w' => e = .returned (.int .i64 (cmpS a b)) ∧ w = w' := by
  obtain ⟨R, HR⟩ : ∃ R, Hid (cmpS a b = R) := ⟨_, Lib.hid rfl⟩
  rw [HR.out]
  go_enter Tryz.func117, Tryz.ntmps117
  go_wp2_with (first | (go_at_call 166; refine (isNaN_any _ _).mono ?_; rintro e _ ⟨rfl, rfl⟩))
  all_goals (go_ret; refine ⟨ret_i ?_, rfl⟩; rw [← HR.out]; unfold cmpS; clear HR; simp_all)
theorem or_any (blk : Nat) (x y : Int) (w : World) (hx : w.cell? ⟨blk, 0, none⟩ = some (.int .i64 x)) (hy : w.cell? ⟨blk, 1, none⟩ = some (.int .i64 y)) :
    Calls Tryz.prog 167 #[.slice (some ⟨blk, 0, none⟩) 2 2] w fun e w' => e = .returned (.int .i64 (if x ≠ 0 then x else y)) ∧ w = w' := by
  obtain ⟨R, HR⟩ : ∃ R, Hid ((if x ≠ 0 then x else y) = R) := ⟨_, Lib.hid rfl⟩
  rw [HR.out]
  go_enter Tryz.func167, Tryz.ntmps167
  go_wp2_with fail
  go_loopw [8] (fun i wr => ∃ k : Nat, k ≤ 2 ∧ i = .int .i64 k ∧ wr = w ∧ (k = 1 → x = 0) ∧ (k = 2 → x = 0 ∧ y = 0)) (fun i _ => 2 - (intOf i).toNat)
  case atStart => exact ⟨0, by omega, rfl, rfl, fun h => by omega, fun h => by omega⟩
  case round =>
    obtain ⟨k, hk, rfl, rfl, h1, h2⟩ := hrel
    have H1 := Lib.hid h1
    have H2 := Lib.hid h2
    clear h1 h2
    obtain rfl | rfl | rfl : k = 0 ∨ k = 1 ∨ k = 2 := by omega
    · by_cases h0 : x = 0
      · have e0 : (x != 0) = false := by simpa using h0
        have H0 := Lib.hid h0
        clear h0
        go_wp2_with fail
        go_roundw
        case rel => exact ⟨1, by omega, rfl, trivial, fun _ => H0.out, fun h => by omega⟩
        case measure => simp [intOf]
      · have e0 : (x != 0) = true := by simpa using h0
        go_wp2_with fail
        go_ret
        exact ⟨ret_i (by rw [← HR.out, if_pos h0]), rfl⟩
    · have H0 : Hid (x = 0) := H1.out rfl
      by_cases h0 : y = 0
      · have e0 : (y != 0) = false := by simpa using h0
        have Hy0 := Lib.hid h0
        clear h0
        go_wp2_with fail
        go_roundw
        case rel => exact ⟨2, by omega, rfl, trivial, fun h => by omega, fun _ => ⟨H0.out, Hy0.out⟩⟩
        case measure => simp [intOf]
      · have e0 : (y != 0) = true := by simpa using h0
        go_wp2_with fail
        go_ret
        exact ⟨ret_i (by rw [← HR.out, if_neg (by simpa using H0.out)]), rfl⟩
    · have H0 := H2.out rfl
      go_wp2_with fail
      go_ret
      exact ⟨ret_i (by rw [← HR.out, if_neg (by simpa using H0.1), H0.2]), rfl⟩
theorem cmpInt_any (x y : Int) (w : World) : Calls Tryz.prog 154 #[.int .i64 x, .int .i64 y] w fun e w' => e = .returned (.int .i64 (Lib.compareInt x y)) ∧ w = w' := (Tryz.cmp_Compare_int x y w).mono fun _ _ ⟨h1, h2⟩ => ⟨h1, h2.symm⟩
/-- a stands before b -/
def ltS (a b : ByteArray) : Bool := Op.bytesLess a.toList b.toList
theorem ltS_trans {a b c : ByteArray} (h1 : ltS a b = true) (h2 : ltS b c = true) : ltS a c = true := by
  unfold ltS at *
  have e : ∀ x y : List UInt8, Op.bytesLess x y = decide (x < y) := bytesLess_eq
  rw [e] at h1 h2 ⊢
  simp only [decide_eq_true_eq] at *
  exact List.lt_trans h1 h2
theorem cmpS_neg (a b : ByteArray) : cmpS a b < 0 ↔ ltS a b = true := by
  unfold cmpS ltS
  split
  · rename_i h; simp [h]
  · rename_i h; split <;> simp [h]
theorem ltS_irr (a : ByteArray) : ltS a a = false := by
  unfold ltS
  have e : ∀ x y : List UInt8, Op.bytesLess x y = decide (x < y) := bytesLess_eq
  rw [e]
  simp
theorem cmpS_zero (a b : ByteArray) : cmpS a b = 0 ↔ a = b := by
  constructor
  · intro h
    unfold cmpS at h
    split at h
    · cases h
    · split at h
      · rename_i h2
        rw [ByteArray.toList_eq, ByteArray.toList_eq] at h2
        exact WideShapes.bytes_inj (by simpa using h2)
      · cases h
  · rintro rfl
    have := ltS_irr a
    unfold ltS at this
    unfold cmpS
    rw [this]
    simp
/-- a is not behind b -/
def leS (a b : ByteArray) : Bool := Op.bytesLess a.toList b.toList || (a.toList == b.toList)
theorem bytes_tri : ∀ x y : List UInt8, Op.bytesLess y x = false → (y == x) = false → Op.bytesLess x y = true
  | [], [], _, h => by simp at h
  | [], _ :: _, _, _ => by simp [Op.bytesLess]
  | _ :: _, [], h, _ => by simp [Op.bytesLess] at h
  | a :: x, b :: y, h1, h2 => by
    simp only [Op.bytesLess, Bool.or_eq_false_iff, decide_eq_false_iff_not, Bool.and_eq_false_iff] at h1
    simp only [Op.bytesLess, Bool.or_eq_true, decide_eq_true_eq, Bool.and_eq_true, beq_iff_eq]
    by_cases hab : a < b
    · exact .inl hab
    · have e : a = b := UInt8.le_antisymm (UInt8.not_lt.1 h1.1) (UInt8.not_lt.1 hab)
      subst e
      refine .inr ⟨rfl, bytes_tri x y ?_ ?_⟩
      · rcases h1.2 with h | h
        · simp at h
        · exact h
      · simpa using h2
theorem ltS_of_not_le {a b : ByteArray} (h : leS b a = false) : ltS a b = true := by
  unfold leS at h
  simp only [Bool.or_eq_false_iff] at h
  exact bytes_tri _ _ h.1 h.2
end Go.Proofs.YtlnklkedpknbpaaGreatDoor
