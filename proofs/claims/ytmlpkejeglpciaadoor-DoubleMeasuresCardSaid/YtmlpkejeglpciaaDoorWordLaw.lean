/- Plain laws on strings of bytes: what Trim leaves, what is a key, what is a text. No program is in sight. -/
import Derived.Lib.SlTrimSet
import Derived.Lib.ValidLaws
import Derived.Shelf.Unicode.DecodeSlow
namespace Go.Proofs.YtmlpkejeglpciaaDoor.L
open Go

/-- all bytes are of some kind -/
abbrev allB (p : UInt8 → Bool) (l : List UInt8) : Bool := l.all p
theorem dropWhile_nil {α : Type} (p : α → Bool) (l : List α) : l.dropWhile p = [] ↔ ∀ x ∈ l, p x = true := by
  induction l with
  | nil => simp
  | cons a t ih =>
    by_cases h : p a = true
    · rw [List.dropWhile_cons_of_pos h, ih]; simp [h]
    · rw [List.dropWhile_cons_of_neg h]; simp [h]
theorem mem_dropWhile {α : Type} (p : α → Bool) {l : List α} {x : α} (hx : x ∈ l) (hp : p x = false) : x ∈ l.dropWhile p := by
  induction l with
  | nil => cases hx
  | cons a t ih =>
    by_cases h : p a = true
    · rw [List.dropWhile_cons_of_pos h]
      rcases List.mem_cons.1 hx with rfl | h2
      · rw [h] at hp; cases hp
      · exact ih h2
    · rw [List.dropWhile_cons_of_neg h]; exact hx
theorem trimS_nil (l cs : List UInt8) : Lib.trimS l cs = [] ↔ l.all (cs.contains ·) = true := by
  unfold Lib.trimS Lib.trimLeftS Lib.trimRightS
  rw [dropWhile_nil, List.all_eq_true]
  constructor
  · intro h x hx
    by_cases hp : cs.contains x = true
    · exact hp
    · exact h x (by rw [List.mem_reverse]; exact mem_dropWhile _ (by simpa using hx) (by simpa using hp))
  · intro h x hx
    rw [List.mem_reverse] at hx
    exact h x (by simpa using (List.dropWhile_sublist _).subset hx)
theorem trimS_isEmpty (l cs : List UInt8) : (Lib.trimS l cs).isEmpty = l.all (cs.contains ·) := by
  rw [Bool.eq_iff_iff, List.isEmpty_iff, trimS_nil]

theorem all_congr' {p q : UInt8 → Bool} (h : ∀ c, p c = q c) (l : List UInt8) : l.all p = l.all q := by rw [show p = q from funext h]
/-- a fact on bytes, by trying all -/
theorem byte_all {p : UInt8 → Prop} (h : ∀ n : Fin 256, p (UInt8.ofNat n.val)) (c : UInt8) : p c := by
  have := h ⟨c.toNat, c.toNat_lt⟩
  simpa using this

def isSmall (c : UInt8) : Bool := decide (97 ≤ c.toNat) && decide (c.toNat ≤ 122)
def isDigit (c : UInt8) : Bool := decide (48 ≤ c.toNat) && decide (c.toNat ≤ 57)
def isCapital (c : UInt8) : Bool := decide (65 ≤ c.toNat) && decide (c.toNat ≤ 90)
def keyByte (c : UInt8) : Bool := isSmall c || isDigit c || c.toNat == 45 || c.toNat == 95
def isKey (s : ByteArray) : Bool := decide (1 ≤ s.size) && decide (s.size ≤ 40) && isSmall (s.data.toList.headD 0) && s.data.toList.all keyByte
def textByte (c : UInt8) : Bool := decide (32 ≤ c.toNat) && c.toNat != 127

def smallsL : List UInt8 := [97, 98, 99, 100, 101, 102, 103, 104, 105, 106, 107, 108, 109, 110, 111, 112, 113, 114, 115, 116, 117, 118, 119, 120, 121, 122]
def digitsL : List UInt8 := [48, 49, 50, 51, 52, 53, 54, 55, 56, 57]
def capitalsL : List UInt8 := [65, 66, 67, 68, 69, 70, 71, 72, 73, 74, 75, 76, 77, 78, 79, 80, 81, 82, 83, 84, 85, 86, 87, 88, 89, 90]
set_option maxRecDepth 100000 in
theorem smalls_has (c : UInt8) : smallsL.contains c = isSmall c := byte_all (p := fun c => smallsL.contains c = isSmall c) (by decide +kernel) c
set_option maxRecDepth 100000 in
theorem digits_has (c : UInt8) : digitsL.contains c = isDigit c := byte_all (p := fun c => digitsL.contains c = isDigit c) (by decide +kernel) c
set_option maxRecDepth 100000 in
theorem keys_has (c : UInt8) : (smallsL ++ digitsL ++ [45, 95]).contains c = keyByte c := byte_all (p := fun c => (smallsL ++ digitsL ++ [45, 95]).contains c = keyByte c) (by decide +kernel) c

theorem decodeN_parts (n b0 b1 b2 b3 : Nat) (_ : 1 ≤ n) : (Lib.decodeN n b0 b1 b2 b3 = (b0, 1) ∧ b0 < 128) ∨ (Lib.decodeN n b0 b1 b2 b3 = (65533, 1) ∧ 128 ≤ b0) ∨
    (128 ≤ (Lib.decodeN n b0 b1 b2 b3).1 ∧ 2 ≤ (Lib.decodeN n b0 b1 b2 b3).2 ∧ (Lib.decodeN n b0 b1 b2 b3).2 ≤ 4 ∧ (Lib.decodeN n b0 b1 b2 b3).2 ≤ n ∧ 128 ≤ b0 ∧ 128 ≤ b1 ∧ (3 ≤ (Lib.decodeN n b0 b1 b2 b3).2 → 128 ≤ b2) ∧ (4 ≤ (Lib.decodeN n b0 b1 b2 b3).2 → 128 ≤ b3)) := by
  unfold Lib.decodeN
  repeat' split
  all_goals first
    | (left; exact ⟨rfl, by omega⟩)
    | (right; left; exact ⟨rfl, by omega⟩)
    | (right; right; dsimp only; omega)
end Go.Proofs.YtmlpkejeglpciaaDoor.L
