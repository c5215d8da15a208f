/- Plain laws on ids: what is a mail address, a phone number, a member number, the id of a device. No program is in sight. -/
import Derived.Test.YtlnklkedpknbpaaGreatDoorWordLaw
import Derived.Lib.IndexMore
import Derived.Lib.Split
import Derived.Lib.Small
namespace Go.Proofs.YtlnklkedpknbpaaGreatDoor.L
open Go
def mailByte (c : UInt8) : Bool := isSmall c || isDigit c || c.toNat == 46 || c.toNat == 45 || c.toNat == 95
def labelByte (c : UInt8) : Bool := isSmall c || isDigit c || c.toNat == 45
def memberByte (c : UInt8) : Bool := isDigit c || isCapital c
def deviceByte (c : UInt8) : Bool := isDigit c || (decide (97 ≤ c.toNat) && decide (c.toNat ≤ 102))
/-- neither the first byte nor the last one is c -/
def ends (l : List UInt8) (c : UInt8) : Bool := l.headD 0 != c && l.getLastD 0 != c
def labelOk (s : ByteArray) : Bool := decide (1 ≤ s.size) && decide (s.size ≤ 30) && ends s.data.toList 45 && s.data.toList.all labelByte
def labels (d : ByteArray) : List ByteArray := Lib.splitB ⟨#[46]⟩ 0 (Lib.countB d ⟨#[46]⟩) d
def localOk (l : ByteArray) : Bool := decide (1 ≤ l.size) && decide (l.size ≤ 64) && ends l.data.toList 46 && !Lib.contains l.data.toList [46, 46] && l.data.toList.all mailByte
def mailOk (s : ByteArray) : Bool :=
  (Lib.cut s.data.toList [64]).2.2 && decide (s.size ≤ 80) && localOk ⟨(Lib.cut s.data.toList [64]).1.toArray⟩ && (labels ⟨(Lib.cut s.data.toList [64]).2.1.toArray⟩).all labelOk && decide (2 ≤ (labels ⟨(Lib.cut s.data.toList [64]).2.1.toArray⟩).length)
def phoneOk (s : ByteArray) : Bool := Lib.hasPrefix s.data.toList [43] && decide (8 ≤ s.size) && decide (s.size ≤ 16) && (s.data.toList.drop 1).all isDigit && (s.data.toList.drop 1).headD 0 != 48
def memberOk (s : ByteArray) : Bool := decide (4 ≤ s.size) && decide (s.size ≤ 20) && s.data.toList.all memberByte
def deviceOk (s : ByteArray) : Bool := decide (s.size = 32) && s.data.toList.all deviceByte
def signs : List UInt8 := digitsL ++ capitalsL
def sgn (c : UInt8) : Nat := (Lib.indexByte signs c).toNat
def q36 (n : Nat) : Nat := n / 36 + n % 36
/-- the sum of signs, the last one counted twice, the one before once .. -/
def sgnSum : List UInt8 → Nat
  | [] => 0
  | c :: t => q36 (if t.length % 2 = 0 then 2 * sgn c else sgn c) + sgnSum t
def checkNo (l : List UInt8) : Nat := (36 - sgnSum l % 36) % 36
def signAt (n : Nat) : UInt8 := signs.getD n 0
def idFault (k : Int) (s : ByteArray) : Int :=
  if k = 1 then (if mailOk s then 0 else 3) else if k = 2 then (if phoneOk s then 0 else 3)
  else if k = 3 then (if memberOk s then (if signAt (checkNo s.data.toList.dropLast) = s.data.toList.getLastD 0 then 0 else 15) else 3)
  else if k = 4 then (if deviceOk s then 0 else 3) else 4
set_option maxRecDepth 100000 in
theorem sgn_lt (c : UInt8) (h : memberByte c = true) : 0 ≤ Lib.indexByte signs c ∧ Lib.indexByte signs c < 36 :=
  byte_all (p := fun c => memberByte c = true → 0 ≤ Lib.indexByte signs c ∧ Lib.indexByte signs c < 36) (by decide +kernel) c h
set_option maxRecDepth 100000 in
theorem mails_has (c : UInt8) : (smallsL ++ digitsL ++ [46, 45, 95]).contains c = mailByte c := byte_all (p := fun c => (smallsL ++ digitsL ++ [46, 45, 95]).contains c = mailByte c) (by decide +kernel) c
set_option maxRecDepth 100000 in
theorem labels_has (c : UInt8) : (smallsL ++ digitsL ++ [45]).contains c = labelByte c := byte_all (p := fun c => (smallsL ++ digitsL ++ [45]).contains c = labelByte c) (by decide +kernel) c
set_option maxRecDepth 100000 in
theorem members_has (c : UInt8) : (digitsL ++ capitalsL).contains c = memberByte c := byte_all (p := fun c => (digitsL ++ capitalsL).contains c = memberByte c) (by decide +kernel) c
set_option maxRecDepth 100000 in
theorem devices_has (c : UInt8) : (digitsL ++ [97, 98, 99, 100, 101, 102]).contains c = deviceByte c := byte_all (p := fun c => (digitsL ++ [97, 98, 99, 100, 101, 102]).contains c = deviceByte c) (by decide +kernel) c
theorem q36_le (n : Nat) (h : n ≤ 70) : q36 n ≤ 36 := by unfold q36; omega
theorem sgn_le (c : UInt8) (h : memberByte c = true) : sgn c ≤ 35 := by have := sgn_lt c h; unfold sgn; omega
theorem sgnSum_le : ∀ l : List UInt8, l.all memberByte = true → sgnSum l ≤ 36 * l.length
  | [], _ => by simp [sgnSum]
  | c :: t, h => by
    simp only [List.all_cons, Bool.and_eq_true] at h
    have h1 := sgn_le c h.1
    have h2 := sgnSum_le t h.2
    have h3 := q36_le (if t.length % 2 = 0 then 2 * sgn c else sgn c) (by split <;> omega)
    rw [sgnSum, List.length_cons]; omega
theorem trimS_same (l : List UInt8) (c : UInt8) (h : l ≠ []) : (Lib.trimS l [c] == l) = ends l c := by
  have hd : ∀ (m : List UInt8), m.headD 0 ≠ c → m.dropWhile ([c].contains ·) = m := fun m hm => by
    cases m with
    | nil => rfl
    | cons a t => rw [List.dropWhile_cons_of_neg]; simpa using hm
  have hl : ∀ m : List UInt8, m.reverse.headD 0 = m.getLastD 0 := fun m => by
    rw [List.headD_eq_head?_getD, List.getLastD_eq_getLast?, List.head?_reverse]
  rw [Bool.eq_iff_iff, beq_iff_eq]
  unfold ends Lib.trimS Lib.trimLeftS Lib.trimRightS
  simp only [Bool.and_eq_true, bne_iff_ne, ne_eq]
  constructor
  · intro e
    have hlen := congrArg List.length e
    have k1 := (List.dropWhile_sublist ([c].contains ·) (l := (l.reverse.dropWhile ([c].contains ·)).reverse)).length_le
    have k2 := (List.dropWhile_sublist ([c].contains ·) (l := l.reverse)).length_le
    simp only [List.length_reverse] at k1 k2
    have e2 : l.reverse.dropWhile ([c].contains ·) = l.reverse := (List.dropWhile_sublist _).eq_of_length (by rw [List.length_reverse]; omega)
    rw [e2, List.reverse_reverse] at e
    constructor
    · intro h0
      cases l with
      | nil => exact h rfl
      | cons a t =>
        have ha : a = c := h0
        rw [List.dropWhile_cons_of_pos (by simp [ha])] at e
        have := congrArg List.length e
        have k3 := (List.dropWhile_sublist ([c].contains ·) (l := t)).length_le
        simp only [List.length_cons] at this
        omega
    · intro h0
      rw [← hl] at h0
      cases hr : l.reverse with
      | nil => simp at hr; exact h hr
      | cons a t =>
        rw [hr] at e2 h0
        have ha : a = c := h0
        rw [List.dropWhile_cons_of_pos (by simp [ha])] at e2
        have := congrArg List.length e2
        have k3 := (List.dropWhile_sublist ([c].contains ·) (l := t)).length_le
        simp only [List.length_cons] at this
        omega
  · rintro ⟨h1, h2⟩
    rw [hd l.reverse (by rw [hl]; exact h2), List.reverse_reverse, hd l h1]
end Go.Proofs.YtlnklkedpknbpaaGreatDoor.L
