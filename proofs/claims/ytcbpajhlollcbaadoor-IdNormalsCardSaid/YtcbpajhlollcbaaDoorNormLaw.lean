/- Plain laws on making ids normal. No program is in sight. -/
import Derived.Test.YtcbpajhlollcbaaDoorIdLaw
import Derived.Lib.IndexBytes
import Derived.Lib.FieldsP
import Derived.Lib.Join
import Derived.Lib.Split
namespace Go.Proofs.YtcbpajhlollcbaaDoor.L
open Go
def lowB (c : UInt8) : UInt8 := if isCapital c then c + 32 else c
def upB (c : UInt8) : UInt8 := if isSmall c then c - 32 else c
set_option maxRecDepth 100000 in
theorem lowB_nat (c : UInt8) (h : isCapital c = true) : (lowB c).toNat = c.toNat + 32 ∧ 65 ≤ c.toNat ∧ c.toNat ≤ 90 :=
  byte_all (p := fun c => isCapital c = true → (lowB c).toNat = c.toNat + 32 ∧ 65 ≤ c.toNat ∧ c.toNat ≤ 90) (by decide +kernel) c h
set_option maxRecDepth 100000 in
theorem upB_nat (c : UInt8) (h : isSmall c = true) : (upB c).toNat = c.toNat - 32 ∧ 97 ≤ c.toNat ∧ c.toNat ≤ 122 :=
  byte_all (p := fun c => isSmall c = true → (upB c).toNat = c.toNat - 32 ∧ 97 ≤ c.toNat ∧ c.toNat ≤ 122) (by decide +kernel) c h
/-- where a byte stands in a list, and what stands there in another one -/
def mapB (from_ to_ : List UInt8) (c : UInt8) : UInt8 := if 0 ≤ Lib.indexByte from_ c then to_.getD (Lib.indexByte from_ c).toNat 0 else c
set_option maxRecDepth 100000 in
theorem mapB_low (c : UInt8) : mapB capitalsL smallsL c = lowB c := byte_all (p := fun c => mapB capitalsL smallsL c = lowB c) (by decide +kernel) c
set_option maxRecDepth 100000 in
theorem mapB_up (c : UInt8) : mapB smallsL capitalsL c = upB c := byte_all (p := fun c => mapB smallsL capitalsL c = upB c) (by decide +kernel) c
set_option maxRecDepth 100000 in
theorem capitals_ix (c : UInt8) : Lib.indexByte capitalsL c < 26 := byte_all (p := fun c => Lib.indexByte capitalsL c < 26) (by decide +kernel) c
set_option maxRecDepth 100000 in
theorem smalls_ix (c : UInt8) : Lib.indexByte smallsL c < 26 := byte_all (p := fun c => Lib.indexByte smallsL c < 26) (by decide +kernel) c
theorem ix_has (cs : List UInt8) (c : UInt8) : decide (0 ≤ Lib.indexByte cs c) = cs.contains c := by
  induction cs with
  | nil => simp [Lib.indexByte]
  | cons b t ih =>
    unfold Lib.indexByte
    by_cases h : b = c
    · subst h; simp
    · have hb : (b == c) = false := by simpa using h
      have hcb : (c == b) = false := by simpa using Ne.symm h
      rw [hb]
      have hge := Lib.indexByte_ge t c
      simp only [Bool.false_eq_true, if_false, List.contains_cons, hcb, Bool.false_or]
      rw [← ih]
      by_cases h2 : Lib.indexByte t c = -1
      · simp [h2]
      · have h3 : (Lib.indexByte t c == -1) = false := by simpa using h2
        rw [h3]
        simp only [Bool.false_eq_true, if_false]
        rw [Bool.eq_iff_iff]; simp; omega
/-- the bytes that are not of a list -/
def without (l cs : List UInt8) : List UInt8 := l.filter fun c => !cs.contains c
def seg (l : List UInt8) (x : Nat × Nat) : List UInt8 := (l.drop x.1).take (x.2 - x.1)
theorem seg_app (l : List UInt8) (a b n : Nat) (h : a ≤ b) : seg l (a, b) ++ seg l (b, b + n) = seg l (a, b + n) := by
  unfold seg
  dsimp only
  rw [show b + n - a = (b - a) + n by omega, show b + n - b = n by omega, List.take_add, List.drop_drop, show a + (b - a) = b by omega]
theorem take_seg (l : List UInt8) (b n : Nat) : l.take (b + n) = l.take b ++ seg l (b, b + n) := by
  unfold seg
  dsimp only
  rw [List.take_add, show b + n - b = n by omega]
def pred (cs : List UInt8) (r : Nat) : Bool := decide (r < 128) && cs.contains r.toUInt8
theorem get_at (s : ByteArray) (i : Nat) (h : i < s.size) : s.data.toList[i]? = some (s.get! i) := by
  have h' : i < s.data.toList.length := h
  rw [List.getElem?_eq_getElem h']
  simp [ByteArray.get!, getElem!_pos s.data i (show i < s.data.size from h)]
theorem seg_all (s : ByteArray) (q : UInt8 → Bool) (b n : Nat) (h : b + n ≤ s.size) (hq : ∀ i, i < n → q (s.get! (b + i)) = true) : (seg s.data.toList (b, b + n)).filter q = seg s.data.toList (b, b + n) := by
  rw [List.filter_eq_self]
  intro x hx
  obtain ⟨i, hi, e⟩ := List.getElem_of_mem hx
  have hl : (seg s.data.toList (b, b + n))[i]? = some x := by rw [List.getElem?_eq_getElem hi, e]
  unfold seg at hl
  dsimp only at hl
  rw [List.getElem?_take] at hl
  split at hl
  · rename_i hlt
    rw [List.getElem?_drop, get_at s (b + i) (by omega)] at hl
    cases hl
    exact hq i (by omega)
  · cases hl
theorem hi_not (cs : List UInt8) (ha : cs.all (fun b => decide (b.toNat < 128)) = true) (c : UInt8) (h : 128 ≤ c.toNat) : (!cs.contains c) = true := by
  rw [Bool.not_eq_true']
  rw [Bool.eq_false_iff]
  intro hc
  have := List.all_eq_true.1 ha c (by simpa using hc)
  simp at this
  omega
theorem step_parts (s : ByteArray) (cs : List UInt8) (ha : cs.all (fun b => decide (b.toNat < 128)) = true) (pos : Nat) (hp : pos < s.size) :
    pos + (Utf8.decode s pos).2 ≤ s.size ∧ 1 ≤ (Utf8.decode s pos).2 ∧
    (seg s.data.toList (pos, pos + (Utf8.decode s pos).2)).filter (fun c => !cs.contains c) = if pred cs (Utf8.decode s pos).1 then [] else seg s.data.toList (pos, pos + (Utf8.decode s pos).2) := by
  have hone : seg s.data.toList (pos, pos + 1) = [s.get! pos] := by
    unfold seg
    dsimp only
    have h' : pos < s.data.toList.length := hp
    have := get_at s pos hp
    rw [List.getElem?_eq_getElem h'] at this
    rw [List.drop_eq_getElem_cons h', show pos + 1 - pos = 1 by omega, Option.some.inj this]
    rfl
  have hd := Lib.decode_at s pos
  rcases decodeN_parts (s.size - pos) (s.get! pos).toNat (s.get! (pos + 1)).toNat (s.get! (pos + 2)).toNat (s.get! (pos + 3)).toNat (by omega) with ⟨e, hb⟩ | ⟨e, hb⟩ | ⟨h1, h2, h3, h4, h5, h6, h7, h8⟩
  · rw [← hd] at e
    rw [e]
    refine ⟨by show pos + 1 ≤ _; omega, Nat.le_refl _, ?_⟩
    dsimp only
    rw [hone]
    have hpr : pred cs (s.get! pos).toNat = cs.contains (s.get! pos) := by
      unfold pred
      simp [hb]
    rw [hpr]
    cases hc : cs.contains (s.get! pos)
    · rw [List.filter_cons_of_pos (by rw [hc]; rfl)]; rfl
    · rw [List.filter_cons_of_neg (by rw [hc]; simp)]; rfl
  · rw [← hd] at e
    rw [e]
    refine ⟨by show pos + 1 ≤ _; omega, Nat.le_refl _, ?_⟩
    dsimp only
    have hpr : pred cs 65533 = false := by unfold pred; simp
    rw [hpr, if_neg (by simp), seg_all s _ pos 1 (by omega) (fun i hi => by
      obtain rfl : i = 0 := by omega
      exact hi_not cs ha _ hb)]
  · rw [← hd] at h1 h2 h3 h4 h7 h8
    have hpr : pred cs (Utf8.decode s pos).1 = false := by unfold pred; simp; omega
    refine ⟨by omega, by omega, ?_⟩
    rw [hpr, if_neg (by simp), seg_all s _ pos _ (by omega) (fun i hi => ?_)]
    have : i = 0 ∨ i = 1 ∨ i = 2 ∨ i = 3 := by omega
    rcases this with rfl | rfl | rfl | rfl
    · exact hi_not cs ha _ h5
    · exact hi_not cs ha _ h6
    · exact hi_not cs ha _ (h7 (by omega))
    · exact hi_not cs ha _ (h8 (by omega))
def held (l : List UInt8) (st : Option Nat) (pos : Nat) : List UInt8 := match st with | some a => seg l (a, pos) | none => []
theorem fields_law (s : ByteArray) (cs : List UInt8) (ha : cs.all (fun b => decide (b.toNat < 128)) = true) : ∀ (f pos : Nat) (st : Option Nat) (acc : List (Nat × Nat)), pos ≤ s.size → s.size - pos ≤ f → (∀ a, st = some a → a ≤ pos) →
    (acc.map (seg s.data.toList)).flatten ++ held s.data.toList st pos = without (s.data.toList.take pos) cs →
    ((Lib.closeSpans s (Lib.spansFromP (pred cs) s f pos st acc)).map (seg s.data.toList)).flatten = without s.data.toList cs
  | 0, pos, st, acc, h1, h2, h3, h4 => by
    have hps : pos = s.size := by omega
    subst hps
    rw [show s.data.toList.take s.size = s.data.toList from List.take_of_length_le (Nat.le_refl _)] at h4
    rw [← h4]
    cases st with
    | none => simp [Lib.spansFromP, Lib.closeSpans, held]
    | some a => simp [Lib.spansFromP, Lib.closeSpans, held]
  | f + 1, pos, st, acc, h1, h2, h3, h4 => by
    by_cases hp : pos < s.size
    · obtain ⟨k1, k2, k3⟩ := step_parts s cs ha pos hp
      have hw : without (s.data.toList.take (pos + (Utf8.decode s pos).2)) cs = without (s.data.toList.take pos) cs ++ (if pred cs (Utf8.decode s pos).1 then [] else seg s.data.toList (pos, pos + (Utf8.decode s pos).2)) := by
        rw [take_seg, without, List.filter_append, k3]; rfl
      unfold Lib.spansFromP
      rw [if_pos hp]
      by_cases hr : pred cs (Utf8.decode s pos).1 = true
      · rw [hr, if_pos rfl, List.append_nil] at hw
        rw [if_pos hr]
        cases st with
        | none =>
          exact fields_law s cs ha f _ none acc k1 (by omega) (fun a h => by cases h) (by rw [hw, ← h4]; rfl)
        | some a =>
          exact fields_law s cs ha f _ none _ k1 (by omega) (fun a h => by cases h) (by rw [hw, ← h4]; simp [held])
      · rw [if_neg hr] at hw
        rw [if_neg hr]
        cases st with
        | none =>
          exact fields_law s cs ha f _ (some pos) acc k1 (by omega) (fun a h => by cases h; omega) (by rw [hw, ← h4]; simp [held])
        | some a =>
          have hap := h3 a rfl
          exact fields_law s cs ha f _ (some a) acc k1 (by omega) (fun b h => by cases h; omega) (by rw [hw, ← h4]; simp [held, ← seg_app _ a pos _ hap])
    · have hps : pos = s.size := by omega
      subst hps
      rw [show s.data.toList.take s.size = s.data.toList from List.take_of_length_le (Nat.le_refl _)] at h4
      rw [Lib.spansFromP_end _ _ _ _ _ _ hp, ← h4]
      cases st with
      | none => simp [Lib.closeSpans, held]
      | some a => simp [Lib.closeSpans, held]
theorem goFields_without (s : ByteArray) (cs : List UInt8) (ha : cs.all (fun b => decide (b.toNat < 128)) = true) : ((Lib.goFieldsP (pred cs) s).map (·.data.toList)).flatten = without s.data.toList cs := by
  rw [← fields_law s cs ha s.size 0 none [] (Nat.zero_le _) (by omega) (fun a h => by cases h) (by simp [held, without])]
  unfold Lib.goFieldsP Lib.spansOfP
  rw [List.map_map]
  congr 1
  refine List.map_congr_left fun x _ => ?_
  show (s.extract x.1 x.2).data.toList = _
  rw [Lib.extract_data]
  unfold seg
  rfl
theorem join_none (xs : List (List UInt8)) : Lib.join xs [] = xs.flatten := by
  unfold Lib.join
  induction xs with
  | nil => rfl
  | cons a t ih =>
    cases t with
    | nil => simp [List.intercalate]
    | cons b r => simp_all [List.intercalate, List.intersperse]
end Go.Proofs.YtcbpajhlollcbaaDoor.L
