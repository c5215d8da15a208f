/- What person.hidden and person.Quote return. -/
import Derived.Test.YtmlpkejeglpciaaDoorBuilder
import Derived.Test.YtmlpkejeglpciaaDoorQuoteLaw
import Derived.Test.YtmlpkejeglpciaaDoorStream
namespace Go.Proofs.YtmlpkejeglpciaaDoor
open Go.RowKit

theorem hidden_yes (n : Int) (w : World) (h : (n < 33 ∧ n ≠ 10) ∨ 127 ≤ n) :
    Calls Tryd.prog 50 #[.int .u8 n] w fun e w' => e = .returned (.bool true) ∧ w = w' := by
  rcases h with ⟨h1, h2⟩ | h1
  · have h3 : (n != 10) = true := by simpa using h2
    clear h2
    go_enter Tryd.func50, Tryd.ntmps50
    go_wp2
    go_ret
    exact ⟨rfl, rfl⟩
  · go_enter Tryd.func50, Tryd.ntmps50
    go_wp2
    go_ret
    exact ⟨rfl, rfl⟩
theorem hidden_no (n : Int) (w : World) (h : ¬ ((n < 33 ∧ n ≠ 10) ∨ 127 ≤ n)) :
    Calls Tryd.prog 50 #[.int .u8 n] w fun e w' => e = .returned (.bool false) ∧ w = w' := by
  by_cases hn : n = 10
  · subst hn
    clear h
    go_enter Tryd.func50, Tryd.ntmps50
    go_wp2
    go_ret
    exact ⟨rfl, rfl⟩
  · have h1 : ¬ n < 33 := by omega
    have h2 : ¬ 127 ≤ n := by omega
    clear h hn
    go_enter Tryd.func50, Tryd.ntmps50
    go_wp2
    go_ret
    exact ⟨rfl, rfl⟩

/-- k bytes have been written. -/
def QRel (B b : Nat) (l : List UInt8) (w : World) (k : Nat) (wr : World) : Prop :=
  Lib.IsBuilder 70 5 B b (Lib.byteCells (34 :: (l.take k).flatMap Q.qb)) wr ∧ Below B w wr

theorem QRel.mk {B b : Nat} {l : List UInt8} {w wr wn : World} {k : Nat} (hk : k < l.length) (h : QRel B b l w k wr) (hl : Below B wr wn) (t : List UInt8) (ht : t = Q.qb l[k])
    (hb : Lib.BuilderAt 70 5 B b (.pointer (some ⟨b, 0, none⟩)) (Lib.byteCells (34 :: (l.take k).flatMap Q.qb) ++ Lib.byteCells t) wn) : QRel B b l w (k + 1) wn := by
  refine ⟨.inr ?_, h.2.trans hl⟩
  rw [Q.take_flat l k hk, ← ht]
  simpa [Lib.byteCells] using hb
theorem byteCells_len (l : List UInt8) : (Lib.byteCells l).length = l.length := by simp [Lib.byteCells]
theorem qrel_len (l : List UInt8) (k : Nat) (h : k ≤ l.length) : (Lib.byteCells (34 :: (l.take k).flatMap Q.qb)).length ≤ 4 * l.length + 1 := by
  have h1 := Q.flat_len (l.take k)
  have h2 : (l.take k).length ≤ l.length := by simp; omega
  rw [byteCells_len, List.length_cons]; omega

theorem hex_at (n : Nat) (h : n < (ByteArray.mk #[48, 49, 50, 51, 52, 53, 54, 55, 56, 57, 97, 98, 99, 100, 101, 102]).size) : (ByteArray.mk #[48, 49, 50, 51, 52, 53, 54, 55, 56, 57, 97, 98, 99, 100, 101, 102])[n]'h = Q.hexd n := by
  have h' : n < 16 := h
  obtain rfl | rfl | rfl | rfl | rfl | rfl | rfl | rfl | rfl | rfl | rfl | rfl | rfl | rfl | rfl | rfl : n = 0 ∨ n = 1 ∨ n = 2 ∨ n = 3 ∨ n = 4 ∨ n = 5 ∨ n = 6 ∨ n = 7 ∨ n = 8 ∨ n = 9 ∨ n = 10 ∨ n = 11 ∨ n = 12 ∨ n = 13 ∨ n = 14 ∨ n = 15 := by omega
  all_goals rfl

set_option maxHeartbeats 1000000 in
set_option maxRecDepth 100000 in
theorem quote_any (s : ByteArray) (w : World) (hs : s.size ≤ 1000000000) :
    Calls Tryd.prog 29 #[.string s] w fun e w' => e = .returned (.string ⟨(Q.quote s.data.toList).toArray⟩) ∧ Below w.heap.size w w' := by
  have Hb0 := Lib.hid (isB0 w)
  have Hl0 : Hid (Below w.heap.size w (w.alloc (.cells #[.pointer none, .slice none 0 0] 70))) := (Below.refl _ _).alloc (Nat.le_refl _) _
  have hsl : s.data.toList.length = s.size := rfl
  have Hsl := Lib.hid hsl
  clear hsl
  go_enter Tryd.func29, Tryd.ntmps29
  go_wp2_with fail
  refine (bld_byte w.heap.size w.heap.size [] _ _ Hb0.out (by simp) (by simp)).mono ?_
  rintro e w1 ⟨rfl, hb1, hl1⟩
  clear Hb0
  have Hr1 : QRel w.heap.size w.heap.size s.data.toList w 0 w1 := ⟨.inr (by simpa [Lib.byteCells] using hb1), Hl0.out.trans hl1⟩
  clear hb1 hl1 Hl0
  go_wp2_with fail
  go_loopw [9] (fun i wr => ∃ k : Nat, k ≤ s.size ∧ i = .int .i64 k ∧ QRel w.heap.size w.heap.size s.data.toList w k wr) (fun i _ => s.size - (intOf i).toNat)
  case atStart => exact ⟨0, Nat.zero_le _, rfl, Hr1⟩
  case round =>
    obtain ⟨k, hk, rfl, hr⟩ := hrel
    clear Hr1
    have hsz : w.heap.size ≤ wr.heap.size := hr.2.size
    have hlen := qrel_len s.data.toList k (by rw [Hsl.out]; exact hk)
    rw [Hsl.out] at hlen
    have Hb := Lib.hid hr.1
    by_cases hlt : k < s.size
    · have c1 : (s[k].toNat : Int) < 256 := by have := s[k].toNat_lt; omega
      have Hq : Hid (∀ t : List UInt8, t = Q.qb s[k] → ∀ wn, Below w.heap.size wr wn → Lib.BuilderAt 70 5 w.heap.size w.heap.size (.pointer (some ⟨w.heap.size, 0, none⟩)) (Lib.byteCells (34 :: (s.data.toList.take k).flatMap Q.qb) ++ Lib.byteCells t) wn → QRel w.heap.size w.heap.size s.data.toList w (k + 1) wn) :=
        fun t ht wn hl hb => QRel.mk (by rw [Hsl.out]; exact hlt) hr hl t (by rw [ht]; rfl) hb
      clear hr
      by_cases hA : s[k].toNat = 34 ∨ s[k].toNat = 92
      · have HA := Lib.hid hA
        have Hqb : Hid ([92, s[k]] = Q.qb s[k]) := by show _ = _; rw [Q.qb, if_pos hA]
        rcases hA with hA | hA
        · have e1 : ((s[k].toNat : Int) == 34) = true := by simp [hA]
          clear hA
          go_wp2_with fail
          refine (bld_byte w.heap.size w.heap.size _ _ _ Hb.out (by (repeat (first | rw [List.length_append] | rw [List.length_cons] | rw [List.length_nil] | rw [Lib.strCells_length])); first | omega | (simp only [ByteArray.size, List.size_toArray, List.length_cons, List.length_nil]; omega)) (by omega)).mono ?_
          rintro e w2 ⟨rfl, hb_w2, hl_w2⟩
          have hz_w2 := hl_w2.size
          go_wp2_with fail
          refine (bld_byte w.heap.size w.heap.size _ _ _ (isB hb_w2) (by (repeat (first | rw [List.length_append] | rw [List.length_cons] | rw [List.length_nil] | rw [Lib.strCells_length])); first | omega | (simp only [ByteArray.size, List.size_toArray, List.length_cons, List.length_nil]; omega)) (by omega)).mono ?_
          rintro e w3 ⟨rfl, hb_w3, hl_w3⟩
          have hz_w3 := hl_w3.size
          go_wp2_with fail
          go_roundw
          case rel => exact ⟨k + 1, by omega, by go_num, Hq.out _ Hqb.out _ (hl_w2.trans hl_w3) (by simpa [Lib.byteCells] using hb_w3)⟩
          case measure => simp [intOf]; omega
        · have e1 : ((s[k].toNat : Int) == 34) = false := by simp [hA]
          have e2 : ((s[k].toNat : Int) == 92) = true := by simp [hA]
          clear hA
          go_wp2_with fail
          refine (bld_byte w.heap.size w.heap.size _ _ _ Hb.out (by (repeat (first | rw [List.length_append] | rw [List.length_cons] | rw [List.length_nil] | rw [Lib.strCells_length])); first | omega | (simp only [ByteArray.size, List.size_toArray, List.length_cons, List.length_nil]; omega)) (by omega)).mono ?_
          rintro e w2 ⟨rfl, hb_w2, hl_w2⟩
          have hz_w2 := hl_w2.size
          go_wp2_with fail
          refine (bld_byte w.heap.size w.heap.size _ _ _ (isB hb_w2) (by (repeat (first | rw [List.length_append] | rw [List.length_cons] | rw [List.length_nil] | rw [Lib.strCells_length])); first | omega | (simp only [ByteArray.size, List.size_toArray, List.length_cons, List.length_nil]; omega)) (by omega)).mono ?_
          rintro e w3 ⟨rfl, hb_w3, hl_w3⟩
          have hz_w3 := hl_w3.size
          go_wp2_with fail
          go_roundw
          case rel => exact ⟨k + 1, by omega, by go_num, Hq.out _ Hqb.out _ (hl_w2.trans hl_w3) (by simpa [Lib.byteCells] using hb_w3)⟩
          case measure => simp [intOf]; omega
      · have e1 : ((s[k].toNat : Int) == 34) = false := by simp; omega
        have e2 : ((s[k].toNat : Int) == 92) = false := by simp; omega
        by_cases hB : s[k].toNat = 10
        · have e3 : ((s[k].toNat : Int) == 10) = true := by simp [hB]
          have Hqb : Hid ([92, 110] = Q.qb s[k]) := by show _ = _; rw [Q.qb, if_neg hA, if_pos hB]
          clear hA hB
          go_wp2_with fail
          refine (bld_str w.heap.size w.heap.size _ _ _ Hb.out (by (repeat (first | rw [List.length_append] | rw [List.length_cons] | rw [List.length_nil] | rw [Lib.strCells_length])); first | omega | (simp only [ByteArray.size, List.size_toArray, List.length_cons, List.length_nil]; omega)) (by omega)).mono ?_
          rintro e w2 ⟨rfl, hb_w2, hl_w2⟩
          have hz_w2 := hl_w2.size
          go_wp2_with fail
          go_roundw
          case rel => exact ⟨k + 1, by omega, by go_num, Hq.out _ Hqb.out _ hl_w2 (by simpa [Lib.byteCells, Lib.strCells] using hb_w2)⟩
          case measure => simp [intOf]; omega
        · have e3 : ((s[k].toNat : Int) == 10) = false := by simp; omega
          by_cases hC : s[k].toNat < 33 ∨ 126 < s[k].toNat
          · have Hqb : Hid ([92, 120, Q.hexd (s[k].toNat / 16), Q.hexd (s[k].toNat % 16)] = Q.qb s[k]) := by show _ = _; rw [Q.qb, if_neg hA, if_neg hB, if_pos hC]
            have hh : (((s[k].toNat : Int) < 33 ∧ (s[k].toNat : Int) ≠ 10) ∨ 127 ≤ (s[k].toNat : Int)) := by omega
            have Hh := Lib.hid hh
            clear hA hB hC hh
            go_wp2_with fail
            refine (hidden_yes _ _ Hh.out).mono ?_
            rintro e wx ⟨rfl, rfl⟩
            go_wp2_with fail
            refine (bld_str w.heap.size w.heap.size _ _ _ Hb.out (by (repeat (first | rw [List.length_append] | rw [List.length_cons] | rw [List.length_nil] | rw [Lib.strCells_length])); first | omega | (simp only [ByteArray.size, List.size_toArray, List.length_cons, List.length_nil]; omega)) (by omega)).mono ?_
            rintro e w2 ⟨rfl, hb_w2, hl_w2⟩
            have hz_w2 := hl_w2.size
            go_wp2_with fail
            rw [hex_at]
            go_wp2_with fail
            refine (bld_byte w.heap.size w.heap.size _ _ _ (isB hb_w2) (by (repeat (first | rw [List.length_append] | rw [List.length_cons] | rw [List.length_nil] | rw [Lib.strCells_length])); first | omega | (simp only [ByteArray.size, List.size_toArray, List.length_cons, List.length_nil]; omega)) (by omega)).mono ?_
            rintro e w3 ⟨rfl, hb_w3, hl_w3⟩
            have hz_w3 := hl_w3.size
            go_wp2_with fail
            rw [hex_at]
            go_wp2_with fail
            refine (bld_byte w.heap.size w.heap.size _ _ _ (isB hb_w3) (by (repeat (first | rw [List.length_append] | rw [List.length_cons] | rw [List.length_nil] | rw [Lib.strCells_length])); first | omega | (simp only [ByteArray.size, List.size_toArray, List.length_cons, List.length_nil]; omega)) (by omega)).mono ?_
            rintro e w4 ⟨rfl, hb_w4, hl_w4⟩
            have hz_w4 := hl_w4.size
            go_wp2_with fail
            go_roundw
            case rel => exact ⟨k + 1, by omega, by go_num, Hq.out _ Hqb.out _ ((hl_w2.trans hl_w3).trans hl_w4) (by simpa [Lib.byteCells, Lib.strCells] using hb_w4)⟩
            case measure => simp [intOf]; omega
          · have Hqb : Hid ([s[k]] = Q.qb s[k]) := by show _ = _; rw [Q.qb, if_neg hA, if_neg hB, if_neg hC]
            have hh : ¬ (((s[k].toNat : Int) < 33 ∧ (s[k].toNat : Int) ≠ 10) ∨ 127 ≤ (s[k].toNat : Int)) := by omega
            have Hh := Lib.hid hh
            clear hA hB hC hh
            go_wp2_with fail
            refine (hidden_no _ _ Hh.out).mono ?_
            rintro e wx ⟨rfl, rfl⟩
            go_wp2_with fail
            refine (bld_byte w.heap.size w.heap.size _ _ _ Hb.out (by (repeat (first | rw [List.length_append] | rw [List.length_cons] | rw [List.length_nil] | rw [Lib.strCells_length])); first | omega | (simp only [ByteArray.size, List.size_toArray, List.length_cons, List.length_nil]; omega)) (by omega)).mono ?_
            rintro e w2 ⟨rfl, hb_w2, hl_w2⟩
            have hz_w2 := hl_w2.size
            go_wp2_with fail
            go_roundw
            case rel => exact ⟨k + 1, by omega, by go_num, Hq.out _ Hqb.out _ hl_w2 (by simpa [Lib.byteCells] using hb_w2)⟩
            case measure => simp [intOf]; omega
    · have hke : s.data.toList.take k = s.data.toList := List.take_of_length_le (by rw [Hsl.out]; omega)
      have hr2 := hr.2
      rw [hke] at Hb hlen
      clear hke hr
      go_wp2_with fail
      refine (bld_byte w.heap.size w.heap.size _ _ _ Hb.out (by (repeat (first | rw [List.length_append] | rw [List.length_cons] | rw [List.length_nil] | rw [Lib.strCells_length])); first | omega | (simp only [ByteArray.size, List.size_toArray, List.length_cons, List.length_nil]; omega)) (by omega)).mono ?_
      rintro e w2 ⟨rfl, hb_w2, hl_w2⟩
      have hz_w2 := hl_w2.size
      go_wp2_with fail
      refine (Tryd.Builder_String w.heap.size w.heap.size (Q.quote s.data.toList) _ (isB (by simpa [Lib.byteCells, Q.quote] using hb_w2)) (by simp [Q.quote])).mono ?_
      rintro e w3 ⟨rfl, hl3⟩
      go_wp2
      go_ret
      exact ⟨rfl, (hr2.trans hl_w2).trans hl3⟩
end Go.Proofs.YtmlpkejeglpciaaDoor
