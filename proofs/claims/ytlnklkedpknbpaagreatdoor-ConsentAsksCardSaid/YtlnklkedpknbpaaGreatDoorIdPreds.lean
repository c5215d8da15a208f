/- What isLabel, isPhone, isMember, isDevice of package person return. -/
import Derived.Test.YtlnklkedpknbpaaGreatDoorPreds
import Derived.Test.YtlnklkedpknbpaaGreatDoorIdLaw
import Derived.Test.YtlnklkedpknbpaaGreatDoorShelf
import Derived.Lib.SplitLaws
namespace Go.Proofs.YtlnklkedpknbpaaGreatDoor
open Go.RowKit
theorem u8_ne (x c : UInt8) (n : Int) (h : (c.toNat : Int) = n) : (x != c) = ((x.toNat : Int) != n) := by
  subst h
  rw [Bool.eq_iff_iff, bne_iff_ne, bne_iff_ne, ne_eq, ne_eq, ← UInt8.toNat_inj]
  omega
theorem isLabel1_pb : PB 204 L.labelByte := by
  intro c w
  obtain ⟨R, HR⟩ : ∃ R, Hid (L.labelByte c = R) := ⟨_, Lib.hid rfl⟩
  rw [HR.out]
  go_enter Tryz.func204, Tryz.ntmps204
  go_wp2_with (first | (go_at_call 123; refine (small_pb c _).mono ?_; rintro e _ ⟨rfl, rfl⟩) | (go_at_call 126; refine (digit_pb c _).mono ?_; rintro e _ ⟨rfl, rfl⟩))
  all_goals (go_ret; refine ⟨ret_b ?_, rfl⟩; rw [← HR.out]; unfold L.labelByte; rw [Bool.eq_iff_iff]; simp_all; try omega)
theorem isMail1_pb : PB 170 L.mailByte := by
  intro c w
  obtain ⟨R, HR⟩ : ∃ R, Hid (L.mailByte c = R) := ⟨_, Lib.hid rfl⟩
  rw [HR.out]
  go_enter Tryz.func170, Tryz.ntmps170
  go_wp2_with (first | (go_at_call 123; refine (small_pb c _).mono ?_; rintro e _ ⟨rfl, rfl⟩) | (go_at_call 126; refine (digit_pb c _).mono ?_; rintro e _ ⟨rfl, rfl⟩))
  all_goals (go_ret; refine ⟨ret_b ?_, rfl⟩; rw [← HR.out]; unfold L.mailByte; rw [Bool.eq_iff_iff]; simp_all; try omega)
theorem isMember1_pb : PB 172 L.memberByte := by
  intro c w
  obtain ⟨R, HR⟩ : ∃ R, Hid (L.memberByte c = R) := ⟨_, Lib.hid rfl⟩
  rw [HR.out]
  go_enter Tryz.func172, Tryz.ntmps172
  go_wp2_with (first | (go_at_call 173; refine (capital_pb c _).mono ?_; rintro e _ ⟨rfl, rfl⟩) | (go_at_call 126; refine (digit_pb c _).mono ?_; rintro e _ ⟨rfl, rfl⟩))
  all_goals (go_ret; refine ⟨ret_b ?_, rfl⟩; rw [← HR.out]; unfold L.memberByte; rw [Bool.eq_iff_iff]; simp_all; try omega)
theorem isDevice1_pb : PB 174 L.deviceByte := by
  intro c w
  obtain ⟨R, HR⟩ : ∃ R, Hid (L.deviceByte c = R) := ⟨_, Lib.hid rfl⟩
  rw [HR.out]
  go_enter Tryz.func174, Tryz.ntmps174
  go_wp2_with (first | (go_at_call 126; refine (digit_pb c _).mono ?_; rintro e _ ⟨rfl, rfl⟩))
  all_goals (go_ret; refine ⟨ret_b ?_, rfl⟩; rw [← HR.out]; unfold L.deviceByte; rw [Bool.eq_iff_iff]; simp_all; try omega)
theorem lastD_at (s : ByteArray) (h : 0 < s.size) : s.data.toList.getLastD 0 = s[s.size - 1] := by
  obtain ⟨⟨l⟩⟩ := s
  cases l with
  | nil => simp [ByteArray.size] at h
  | cons a t =>
    show List.getLastD (a :: t) 0 = (a :: t)[(a :: t).length - 1]
    rw [List.getLastD_eq_getLast?, List.getLast?_eq_getElem?, List.getElem?_eq_getElem (by simp)]
    rfl
theorem isMember_any (s : ByteArray) (w : World) (hs : s.size ≤ 1000000000) :
    Calls Tryz.prog 130 #[.string s] w fun e w' => e = .returned (.bool (L.memberOk s)) ∧ w = w' := by
  obtain ⟨R, HR⟩ : ∃ R, Hid (L.memberOk s = R) := ⟨_, Lib.hid rfl⟩
  rw [HR.out]
  obtain ⟨M, HM⟩ : ∃ M, Hid (s.data.toList.all L.memberByte = M) := ⟨_, Lib.hid rfl⟩
  have Ha : Hid (∀ w, Calls Tryz.prog 124 #[.string s, .func (.func 172) #[] #[]] w fun e w' => e = .returned (.bool M) ∧ w = w') := fun w => HM.out ▸ all_any _ _ isMember1_pb s w hs (fun _ _ => by kernel_rfl)
  go_enter Tryz.func130, Tryz.ntmps130
  go_wp2_with (first | (go_at_call 122; refine (within_any _ _ _ _).mono ?_; rintro e _ ⟨rfl, rfl⟩) | (go_at_call 124; refine (Ha.out _).mono ?_; rintro e _ ⟨rfl, rfl⟩))
  all_goals (go_ret; refine ⟨ret_b ?_, rfl⟩; rw [← HR.out]; unfold L.memberOk; rw [HM.out]; clear HR Ha HM; simp_all; try omega)
theorem isDevice_any (s : ByteArray) (w : World) (hs : s.size ≤ 1000000000) :
    Calls Tryz.prog 131 #[.string s] w fun e w' => e = .returned (.bool (L.deviceOk s)) ∧ w = w' := by
  obtain ⟨R, HR⟩ : ∃ R, Hid (L.deviceOk s = R) := ⟨_, Lib.hid rfl⟩
  rw [HR.out]
  obtain ⟨M, HM⟩ : ∃ M, Hid (s.data.toList.all L.deviceByte = M) := ⟨_, Lib.hid rfl⟩
  have Ha : Hid (∀ w, Calls Tryz.prog 124 #[.string s, .func (.func 174) #[] #[]] w fun e w' => e = .returned (.bool M) ∧ w = w') := fun w => HM.out ▸ all_any _ _ isDevice1_pb s w hs (fun _ _ => by kernel_rfl)
  go_enter Tryz.func131, Tryz.ntmps131
  go_wp2_with (first | (go_at_call 124; refine (Ha.out _).mono ?_; rintro e _ ⟨rfl, rfl⟩))
  all_goals (go_ret; refine ⟨ret_b ?_, rfl⟩; rw [← HR.out]; unfold L.deviceOk; rw [HM.out]; clear HR Ha HM; simp_all; try omega)
theorem isLabel_any (s : ByteArray) (w : World) (hs : s.size ≤ 1000000000) :
    Calls Tryz.prog 171 #[.string s] w fun e w' => e = .returned (.bool (L.labelOk s)) ∧ w = w' := by
  obtain ⟨R, HR⟩ : ∃ R, Hid (L.labelOk s = R) := ⟨_, Lib.hid rfl⟩
  rw [HR.out]
  obtain ⟨M, HM⟩ : ∃ M, Hid (s.data.toList.all L.labelByte = M) := ⟨_, Lib.hid rfl⟩
  have Ha : Hid (∀ w, Calls Tryz.prog 124 #[.string s, .func (.func 204) #[] #[]] w fun e w' => e = .returned (.bool M) ∧ w = w') := fun w => HM.out ▸ all_any _ _ isLabel1_pb s w hs (fun _ _ => by kernel_rfl)
  by_cases hz : 1 ≤ s.size ∧ s.size ≤ 30
  · have e1 : decide ((1 : Int) ≤ s.size ∧ (s.size : Int) ≤ 30) = true := by simp; omega
    have Hh := Lib.hid (headD_at s (by omega))
    have Hl := Lib.hid (lastD_at s (by omega))
    have hz1 : s.size - 1 < s.size := by omega
    have hz0 : 0 < s.size := by omega
    have ez : (s.size : Int) - 1 = ((s.size - 1 : Nat) : Int) := by omega
    go_enter Tryz.func171, Tryz.ntmps171
    go_wp2_with (first | (go_at_call 122; refine (within_any _ _ _ _).mono ?_; rintro e _ ⟨rfl, rfl⟩; rw [e1]) | (go_at_call 124; refine (Ha.out _).mono ?_; rintro e _ ⟨rfl, rfl⟩))
    all_goals (go_ret; refine ⟨ret_b ?_, rfl⟩; rw [← HR.out]; unfold L.labelOk L.ends; rw [HM.out, Hh.out, Hl.out, u8_ne _ 45 45 rfl, u8_ne _ 45 45 rfl]; clear HR Ha HM Hh Hl; simp_all)
  · have e1 : decide ((1 : Int) ≤ s.size ∧ (s.size : Int) ≤ 30) = false := by simp; omega
    have E2 : Hid ((decide (1 ≤ s.size) && decide (s.size ≤ 30)) = false) := by show _ = _; simp; omega
    go_enter Tryz.func171, Tryz.ntmps171
    go_wp2_with (first | (go_at_call 122; refine (within_any _ _ _ _).mono ?_; rintro e _ ⟨rfl, rfl⟩; rw [e1]))
    go_ret
    exact ⟨ret_b (by rw [← HR.out, L.labelOk, E2.out]; rfl), rfl⟩
theorem hasPrefix_any (s p : ByteArray) (w : World) : Calls Tryz.prog 161 #[.string s, .string p] w fun e w' => e = .returned (.bool (Lib.hasPrefix s.data.toList p.data.toList)) ∧ w = w' := (Tryz.strings_HasPrefix s p w).mono fun _ _ ⟨h1, h2⟩ => ⟨h1, h2.symm⟩
theorem ext1 (s : ByteArray) : (s.extract 1 s.size).data.toList = s.data.toList.drop 1 := by
  rw [Lib.extract_data, List.take_of_length_le (by rw [List.length_drop, ← Lib.size_eq]; omega)]
theorem drop1_at (s : ByteArray) (h : 1 < s.size) : (s.data.toList.drop 1).headD 0 = s[1] := by
  obtain ⟨⟨l⟩⟩ := s
  match l, h with
  | a :: b :: t, _ => rfl
  | [a], h => simp [ByteArray.size] at h
  | [], h => simp [ByteArray.size] at h
theorem isPhone_any (s : ByteArray) (w : World) (hs : s.size ≤ 1000000000) :
    Calls Tryz.prog 129 #[.string s] w fun e w' => e = .returned (.bool (L.phoneOk s)) ∧ w = w' := by
  obtain ⟨R, HR⟩ : ∃ R, Hid (L.phoneOk s = R) := ⟨_, Lib.hid rfl⟩
  rw [HR.out]
  obtain ⟨M, HM⟩ : ∃ M, Hid ((s.data.toList.drop 1).all L.isDigit = M) := ⟨_, Lib.hid rfl⟩
  obtain ⟨P, HP⟩ : ∃ P, Hid (Lib.hasPrefix s.data.toList [43] = P) := ⟨_, Lib.hid rfl⟩
  have Hp : Hid (∀ w, Calls Tryz.prog 161 #[.string s, .string ⟨#[43]⟩] w fun e w' => e = .returned (.bool P) ∧ w = w') := fun w => HP.out ▸ hasPrefix_any s ⟨#[43]⟩ w
  have Ha : Hid (∀ w, Calls Tryz.prog 124 #[.string (s.extract 1 s.size), .func (.func 126) #[] #[]] w fun e w' => e = .returned (.bool M) ∧ w = w') := fun w => HM.out ▸ ext1 s ▸ all_any _ _ digit_pb (s.extract 1 s.size) w (by rw [ByteArray.size_extract]; omega) (fun _ _ => by kernel_rfl)
  by_cases hz : 8 ≤ s.size ∧ s.size ≤ 16
  · have e1 : decide ((8 : Int) ≤ s.size ∧ (s.size : Int) ≤ 16) = true := by simp; omega
    have E2 : Hid ((decide (8 ≤ s.size) && decide (s.size ≤ 16)) = true) := by show _ = _; simp; omega
    have Hh := Lib.hid (drop1_at s (by omega))
    have hz1 : 1 < s.size := by omega
    have hz0 : 1 ≤ s.size := by omega
    go_enter Tryz.func129, Tryz.ntmps129
    go_wp2_with (first | (go_at_call 161; refine (Hp.out _).mono ?_; rintro e _ ⟨rfl, rfl⟩) | (go_at_call 122; refine (within_any _ _ _ _).mono ?_; rintro e _ ⟨rfl, rfl⟩; rw [e1]) | (go_at_call 124; refine (Ha.out _).mono ?_; rintro e _ ⟨rfl, rfl⟩))
    all_goals (go_ret; refine ⟨ret_b ?_, rfl⟩; rw [← HR.out]; unfold L.phoneOk; rw [Bool.and_assoc (Lib.hasPrefix _ _), E2.out, HM.out, HP.out, Hh.out, u8_ne _ 48 48 rfl]; clear HR Ha HM Hh Hp HP; simp_all)
  · have e1 : decide ((8 : Int) ≤ s.size ∧ (s.size : Int) ≤ 16) = false := by simp; omega
    have E2 : Hid ((decide (8 ≤ s.size) && decide (s.size ≤ 16)) = false) := by show _ = _; simp; omega
    go_enter Tryz.func129, Tryz.ntmps129
    go_wp2_with (first | (go_at_call 161; refine (Hp.out _).mono ?_; rintro e _ ⟨rfl, rfl⟩) | (go_at_call 122; refine (within_any _ _ _ _).mono ?_; rintro e _ ⟨rfl, rfl⟩; rw [e1]))
    all_goals (go_ret; exact ⟨ret_b (by rw [← HR.out, L.phoneOk, Bool.and_assoc (Lib.hasPrefix _ _), E2.out]; simp), rfl⟩)
/-- the library's number MaxLen is there -/
def MaxL (w : World) : Prop := ∃ m : Int, w.cell? ⟨1, 0, none⟩ = some (.int .i64 m)
theorem MaxL.below {w w' : World} (h : MaxL w) (k : Below w.heap.size w w') : MaxL w' := by
  obtain ⟨m, hm⟩ := h
  exact ⟨m, by rw [k.cell (p := ⟨1, 0, none⟩) (World.block_lt_of_cell? w _ hm)]; exact hm⟩
theorem cut_any (s : ByteArray) (w : World) (hs : s.size ≤ 1000000000) (hM : MaxL w) (sep : ByteArray) :
    Calls Tryz.prog 87 #[.string s, .string sep] w fun e w' => e = .returned (.tuple #[.string ⟨(Lib.cut s.data.toList sep.data.toList).1.toArray⟩, .string ⟨(Lib.cut s.data.toList sep.data.toList).2.1.toArray⟩, .bool (Lib.cut s.data.toList sep.data.toList).2.2]) ∧ Below w.heap.size w w' := by
  obtain ⟨m, hm⟩ := hM
  exact (Tryz.strings_Cut s sep m w (by omega) hm).mono fun e w' ⟨h1, n, h2⟩ => ⟨h1, by subst h2; exact ⟨rfl, rfl, rfl, Nat.le_refl _, fun _ _ => rfl⟩⟩
theorem contains_any (s sub : ByteArray) (w : World) (hs : s.size ≤ 1000000000) (hM : MaxL w) :
    Calls Tryz.prog 91 #[.string s, .string sub] w fun e w' => e = .returned (.bool (Lib.contains s.data.toList sub.data.toList)) ∧ w = w' := by
  obtain ⟨m, hm⟩ := hM
  exact (Tryz.strings_Contains s sub m w (by omega) hm).mono fun e w' ⟨h1, h2⟩ => ⟨h1, h2.symm⟩
theorem cut_le (l sep : List UInt8) : (Lib.cut l sep).1.length ≤ l.length ∧ (Lib.cut l sep).2.1.length ≤ l.length := by
  unfold Lib.cut
  split
  · simp only [List.length_take, List.length_drop]; omega
  · simp
theorem split_le (sep : ByteArray) : ∀ (k : Nat) (s : ByteArray) (x : ByteArray), x ∈ Lib.splitB sep 0 k s → x.size ≤ s.size
  | 0, s, x, h => by
    rw [Lib.splitB_zero, List.mem_singleton] at h
    rw [h]; exact Nat.le_refl _
  | k + 1, s, x, h => by
    unfold Lib.splitB at h
    split at h
    · rw [List.mem_singleton] at h; rw [h]; exact Nat.le_refl _
    · rcases List.mem_cons.1 h with rfl | h
      · rw [ByteArray.size_extract]; omega
      · have := split_le sep k _ x h
        rw [ByteArray.size_extract] at this; omega
/-- Split by a dot: the labels lie in a block of their own. -/
def GivesLabels (d : ByteArray) (w : World) (e : Ending) (w' : World) : Prop := ∃ blk c, e = .returned (.slice (some ⟨blk, 0, none⟩) (L.labels d).length c) ∧ blk < w'.heap.size ∧ (∀ i x, (L.labels d)[i]? = some x → w'.cell? ⟨blk, i, none⟩ = some (.string x)) ∧ Below w.heap.size w w'
theorem split_any (d : ByteArray) (w : World) (hd : d.size ≤ 1000000000) (hM : MaxL w) :
    Calls Tryz.prog 88 #[.string d, .string ⟨#[46]⟩] w (GivesLabels d w) := by
  obtain ⟨m, hm⟩ := hM
  refine (Tryz.strings_Split d ⟨#[46]⟩ m w (by omega) hm (by decide)).mono ?_
  rintro e w' ⟨rfl, rfl⟩
  have hl : (L.labels d).length = Lib.countB d ⟨#[46]⟩ + 1 := Lib.splitB_all ⟨#[46]⟩ (by decide) 0 _ d rfl
  refine ⟨w.heap.size, _, by rw [hl], by simp, fun i x hx => ?_, (Below.refl _ _).alloc (Nat.le_refl _) _⟩
  rw [World.cell?_alloc_at _ _ _ _ rfl]
  have hx' : (Lib.splitB ⟨#[46]⟩ 0 (Lib.countB d ⟨#[46]⟩) d)[i]? = some x := hx
  simp [hx']
end Go.Proofs.YtlnklkedpknbpaaGreatDoor
