/- What handref2.NormalOf returns. -/
import Derived.Test.YtcbpajhlollcbaaDoorNormal
import Derived.Lib.ValidAsc
namespace Go.Proofs.YtcbpajhlollcbaaDoor
open Go.RowKit
def headR (s : ByteArray) : ByteArray := if 0 ≤ Lib.indexByte s.data.toList 64 then s.extract 0 (Lib.indexByte s.data.toList 64).toNat else s
def tailR (s : ByteArray) : ByteArray := if 0 ≤ Lib.indexByte s.data.toList 64 then s.extract (Lib.indexByte s.data.toList 64).toNat s.size else ⟨#[]⟩
def cutR (s : ByteArray) : ByteArray := if 0 ≤ Lib.indexByte s.data.toList 43 then s.extract 0 (Lib.indexByte s.data.toList 43).toNat else s
def mailR (s : ByteArray) : ByteArray := cutR (headR s) ++ tailR s
theorem cut_none (l : List UInt8) (c : UInt8) : (Lib.cut l [c]).2.2 = decide (0 ≤ Lib.indexByte l c) := by
  unfold Lib.cut
  rw [Lib.index_one]
  split
  · rename_i h; simp [h]
  · rename_i h; simp [h]
theorem cutR_cut (s : ByteArray) : (cutR s).data.toList = (Lib.cut s.data.toList [43]).1 := by
  unfold cutR Lib.cut
  rw [Lib.index_one]
  split
  · rw [Lib.extract_from_zero]
  · rfl
theorem ix_lt (l : List UInt8) (c : UInt8) : Lib.indexByte l c < (l.length : Int) := by
  induction l with
  | nil => simp [Lib.indexByte]
  | cons b t ih =>
    unfold Lib.indexByte
    rw [List.length_cons]
    split
    · omega
    · split <;> omega
theorem ix_at (l : List UInt8) (c : UInt8) (j : Nat) (h : Lib.indexByte l c = (j : Int)) : l[j]? = some c := by
  induction l generalizing j with
  | nil => simp [Lib.indexByte] at h
  | cons b t ih =>
    unfold Lib.indexByte at h
    split at h
    · rename_i hb
      obtain rfl : j = 0 := by omega
      simpa using hb
    · split at h
      · omega
      · cases j with
        | zero => have := Lib.indexByte_ge t c; rename_i h1 h2; simp at h2; omega
        | succ j => rw [List.getElem?_cons_succ]; exact ih j (by omega)
theorem mailR_eq (s : ByteArray) (h : 0 ≤ Lib.indexByte s.data.toList 64) : mailR s = mailN s := by
  obtain ⟨j, hj⟩ := Int.eq_ofNat_of_zero_le h
  have hc : Lib.cut s.data.toList [64] = (s.data.toList.take j, s.data.toList.drop (j + 1), true) := by
    unfold Lib.cut
    rw [Lib.index_one, if_pos h, hj]
    rfl
  have hat := ix_at _ _ _ hj
  have hlt : j < s.data.toList.length := (List.getElem?_eq_some_iff.1 hat).1
  refine WideShapes.bytes_inj ?_
  have hh : (headR s).data.toList = s.data.toList.take j := by rw [headR, if_pos h, Lib.extract_from_zero, hj]; rfl
  have ht : (tailR s).data.toList = 64 :: s.data.toList.drop (j + 1) := by
    rw [tailR, if_pos h, Lib.ext_list, hj]
    show s.data.toList.drop j = _
    rw [List.drop_eq_getElem_cons hlt, (List.getElem?_eq_some_iff.1 hat).2]
  have e1 : (mailR s).data.toList = (cutR (headR s)).data.toList ++ (tailR s).data.toList := by simp [mailR]
  rw [e1, cutR_cut, hh, ht, mailN, hc]
  simp
theorem idFault_mailR (s : ByteArray) : outV 1 (mailR s) = outV 1 (mailN s) := by
  by_cases h : 0 ≤ Lib.indexByte s.data.toList 64
  · rw [mailR_eq s h]
  · have h1 : L.idFault 1 (mailN s) = 3 := by
      have hc : (Lib.cut s.data.toList [64]).2.2 = false := by rw [cut_none]; simpa using h
      have e : mailN s = s := by rw [mailN, hc]; rfl
      rw [e, L.idFault, if_pos rfl, L.mailOk, hc]
      simp
    have h2 : L.idFault 1 (mailR s) = 3 := by
      have hc : (Lib.cut (mailR s).data.toList [64]).2.2 = false := by
        have e1 : (mailR s).data.toList = (Lib.cut s.data.toList [43]).1 := by
          have hh : headR s = s := by rw [headR, if_neg h]
          have ht : tailR s = ⟨#[]⟩ := by rw [tailR, if_neg h]
          rw [mailR, hh, ht]
          simp [cutR_cut]
        rw [cut_none, e1, L.ix_has]
        have hn : s.data.toList.contains 64 = false := by rw [← L.ix_has]; simpa using h
        rw [Bool.eq_false_iff] at hn ⊢
        intro hm
        apply hn
        have hm2 : (64 : UInt8) ∈ (Lib.cut s.data.toList [43]).1 := by simpa using hm
        have : (64 : UInt8) ∈ s.data.toList := by
          unfold Lib.cut at hm2
          split at hm2
          · exact List.mem_of_mem_take hm2
          · exact hm2
        simpa using this
      rw [L.idFault, if_pos rfl, L.mailOk, hc]
      simp
    rw [outV, outV, h1, h2, if_neg (by decide), if_neg (by decide)]
theorem refLow_any (X : Nat) (s : ByteArray) (w : World) (hs : s.size ≤ 1000000) (hc : w.cell? ⟨X, 0, none⟩ = some (.string s)) :
    Calls Tryd.prog 105 #[.string ⟨#[65, 66, 67, 68, 69, 70, 71, 72, 73, 74, 75, 76, 77, 78, 79, 80, 81, 82, 83, 84, 85, 86, 87, 88, 89, 90]⟩, .string ⟨#[97, 98, 99, 100, 101, 102, 103, 104, 105, 106, 107, 108, 109, 110, 111, 112, 113, 114, 115, 116, 117, 118, 119, 120, 121, 122]⟩, .pointer (some ⟨X, 0, none⟩)] w fun e w' => e = .returned (.string (lowS s)) ∧ Below w.heap.size w w' :=
  (normalOf1_any X s _ _ w hs hc L.capitals_ix).mono fun e w' ⟨a, b⟩ => ⟨by rw [a, lowS]; congr 4; exact List.map_congr_left fun c _ => L.mapB_low c, b⟩
theorem refUp_any (X : Nat) (s : ByteArray) (w : World) (hs : s.size ≤ 1000000) (hc : w.cell? ⟨X, 0, none⟩ = some (.string s)) :
    Calls Tryd.prog 105 #[.string ⟨#[97, 98, 99, 100, 101, 102, 103, 104, 105, 106, 107, 108, 109, 110, 111, 112, 113, 114, 115, 116, 117, 118, 119, 120, 121, 122]⟩, .string ⟨#[65, 66, 67, 68, 69, 70, 71, 72, 73, 74, 75, 76, 77, 78, 79, 80, 81, 82, 83, 84, 85, 86, 87, 88, 89, 90]⟩, .pointer (some ⟨X, 0, none⟩)] w fun e w' => e = .returned (.string (upS s)) ∧ Below w.heap.size w w' :=
  (normalOf1_any X s _ _ w hs hc L.smalls_ix).mono fun e w' ⟨a, b⟩ => ⟨by rw [a, upS]; congr 4; exact List.map_congr_left fun c _ => L.mapB_up c, b⟩
set_option maxHeartbeats 4000000 in
set_option maxRecDepth 100000 in
theorem normalOf_good3 (t c : ByteArray) (w : World) (ht2 : t.size ≤ 200) (hz : 1 ≤ c.size ∧ c.size ≤ 3) (hco : countryOk c = true) (HM : Hid (MaxL w)) :
    Calls Tryd.prog 49 #[.int .i64 3, .string t, .string c] w fun e w' => e = .returned (outV 3 (wo (upS (trimB t)) ⟨#[32, 45]⟩)) ∧ Below w.heap.size w w' := by
  obtain ⟨R, HR⟩ : ∃ R, Hid (outV 3 (wo (upS (trimB t)) ⟨#[32, 45]⟩) = R) := ⟨_, Lib.hid rfl⟩
  rw [HR.out]
  have ht : t.size ≤ 1000000 := by omega
  have lvR := LV.new w w.heap.size #[.int .i64 0, .string ⟨#[]⟩] 76 rfl
  have Hb : Hid (Below w.heap.size w (w.alloc (.cells #[.int .i64 0, .string ⟨#[]⟩] 76))) := (Below.refl _ _).alloc (Nat.le_refl _) _
  have e1 : decide ((1 : Int) ≤ 3 ∧ (3 : Int) ≤ 4) = true := by simp
  have e2 : decide ((1 : Int) ≤ c.size ∧ (c.size : Int) ≤ 3) = true := by simp; omega
  have hc0 : 0 < c.size := by omega
  have Hh := Lib.hid (headD_at c hc0)
  have hcc : c.data.toList.all L.isDigit = true ∧ ((c[0].toNat : Int) == 48) = false := by
    rw [countryOk, Hh.out, u8_ne _ 48 48 rfl] at hco
    simp only [Bool.and_eq_true, decide_eq_true_eq] at hco
    exact ⟨hco.1.2, by simpa using hco.2⟩
  have hM1 := hcc.1
  have e3 := hcc.2
  have Hall : Hid (∀ w, Calls Tryd.prog 90 #[.string c, .string ⟨#[48, 49, 50, 51, 52, 53, 54, 55, 56, 57]⟩] w fun e w' => e = .returned (.bool (c.data.toList.all L.isDigit)) ∧ Below w.heap.size w w') := fun w => only_kind _ _ L.digits_has (by decide) (by decide) c w (by omega)
  have htl := trimB_le t
  clear hcc hco Hh
  go_enter Tryd.func49, Tryd.ntmps49
  go_wp2_with fail
  ((with_reducible refine (in_any _ _ _ _).mono ?_); rintro e _ ⟨rfl, rfl⟩)
  rw [e1]
  go_wp2_with fail
  ((with_reducible refine (in_any _ _ _ _).mono ?_); rintro e _ ⟨rfl, rfl⟩)
  rw [e2]
  go_wp2_with fail
  ((with_reducible refine (Hall.out _).mono ?_); rintro e w0 ⟨rfl, hl_w0⟩)
  have hz_w0 := hl_w0.size
  have Hb_w0 : Hid (Below w.heap.size w w0) := Hb.out.trans (hl_w0.mono Hb.out.size)
  have lv_w0 := LV.keepB lvR hl_w0 (lvR).lt
  clear hl_w0 hz_w0 Hb lvR
  rw [hM1]
  go_wp2_with fail
  go_wp2_with fail
  ((with_reducible refine (trim_any t _ ht).mono ?_); rintro e w1 ⟨rfl, hl_w1⟩)
  have hz_w1 := hl_w1.size
  have Hb_w1 : Hid (Below w.heap.size w w1) := Hb_w0.out.trans (hl_w1.mono Hb_w0.out.size)
  have lv_w1 := LV.keepB lv_w0 hl_w1 (lv_w0).lt
  clear hl_w1 hz_w1 Hb_w0 lv_w0
  clear e1 e2 e3 Hall
  generalize trimB t = tt at *
  have HbS : Hid (Below w.heap.size w (w1.alloc (.cells #[.string tt] 9))) := Hb_w1.out.alloc Hb_w1.out.size _
  have lvS := LV.new w1 w1.heap.size #[.string tt] 9 rfl
  have lvR2 := lv_w1.alloc (.cells #[.string tt] 9)
  have cS := lvS.cell 0 _ rfl
  have hSw := Hb_w1.out.size
  have hSR := lv_w1.lt
  clear lv_w1 Hb_w1
  obtain ⟨S, HS⟩ : ∃ S, Hid (w1.heap.size = S) := ⟨_, Lib.hid rfl⟩
  have hls := upS_size tt
  go_wp2_with fail
  ((with_reducible refine (refUp_any w1.heap.size tt _ (by omega) cS).mono ?_); rintro e w2 ⟨rfl, hl_w2⟩)
  have hz_w2 := hl_w2.size
  have Hb_w2 : Hid (Below w.heap.size w w2) := HbS.out.trans (hl_w2.mono HbS.out.size)
  have lv_w2 := LV.keepB lvR2 hl_w2 (lvR2).lt
  have ls_w2 := LV.keepB lvS hl_w2 (lvS).lt
  have ss_w2 := ls_w2.cell 0 _ rfl
  have sf_w2 := ls_w2.free 0
  clear hl_w2 hz_w2 HbS lvR2 lvS
  clear cS
  generalize upS tt = ls at *
  have hwl := wo_le ls ⟨#[32, 45]⟩
  go_wp2_with fail
  ((with_reducible refine (refWithout_any ls ⟨#[32, 45]⟩ _ (by omega) (by decide)).mono ?_); rintro e w3 ⟨rfl, hl_w3⟩)
  have hz_w3 := hl_w3.size
  have Hb_w3 : Hid (Below w.heap.size w w3) := Hb_w2.out.trans (hl_w3.mono Hb_w2.out.size)
  have lv_w3 := LV.keepB lv_w2 hl_w3 (lv_w2).lt
  have ls_w3 := LV.keepB ls_w2 hl_w3 (ls_w2).lt
  have ss_w3 := ls_w3.cell 0 _ rfl
  have sf_w3 := ls_w3.free 0
  clear hl_w3 hz_w3 Hb_w2 lv_w2 ls_w2
  clear ss_w2 sf_w2
  generalize wo ls ⟨#[32, 45]⟩ = ms at *
  rw [HS.out] at ls_w3 hSw hSR ss_w3 sf_w3 ⊢
  have Hb_w9 : Hid (Below w.heap.size w (w3.setCell ⟨S, 0, none⟩ (.string ms))) := Hb_w3.out.setCell (p := ⟨S, 0, none⟩) hSw _
  have lv_w9 := lv_w3.other (Y := S) (by omega) 0 (.string ms)
  have ls_w9 := ls_w3.set 0 (.string ms) #[.string ms] rfl
  have ss_w9 := ls_w9.cell 0 _ rfl
  have sf_w9 := ls_w9.free 0
  clear ls_w3 lv_w3 Hb_w3
  go_wp2_with fail
  have lvX := LV.new (w3.setCell ⟨S, 0, none⟩ (.string ms)) w3.heap.size #[.int .i64 3, .string ms] 76 (by simp)
  have Hba : Hid (Below w.heap.size w ((w3.setCell ⟨S, 0, none⟩ (.string ms)).alloc (.cells #[.int .i64 3, .string ms] 76))) := Hb_w9.out.alloc Hb_w9.out.size _
  have lvRa := lv_w9.alloc (.cells #[.int .i64 3, .string ms] 76)
  have hzz := Hb_w9.out.size
  have hzR := lv_w9.lt
  go_wp2_with fail
  ((with_reducible refine (refId_any 3 ms _ (by omega) (HM.out.below Hba.out)).mono ?_); rintro e w8 ⟨rfl, hl_w8⟩)
  have hz_w8 := hl_w8.size
  have lvX8 := lvX.keepB hl_w8 lvX.lt
  have lvR8 := lvRa.keepB hl_w8 lvRa.lt
  have Hb8 : Hid (Below w.heap.size w w8) := Hba.out.trans (hl_w8.mono Hba.out.size)
  clear hl_w8 lvX lvRa Hba Hb_w9 lv_w9
  obtain ⟨f, hf⟩ : ∃ f, L.idFault 3 ms = f := ⟨_, rfl⟩
  rw [hf]
  have Hf := Lib.hid hf
  clear hf
  have lvX8_c0 := lvX8.cell 0 _ rfl
  have lvX8_c1 := lvX8.cell 1 _ rfl
  have lvX8_f0 := lvX8.free 0
  have lvX8_f1 := lvX8.free 1
  have lvR8_c0 := lvR8.cell 0 _ rfl
  have lvR8_c1 := lvR8.cell 1 _ rfl
  have lvR8_f0 := lvR8.free 0
  have lvR8_f1 := lvR8.free 1
  by_cases hf0 : f = 0
  · subst hf0
    have Hbf : Hid (Below w.heap.size w ((w8.setCell ⟨w.heap.size, 0, none⟩ (.int .i64 3)).setCell ⟨w.heap.size, 1, none⟩ (.string ms))) := (Hb8.out.setCell (p := ⟨w.heap.size, 0, none⟩) (Nat.le_refl _) _).setCell (p := ⟨w.heap.size, 1, none⟩) (Nat.le_refl _) _
    go_wp2_with fail
    exact bodyPost_ret (v := .tuple #[.agg #[.int .i64 3, .string ms], .int .i64 0]) (by simp [results, Tryd.results49, go_sem, lvR8_c0, lvR8_c1, lvX8_c0, lvX8_c1]) rfl ⟨by rw [← HR.out, outV, if_pos Hf.out], Hbf.out⟩
  · have e0 : (f != 0) = true := by simpa using hf0
    have Hbf : Hid (Below w.heap.size w ((w8.setCell ⟨w.heap.size, 0, none⟩ (.int .i64 0)).setCell ⟨w.heap.size, 1, none⟩ (.string ⟨#[]⟩))) := (Hb8.out.setCell (p := ⟨w.heap.size, 0, none⟩) (Nat.le_refl _) _).setCell (p := ⟨w.heap.size, 1, none⟩) (Nat.le_refl _) _
    go_wp2_with fail
    exact bodyPost_ret (v := .tuple #[.agg #[.int .i64 0, .string ⟨#[]⟩], .int .i64 f]) (by simp [results, Tryd.results49, go_sem, lvR8_c0, lvR8_c1, lvX8_c0, lvX8_c1]) rfl ⟨by rw [← HR.out, outV, if_neg (by rw [Hf.out]; exact hf0), Hf.out], Hbf.out⟩
set_option maxHeartbeats 4000000 in
set_option maxRecDepth 100000 in
theorem normalOf_good4 (t c : ByteArray) (w : World) (ht2 : t.size ≤ 200) (hz : 1 ≤ c.size ∧ c.size ≤ 3) (hco : countryOk c = true) (HM : Hid (MaxL w)) :
    Calls Tryd.prog 49 #[.int .i64 4, .string t, .string c] w fun e w' => e = .returned (outV 4 (wo (lowS (trimB t)) ⟨#[45]⟩)) ∧ Below w.heap.size w w' := by
  obtain ⟨R, HR⟩ : ∃ R, Hid (outV 4 (wo (lowS (trimB t)) ⟨#[45]⟩) = R) := ⟨_, Lib.hid rfl⟩
  rw [HR.out]
  have ht : t.size ≤ 1000000 := by omega
  have lvR := LV.new w w.heap.size #[.int .i64 0, .string ⟨#[]⟩] 76 rfl
  have Hb : Hid (Below w.heap.size w (w.alloc (.cells #[.int .i64 0, .string ⟨#[]⟩] 76))) := (Below.refl _ _).alloc (Nat.le_refl _) _
  have e1 : decide ((1 : Int) ≤ 4 ∧ (4 : Int) ≤ 4) = true := by simp
  have e2 : decide ((1 : Int) ≤ c.size ∧ (c.size : Int) ≤ 3) = true := by simp; omega
  have hc0 : 0 < c.size := by omega
  have Hh := Lib.hid (headD_at c hc0)
  have hcc : c.data.toList.all L.isDigit = true ∧ ((c[0].toNat : Int) == 48) = false := by
    rw [countryOk, Hh.out, u8_ne _ 48 48 rfl] at hco
    simp only [Bool.and_eq_true, decide_eq_true_eq] at hco
    exact ⟨hco.1.2, by simpa using hco.2⟩
  have hM1 := hcc.1
  have e3 := hcc.2
  have Hall : Hid (∀ w, Calls Tryd.prog 90 #[.string c, .string ⟨#[48, 49, 50, 51, 52, 53, 54, 55, 56, 57]⟩] w fun e w' => e = .returned (.bool (c.data.toList.all L.isDigit)) ∧ Below w.heap.size w w') := fun w => only_kind _ _ L.digits_has (by decide) (by decide) c w (by omega)
  have htl := trimB_le t
  clear hcc hco Hh
  go_enter Tryd.func49, Tryd.ntmps49
  go_wp2_with fail
  ((with_reducible refine (in_any _ _ _ _).mono ?_); rintro e _ ⟨rfl, rfl⟩)
  rw [e1]
  go_wp2_with fail
  ((with_reducible refine (in_any _ _ _ _).mono ?_); rintro e _ ⟨rfl, rfl⟩)
  rw [e2]
  go_wp2_with fail
  ((with_reducible refine (Hall.out _).mono ?_); rintro e w0 ⟨rfl, hl_w0⟩)
  have hz_w0 := hl_w0.size
  have Hb_w0 : Hid (Below w.heap.size w w0) := Hb.out.trans (hl_w0.mono Hb.out.size)
  have lv_w0 := LV.keepB lvR hl_w0 (lvR).lt
  clear hl_w0 hz_w0 Hb lvR
  rw [hM1]
  go_wp2_with fail
  go_wp2_with fail
  ((with_reducible refine (trim_any t _ ht).mono ?_); rintro e w1 ⟨rfl, hl_w1⟩)
  have hz_w1 := hl_w1.size
  have Hb_w1 : Hid (Below w.heap.size w w1) := Hb_w0.out.trans (hl_w1.mono Hb_w0.out.size)
  have lv_w1 := LV.keepB lv_w0 hl_w1 (lv_w0).lt
  clear hl_w1 hz_w1 Hb_w0 lv_w0
  clear e1 e2 e3 Hall
  generalize trimB t = tt at *
  have HbS : Hid (Below w.heap.size w (w1.alloc (.cells #[.string tt] 9))) := Hb_w1.out.alloc Hb_w1.out.size _
  have lvS := LV.new w1 w1.heap.size #[.string tt] 9 rfl
  have lvR2 := lv_w1.alloc (.cells #[.string tt] 9)
  have cS := lvS.cell 0 _ rfl
  have hSw := Hb_w1.out.size
  have hSR := lv_w1.lt
  clear lv_w1 Hb_w1
  obtain ⟨S, HS⟩ : ∃ S, Hid (w1.heap.size = S) := ⟨_, Lib.hid rfl⟩
  have hls := lowS_size tt
  go_wp2_with fail
  ((with_reducible refine (refLow_any w1.heap.size tt _ (by omega) cS).mono ?_); rintro e w2 ⟨rfl, hl_w2⟩)
  have hz_w2 := hl_w2.size
  have Hb_w2 : Hid (Below w.heap.size w w2) := HbS.out.trans (hl_w2.mono HbS.out.size)
  have lv_w2 := LV.keepB lvR2 hl_w2 (lvR2).lt
  have ls_w2 := LV.keepB lvS hl_w2 (lvS).lt
  have ss_w2 := ls_w2.cell 0 _ rfl
  have sf_w2 := ls_w2.free 0
  clear hl_w2 hz_w2 HbS lvR2 lvS
  clear cS
  generalize lowS tt = ls at *
  have hwl := wo_le ls ⟨#[45]⟩
  go_wp2_with fail
  ((with_reducible refine (refWithout_any ls ⟨#[45]⟩ _ (by omega) (by decide)).mono ?_); rintro e w3 ⟨rfl, hl_w3⟩)
  have hz_w3 := hl_w3.size
  have Hb_w3 : Hid (Below w.heap.size w w3) := Hb_w2.out.trans (hl_w3.mono Hb_w2.out.size)
  have lv_w3 := LV.keepB lv_w2 hl_w3 (lv_w2).lt
  have ls_w3 := LV.keepB ls_w2 hl_w3 (ls_w2).lt
  have ss_w3 := ls_w3.cell 0 _ rfl
  have sf_w3 := ls_w3.free 0
  clear hl_w3 hz_w3 Hb_w2 lv_w2 ls_w2
  clear ss_w2 sf_w2
  generalize wo ls ⟨#[45]⟩ = ms at *
  rw [HS.out] at ls_w3 hSw hSR ss_w3 sf_w3 ⊢
  have Hb_w9 : Hid (Below w.heap.size w (w3.setCell ⟨S, 0, none⟩ (.string ms))) := Hb_w3.out.setCell (p := ⟨S, 0, none⟩) hSw _
  have lv_w9 := lv_w3.other (Y := S) (by omega) 0 (.string ms)
  have ls_w9 := ls_w3.set 0 (.string ms) #[.string ms] rfl
  have ss_w9 := ls_w9.cell 0 _ rfl
  have sf_w9 := ls_w9.free 0
  clear ls_w3 lv_w3 Hb_w3
  go_wp2_with fail
  have lvX := LV.new (w3.setCell ⟨S, 0, none⟩ (.string ms)) w3.heap.size #[.int .i64 4, .string ms] 76 (by simp)
  have Hba : Hid (Below w.heap.size w ((w3.setCell ⟨S, 0, none⟩ (.string ms)).alloc (.cells #[.int .i64 4, .string ms] 76))) := Hb_w9.out.alloc Hb_w9.out.size _
  have lvRa := lv_w9.alloc (.cells #[.int .i64 4, .string ms] 76)
  have hzz := Hb_w9.out.size
  have hzR := lv_w9.lt
  go_wp2_with fail
  ((with_reducible refine (refId_any 4 ms _ (by omega) (HM.out.below Hba.out)).mono ?_); rintro e w8 ⟨rfl, hl_w8⟩)
  have hz_w8 := hl_w8.size
  have lvX8 := lvX.keepB hl_w8 lvX.lt
  have lvR8 := lvRa.keepB hl_w8 lvRa.lt
  have Hb8 : Hid (Below w.heap.size w w8) := Hba.out.trans (hl_w8.mono Hba.out.size)
  clear hl_w8 lvX lvRa Hba Hb_w9 lv_w9
  obtain ⟨f, hf⟩ : ∃ f, L.idFault 4 ms = f := ⟨_, rfl⟩
  rw [hf]
  have Hf := Lib.hid hf
  clear hf
  have lvX8_c0 := lvX8.cell 0 _ rfl
  have lvX8_c1 := lvX8.cell 1 _ rfl
  have lvX8_f0 := lvX8.free 0
  have lvX8_f1 := lvX8.free 1
  have lvR8_c0 := lvR8.cell 0 _ rfl
  have lvR8_c1 := lvR8.cell 1 _ rfl
  have lvR8_f0 := lvR8.free 0
  have lvR8_f1 := lvR8.free 1
  by_cases hf0 : f = 0
  · subst hf0
    have Hbf : Hid (Below w.heap.size w ((w8.setCell ⟨w.heap.size, 0, none⟩ (.int .i64 4)).setCell ⟨w.heap.size, 1, none⟩ (.string ms))) := (Hb8.out.setCell (p := ⟨w.heap.size, 0, none⟩) (Nat.le_refl _) _).setCell (p := ⟨w.heap.size, 1, none⟩) (Nat.le_refl _) _
    go_wp2_with fail
    exact bodyPost_ret (v := .tuple #[.agg #[.int .i64 4, .string ms], .int .i64 0]) (by simp [results, Tryd.results49, go_sem, lvR8_c0, lvR8_c1, lvX8_c0, lvX8_c1]) rfl ⟨by rw [← HR.out, outV, if_pos Hf.out], Hbf.out⟩
  · have e0 : (f != 0) = true := by simpa using hf0
    have Hbf : Hid (Below w.heap.size w ((w8.setCell ⟨w.heap.size, 0, none⟩ (.int .i64 0)).setCell ⟨w.heap.size, 1, none⟩ (.string ⟨#[]⟩))) := (Hb8.out.setCell (p := ⟨w.heap.size, 0, none⟩) (Nat.le_refl _) _).setCell (p := ⟨w.heap.size, 1, none⟩) (Nat.le_refl _) _
    go_wp2_with fail
    exact bodyPost_ret (v := .tuple #[.agg #[.int .i64 0, .string ⟨#[]⟩], .int .i64 f]) (by simp [results, Tryd.results49, go_sem, lvR8_c0, lvR8_c1, lvX8_c0, lvX8_c1]) rfl ⟨by rw [← HR.out, outV, if_neg (by rw [Hf.out]; exact hf0), Hf.out], Hbf.out⟩
set_option maxHeartbeats 4000000 in
set_option maxRecDepth 100000 in
theorem normalOf_good2 (t c : ByteArray) (w : World) (ht2 : t.size ≤ 200) (hz : 1 ≤ c.size ∧ c.size ≤ 3) (hco : countryOk c = true) (HM : Hid (MaxL w)) :
    Calls Tryd.prog 49 #[.int .i64 2, .string t, .string c] w fun e w' => e = .returned (outV 2 (phoneN (wo (trimB t) ⟨#[32, 45, 46, 47, 40, 41]⟩) c)) ∧ Below w.heap.size w w' := by
  obtain ⟨R, HR⟩ : ∃ R, Hid (outV 2 (phoneN (wo (trimB t) ⟨#[32, 45, 46, 47, 40, 41]⟩) c) = R) := ⟨_, Lib.hid rfl⟩
  rw [HR.out]
  have ht : t.size ≤ 1000000 := by omega
  have lvR := LV.new w w.heap.size #[.int .i64 0, .string ⟨#[]⟩] 76 rfl
  have Hb : Hid (Below w.heap.size w (w.alloc (.cells #[.int .i64 0, .string ⟨#[]⟩] 76))) := (Below.refl _ _).alloc (Nat.le_refl _) _
  have e1 : decide ((1 : Int) ≤ 2 ∧ (2 : Int) ≤ 4) = true := by simp
  have e2 : decide ((1 : Int) ≤ c.size ∧ (c.size : Int) ≤ 3) = true := by simp; omega
  have hc0 : 0 < c.size := by omega
  have Hh := Lib.hid (headD_at c hc0)
  have hcc : c.data.toList.all L.isDigit = true ∧ ((c[0].toNat : Int) == 48) = false := by
    rw [countryOk, Hh.out, u8_ne _ 48 48 rfl] at hco
    simp only [Bool.and_eq_true, decide_eq_true_eq] at hco
    exact ⟨hco.1.2, by simpa using hco.2⟩
  have hM1 := hcc.1
  have e3 := hcc.2
  have Hall : Hid (∀ w, Calls Tryd.prog 90 #[.string c, .string ⟨#[48, 49, 50, 51, 52, 53, 54, 55, 56, 57]⟩] w fun e w' => e = .returned (.bool (c.data.toList.all L.isDigit)) ∧ Below w.heap.size w w') := fun w => only_kind _ _ L.digits_has (by decide) (by decide) c w (by omega)
  have htl := trimB_le t
  clear hcc hco Hh
  go_enter Tryd.func49, Tryd.ntmps49
  go_wp2_with fail
  ((with_reducible refine (in_any _ _ _ _).mono ?_); rintro e _ ⟨rfl, rfl⟩)
  rw [e1]
  go_wp2_with fail
  ((with_reducible refine (in_any _ _ _ _).mono ?_); rintro e _ ⟨rfl, rfl⟩)
  rw [e2]
  go_wp2_with fail
  ((with_reducible refine (Hall.out _).mono ?_); rintro e w0 ⟨rfl, hl_w0⟩)
  have hz_w0 := hl_w0.size
  have Hb_w0 : Hid (Below w.heap.size w w0) := Hb.out.trans (hl_w0.mono Hb.out.size)
  have lv_w0 := LV.keepB lvR hl_w0 (lvR).lt
  clear hl_w0 hz_w0 Hb lvR
  rw [hM1]
  go_wp2_with fail
  go_wp2_with fail
  ((with_reducible refine (trim_any t _ ht).mono ?_); rintro e w1 ⟨rfl, hl_w1⟩)
  have hz_w1 := hl_w1.size
  have Hb_w1 : Hid (Below w.heap.size w w1) := Hb_w0.out.trans (hl_w1.mono Hb_w0.out.size)
  have lv_w1 := LV.keepB lv_w0 hl_w1 (lv_w0).lt
  clear hl_w1 hz_w1 Hb_w0 lv_w0
  clear e1 e2 e3 Hall
  generalize trimB t = tt at *
  have HbS : Hid (Below w.heap.size w (w1.alloc (.cells #[.string tt] 9))) := Hb_w1.out.alloc Hb_w1.out.size _
  have lvS := LV.new w1 w1.heap.size #[.string tt] 9 rfl
  have lvR2 := lv_w1.alloc (.cells #[.string tt] 9)
  have cS := lvS.cell 0 _ rfl
  have hSw := Hb_w1.out.size
  have hSR := lv_w1.lt
  clear lv_w1 Hb_w1
  obtain ⟨S, HS⟩ : ∃ S, Hid (w1.heap.size = S) := ⟨_, Lib.hid rfl⟩
  have hwl := wo_le tt ⟨#[32, 45, 46, 47, 40, 41]⟩
  go_wp2_with fail
  ((with_reducible refine (refWithout_any tt ⟨#[32, 45, 46, 47, 40, 41]⟩ _ (by omega) (by decide)).mono ?_); rintro e w2 ⟨rfl, hl_w2⟩)
  have hz_w2 := hl_w2.size
  have Hb_w2 : Hid (Below w.heap.size w w2) := HbS.out.trans (hl_w2.mono HbS.out.size)
  have lv_w2 := LV.keepB lvR2 hl_w2 (lvR2).lt
  have ls_w2 := LV.keepB lvS hl_w2 (lvS).lt
  have ss_w2 := ls_w2.cell 0 _ rfl
  have sf_w2 := ls_w2.free 0
  clear hl_w2 hz_w2 HbS lvR2 lvS
  clear cS
  generalize wo tt ⟨#[32, 45, 46, 47, 40, 41]⟩ = t2 at *
  rw [HS.out] at ls_w2 hSw hSR ss_w2 sf_w2 ⊢
  have Hb_w5 : Hid (Below w.heap.size w (w2.setCell ⟨S, 0, none⟩ (.string t2))) := Hb_w2.out.setCell (p := ⟨S, 0, none⟩) hSw _
  have lv_w5 := lv_w2.other (Y := S) (by omega) 0 (.string t2)
  have ls_w5 := ls_w2.set 0 (.string t2) #[.string t2] rfl
  have ss_w5 := ls_w5.cell 0 _ rfl
  have sf_w5 := ls_w5.free 0
  clear ls_w2 lv_w2 Hb_w2
  have H1 : Hid (∀ w, Calls Tryd.prog 93 #[.string t2, .string ⟨#[48, 48]⟩] w fun e w' => e = .returned (.tuple #[.string ⟨(Lib.trimPrefix t2.data.toList [48, 48]).toArray⟩, .bool (Lib.hasPrefix t2.data.toList [48, 48])]) ∧ w = w') := fun w => cutPrefix_any t2 ⟨#[48, 48]⟩ w
  have H2 : Hid (∀ w, Calls Tryd.prog 93 #[.string t2, .string ⟨#[48]⟩] w fun e w' => e = .returned (.tuple #[.string ⟨(Lib.trimPrefix t2.data.toList [48]).toArray⟩, .bool (Lib.hasPrefix t2.data.toList [48])]) ∧ w = w') := fun w => cutPrefix_any t2 ⟨#[48]⟩ w
  have H3 : Hid (∀ w, Calls Tryd.prog 69 #[.string t2, .string ⟨#[43]⟩] w fun e w' => e = .returned (.bool (Lib.hasPrefix t2.data.toList [43])) ∧ w = w') := fun w => hasPrefix_any t2 ⟨#[43]⟩ w
  go_wp2_with fail
  clear ss_w2 sf_w2
  generalize w2.setCell ⟨S, 0, none⟩ (.string t2) = w5 at *
  by_cases h1 : Lib.hasPrefix t2.data.toList [48, 48] = true
  · have ex : (ByteArray.mk (Lib.trimPrefix t2.data.toList [48, 48]).toArray) = t2.extract 2 t2.size := WideShapes.bytes_inj (by rw [Lib.ext_list]; simp [Lib.trimPrefix, h1])
    rw [ex, h1] at H1
    rw [phoneN, if_pos h1] at HR
    clear h1 ex
    ((with_reducible refine (H1.out _).mono ?_); rintro e _ ⟨rfl, rfl⟩)
    have hml : (ByteArray.mk #[43] ++ t2.extract 2 t2.size).size ≤ 1000 := by
      have e43 : (ByteArray.mk #[43]).size = 1 := rfl
      simp only [ByteArray.size_append, ByteArray.size_extract]
      omega
    have Hb_w9 : Hid (Below w.heap.size w (w5.setCell ⟨S, 0, none⟩ (.string (ByteArray.mk #[43] ++ t2.extract 2 t2.size)))) := Hb_w5.out.setCell (p := ⟨S, 0, none⟩) hSw _
    have lv_w9 := lv_w5.other (Y := S) (by omega) 0 (.string (ByteArray.mk #[43] ++ t2.extract 2 t2.size))
    have ls_w9 := ls_w5.set 0 (.string (ByteArray.mk #[43] ++ t2.extract 2 t2.size)) #[.string (ByteArray.mk #[43] ++ t2.extract 2 t2.size)] rfl
    have ss_w9 := ls_w9.cell 0 _ rfl
    have sf_w9 := ls_w9.free 0
    clear ls_w5 lv_w5 Hb_w5
    go_wp2_with fail
    have lvX := LV.new (w5.setCell ⟨S, 0, none⟩ (.string (ByteArray.mk #[43] ++ t2.extract 2 t2.size))) w5.heap.size #[.int .i64 2, .string (ByteArray.mk #[43] ++ t2.extract 2 t2.size)] 76 (by simp)
    have Hba : Hid (Below w.heap.size w ((w5.setCell ⟨S, 0, none⟩ (.string (ByteArray.mk #[43] ++ t2.extract 2 t2.size))).alloc (.cells #[.int .i64 2, .string (ByteArray.mk #[43] ++ t2.extract 2 t2.size)] 76))) := Hb_w9.out.alloc Hb_w9.out.size _
    have lvRa := lv_w9.alloc (.cells #[.int .i64 2, .string (ByteArray.mk #[43] ++ t2.extract 2 t2.size)] 76)
    have hzz := Hb_w9.out.size
    have hzR := lv_w9.lt
    go_wp2_with fail
    ((with_reducible refine (refId_any 2 (ByteArray.mk #[43] ++ t2.extract 2 t2.size) _ (by omega) (HM.out.below Hba.out)).mono ?_); rintro e w8 ⟨rfl, hl_w8⟩)
    have hz_w8 := hl_w8.size
    have lvX8 := lvX.keepB hl_w8 lvX.lt
    have lvR8 := lvRa.keepB hl_w8 lvRa.lt
    have Hb8 : Hid (Below w.heap.size w w8) := Hba.out.trans (hl_w8.mono Hba.out.size)
    clear hl_w8 lvX lvRa Hba Hb_w9 lv_w9
    obtain ⟨f, hf⟩ : ∃ f, L.idFault 2 (ByteArray.mk #[43] ++ t2.extract 2 t2.size) = f := ⟨_, rfl⟩
    rw [hf]
    have Hf := Lib.hid hf
    clear hf
    have lvX8_c0 := lvX8.cell 0 _ rfl
    have lvX8_c1 := lvX8.cell 1 _ rfl
    have lvX8_f0 := lvX8.free 0
    have lvX8_f1 := lvX8.free 1
    have lvR8_c0 := lvR8.cell 0 _ rfl
    have lvR8_c1 := lvR8.cell 1 _ rfl
    have lvR8_f0 := lvR8.free 0
    have lvR8_f1 := lvR8.free 1
    by_cases hf0 : f = 0
    · subst hf0
      have Hbf : Hid (Below w.heap.size w ((w8.setCell ⟨w.heap.size, 0, none⟩ (.int .i64 2)).setCell ⟨w.heap.size, 1, none⟩ (.string (ByteArray.mk #[43] ++ t2.extract 2 t2.size)))) := (Hb8.out.setCell (p := ⟨w.heap.size, 0, none⟩) (Nat.le_refl _) _).setCell (p := ⟨w.heap.size, 1, none⟩) (Nat.le_refl _) _
      go_wp2_with fail
      exact bodyPost_ret (v := .tuple #[.agg #[.int .i64 2, .string (ByteArray.mk #[43] ++ t2.extract 2 t2.size)], .int .i64 0]) (by simp [results, Tryd.results49, go_sem, lvR8_c0, lvR8_c1, lvX8_c0, lvX8_c1]) rfl ⟨by rw [← HR.out, outV, if_pos Hf.out], Hbf.out⟩
    · have e0 : (f != 0) = true := by simpa using hf0
      have Hbf : Hid (Below w.heap.size w ((w8.setCell ⟨w.heap.size, 0, none⟩ (.int .i64 0)).setCell ⟨w.heap.size, 1, none⟩ (.string ⟨#[]⟩))) := (Hb8.out.setCell (p := ⟨w.heap.size, 0, none⟩) (Nat.le_refl _) _).setCell (p := ⟨w.heap.size, 1, none⟩) (Nat.le_refl _) _
      go_wp2_with fail
      exact bodyPost_ret (v := .tuple #[.agg #[.int .i64 0, .string ⟨#[]⟩], .int .i64 f]) (by simp [results, Tryd.results49, go_sem, lvR8_c0, lvR8_c1, lvX8_c0, lvX8_c1]) rfl ⟨by rw [← HR.out, outV, if_neg (by rw [Hf.out]; exact hf0), Hf.out], Hbf.out⟩
  · have h1' : Lib.hasPrefix t2.data.toList [48, 48] = false := by simpa using h1
    rw [h1'] at H1
    by_cases h2 : Lib.hasPrefix t2.data.toList [48] = true
    · have ex : (ByteArray.mk (Lib.trimPrefix t2.data.toList [48]).toArray) = t2.extract 1 t2.size := WideShapes.bytes_inj (by rw [Lib.ext_list]; simp [Lib.trimPrefix, h2])
      rw [ex, h2] at H2
      rw [phoneN, if_neg h1, if_pos h2] at HR
      clear h1 h1' h2 ex
      ((with_reducible refine (H1.out _).mono ?_); rintro e _ ⟨rfl, rfl⟩)
      go_wp2_with fail
      ((with_reducible refine (H2.out _).mono ?_); rintro e _ ⟨rfl, rfl⟩)
      have hml : (ByteArray.mk #[43] ++ c ++ t2.extract 1 t2.size).size ≤ 1000 := by
        have e43 : (ByteArray.mk #[43]).size = 1 := rfl
        simp only [ByteArray.size_append, ByteArray.size_extract]
        omega
      have Hb_w9 : Hid (Below w.heap.size w (w5.setCell ⟨S, 0, none⟩ (.string (ByteArray.mk #[43] ++ c ++ t2.extract 1 t2.size)))) := Hb_w5.out.setCell (p := ⟨S, 0, none⟩) hSw _
      have lv_w9 := lv_w5.other (Y := S) (by omega) 0 (.string (ByteArray.mk #[43] ++ c ++ t2.extract 1 t2.size))
      have ls_w9 := ls_w5.set 0 (.string (ByteArray.mk #[43] ++ c ++ t2.extract 1 t2.size)) #[.string (ByteArray.mk #[43] ++ c ++ t2.extract 1 t2.size)] rfl
      have ss_w9 := ls_w9.cell 0 _ rfl
      have sf_w9 := ls_w9.free 0
      clear ls_w5 lv_w5 Hb_w5
      go_wp2_with fail
      have lvX := LV.new (w5.setCell ⟨S, 0, none⟩ (.string (ByteArray.mk #[43] ++ c ++ t2.extract 1 t2.size))) w5.heap.size #[.int .i64 2, .string (ByteArray.mk #[43] ++ c ++ t2.extract 1 t2.size)] 76 (by simp)
      have Hba : Hid (Below w.heap.size w ((w5.setCell ⟨S, 0, none⟩ (.string (ByteArray.mk #[43] ++ c ++ t2.extract 1 t2.size))).alloc (.cells #[.int .i64 2, .string (ByteArray.mk #[43] ++ c ++ t2.extract 1 t2.size)] 76))) := Hb_w9.out.alloc Hb_w9.out.size _
      have lvRa := lv_w9.alloc (.cells #[.int .i64 2, .string (ByteArray.mk #[43] ++ c ++ t2.extract 1 t2.size)] 76)
      have hzz := Hb_w9.out.size
      have hzR := lv_w9.lt
      go_wp2_with fail
      ((with_reducible refine (refId_any 2 (ByteArray.mk #[43] ++ c ++ t2.extract 1 t2.size) _ (by omega) (HM.out.below Hba.out)).mono ?_); rintro e w8 ⟨rfl, hl_w8⟩)
      have hz_w8 := hl_w8.size
      have lvX8 := lvX.keepB hl_w8 lvX.lt
      have lvR8 := lvRa.keepB hl_w8 lvRa.lt
      have Hb8 : Hid (Below w.heap.size w w8) := Hba.out.trans (hl_w8.mono Hba.out.size)
      clear hl_w8 lvX lvRa Hba Hb_w9 lv_w9
      obtain ⟨f, hf⟩ : ∃ f, L.idFault 2 (ByteArray.mk #[43] ++ c ++ t2.extract 1 t2.size) = f := ⟨_, rfl⟩
      rw [hf]
      have Hf := Lib.hid hf
      clear hf
      have lvX8_c0 := lvX8.cell 0 _ rfl
      have lvX8_c1 := lvX8.cell 1 _ rfl
      have lvX8_f0 := lvX8.free 0
      have lvX8_f1 := lvX8.free 1
      have lvR8_c0 := lvR8.cell 0 _ rfl
      have lvR8_c1 := lvR8.cell 1 _ rfl
      have lvR8_f0 := lvR8.free 0
      have lvR8_f1 := lvR8.free 1
      by_cases hf0 : f = 0
      · subst hf0
        have Hbf : Hid (Below w.heap.size w ((w8.setCell ⟨w.heap.size, 0, none⟩ (.int .i64 2)).setCell ⟨w.heap.size, 1, none⟩ (.string (ByteArray.mk #[43] ++ c ++ t2.extract 1 t2.size)))) := (Hb8.out.setCell (p := ⟨w.heap.size, 0, none⟩) (Nat.le_refl _) _).setCell (p := ⟨w.heap.size, 1, none⟩) (Nat.le_refl _) _
        go_wp2_with fail
        exact bodyPost_ret (v := .tuple #[.agg #[.int .i64 2, .string (ByteArray.mk #[43] ++ c ++ t2.extract 1 t2.size)], .int .i64 0]) (by simp [results, Tryd.results49, go_sem, lvR8_c0, lvR8_c1, lvX8_c0, lvX8_c1]) rfl ⟨by rw [← HR.out, outV, if_pos Hf.out], Hbf.out⟩
      · have e0 : (f != 0) = true := by simpa using hf0
        have Hbf : Hid (Below w.heap.size w ((w8.setCell ⟨w.heap.size, 0, none⟩ (.int .i64 0)).setCell ⟨w.heap.size, 1, none⟩ (.string ⟨#[]⟩))) := (Hb8.out.setCell (p := ⟨w.heap.size, 0, none⟩) (Nat.le_refl _) _).setCell (p := ⟨w.heap.size, 1, none⟩) (Nat.le_refl _) _
        go_wp2_with fail
        exact bodyPost_ret (v := .tuple #[.agg #[.int .i64 0, .string ⟨#[]⟩], .int .i64 f]) (by simp [results, Tryd.results49, go_sem, lvR8_c0, lvR8_c1, lvX8_c0, lvX8_c1]) rfl ⟨by rw [← HR.out, outV, if_neg (by rw [Hf.out]; exact hf0), Hf.out], Hbf.out⟩
    · have h2' : Lib.hasPrefix t2.data.toList [48] = false := by simpa using h2
      rw [h2'] at H2
      by_cases h3 : Lib.hasPrefix t2.data.toList [43] = true
      · rw [h3] at H3
        rw [phoneN, if_neg h1, if_neg h2, if_pos h3] at HR
        clear h1 h1' h2 h2' h3
        ((with_reducible refine (H1.out _).mono ?_); rintro e _ ⟨rfl, rfl⟩)
        go_wp2_with fail
        ((with_reducible refine (H2.out _).mono ?_); rintro e _ ⟨rfl, rfl⟩)
        go_wp2_with fail
        ((with_reducible refine (H3.out _).mono ?_); rintro e _ ⟨rfl, rfl⟩)
        go_wp2_with fail
        have lvX := LV.new w5 w5.heap.size #[.int .i64 2, .string t2] 76 (by simp)
        have Hba : Hid (Below w.heap.size w (w5.alloc (.cells #[.int .i64 2, .string t2] 76))) := Hb_w5.out.alloc Hb_w5.out.size _
        have lvRa := lv_w5.alloc (.cells #[.int .i64 2, .string t2] 76)
        have hzz := Hb_w5.out.size
        have hzR := lv_w5.lt
        go_wp2_with fail
        ((with_reducible refine (refId_any 2 t2 _ (by omega) (HM.out.below Hba.out)).mono ?_); rintro e w8 ⟨rfl, hl_w8⟩)
        have hz_w8 := hl_w8.size
        have lvX8 := lvX.keepB hl_w8 lvX.lt
        have lvR8 := lvRa.keepB hl_w8 lvRa.lt
        have Hb8 : Hid (Below w.heap.size w w8) := Hba.out.trans (hl_w8.mono Hba.out.size)
        clear hl_w8 lvX lvRa Hba Hb_w5 lv_w5
        obtain ⟨f, hf⟩ : ∃ f, L.idFault 2 t2 = f := ⟨_, rfl⟩
        rw [hf]
        have Hf := Lib.hid hf
        clear hf
        have lvX8_c0 := lvX8.cell 0 _ rfl
        have lvX8_c1 := lvX8.cell 1 _ rfl
        have lvX8_f0 := lvX8.free 0
        have lvX8_f1 := lvX8.free 1
        have lvR8_c0 := lvR8.cell 0 _ rfl
        have lvR8_c1 := lvR8.cell 1 _ rfl
        have lvR8_f0 := lvR8.free 0
        have lvR8_f1 := lvR8.free 1
        by_cases hf0 : f = 0
        · subst hf0
          have Hbf : Hid (Below w.heap.size w ((w8.setCell ⟨w.heap.size, 0, none⟩ (.int .i64 2)).setCell ⟨w.heap.size, 1, none⟩ (.string t2))) := (Hb8.out.setCell (p := ⟨w.heap.size, 0, none⟩) (Nat.le_refl _) _).setCell (p := ⟨w.heap.size, 1, none⟩) (Nat.le_refl _) _
          go_wp2_with fail
          exact bodyPost_ret (v := .tuple #[.agg #[.int .i64 2, .string t2], .int .i64 0]) (by simp [results, Tryd.results49, go_sem, lvR8_c0, lvR8_c1, lvX8_c0, lvX8_c1]) rfl ⟨by rw [← HR.out, outV, if_pos Hf.out], Hbf.out⟩
        · have e0 : (f != 0) = true := by simpa using hf0
          have Hbf : Hid (Below w.heap.size w ((w8.setCell ⟨w.heap.size, 0, none⟩ (.int .i64 0)).setCell ⟨w.heap.size, 1, none⟩ (.string ⟨#[]⟩))) := (Hb8.out.setCell (p := ⟨w.heap.size, 0, none⟩) (Nat.le_refl _) _).setCell (p := ⟨w.heap.size, 1, none⟩) (Nat.le_refl _) _
          go_wp2_with fail
          exact bodyPost_ret (v := .tuple #[.agg #[.int .i64 0, .string ⟨#[]⟩], .int .i64 f]) (by simp [results, Tryd.results49, go_sem, lvR8_c0, lvR8_c1, lvX8_c0, lvX8_c1]) rfl ⟨by rw [← HR.out, outV, if_neg (by rw [Hf.out]; exact hf0), Hf.out], Hbf.out⟩
      · have h3' : Lib.hasPrefix t2.data.toList [43] = false := by simpa using h3
        rw [h3'] at H3
        rw [phoneN, if_neg h1, if_neg h2, if_neg h3] at HR
        clear h1 h1' h2 h2' h3 h3'
        ((with_reducible refine (H1.out _).mono ?_); rintro e _ ⟨rfl, rfl⟩)
        go_wp2_with fail
        ((with_reducible refine (H2.out _).mono ?_); rintro e _ ⟨rfl, rfl⟩)
        go_wp2_with fail
        ((with_reducible refine (H3.out _).mono ?_); rintro e _ ⟨rfl, rfl⟩)
        have hml : (ByteArray.mk #[43] ++ c ++ t2).size ≤ 1000 := by
          have e43 : (ByteArray.mk #[43]).size = 1 := rfl
          simp only [ByteArray.size_append, ByteArray.size_extract]
          omega
        have Hb_w9 : Hid (Below w.heap.size w (w5.setCell ⟨S, 0, none⟩ (.string (ByteArray.mk #[43] ++ c ++ t2)))) := Hb_w5.out.setCell (p := ⟨S, 0, none⟩) hSw _
        have lv_w9 := lv_w5.other (Y := S) (by omega) 0 (.string (ByteArray.mk #[43] ++ c ++ t2))
        have ls_w9 := ls_w5.set 0 (.string (ByteArray.mk #[43] ++ c ++ t2)) #[.string (ByteArray.mk #[43] ++ c ++ t2)] rfl
        have ss_w9 := ls_w9.cell 0 _ rfl
        have sf_w9 := ls_w9.free 0
        clear ls_w5 lv_w5 Hb_w5
        go_wp2_with fail
        have lvX := LV.new (w5.setCell ⟨S, 0, none⟩ (.string (ByteArray.mk #[43] ++ c ++ t2))) w5.heap.size #[.int .i64 2, .string (ByteArray.mk #[43] ++ c ++ t2)] 76 (by simp)
        have Hba : Hid (Below w.heap.size w ((w5.setCell ⟨S, 0, none⟩ (.string (ByteArray.mk #[43] ++ c ++ t2))).alloc (.cells #[.int .i64 2, .string (ByteArray.mk #[43] ++ c ++ t2)] 76))) := Hb_w9.out.alloc Hb_w9.out.size _
        have lvRa := lv_w9.alloc (.cells #[.int .i64 2, .string (ByteArray.mk #[43] ++ c ++ t2)] 76)
        have hzz := Hb_w9.out.size
        have hzR := lv_w9.lt
        go_wp2_with fail
        ((with_reducible refine (refId_any 2 (ByteArray.mk #[43] ++ c ++ t2) _ (by omega) (HM.out.below Hba.out)).mono ?_); rintro e w8 ⟨rfl, hl_w8⟩)
        have hz_w8 := hl_w8.size
        have lvX8 := lvX.keepB hl_w8 lvX.lt
        have lvR8 := lvRa.keepB hl_w8 lvRa.lt
        have Hb8 : Hid (Below w.heap.size w w8) := Hba.out.trans (hl_w8.mono Hba.out.size)
        clear hl_w8 lvX lvRa Hba Hb_w9 lv_w9
        obtain ⟨f, hf⟩ : ∃ f, L.idFault 2 (ByteArray.mk #[43] ++ c ++ t2) = f := ⟨_, rfl⟩
        rw [hf]
        have Hf := Lib.hid hf
        clear hf
        have lvX8_c0 := lvX8.cell 0 _ rfl
        have lvX8_c1 := lvX8.cell 1 _ rfl
        have lvX8_f0 := lvX8.free 0
        have lvX8_f1 := lvX8.free 1
        have lvR8_c0 := lvR8.cell 0 _ rfl
        have lvR8_c1 := lvR8.cell 1 _ rfl
        have lvR8_f0 := lvR8.free 0
        have lvR8_f1 := lvR8.free 1
        by_cases hf0 : f = 0
        · subst hf0
          have Hbf : Hid (Below w.heap.size w ((w8.setCell ⟨w.heap.size, 0, none⟩ (.int .i64 2)).setCell ⟨w.heap.size, 1, none⟩ (.string (ByteArray.mk #[43] ++ c ++ t2)))) := (Hb8.out.setCell (p := ⟨w.heap.size, 0, none⟩) (Nat.le_refl _) _).setCell (p := ⟨w.heap.size, 1, none⟩) (Nat.le_refl _) _
          go_wp2_with fail
          exact bodyPost_ret (v := .tuple #[.agg #[.int .i64 2, .string (ByteArray.mk #[43] ++ c ++ t2)], .int .i64 0]) (by simp [results, Tryd.results49, go_sem, lvR8_c0, lvR8_c1, lvX8_c0, lvX8_c1]) rfl ⟨by rw [← HR.out, outV, if_pos Hf.out], Hbf.out⟩
        · have e0 : (f != 0) = true := by simpa using hf0
          have Hbf : Hid (Below w.heap.size w ((w8.setCell ⟨w.heap.size, 0, none⟩ (.int .i64 0)).setCell ⟨w.heap.size, 1, none⟩ (.string ⟨#[]⟩))) := (Hb8.out.setCell (p := ⟨w.heap.size, 0, none⟩) (Nat.le_refl _) _).setCell (p := ⟨w.heap.size, 1, none⟩) (Nat.le_refl _) _
          go_wp2_with fail
          exact bodyPost_ret (v := .tuple #[.agg #[.int .i64 0, .string ⟨#[]⟩], .int .i64 f]) (by simp [results, Tryd.results49, go_sem, lvR8_c0, lvR8_c1, lvX8_c0, lvX8_c1]) rfl ⟨by rw [← HR.out, outV, if_neg (by rw [Hf.out]; exact hf0), Hf.out], Hbf.out⟩
set_option maxHeartbeats 4000000 in
set_option maxRecDepth 100000 in
theorem normalOf_good1 (t c : ByteArray) (w : World) (ht2 : t.size ≤ 200) (hz : 1 ≤ c.size ∧ c.size ≤ 3) (hco : countryOk c = true) (HM : Hid (MaxL w)) :
    Calls Tryd.prog 49 #[.int .i64 1, .string t, .string c] w fun e w' => e = .returned (outV 1 (mailR (lowS (trimB t)))) ∧ Below w.heap.size w w' := by
  obtain ⟨R, HR⟩ : ∃ R, Hid (outV 1 (mailR (lowS (trimB t))) = R) := ⟨_, Lib.hid rfl⟩
  rw [HR.out]
  have ht : t.size ≤ 1000000 := by omega
  have lvR := LV.new w w.heap.size #[.int .i64 0, .string ⟨#[]⟩] 76 rfl
  have Hb : Hid (Below w.heap.size w (w.alloc (.cells #[.int .i64 0, .string ⟨#[]⟩] 76))) := (Below.refl _ _).alloc (Nat.le_refl _) _
  have e1 : decide ((1 : Int) ≤ 1 ∧ (1 : Int) ≤ 4) = true := by simp
  have e2 : decide ((1 : Int) ≤ c.size ∧ (c.size : Int) ≤ 3) = true := by simp; omega
  have hc0 : 0 < c.size := by omega
  have Hh := Lib.hid (headD_at c hc0)
  have hcc : c.data.toList.all L.isDigit = true ∧ ((c[0].toNat : Int) == 48) = false := by
    rw [countryOk, Hh.out, u8_ne _ 48 48 rfl] at hco
    simp only [Bool.and_eq_true, decide_eq_true_eq] at hco
    exact ⟨hco.1.2, by simpa using hco.2⟩
  have hM1 := hcc.1
  have e3 := hcc.2
  have Hall : Hid (∀ w, Calls Tryd.prog 90 #[.string c, .string ⟨#[48, 49, 50, 51, 52, 53, 54, 55, 56, 57]⟩] w fun e w' => e = .returned (.bool (c.data.toList.all L.isDigit)) ∧ Below w.heap.size w w') := fun w => only_kind _ _ L.digits_has (by decide) (by decide) c w (by omega)
  have htl := trimB_le t
  clear hcc hco Hh
  go_enter Tryd.func49, Tryd.ntmps49
  go_wp2_with fail
  ((with_reducible refine (in_any _ _ _ _).mono ?_); rintro e _ ⟨rfl, rfl⟩)
  rw [e1]
  go_wp2_with fail
  ((with_reducible refine (in_any _ _ _ _).mono ?_); rintro e _ ⟨rfl, rfl⟩)
  rw [e2]
  go_wp2_with fail
  ((with_reducible refine (Hall.out _).mono ?_); rintro e w0 ⟨rfl, hl_w0⟩)
  have hz_w0 := hl_w0.size
  have Hb_w0 : Hid (Below w.heap.size w w0) := Hb.out.trans (hl_w0.mono Hb.out.size)
  have lv_w0 := LV.keepB lvR hl_w0 (lvR).lt
  clear hl_w0 hz_w0 Hb lvR
  rw [hM1]
  go_wp2_with fail
  go_wp2_with fail
  ((with_reducible refine (trim_any t _ ht).mono ?_); rintro e w1 ⟨rfl, hl_w1⟩)
  have hz_w1 := hl_w1.size
  have Hb_w1 : Hid (Below w.heap.size w w1) := Hb_w0.out.trans (hl_w1.mono Hb_w0.out.size)
  have lv_w1 := LV.keepB lv_w0 hl_w1 (lv_w0).lt
  clear hl_w1 hz_w1 Hb_w0 lv_w0
  clear e1 e2 e3 Hall
  generalize trimB t = tt at *
  have HbS : Hid (Below w.heap.size w (w1.alloc (.cells #[.string tt] 9))) := Hb_w1.out.alloc Hb_w1.out.size _
  have lvS := LV.new w1 w1.heap.size #[.string tt] 9 rfl
  have lvR2 := lv_w1.alloc (.cells #[.string tt] 9)
  have cS := lvS.cell 0 _ rfl
  have hSw := Hb_w1.out.size
  have hSR := lv_w1.lt
  clear lv_w1 Hb_w1
  obtain ⟨S, HS⟩ : ∃ S, Hid (w1.heap.size = S) := ⟨_, Lib.hid rfl⟩
  have hls : (lowS tt).size ≤ 1000 := by rw [lowS_size]; omega
  go_wp2_with fail
  ((with_reducible refine (refLow_any w1.heap.size tt _ (by omega) cS).mono ?_); rintro e w2 ⟨rfl, hl_w2⟩)
  have hz_w2 := hl_w2.size
  have Hb_w2 : Hid (Below w.heap.size w w2) := HbS.out.trans (hl_w2.mono HbS.out.size)
  have lv_w2 := LV.keepB lvR2 hl_w2 (lvR2).lt
  have ls_w2 := LV.keepB lvS hl_w2 (lvS).lt
  have ss_w2 := ls_w2.cell 0 _ rfl
  have sf_w2 := ls_w2.free 0
  clear hl_w2 hz_w2 HbS lvR2 lvS
  clear cS
  generalize lowS tt = t2 at *
  rw [HS.out] at ls_w2 hSw hSR ss_w2 sf_w2 ⊢
  have Hb_w5 : Hid (Below w.heap.size w (w2.setCell ⟨S, 0, none⟩ (.string t2))) := Hb_w2.out.setCell (p := ⟨S, 0, none⟩) hSw _
  have lv_w5 := lv_w2.other (Y := S) (by omega) 0 (.string t2)
  have ls_w5 := ls_w2.set 0 (.string t2) #[.string t2] rfl
  have ss_w5 := ls_w5.cell 0 _ rfl
  have sf_w5 := ls_w5.free 0
  clear ls_w2 lv_w2 Hb_w2
  have H1 : Hid (∀ w, Calls Tryd.prog 106 #[.string t2, .int .u8 64] w fun e w' => e = .returned (.int .i64 (Lib.indexByte t2.data.toList 64)) ∧ w = w') := fun w => indexByte_any t2 64 w
  have hix := ix_lt t2.data.toList 64
  rw [show t2.data.toList.length = t2.size from rfl] at hix
  go_wp2_with fail
  clear ss_w2 sf_w2
  generalize w2.setCell ⟨S, 0, none⟩ (.string t2) = w5 at *
  unfold mailR headR tailR at HR
  ((with_reducible refine (H1.out _).mono ?_); rintro e _ ⟨rfl, rfl⟩)
  generalize Lib.indexByte t2.data.toList 64 = ix at *
  by_cases hp : 0 ≤ ix
  · obtain ⟨j, rfl⟩ := Int.eq_ofNat_of_zero_le hp
    have hj : j ≤ t2.size := by omega
    rw [if_pos hp, if_pos hp, Int.toNat_natCast] at HR
    have H2 : Hid (∀ w, Calls Tryd.prog 106 #[.string (t2.extract 0 j), .int .u8 43] w fun e w' => e = .returned (.int .i64 (Lib.indexByte (t2.extract 0 j).data.toList 43)) ∧ w = w') := fun w => indexByte_any (t2.extract 0 j) 43 w
    have hix2 := ix_lt (t2.extract 0 j).data.toList 43
    rw [show (t2.extract 0 j).data.toList.length = (t2.extract 0 j).size from rfl] at hix2
    have hhs : (t2.extract 0 j).size = j := by rw [ByteArray.size_extract]; omega
    have hts : (t2.extract j t2.size).size = t2.size - j := by rw [ByteArray.size_extract]; omega
    rw [hhs] at hix2
    have Hhs := Lib.hid hhs
    have Hts := Lib.hid hts
    clear hp H1 hix hhs hts
    go_wp2_with fail
    go_quiet (fail)
    have Hb_w6 : Hid (Below w.heap.size w (w5.drewN nq)) := Hb_w5.out.trans (below_drewN _ _ _)
    have lv_w6 := LV.keepB lv_w5 (below_drewN _ w5 nq) lv_w5.lt
    have ls_w6 := LV.keepB ls_w5 (below_drewN _ w5 nq) ls_w5.lt
    have ss_w6 := ls_w6.cell 0 _ rfl
    have sf_w6 := ls_w6.free 0
    clear Hb_w5 lv_w5 ls_w5 ss_w5 sf_w5
    generalize w5.drewN nq = w6 at *
    go_wp2_with fail
    ((with_reducible refine (H2.out _).mono ?_); rintro e _ ⟨rfl, rfl⟩)
    unfold cutR at HR
    generalize Lib.indexByte (t2.extract 0 j).data.toList 43 = ix2 at *
    by_cases hp2 : 0 ≤ ix2
    · obtain ⟨j2, rfl⟩ := Int.eq_ofNat_of_zero_le hp2
      have hj2 : j2 ≤ j := by omega
      have hj3 : j2 ≤ (t2.extract 0 j).size := by rw [Hhs.out]; exact hj2
      rw [if_pos hp2, Int.toNat_natCast] at HR
      clear hp2 H2 hix2
      have hml : ((t2.extract 0 j).extract 0 j2 ++ t2.extract j t2.size).size ≤ 3000 := by
        simp only [ByteArray.size_append, ByteArray.size_extract]
        omega
      have Hb_w9 : Hid (Below w.heap.size w (w6.setCell ⟨S, 0, none⟩ (.string ((t2.extract 0 j).extract 0 j2 ++ t2.extract j t2.size)))) := Hb_w6.out.setCell (p := ⟨S, 0, none⟩) hSw _
      have lv_w9 := lv_w6.other (Y := S) (by omega) 0 (.string ((t2.extract 0 j).extract 0 j2 ++ t2.extract j t2.size))
      have ls_w9 := ls_w6.set 0 (.string ((t2.extract 0 j).extract 0 j2 ++ t2.extract j t2.size)) #[.string ((t2.extract 0 j).extract 0 j2 ++ t2.extract j t2.size)] rfl
      have ss_w9 := ls_w9.cell 0 _ rfl
      have sf_w9 := ls_w9.free 0
      clear ls_w6 lv_w6 Hb_w6
      go_wp2_with fail
      have lvX := LV.new (w6.setCell ⟨S, 0, none⟩ (.string ((t2.extract 0 j).extract 0 j2 ++ t2.extract j t2.size))) w6.heap.size #[.int .i64 1, .string ((t2.extract 0 j).extract 0 j2 ++ t2.extract j t2.size)] 76 (by simp)
      have Hba : Hid (Below w.heap.size w ((w6.setCell ⟨S, 0, none⟩ (.string ((t2.extract 0 j).extract 0 j2 ++ t2.extract j t2.size))).alloc (.cells #[.int .i64 1, .string ((t2.extract 0 j).extract 0 j2 ++ t2.extract j t2.size)] 76))) := Hb_w9.out.alloc Hb_w9.out.size _
      have lvRa := lv_w9.alloc (.cells #[.int .i64 1, .string ((t2.extract 0 j).extract 0 j2 ++ t2.extract j t2.size)] 76)
      have hzz := Hb_w9.out.size
      have hzR := lv_w9.lt
      go_wp2_with fail
      ((with_reducible refine (refId_any 1 ((t2.extract 0 j).extract 0 j2 ++ t2.extract j t2.size) _ (by omega) (HM.out.below Hba.out)).mono ?_); rintro e w8 ⟨rfl, hl_w8⟩)
      have hz_w8 := hl_w8.size
      have lvX8 := lvX.keepB hl_w8 lvX.lt
      have lvR8 := lvRa.keepB hl_w8 lvRa.lt
      have Hb8 : Hid (Below w.heap.size w w8) := Hba.out.trans (hl_w8.mono Hba.out.size)
      clear hl_w8 lvX lvRa Hba Hb_w9 lv_w9
      obtain ⟨f, hf⟩ : ∃ f, L.idFault 1 ((t2.extract 0 j).extract 0 j2 ++ t2.extract j t2.size) = f := ⟨_, rfl⟩
      rw [hf]
      have Hf := Lib.hid hf
      clear hf
      have lvX8_c0 := lvX8.cell 0 _ rfl
      have lvX8_c1 := lvX8.cell 1 _ rfl
      have lvX8_f0 := lvX8.free 0
      have lvX8_f1 := lvX8.free 1
      have lvR8_c0 := lvR8.cell 0 _ rfl
      have lvR8_c1 := lvR8.cell 1 _ rfl
      have lvR8_f0 := lvR8.free 0
      have lvR8_f1 := lvR8.free 1
      by_cases hf0 : f = 0
      · subst hf0
        have Hbf : Hid (Below w.heap.size w ((w8.setCell ⟨w.heap.size, 0, none⟩ (.int .i64 1)).setCell ⟨w.heap.size, 1, none⟩ (.string ((t2.extract 0 j).extract 0 j2 ++ t2.extract j t2.size)))) := (Hb8.out.setCell (p := ⟨w.heap.size, 0, none⟩) (Nat.le_refl _) _).setCell (p := ⟨w.heap.size, 1, none⟩) (Nat.le_refl _) _
        go_wp2_with fail
        exact bodyPost_ret (v := .tuple #[.agg #[.int .i64 1, .string ((t2.extract 0 j).extract 0 j2 ++ t2.extract j t2.size)], .int .i64 0]) (by simp [results, Tryd.results49, go_sem, lvR8_c0, lvR8_c1, lvX8_c0, lvX8_c1]) rfl ⟨by rw [← HR.out, outV, if_pos Hf.out], Hbf.out⟩
      · have e0 : (f != 0) = true := by simpa using hf0
        have Hbf : Hid (Below w.heap.size w ((w8.setCell ⟨w.heap.size, 0, none⟩ (.int .i64 0)).setCell ⟨w.heap.size, 1, none⟩ (.string ⟨#[]⟩))) := (Hb8.out.setCell (p := ⟨w.heap.size, 0, none⟩) (Nat.le_refl _) _).setCell (p := ⟨w.heap.size, 1, none⟩) (Nat.le_refl _) _
        go_wp2_with fail
        exact bodyPost_ret (v := .tuple #[.agg #[.int .i64 0, .string ⟨#[]⟩], .int .i64 f]) (by simp [results, Tryd.results49, go_sem, lvR8_c0, lvR8_c1, lvX8_c0, lvX8_c1]) rfl ⟨by rw [← HR.out, outV, if_neg (by rw [Hf.out]; exact hf0), Hf.out], Hbf.out⟩
    · rw [if_neg hp2] at HR
      have hp3 : ix2 < 0 := by omega
      clear H2 hix2
      have hxx : t2.extract 0 j ++ t2.extract j t2.size = t2 := WideShapes.bytes_inj (by rw [ByteArray.data_append, Array.toList_append, Lib.extract_from_zero, Lib.ext_list, List.take_append_drop])
      rw [hxx] at HR
      clear hxx
      have Hb_w9 : Hid (Below w.heap.size w (w6.setCell ⟨S, 0, none⟩ (.string t2))) := Hb_w6.out.setCell (p := ⟨S, 0, none⟩) hSw _
      have lv_w9 := lv_w6.other (Y := S) (by omega) 0 (.string t2)
      have ls_w9 := ls_w6.set 0 (.string t2) #[.string t2] rfl
      have ss_w9 := ls_w9.cell 0 _ rfl
      have sf_w9 := ls_w9.free 0
      clear ls_w6 lv_w6 Hb_w6
      go_wp2_with fail
      have lvX := LV.new (w6.setCell ⟨S, 0, none⟩ (.string t2)) w6.heap.size #[.int .i64 1, .string t2] 76 (by simp)
      have Hba : Hid (Below w.heap.size w ((w6.setCell ⟨S, 0, none⟩ (.string t2)).alloc (.cells #[.int .i64 1, .string t2] 76))) := Hb_w9.out.alloc Hb_w9.out.size _
      have lvRa := lv_w9.alloc (.cells #[.int .i64 1, .string t2] 76)
      have hzz := Hb_w9.out.size
      have hzR := lv_w9.lt
      go_wp2_with fail
      ((with_reducible refine (refId_any 1 t2 _ (by omega) (HM.out.below Hba.out)).mono ?_); rintro e w8 ⟨rfl, hl_w8⟩)
      have hz_w8 := hl_w8.size
      have lvX8 := lvX.keepB hl_w8 lvX.lt
      have lvR8 := lvRa.keepB hl_w8 lvRa.lt
      have Hb8 : Hid (Below w.heap.size w w8) := Hba.out.trans (hl_w8.mono Hba.out.size)
      clear hl_w8 lvX lvRa Hba Hb_w9 lv_w9
      obtain ⟨f, hf⟩ : ∃ f, L.idFault 1 t2 = f := ⟨_, rfl⟩
      rw [hf]
      have Hf := Lib.hid hf
      clear hf
      have lvX8_c0 := lvX8.cell 0 _ rfl
      have lvX8_c1 := lvX8.cell 1 _ rfl
      have lvX8_f0 := lvX8.free 0
      have lvX8_f1 := lvX8.free 1
      have lvR8_c0 := lvR8.cell 0 _ rfl
      have lvR8_c1 := lvR8.cell 1 _ rfl
      have lvR8_f0 := lvR8.free 0
      have lvR8_f1 := lvR8.free 1
      by_cases hf0 : f = 0
      · subst hf0
        have Hbf : Hid (Below w.heap.size w ((w8.setCell ⟨w.heap.size, 0, none⟩ (.int .i64 1)).setCell ⟨w.heap.size, 1, none⟩ (.string t2))) := (Hb8.out.setCell (p := ⟨w.heap.size, 0, none⟩) (Nat.le_refl _) _).setCell (p := ⟨w.heap.size, 1, none⟩) (Nat.le_refl _) _
        go_wp2_with fail
        exact bodyPost_ret (v := .tuple #[.agg #[.int .i64 1, .string t2], .int .i64 0]) (by simp [results, Tryd.results49, go_sem, lvR8_c0, lvR8_c1, lvX8_c0, lvX8_c1]) rfl ⟨by rw [← HR.out, outV, if_pos Hf.out], Hbf.out⟩
      · have e0 : (f != 0) = true := by simpa using hf0
        have Hbf : Hid (Below w.heap.size w ((w8.setCell ⟨w.heap.size, 0, none⟩ (.int .i64 0)).setCell ⟨w.heap.size, 1, none⟩ (.string ⟨#[]⟩))) := (Hb8.out.setCell (p := ⟨w.heap.size, 0, none⟩) (Nat.le_refl _) _).setCell (p := ⟨w.heap.size, 1, none⟩) (Nat.le_refl _) _
        go_wp2_with fail
        exact bodyPost_ret (v := .tuple #[.agg #[.int .i64 0, .string ⟨#[]⟩], .int .i64 f]) (by simp [results, Tryd.results49, go_sem, lvR8_c0, lvR8_c1, lvX8_c0, lvX8_c1]) rfl ⟨by rw [← HR.out, outV, if_neg (by rw [Hf.out]; exact hf0), Hf.out], Hbf.out⟩
  · rw [if_neg hp, if_neg hp] at HR
    have H2 : Hid (∀ w, Calls Tryd.prog 106 #[.string t2, .int .u8 43] w fun e w' => e = .returned (.int .i64 (Lib.indexByte t2.data.toList 43)) ∧ w = w') := fun w => indexByte_any t2 43 w
    have hix2 := ix_lt t2.data.toList 43
    rw [show t2.data.toList.length = t2.size from rfl] at hix2
    have hpn : ix < 0 := by omega
    clear hp H1 hix
    go_wp2_with fail
    ((with_reducible refine (H2.out _).mono ?_); rintro e _ ⟨rfl, rfl⟩)
    unfold cutR at HR
    generalize Lib.indexByte t2.data.toList 43 = ix2 at *
    by_cases hp2 : 0 ≤ ix2
    · obtain ⟨j2, rfl⟩ := Int.eq_ofNat_of_zero_le hp2
      have hj2 : j2 ≤ t2.size := by omega
      rw [if_pos hp2, Int.toNat_natCast] at HR
      clear hp2 H2 hix2
      have hml : (t2.extract 0 j2 ++ ByteArray.mk #[]).size ≤ 3000 := by
        have e0 : (ByteArray.mk #[]).size = 0 := rfl
        simp only [ByteArray.size_append, ByteArray.size_extract, e0]
        omega
      have Hb_w9 : Hid (Below w.heap.size w (w5.setCell ⟨S, 0, none⟩ (.string (t2.extract 0 j2 ++ ByteArray.mk #[])))) := Hb_w5.out.setCell (p := ⟨S, 0, none⟩) hSw _
      have lv_w9 := lv_w5.other (Y := S) (by omega) 0 (.string (t2.extract 0 j2 ++ ByteArray.mk #[]))
      have ls_w9 := ls_w5.set 0 (.string (t2.extract 0 j2 ++ ByteArray.mk #[])) #[.string (t2.extract 0 j2 ++ ByteArray.mk #[])] rfl
      have ss_w9 := ls_w9.cell 0 _ rfl
      have sf_w9 := ls_w9.free 0
      clear ls_w5 lv_w5 Hb_w5
      go_wp2_with fail
      have lvX := LV.new (w5.setCell ⟨S, 0, none⟩ (.string (t2.extract 0 j2 ++ ByteArray.mk #[]))) w5.heap.size #[.int .i64 1, .string (t2.extract 0 j2 ++ ByteArray.mk #[])] 76 (by simp)
      have Hba : Hid (Below w.heap.size w ((w5.setCell ⟨S, 0, none⟩ (.string (t2.extract 0 j2 ++ ByteArray.mk #[]))).alloc (.cells #[.int .i64 1, .string (t2.extract 0 j2 ++ ByteArray.mk #[])] 76))) := Hb_w9.out.alloc Hb_w9.out.size _
      have lvRa := lv_w9.alloc (.cells #[.int .i64 1, .string (t2.extract 0 j2 ++ ByteArray.mk #[])] 76)
      have hzz := Hb_w9.out.size
      have hzR := lv_w9.lt
      go_wp2_with fail
      ((with_reducible refine (refId_any 1 (t2.extract 0 j2 ++ ByteArray.mk #[]) _ (by omega) (HM.out.below Hba.out)).mono ?_); rintro e w8 ⟨rfl, hl_w8⟩)
      have hz_w8 := hl_w8.size
      have lvX8 := lvX.keepB hl_w8 lvX.lt
      have lvR8 := lvRa.keepB hl_w8 lvRa.lt
      have Hb8 : Hid (Below w.heap.size w w8) := Hba.out.trans (hl_w8.mono Hba.out.size)
      clear hl_w8 lvX lvRa Hba Hb_w9 lv_w9
      obtain ⟨f, hf⟩ : ∃ f, L.idFault 1 (t2.extract 0 j2 ++ ByteArray.mk #[]) = f := ⟨_, rfl⟩
      rw [hf]
      have Hf := Lib.hid hf
      clear hf
      have lvX8_c0 := lvX8.cell 0 _ rfl
      have lvX8_c1 := lvX8.cell 1 _ rfl
      have lvX8_f0 := lvX8.free 0
      have lvX8_f1 := lvX8.free 1
      have lvR8_c0 := lvR8.cell 0 _ rfl
      have lvR8_c1 := lvR8.cell 1 _ rfl
      have lvR8_f0 := lvR8.free 0
      have lvR8_f1 := lvR8.free 1
      by_cases hf0 : f = 0
      · subst hf0
        have Hbf : Hid (Below w.heap.size w ((w8.setCell ⟨w.heap.size, 0, none⟩ (.int .i64 1)).setCell ⟨w.heap.size, 1, none⟩ (.string (t2.extract 0 j2 ++ ByteArray.mk #[])))) := (Hb8.out.setCell (p := ⟨w.heap.size, 0, none⟩) (Nat.le_refl _) _).setCell (p := ⟨w.heap.size, 1, none⟩) (Nat.le_refl _) _
        go_wp2_with fail
        exact bodyPost_ret (v := .tuple #[.agg #[.int .i64 1, .string (t2.extract 0 j2 ++ ByteArray.mk #[])], .int .i64 0]) (by simp [results, Tryd.results49, go_sem, lvR8_c0, lvR8_c1, lvX8_c0, lvX8_c1]) rfl ⟨by rw [← HR.out, outV, if_pos Hf.out], Hbf.out⟩
      · have e0 : (f != 0) = true := by simpa using hf0
        have Hbf : Hid (Below w.heap.size w ((w8.setCell ⟨w.heap.size, 0, none⟩ (.int .i64 0)).setCell ⟨w.heap.size, 1, none⟩ (.string ⟨#[]⟩))) := (Hb8.out.setCell (p := ⟨w.heap.size, 0, none⟩) (Nat.le_refl _) _).setCell (p := ⟨w.heap.size, 1, none⟩) (Nat.le_refl _) _
        go_wp2_with fail
        exact bodyPost_ret (v := .tuple #[.agg #[.int .i64 0, .string ⟨#[]⟩], .int .i64 f]) (by simp [results, Tryd.results49, go_sem, lvR8_c0, lvR8_c1, lvX8_c0, lvX8_c1]) rfl ⟨by rw [← HR.out, outV, if_neg (by rw [Hf.out]; exact hf0), Hf.out], Hbf.out⟩
    · rw [if_neg hp2] at HR
      have hp3 : ix2 < 0 := by omega
      clear H2 hix2
      have hml : (t2 ++ ByteArray.mk #[]).size ≤ 3000 := by
        have e0 : (ByteArray.mk #[]).size = 0 := rfl
        simp only [ByteArray.size_append, ByteArray.size_extract, e0]
        omega
      have Hb_w9 : Hid (Below w.heap.size w (w5.setCell ⟨S, 0, none⟩ (.string (t2 ++ ByteArray.mk #[])))) := Hb_w5.out.setCell (p := ⟨S, 0, none⟩) hSw _
      have lv_w9 := lv_w5.other (Y := S) (by omega) 0 (.string (t2 ++ ByteArray.mk #[]))
      have ls_w9 := ls_w5.set 0 (.string (t2 ++ ByteArray.mk #[])) #[.string (t2 ++ ByteArray.mk #[])] rfl
      have ss_w9 := ls_w9.cell 0 _ rfl
      have sf_w9 := ls_w9.free 0
      clear ls_w5 lv_w5 Hb_w5
      go_wp2_with fail
      have lvX := LV.new (w5.setCell ⟨S, 0, none⟩ (.string (t2 ++ ByteArray.mk #[]))) w5.heap.size #[.int .i64 1, .string (t2 ++ ByteArray.mk #[])] 76 (by simp)
      have Hba : Hid (Below w.heap.size w ((w5.setCell ⟨S, 0, none⟩ (.string (t2 ++ ByteArray.mk #[]))).alloc (.cells #[.int .i64 1, .string (t2 ++ ByteArray.mk #[])] 76))) := Hb_w9.out.alloc Hb_w9.out.size _
      have lvRa := lv_w9.alloc (.cells #[.int .i64 1, .string (t2 ++ ByteArray.mk #[])] 76)
      have hzz := Hb_w9.out.size
      have hzR := lv_w9.lt
      go_wp2_with fail
      ((with_reducible refine (refId_any 1 (t2 ++ ByteArray.mk #[]) _ (by omega) (HM.out.below Hba.out)).mono ?_); rintro e w8 ⟨rfl, hl_w8⟩)
      have hz_w8 := hl_w8.size
      have lvX8 := lvX.keepB hl_w8 lvX.lt
      have lvR8 := lvRa.keepB hl_w8 lvRa.lt
      have Hb8 : Hid (Below w.heap.size w w8) := Hba.out.trans (hl_w8.mono Hba.out.size)
      clear hl_w8 lvX lvRa Hba Hb_w9 lv_w9
      obtain ⟨f, hf⟩ : ∃ f, L.idFault 1 (t2 ++ ByteArray.mk #[]) = f := ⟨_, rfl⟩
      rw [hf]
      have Hf := Lib.hid hf
      clear hf
      have lvX8_c0 := lvX8.cell 0 _ rfl
      have lvX8_c1 := lvX8.cell 1 _ rfl
      have lvX8_f0 := lvX8.free 0
      have lvX8_f1 := lvX8.free 1
      have lvR8_c0 := lvR8.cell 0 _ rfl
      have lvR8_c1 := lvR8.cell 1 _ rfl
      have lvR8_f0 := lvR8.free 0
      have lvR8_f1 := lvR8.free 1
      by_cases hf0 : f = 0
      · subst hf0
        have Hbf : Hid (Below w.heap.size w ((w8.setCell ⟨w.heap.size, 0, none⟩ (.int .i64 1)).setCell ⟨w.heap.size, 1, none⟩ (.string (t2 ++ ByteArray.mk #[])))) := (Hb8.out.setCell (p := ⟨w.heap.size, 0, none⟩) (Nat.le_refl _) _).setCell (p := ⟨w.heap.size, 1, none⟩) (Nat.le_refl _) _
        go_wp2_with fail
        exact bodyPost_ret (v := .tuple #[.agg #[.int .i64 1, .string (t2 ++ ByteArray.mk #[])], .int .i64 0]) (by simp [results, Tryd.results49, go_sem, lvR8_c0, lvR8_c1, lvX8_c0, lvX8_c1]) rfl ⟨by rw [← HR.out, outV, if_pos Hf.out], Hbf.out⟩
      · have e0 : (f != 0) = true := by simpa using hf0
        have Hbf : Hid (Below w.heap.size w ((w8.setCell ⟨w.heap.size, 0, none⟩ (.int .i64 0)).setCell ⟨w.heap.size, 1, none⟩ (.string ⟨#[]⟩))) := (Hb8.out.setCell (p := ⟨w.heap.size, 0, none⟩) (Nat.le_refl _) _).setCell (p := ⟨w.heap.size, 1, none⟩) (Nat.le_refl _) _
        go_wp2_with fail
        exact bodyPost_ret (v := .tuple #[.agg #[.int .i64 0, .string ⟨#[]⟩], .int .i64 f]) (by simp [results, Tryd.results49, go_sem, lvR8_c0, lvR8_c1, lvX8_c0, lvX8_c1]) rfl ⟨by rw [← HR.out, outV, if_neg (by rw [Hf.out]; exact hf0), Hf.out], Hbf.out⟩
set_option maxHeartbeats 4000000 in
set_option maxRecDepth 100000 in
theorem normalOf_any (k : Int) (t c : ByteArray) (w : World) (ht : t.size ≤ 1000000) (hc : c.size ≤ 1000) (hM : MaxL w) :
    Calls Tryd.prog 49 #[.int .i64 k, .string t, .string c] w fun e w' => e = .returned (normV k t c) ∧ Below w.heap.size w w' := by
  have HM := Lib.hid hM
  clear hM
  by_cases hg : (1 ≤ k ∧ k ≤ 4) ∧ ¬ 200 < t.size ∧ countryOk c = true
  · obtain ⟨hk, h200, hco⟩ := hg
    have hz : 1 ≤ c.size ∧ c.size ≤ 3 := by
      have h := hco
      unfold countryOk at h
      simp only [Bool.and_eq_true, decide_eq_true_eq] at h
      exact h.1.1
    rw [show normV k t c = outV k (normText k (trimB t) c) by unfold normV; rw [if_neg (show ¬ ¬ (1 ≤ k ∧ k ≤ 4) from fun h => h hk), if_neg h200, hco, if_neg (by simp)]]
    have hkk : k = 1 ∨ k = 2 ∨ k = 3 ∨ k = 4 := by omega
    rcases hkk with rfl | rfl | rfl | rfl
    · rw [normText, if_pos rfl, ← idFault_mailR]; exact normalOf_good1 t c w (by omega) hz hco HM
    · rw [normText, if_neg (by decide), if_pos rfl]; exact normalOf_good2 t c w (by omega) hz hco HM
    · rw [normText, if_neg (by decide), if_neg (by decide), if_pos rfl]; exact normalOf_good3 t c w (by omega) hz hco HM
    · rw [normText, if_neg (by decide), if_neg (by decide), if_neg (by decide)]; exact normalOf_good4 t c w (by omega) hz hco HM
  · obtain ⟨R, HR⟩ : ∃ R, Hid (normV k t c = R) := ⟨_, Lib.hid rfl⟩
    rw [HR.out]
    have lvR := LV.new w w.heap.size #[.int .i64 0, .string ⟨#[]⟩] 76 rfl
    have Hb : Hid (Below w.heap.size w (w.alloc (.cells #[.int .i64 0, .string ⟨#[]⟩] 76))) := (Below.refl _ _).alloc (Nat.le_refl _) _
    by_cases hk : 1 ≤ k ∧ k ≤ 4
    · have e1 : decide ((1 : Int) ≤ k ∧ k ≤ 4) = true := by simp; omega
      by_cases h200 : 200 < t.size
      · clear hg
        go_enter Tryd.func49, Tryd.ntmps49
        go_wp2_with fail
        ((with_reducible refine (in_any _ _ _ _).mono ?_); rintro e _ ⟨rfl, rfl⟩)
        rw [e1]
        have lvR_c0 := lvR.cell 0 _ rfl
        have lvR_c1 := lvR.cell 1 _ rfl
        have lvR_f0 := lvR.free 0
        have lvR_f1 := lvR.free 1
        go_wp2_with fail
        exact bodyPost_ret (v := .tuple #[.agg #[.int .i64 0, .string ⟨#[]⟩], .int .i64 1]) (by simp [results, Tryd.results49, go_sem]) rfl ⟨by rw [← HR.out]; (unfold normV; rw [if_neg (show ¬ ¬ (1 ≤ k ∧ k ≤ 4) from fun h => h hk), if_pos h200]; rfl), Hb.out⟩
      · have hco : countryOk c = false := by
          cases h : countryOk c
          · rfl
          · exact absurd ⟨hk, h200, h⟩ hg
        have HN : Hid (badV 3 = R) := by show _ = _; rw [← HR.out]; unfold normV; rw [if_neg (show ¬ ¬ (1 ≤ k ∧ k ≤ 4) from fun h => h hk), if_neg h200, hco, if_pos rfl]
        clear HR hg
        have HR := HN
        clear HN
        have Hall : Hid (∀ w, Calls Tryd.prog 90 #[.string c, .string ⟨#[48, 49, 50, 51, 52, 53, 54, 55, 56, 57]⟩] w fun e w' => e = .returned (.bool (c.data.toList.all L.isDigit)) ∧ Below w.heap.size w w') := fun w => only_kind _ _ L.digits_has (by decide) (by decide) c w (by omega)
        by_cases hz : 1 ≤ c.size ∧ c.size ≤ 3
        · have e2 : decide ((1 : Int) ≤ c.size ∧ (c.size : Int) ≤ 3) = true := by simp; omega
          have hc0 : 0 < c.size := by omega
          have Hh := Lib.hid (headD_at c hc0)
          have hcc : (c.data.toList.all L.isDigit && ((c[0].toNat : Int) != 48)) = false := by
            rw [countryOk, Hh.out, u8_ne _ 48 48 rfl] at hco
            rw [← hco]
            simp [hz]
          clear Hh hco
          generalize c.data.toList.all L.isDigit = M at *
          cases M
          · clear hcc
            go_enter Tryd.func49, Tryd.ntmps49
            go_wp2_with fail
            ((with_reducible refine (in_any _ _ _ _).mono ?_); rintro e _ ⟨rfl, rfl⟩)
            rw [e1]
            go_wp2_with fail
            ((with_reducible refine (in_any _ _ _ _).mono ?_); rintro e _ ⟨rfl, rfl⟩)
            rw [e2]
            go_wp2_with fail
            ((with_reducible refine (Hall.out _).mono ?_); rintro e w0 ⟨rfl, hl_w0⟩)
            have hz_w0 := hl_w0.size
            have Hb_w0 : Hid (Below w.heap.size w w0) := Hb.out.trans (hl_w0.mono Hb.out.size)
            have lv_w0 := LV.keepB lvR hl_w0 (lvR).lt
            clear hl_w0 hz_w0 Hb lvR
            have lvR := lv_w0
            clear lv_w0
            have Hbz : Hid (Below w.heap.size w ((w0.setCell ⟨w.heap.size, 0, none⟩ (.int .i64 0)).setCell ⟨w.heap.size, 1, none⟩ (.string ⟨#[]⟩))) := (Hb_w0.out.setCell (p := ⟨w.heap.size, 0, none⟩) (Nat.le_refl _) _).setCell (p := ⟨w.heap.size, 1, none⟩) (Nat.le_refl _) _
            have lvR_c0 := lvR.cell 0 _ rfl
            have lvR_c1 := lvR.cell 1 _ rfl
            have lvR_f0 := lvR.free 0
            have lvR_f1 := lvR.free 1
            go_wp2_with fail
            exact bodyPost_ret (v := .tuple #[.agg #[.int .i64 0, .string ⟨#[]⟩], .int .i64 3]) (by simp [results, Tryd.results49, go_sem, lvR_c0, lvR_c1]) rfl ⟨by rw [← HR.out]; rfl, Hbz.out⟩
          · have e3 : ((c[0].toNat : Int) == 48) = true := by simpa using hcc
            clear hcc
            go_enter Tryd.func49, Tryd.ntmps49
            go_wp2_with fail
            ((with_reducible refine (in_any _ _ _ _).mono ?_); rintro e _ ⟨rfl, rfl⟩)
            rw [e1]
            go_wp2_with fail
            ((with_reducible refine (in_any _ _ _ _).mono ?_); rintro e _ ⟨rfl, rfl⟩)
            rw [e2]
            go_wp2_with fail
            ((with_reducible refine (Hall.out _).mono ?_); rintro e w0 ⟨rfl, hl_w0⟩)
            have hz_w0 := hl_w0.size
            have Hb_w0 : Hid (Below w.heap.size w w0) := Hb.out.trans (hl_w0.mono Hb.out.size)
            have lv_w0 := LV.keepB lvR hl_w0 (lvR).lt
            clear hl_w0 hz_w0 Hb lvR
            have lvR := lv_w0
            clear lv_w0
            have Hbz : Hid (Below w.heap.size w ((w0.setCell ⟨w.heap.size, 0, none⟩ (.int .i64 0)).setCell ⟨w.heap.size, 1, none⟩ (.string ⟨#[]⟩))) := (Hb_w0.out.setCell (p := ⟨w.heap.size, 0, none⟩) (Nat.le_refl _) _).setCell (p := ⟨w.heap.size, 1, none⟩) (Nat.le_refl _) _
            have lvR_c0 := lvR.cell 0 _ rfl
            have lvR_c1 := lvR.cell 1 _ rfl
            have lvR_f0 := lvR.free 0
            have lvR_f1 := lvR.free 1
            go_wp2_with fail
            exact bodyPost_ret (v := .tuple #[.agg #[.int .i64 0, .string ⟨#[]⟩], .int .i64 3]) (by simp [results, Tryd.results49, go_sem, lvR_c0, lvR_c1]) rfl ⟨by rw [← HR.out]; rfl, Hbz.out⟩
        · have e2 : decide ((1 : Int) ≤ c.size ∧ (c.size : Int) ≤ 3) = false := by simp; omega
          go_enter Tryd.func49, Tryd.ntmps49
          go_wp2_with fail
          ((with_reducible refine (in_any _ _ _ _).mono ?_); rintro e _ ⟨rfl, rfl⟩)
          rw [e1]
          go_wp2_with fail
          ((with_reducible refine (in_any _ _ _ _).mono ?_); rintro e _ ⟨rfl, rfl⟩)
          rw [e2]
          have lvR_c0 := lvR.cell 0 _ rfl
          have lvR_c1 := lvR.cell 1 _ rfl
          have lvR_f0 := lvR.free 0
          have lvR_f1 := lvR.free 1
          go_wp2_with fail
          exact bodyPost_ret (v := .tuple #[.agg #[.int .i64 0, .string ⟨#[]⟩], .int .i64 3]) (by simp [results, Tryd.results49, go_sem]) rfl ⟨by rw [← HR.out]; rfl, Hb.out⟩
    · have e1 : decide ((1 : Int) ≤ k ∧ k ≤ 4) = false := by simp; omega
      go_enter Tryd.func49, Tryd.ntmps49
      go_wp2_with fail
      ((with_reducible refine (in_any _ _ _ _).mono ?_); rintro e _ ⟨rfl, rfl⟩)
      rw [e1]
      have lvR_c0 := lvR.cell 0 _ rfl
      have lvR_c1 := lvR.cell 1 _ rfl
      have lvR_f0 := lvR.free 0
      have lvR_f1 := lvR.free 1
      go_wp2_with fail
      exact bodyPost_ret (v := .tuple #[.agg #[.int .i64 0, .string ⟨#[]⟩], .int .i64 4]) (by simp [results, Tryd.results49, go_sem]) rfl ⟨by rw [← HR.out]; (unfold normV; rw [if_pos hk]; rfl), Hb.out⟩
end Go.Proofs.YtcbpajhlollcbaaDoor
