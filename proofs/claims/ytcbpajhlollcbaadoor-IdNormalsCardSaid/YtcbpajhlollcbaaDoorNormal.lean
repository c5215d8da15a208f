/- What person.Normal returns. -/
import Derived.Test.YtcbpajhlollcbaaDoorNorm2
namespace Go.Proofs.YtcbpajhlollcbaaDoor
open Go.RowKit
theorem LV.keepB {w w' : World} {X B : Nat} {cs : Array Value} {T : TypeId} (h : LV w X cs T) (k : Below B w w') (hb : X < B) : LV w' X cs T := (k.block X hb).trans h
def lowS (t : ByteArray) : ByteArray := ⟨(t.data.toList.map L.lowB).toArray⟩
def upS (t : ByteArray) : ByteArray := ⟨(t.data.toList.map L.upB).toArray⟩
def trimB (t : ByteArray) : ByteArray := ⟨(Lib.trimS t.data.toList [32]).toArray⟩
def countryOk (c : ByteArray) : Bool := decide (1 ≤ c.size) && decide (c.size ≤ 3) && c.data.toList.all L.isDigit && c.data.toList.headD 0 != 48
def normText (k : Int) (t c : ByteArray) : ByteArray := if k = 1 then mailN (lowS t) else if k = 2 then phoneN (wo t ⟨#[32, 45, 46, 47, 40, 41]⟩) c else if k = 3 then wo (upS t) ⟨#[32, 45]⟩ else wo (lowS t) ⟨#[45]⟩
def badV (e : Int) : Value := .tuple #[.agg #[.int .i64 0, .string ⟨#[]⟩], .int .i64 e]
def outV (k : Int) (s : ByteArray) : Value := if L.idFault k s = 0 then .tuple #[.agg #[.int .i64 k, .string s], .int .i64 0] else .tuple #[.agg #[.int .i64 0, .string ⟨#[]⟩], .int .i64 (L.idFault k s)]
def normV (k : Int) (t c : ByteArray) : Value := if ¬ (1 ≤ k ∧ k ≤ 4) then badV 4 else if 200 < t.size then badV 1 else if countryOk c = false then badV 3 else outV k (normText k (trimB t) c)
theorem trimB_le (t : ByteArray) : (trimB t).size ≤ t.size := by
  show (Lib.trimS t.data.toList [32]).length ≤ t.data.toList.length
  unfold Lib.trimS Lib.trimLeftS Lib.trimRightS
  have h1 := (List.dropWhile_sublist ([32].contains ·) (l := (t.data.toList.reverse.dropWhile ([32].contains ·)).reverse)).length_le
  have h2 := (List.dropWhile_sublist ([32].contains ·) (l := t.data.toList.reverse)).length_le
  simp only [List.length_reverse] at h1 h2
  omega
theorem lowS_size (t : ByteArray) : (lowS t).size = t.size := by show (t.data.toList.map L.lowB).length = _; rw [List.length_map]; rfl
theorem upS_size (t : ByteArray) : (upS t).size = t.size := by show (t.data.toList.map L.upB).length = _; rw [List.length_map]; rfl
theorem mailN_le (s : ByteArray) : (mailN s).size ≤ 2 * s.size + 1 := by
  unfold mailN
  have h := cut_le s.data.toList [64]
  have h2 := cut_le (Lib.cut s.data.toList [64]).1 [43]
  have hs : s.data.toList.length = s.size := rfl
  split
  · rw [ByteArray.size_append, ByteArray.size_append]
    have e1 : (ByteArray.mk (Lib.cut (Lib.cut s.data.toList [64]).1 [43]).1.toArray).size = (Lib.cut (Lib.cut s.data.toList [64]).1 [43]).1.length := rfl
    have e2 : (ByteArray.mk (Lib.cut s.data.toList [64]).2.1.toArray).size = (Lib.cut s.data.toList [64]).2.1.length := rfl
    have e3 : (ByteArray.mk #[64]).size = 1 := rfl
    omega
  · omega
theorem phoneN_le (t c : ByteArray) : (phoneN t c).size ≤ t.size + c.size + 1 := by
  have e3 : (ByteArray.mk #[43]).size = 1 := rfl
  unfold phoneN
  repeat' split
  all_goals first | omega | (simp only [ByteArray.size_append, ByteArray.size_extract]; omega) | (simp only [ByteArray.size_append]; omega)
theorem trim_any (t : ByteArray) (w : World) (hs : t.size ≤ 1000000) : Calls Tryd.prog 91 #[.string t, .string ⟨#[32]⟩] w fun e w' => e = .returned (.string (trimB t)) ∧ Below w.heap.size w w' :=
  Tryd.strings_Trim_ascii t ⟨#[32]⟩ w (by omega) (by simp [ByteArray.size]) (fun j b hb => by
    cases j with
    | zero => simp at hb; rw [← hb]; decide
    | succ j => simp at hb)
set_option maxHeartbeats 4000000 in
set_option maxRecDepth 100000 in
theorem normal_any (k : Int) (t c : ByteArray) (w : World) (ht : t.size ≤ 1000000) (hc : c.size ≤ 1000) (hM : MaxL w) :
    Calls Tryd.prog 48 #[.int .i64 k, .string t, .string c] w fun e w' => e = .returned (normV k t c) ∧ Below w.heap.size w w' := by
  have HM := Lib.hid hM
  clear hM
  obtain ⟨R, HR⟩ : ∃ R, Hid (normV k t c = R) := ⟨_, Lib.hid rfl⟩
  rw [HR.out]
  have lvR := LV.new w w.heap.size #[.int .i64 0, .string ⟨#[]⟩] 76 rfl
  have Hb : Hid (Below w.heap.size w (w.alloc (.cells #[.int .i64 0, .string ⟨#[]⟩] 76))) := (Below.refl _ _).alloc (Nat.le_refl _) _
  by_cases hk : 1 ≤ k ∧ k ≤ 4
  · have e1 : decide ((1 : Int) ≤ k ∧ k ≤ 4) = true := by simp; omega
    by_cases h200 : 200 < t.size
    · go_enter Tryd.func48, Tryd.ntmps48
      go_wp2_with fail
      ((with_reducible refine (within_any _ _ _ _).mono ?_); rintro e _ ⟨rfl, rfl⟩)
      rw [e1]
      have lvR_c0 := lvR.cell 0 _ rfl
      have lvR_c1 := lvR.cell 1 _ rfl
      have lvR_f0 := lvR.free 0
      have lvR_f1 := lvR.free 1
      go_wp2_with fail
      exact bodyPost_ret (v := .tuple #[.agg #[.int .i64 0, .string ⟨#[]⟩], .int .i64 1]) (by simp [results, Tryd.results48, go_sem]) rfl ⟨by rw [← HR.out]; (rw [normV, if_neg (by simpa using hk), if_pos h200]; rfl), Hb.out⟩
    · obtain ⟨M, HMd⟩ : ∃ M, Hid (c.data.toList.all L.isDigit = M) := ⟨_, Lib.hid rfl⟩
      have Hall : Hid (∀ w, Calls Tryd.prog 98 #[.string c, .func (.func 99) #[] #[]] w fun e w' => e = .returned (.bool M) ∧ w = w') := fun w => HMd.out ▸ all_any _ _ digit_pb c w (by omega) (fun _ _ => by kernel_rfl)
      have HN : Hid ((if countryOk c = false then badV 3 else outV k (normText k (trimB t) c)) = R) := by show _ = _; rw [← HR.out]; unfold normV; rw [if_neg (show ¬ ¬ (1 ≤ k ∧ k ≤ 4) from fun h => h hk), if_neg h200]
      clear HR
      by_cases hz : 1 ≤ c.size ∧ c.size ≤ 3
      · have e2 : decide ((1 : Int) ≤ c.size ∧ (c.size : Int) ≤ 3) = true := by simp; omega
        have hc0 : 0 < c.size := by omega
        have Hh := Lib.hid (headD_at c hc0)
        have Hco : Hid (countryOk c = (M && ((c[0].toNat : Int) != 48))) := by
          show _ = _
          rw [countryOk, HMd.out, Hh.out, u8_ne _ 48 48 rfl]
          simp [hz]
        rw [Hco.out] at HN
        clear Hh HMd Hco
        by_cases hco : (M && ((c[0].toNat : Int) != 48)) = true
        · rw [hco, if_neg (by simp)] at HN
          have hM1 : M = true := by revert hco; cases M <;> simp
          subst hM1
          have e3 : ((c[0].toNat : Int) == 48) = false := by simpa using hco
          have HR := HN
          clear HN hco
          have htl := trimB_le t
          have Hkk : Hid (k = 1 ∨ k = 2 ∨ k = 3 ∨ k = 4) := by show _ ∨ _; omega
          go_enter Tryd.func48, Tryd.ntmps48
          go_wp2_with fail
          ((with_reducible refine (within_any _ _ _ _).mono ?_); rintro e _ ⟨rfl, rfl⟩)
          rw [e1]
          go_wp2_with fail
          ((with_reducible refine (within_any _ _ _ _).mono ?_); rintro e _ ⟨rfl, rfl⟩)
          rw [e2]
          go_wp2_with fail
          ((with_reducible refine (Hall.out _).mono ?_); rintro e _ ⟨rfl, rfl⟩)
          go_wp2_with fail
          go_wp2_with fail
          ((with_reducible refine (trim_any t _ ht).mono ?_); rintro e w1 ⟨rfl, hl_w1⟩)
          have hz_w1 := hl_w1.size
          have Hb_w1 : Hid (Below w.heap.size w w1) := Hb.out.trans (hl_w1.mono Hb.out.size)
          have lv_w1 := LV.keepB lvR hl_w1 (lvR).lt
          clear hl_w1 hz_w1 Hb lvR
          clear e1 e2 e3 Hall
          rcases Hkk.out with hk1 | hk2 | hk3 | hk4
          · subst hk1
            rw [normText, if_pos rfl] at HR
            generalize trimB t = tt at *
            have hls := lowS_size tt
            go_wp2_with fail
            ((with_reducible refine (lower_any tt _ (by omega)).mono ?_); rintro e w2 ⟨rfl, hl_w2⟩)
            have hz_w2 := hl_w2.size
            have Hb_w2 : Hid (Below w.heap.size w w2) := Hb_w1.out.trans (hl_w2.mono Hb_w1.out.size)
            have lv_w2 := LV.keepB lv_w1 hl_w2 (lv_w1).lt
            clear hl_w2 hz_w2 Hb_w1 lv_w1
            rw [show (ByteArray.mk (tt.data.toList.map L.lowB).toArray) = lowS tt from rfl]
            generalize lowS tt = ls at *
            have hml := mailN_le ls
            go_wp2_with fail
            ((with_reducible refine (mail_any ls _ (by omega) (HM.out.below Hb_w2.out)).mono ?_); rintro e w3 ⟨rfl, hl_w3⟩)
            have hz_w3 := hl_w3.size
            have Hb_w3 : Hid (Below w.heap.size w w3) := Hb_w2.out.trans (hl_w3.mono Hb_w2.out.size)
            have lv_w3 := LV.keepB lv_w2 hl_w3 (lv_w2).lt
            clear hl_w3 hz_w3 Hb_w2 lv_w2
            generalize mailN ls = ms at *
            go_wp2_with fail
            have lvX := LV.new w3 w3.heap.size #[.int .i64 1, .string ms] 76 (by simp)
            have Hba : Hid (Below w.heap.size w (w3.alloc (.cells #[.int .i64 1, .string ms] 76))) := Hb_w3.out.alloc Hb_w3.out.size _
            have lvRa := lv_w3.alloc (.cells #[.int .i64 1, .string ms] 76)
            have hzz := Hb_w3.out.size
            have hzR := lv_w3.lt
            go_wp2_with fail
            ((with_reducible refine (checkId_any 1 ms _ (by omega) (HM.out.below Hba.out)).mono ?_); rintro e w8 ⟨rfl, hl_w8⟩)
            have hz_w8 := hl_w8.size
            have lvX8 := lvX.keepB hl_w8 lvX.lt
            have lvR8 := lvRa.keepB hl_w8 lvRa.lt
            have Hb8 : Hid (Below w.heap.size w w8) := Hba.out.trans (hl_w8.mono Hba.out.size)
            clear hl_w8 lvX lvRa Hba Hb_w3 lv_w3
            obtain ⟨f, hf⟩ : ∃ f, L.idFault 1 ms = f := ⟨_, rfl⟩
            rw [hf]
            have Hf := Lib.hid hf
            clear hf
            have lvX8_c0 := lvX8.cell 0 _ rfl
            have lvX8_c1 := lvX8.cell 1 _ rfl
            have lvX8_f0 := lvX8.free 0
            have lvX8_f1 := lvX8.free 1
            have lvR8_c0 := lvR8.cell 0 _ rfl
            have lvR8_c1 := lvR8.cell 1 _ rfl
            have lvR8_f0 := lvR8.free 0
            have lvR8_f1 := lvR8.free 1
            by_cases hf0 : f = 0
            · subst hf0
              have Hbf : Hid (Below w.heap.size w ((w8.setCell ⟨w.heap.size, 0, none⟩ (.int .i64 1)).setCell ⟨w.heap.size, 1, none⟩ (.string ms))) := (Hb8.out.setCell (p := ⟨w.heap.size, 0, none⟩) (Nat.le_refl _) _).setCell (p := ⟨w.heap.size, 1, none⟩) (Nat.le_refl _) _
              go_wp2_with fail
              exact bodyPost_ret (v := .tuple #[.agg #[.int .i64 1, .string ms], .int .i64 0]) (by simp [results, Tryd.results48, go_sem, lvR8_c0, lvR8_c1, lvX8_c0, lvX8_c1]) rfl ⟨by rw [← HR.out, outV, if_pos Hf.out], Hbf.out⟩
            · have e0 : (f != 0) = true := by simpa using hf0
              have Hbf : Hid (Below w.heap.size w ((w8.setCell ⟨w.heap.size, 0, none⟩ (.int .i64 0)).setCell ⟨w.heap.size, 1, none⟩ (.string ⟨#[]⟩))) := (Hb8.out.setCell (p := ⟨w.heap.size, 0, none⟩) (Nat.le_refl _) _).setCell (p := ⟨w.heap.size, 1, none⟩) (Nat.le_refl _) _
              go_wp2_with fail
              exact bodyPost_ret (v := .tuple #[.agg #[.int .i64 0, .string ⟨#[]⟩], .int .i64 f]) (by simp [results, Tryd.results48, go_sem, lvR8_c0, lvR8_c1, lvX8_c0, lvX8_c1]) rfl ⟨by rw [← HR.out, outV, if_neg (by rw [Hf.out]; exact hf0), Hf.out], Hbf.out⟩
          · subst hk2
            rw [normText, if_neg (by decide), if_pos rfl] at HR
            generalize trimB t = tt at *
            have hwl := wo_le tt ⟨#[32, 45, 46, 47, 40, 41]⟩
            have hpl := phoneN_le (wo tt ⟨#[32, 45, 46, 47, 40, 41]⟩) c
            go_wp2_with fail
            ((with_reducible refine (phone_any tt c _ (by omega) (by omega)).mono ?_); rintro e w2 ⟨rfl, hl_w2⟩)
            have hz_w2 := hl_w2.size
            have Hb_w2 : Hid (Below w.heap.size w w2) := Hb_w1.out.trans (hl_w2.mono Hb_w1.out.size)
            have lv_w2 := LV.keepB lv_w1 hl_w2 (lv_w1).lt
            clear hl_w2 hz_w2 Hb_w1 lv_w1
            generalize phoneN (wo tt ⟨#[32, 45, 46, 47, 40, 41]⟩) c = ms at *
            go_wp2_with fail
            have lvX := LV.new w2 w2.heap.size #[.int .i64 2, .string ms] 76 (by simp)
            have Hba : Hid (Below w.heap.size w (w2.alloc (.cells #[.int .i64 2, .string ms] 76))) := Hb_w2.out.alloc Hb_w2.out.size _
            have lvRa := lv_w2.alloc (.cells #[.int .i64 2, .string ms] 76)
            have hzz := Hb_w2.out.size
            have hzR := lv_w2.lt
            go_wp2_with fail
            ((with_reducible refine (checkId_any 2 ms _ (by omega) (HM.out.below Hba.out)).mono ?_); rintro e w8 ⟨rfl, hl_w8⟩)
            have hz_w8 := hl_w8.size
            have lvX8 := lvX.keepB hl_w8 lvX.lt
            have lvR8 := lvRa.keepB hl_w8 lvRa.lt
            have Hb8 : Hid (Below w.heap.size w w8) := Hba.out.trans (hl_w8.mono Hba.out.size)
            clear hl_w8 lvX lvRa Hba Hb_w2 lv_w2
            obtain ⟨f, hf⟩ : ∃ f, L.idFault 2 ms = f := ⟨_, rfl⟩
            rw [hf]
            have Hf := Lib.hid hf
            clear hf
            have lvX8_c0 := lvX8.cell 0 _ rfl
            have lvX8_c1 := lvX8.cell 1 _ rfl
            have lvX8_f0 := lvX8.free 0
            have lvX8_f1 := lvX8.free 1
            have lvR8_c0 := lvR8.cell 0 _ rfl
            have lvR8_c1 := lvR8.cell 1 _ rfl
            have lvR8_f0 := lvR8.free 0
            have lvR8_f1 := lvR8.free 1
            by_cases hf0 : f = 0
            · subst hf0
              have Hbf : Hid (Below w.heap.size w ((w8.setCell ⟨w.heap.size, 0, none⟩ (.int .i64 2)).setCell ⟨w.heap.size, 1, none⟩ (.string ms))) := (Hb8.out.setCell (p := ⟨w.heap.size, 0, none⟩) (Nat.le_refl _) _).setCell (p := ⟨w.heap.size, 1, none⟩) (Nat.le_refl _) _
              go_wp2_with fail
              exact bodyPost_ret (v := .tuple #[.agg #[.int .i64 2, .string ms], .int .i64 0]) (by simp [results, Tryd.results48, go_sem, lvR8_c0, lvR8_c1, lvX8_c0, lvX8_c1]) rfl ⟨by rw [← HR.out, outV, if_pos Hf.out], Hbf.out⟩
            · have e0 : (f != 0) = true := by simpa using hf0
              have Hbf : Hid (Below w.heap.size w ((w8.setCell ⟨w.heap.size, 0, none⟩ (.int .i64 0)).setCell ⟨w.heap.size, 1, none⟩ (.string ⟨#[]⟩))) := (Hb8.out.setCell (p := ⟨w.heap.size, 0, none⟩) (Nat.le_refl _) _).setCell (p := ⟨w.heap.size, 1, none⟩) (Nat.le_refl _) _
              go_wp2_with fail
              exact bodyPost_ret (v := .tuple #[.agg #[.int .i64 0, .string ⟨#[]⟩], .int .i64 f]) (by simp [results, Tryd.results48, go_sem, lvR8_c0, lvR8_c1, lvX8_c0, lvX8_c1]) rfl ⟨by rw [← HR.out, outV, if_neg (by rw [Hf.out]; exact hf0), Hf.out], Hbf.out⟩
          · subst hk3
            rw [normText, if_neg (by decide), if_neg (by decide), if_pos rfl] at HR
            generalize trimB t = tt at *
            have hls := upS_size tt
            go_wp2_with fail
            ((with_reducible refine (upper_any tt _ (by omega)).mono ?_); rintro e w2 ⟨rfl, hl_w2⟩)
            have hz_w2 := hl_w2.size
            have Hb_w2 : Hid (Below w.heap.size w w2) := Hb_w1.out.trans (hl_w2.mono Hb_w1.out.size)
            have lv_w2 := LV.keepB lv_w1 hl_w2 (lv_w1).lt
            clear hl_w2 hz_w2 Hb_w1 lv_w1
            rw [show (ByteArray.mk (tt.data.toList.map L.upB).toArray) = upS tt from rfl]
            generalize upS tt = ls at *
            have hwl := wo_le ls ⟨#[32, 45]⟩
            go_wp2_with fail
            ((with_reducible refine (without_any ls ⟨#[32, 45]⟩ _ (by omega)).mono ?_); rintro e w3 ⟨rfl, hl_w3⟩)
            have hz_w3 := hl_w3.size
            have Hb_w3 : Hid (Below w.heap.size w w3) := Hb_w2.out.trans (hl_w3.mono Hb_w2.out.size)
            have lv_w3 := LV.keepB lv_w2 hl_w3 (lv_w2).lt
            clear hl_w3 hz_w3 Hb_w2 lv_w2
            generalize wo ls ⟨#[32, 45]⟩ = ms at *
            go_wp2_with fail
            have lvX := LV.new w3 w3.heap.size #[.int .i64 3, .string ms] 76 (by simp)
            have Hba : Hid (Below w.heap.size w (w3.alloc (.cells #[.int .i64 3, .string ms] 76))) := Hb_w3.out.alloc Hb_w3.out.size _
            have lvRa := lv_w3.alloc (.cells #[.int .i64 3, .string ms] 76)
            have hzz := Hb_w3.out.size
            have hzR := lv_w3.lt
            go_wp2_with fail
            ((with_reducible refine (checkId_any 3 ms _ (by omega) (HM.out.below Hba.out)).mono ?_); rintro e w8 ⟨rfl, hl_w8⟩)
            have hz_w8 := hl_w8.size
            have lvX8 := lvX.keepB hl_w8 lvX.lt
            have lvR8 := lvRa.keepB hl_w8 lvRa.lt
            have Hb8 : Hid (Below w.heap.size w w8) := Hba.out.trans (hl_w8.mono Hba.out.size)
            clear hl_w8 lvX lvRa Hba Hb_w3 lv_w3
            obtain ⟨f, hf⟩ : ∃ f, L.idFault 3 ms = f := ⟨_, rfl⟩
            rw [hf]
            have Hf := Lib.hid hf
            clear hf
            have lvX8_c0 := lvX8.cell 0 _ rfl
            have lvX8_c1 := lvX8.cell 1 _ rfl
            have lvX8_f0 := lvX8.free 0
            have lvX8_f1 := lvX8.free 1
            have lvR8_c0 := lvR8.cell 0 _ rfl
            have lvR8_c1 := lvR8.cell 1 _ rfl
            have lvR8_f0 := lvR8.free 0
            have lvR8_f1 := lvR8.free 1
            by_cases hf0 : f = 0
            · subst hf0
              have Hbf : Hid (Below w.heap.size w ((w8.setCell ⟨w.heap.size, 0, none⟩ (.int .i64 3)).setCell ⟨w.heap.size, 1, none⟩ (.string ms))) := (Hb8.out.setCell (p := ⟨w.heap.size, 0, none⟩) (Nat.le_refl _) _).setCell (p := ⟨w.heap.size, 1, none⟩) (Nat.le_refl _) _
              go_wp2_with fail
              exact bodyPost_ret (v := .tuple #[.agg #[.int .i64 3, .string ms], .int .i64 0]) (by simp [results, Tryd.results48, go_sem, lvR8_c0, lvR8_c1, lvX8_c0, lvX8_c1]) rfl ⟨by rw [← HR.out, outV, if_pos Hf.out], Hbf.out⟩
            · have e0 : (f != 0) = true := by simpa using hf0
              have Hbf : Hid (Below w.heap.size w ((w8.setCell ⟨w.heap.size, 0, none⟩ (.int .i64 0)).setCell ⟨w.heap.size, 1, none⟩ (.string ⟨#[]⟩))) := (Hb8.out.setCell (p := ⟨w.heap.size, 0, none⟩) (Nat.le_refl _) _).setCell (p := ⟨w.heap.size, 1, none⟩) (Nat.le_refl _) _
              go_wp2_with fail
              exact bodyPost_ret (v := .tuple #[.agg #[.int .i64 0, .string ⟨#[]⟩], .int .i64 f]) (by simp [results, Tryd.results48, go_sem, lvR8_c0, lvR8_c1, lvX8_c0, lvX8_c1]) rfl ⟨by rw [← HR.out, outV, if_neg (by rw [Hf.out]; exact hf0), Hf.out], Hbf.out⟩
          · subst hk4
            rw [normText, if_neg (by decide), if_neg (by decide), if_neg (by decide)] at HR
            generalize trimB t = tt at *
            have hls := lowS_size tt
            go_wp2_with fail
            ((with_reducible refine (lower_any tt _ (by omega)).mono ?_); rintro e w2 ⟨rfl, hl_w2⟩)
            have hz_w2 := hl_w2.size
            have Hb_w2 : Hid (Below w.heap.size w w2) := Hb_w1.out.trans (hl_w2.mono Hb_w1.out.size)
            have lv_w2 := LV.keepB lv_w1 hl_w2 (lv_w1).lt
            clear hl_w2 hz_w2 Hb_w1 lv_w1
            rw [show (ByteArray.mk (tt.data.toList.map L.lowB).toArray) = lowS tt from rfl]
            generalize lowS tt = ls at *
            have hwl := wo_le ls ⟨#[45]⟩
            go_wp2_with fail
            ((with_reducible refine (without_any ls ⟨#[45]⟩ _ (by omega)).mono ?_); rintro e w3 ⟨rfl, hl_w3⟩)
            have hz_w3 := hl_w3.size
            have Hb_w3 : Hid (Below w.heap.size w w3) := Hb_w2.out.trans (hl_w3.mono Hb_w2.out.size)
            have lv_w3 := LV.keepB lv_w2 hl_w3 (lv_w2).lt
            clear hl_w3 hz_w3 Hb_w2 lv_w2
            generalize wo ls ⟨#[45]⟩ = ms at *
            go_wp2_with fail
            have lvX := LV.new w3 w3.heap.size #[.int .i64 4, .string ms] 76 (by simp)
            have Hba : Hid (Below w.heap.size w (w3.alloc (.cells #[.int .i64 4, .string ms] 76))) := Hb_w3.out.alloc Hb_w3.out.size _
            have lvRa := lv_w3.alloc (.cells #[.int .i64 4, .string ms] 76)
            have hzz := Hb_w3.out.size
            have hzR := lv_w3.lt
            go_wp2_with fail
            ((with_reducible refine (checkId_any 4 ms _ (by omega) (HM.out.below Hba.out)).mono ?_); rintro e w8 ⟨rfl, hl_w8⟩)
            have hz_w8 := hl_w8.size
            have lvX8 := lvX.keepB hl_w8 lvX.lt
            have lvR8 := lvRa.keepB hl_w8 lvRa.lt
            have Hb8 : Hid (Below w.heap.size w w8) := Hba.out.trans (hl_w8.mono Hba.out.size)
            clear hl_w8 lvX lvRa Hba Hb_w3 lv_w3
            obtain ⟨f, hf⟩ : ∃ f, L.idFault 4 ms = f := ⟨_, rfl⟩
            rw [hf]
            have Hf := Lib.hid hf
            clear hf
            have lvX8_c0 := lvX8.cell 0 _ rfl
            have lvX8_c1 := lvX8.cell 1 _ rfl
            have lvX8_f0 := lvX8.free 0
            have lvX8_f1 := lvX8.free 1
            have lvR8_c0 := lvR8.cell 0 _ rfl
            have lvR8_c1 := lvR8.cell 1 _ rfl
            have lvR8_f0 := lvR8.free 0
            have lvR8_f1 := lvR8.free 1
            by_cases hf0 : f = 0
            · subst hf0
              have Hbf : Hid (Below w.heap.size w ((w8.setCell ⟨w.heap.size, 0, none⟩ (.int .i64 4)).setCell ⟨w.heap.size, 1, none⟩ (.string ms))) := (Hb8.out.setCell (p := ⟨w.heap.size, 0, none⟩) (Nat.le_refl _) _).setCell (p := ⟨w.heap.size, 1, none⟩) (Nat.le_refl _) _
              go_wp2_with fail
              exact bodyPost_ret (v := .tuple #[.agg #[.int .i64 4, .string ms], .int .i64 0]) (by simp [results, Tryd.results48, go_sem, lvR8_c0, lvR8_c1, lvX8_c0, lvX8_c1]) rfl ⟨by rw [← HR.out, outV, if_pos Hf.out], Hbf.out⟩
            · have e0 : (f != 0) = true := by simpa using hf0
              have Hbf : Hid (Below w.heap.size w ((w8.setCell ⟨w.heap.size, 0, none⟩ (.int .i64 0)).setCell ⟨w.heap.size, 1, none⟩ (.string ⟨#[]⟩))) := (Hb8.out.setCell (p := ⟨w.heap.size, 0, none⟩) (Nat.le_refl _) _).setCell (p := ⟨w.heap.size, 1, none⟩) (Nat.le_refl _) _
              go_wp2_with fail
              exact bodyPost_ret (v := .tuple #[.agg #[.int .i64 0, .string ⟨#[]⟩], .int .i64 f]) (by simp [results, Tryd.results48, go_sem, lvR8_c0, lvR8_c1, lvX8_c0, lvX8_c1]) rfl ⟨by rw [← HR.out, outV, if_neg (by rw [Hf.out]; exact hf0), Hf.out], Hbf.out⟩
        · have hco' : (M && ((c[0].toNat : Int) != 48)) = false := by simpa using hco
          rw [hco', if_pos rfl] at HN
          have HR := HN
          clear HN
          cases M
          · clear hco hco'
            go_enter Tryd.func48, Tryd.ntmps48
            go_wp2_with fail
            ((with_reducible refine (within_any _ _ _ _).mono ?_); rintro e _ ⟨rfl, rfl⟩)
            rw [e1]
            go_wp2_with fail
            ((with_reducible refine (within_any _ _ _ _).mono ?_); rintro e _ ⟨rfl, rfl⟩)
            rw [e2]
            go_wp2_with fail
            ((with_reducible refine (Hall.out _).mono ?_); rintro e _ ⟨rfl, rfl⟩)
            have lvR_c0 := lvR.cell 0 _ rfl
            have lvR_c1 := lvR.cell 1 _ rfl
            have lvR_f0 := lvR.free 0
            have lvR_f1 := lvR.free 1
            go_wp2_with fail
            exact bodyPost_ret (v := .tuple #[.agg #[.int .i64 0, .string ⟨#[]⟩], .int .i64 3]) (by simp [results, Tryd.results48, go_sem]) rfl ⟨by rw [← HR.out]; rfl, Hb.out⟩
          · have e3 : ((c[0].toNat : Int) == 48) = true := by simpa using hco'
            clear hco hco'
            go_enter Tryd.func48, Tryd.ntmps48
            go_wp2_with fail
            ((with_reducible refine (within_any _ _ _ _).mono ?_); rintro e _ ⟨rfl, rfl⟩)
            rw [e1]
            go_wp2_with fail
            ((with_reducible refine (within_any _ _ _ _).mono ?_); rintro e _ ⟨rfl, rfl⟩)
            rw [e2]
            go_wp2_with fail
            ((with_reducible refine (Hall.out _).mono ?_); rintro e _ ⟨rfl, rfl⟩)
            have lvR_c0 := lvR.cell 0 _ rfl
            have lvR_c1 := lvR.cell 1 _ rfl
            have lvR_f0 := lvR.free 0
            have lvR_f1 := lvR.free 1
            go_wp2_with fail
            exact bodyPost_ret (v := .tuple #[.agg #[.int .i64 0, .string ⟨#[]⟩], .int .i64 3]) (by simp [results, Tryd.results48, go_sem]) rfl ⟨by rw [← HR.out]; rfl, Hb.out⟩
      · have e2 : decide ((1 : Int) ≤ c.size ∧ (c.size : Int) ≤ 3) = false := by simp; omega
        have Hco : Hid (countryOk c = false) := by
          show _ = _
          have : (decide (1 ≤ c.size) && decide (c.size ≤ 3)) = false := by simp; omega
          rw [countryOk, this]; rfl
        rw [Hco.out, if_pos rfl] at HN
        have HR := HN
        clear HN
        go_enter Tryd.func48, Tryd.ntmps48
        go_wp2_with fail
        ((with_reducible refine (within_any _ _ _ _).mono ?_); rintro e _ ⟨rfl, rfl⟩)
        rw [e1]
        go_wp2_with fail
        ((with_reducible refine (within_any _ _ _ _).mono ?_); rintro e _ ⟨rfl, rfl⟩)
        rw [e2]
        have lvR_c0 := lvR.cell 0 _ rfl
        have lvR_c1 := lvR.cell 1 _ rfl
        have lvR_f0 := lvR.free 0
        have lvR_f1 := lvR.free 1
        go_wp2_with fail
        exact bodyPost_ret (v := .tuple #[.agg #[.int .i64 0, .string ⟨#[]⟩], .int .i64 3]) (by simp [results, Tryd.results48, go_sem]) rfl ⟨by rw [← HR.out]; rfl, Hb.out⟩
  · have e1 : decide ((1 : Int) ≤ k ∧ k ≤ 4) = false := by simp; omega
    go_enter Tryd.func48, Tryd.ntmps48
    go_wp2_with fail
    ((with_reducible refine (within_any _ _ _ _).mono ?_); rintro e _ ⟨rfl, rfl⟩)
    rw [e1]
    have lvR_c0 := lvR.cell 0 _ rfl
    have lvR_c1 := lvR.cell 1 _ rfl
    have lvR_f0 := lvR.free 0
    have lvR_f1 := lvR.free 1
    go_wp2_with fail
    exact bodyPost_ret (v := .tuple #[.agg #[.int .i64 0, .string ⟨#[]⟩], .int .i64 4]) (by simp [results, Tryd.results48, go_sem]) rfl ⟨by rw [← HR.out]; (rw [normV, if_pos hk]; rfl), Hb.out⟩
end Go.Proofs.YtcbpajhlollcbaaDoor
