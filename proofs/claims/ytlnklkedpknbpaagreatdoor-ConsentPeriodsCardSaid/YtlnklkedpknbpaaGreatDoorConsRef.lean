/- What handref2.PolicyFault returns. -/
import Derived.Test.YtlnklkedpknbpaaGreatDoorConsPol
namespace Go.Proofs.YtlnklkedpknbpaaGreatDoor
open Go.RowKit
theorem key_ne {s : ByteArray} (h : L.isKey s = true) : s ≠ ⟨#[]⟩ := by
  rintro rfl
  revert h
  decide +kernel
theorem ltS_nil (s : ByteArray) : ltS s ⟨#[]⟩ = false := by
  unfold ltS
  cases h : s.toList <;> simp [Op.bytesLess]
/-- what the reference keeps of the term ahead: none is the empty region -/
def Last (o : Option PTerm) (rg : ByteArray) (ch : Int) : Prop := match o with | none => rg = ⟨#[]⟩ ∧ ch = 0 | some p => rg = p.region ∧ ch = p.channel
/-- the reference's order of terms is the program's -/
theorem last_ord {o : Option PTerm} {rg : ByteArray} {ch : Int} {t : PTerm} (h : Last o rg ch) (hk : L.isKey t.region = true) : o.any (fun p => decide (0 ≤ tCmp p t)) = (ltS t.region rg || ((t.region.toList == rg.toList) && decide (t.channel ≤ ch))) := by
  cases o with
  | none =>
    obtain ⟨rfl, rfl⟩ := h
    have e : (t.region.toList == (⟨#[]⟩ : ByteArray).toList) = false := by
      rw [Bool.eq_false_iff]
      intro h2
      refine key_ne hk ?_
      rw [ByteArray.toList_eq, ByteArray.toList_eq] at h2
      exact WideShapes.bytes_inj (by simpa using h2)
    rw [ltS_nil, e]
    rfl
  | some p =>
    obtain ⟨rfl, rfl⟩ := h
    rw [Option.any_some, Bool.eq_iff_iff]
    simp only [decide_eq_true_eq, Bool.or_eq_true, Bool.and_eq_true]
    rw [tCmp_le]
    have : (t.region.toList == p.region.toList) = true ↔ t.region = p.region := ⟨fun h2 => by
      rw [ByteArray.toList_eq, ByteArray.toList_eq] at h2
      exact WideShapes.bytes_inj (by simpa using h2), fun h => by rw [h]; simp⟩
    rw [this]
def LastN (o : Option ByteArray) (nm : ByteArray) : Prop := match o with | none => nm = ⟨#[]⟩ | some p => nm = p
theorem lastN_ord {o : Option ByteArray} {nm n : ByteArray} (h : LastN o nm) (hk : L.isKey n = true) : o.any (fun q => leS n q) = leS n nm := by
  cases o with
  | none =>
    obtain rfl : nm = ⟨#[]⟩ := h
    have e : (n.toList == (⟨#[]⟩ : ByteArray).toList) = false := by
      rw [Bool.eq_false_iff]
      intro h2
      refine key_ne hk ?_
      rw [ByteArray.toList_eq, ByteArray.toList_eq] at h2
      exact WideShapes.bytes_inj (by simpa using h2)
    have := ltS_nil n
    unfold ltS at this
    rw [leS, this, e]
    rfl
  | some p =>
    obtain rfl : nm = p := h
    rfl
/-- what one purpose's terms have left to say -/
theorem terms_split {xs : List PTerm} (h : ¬ 160 < xs.length) : termsFault xs = termsGo none xs := by rw [termsFault, if_neg h]
theorem policyGo_stop {prev : Option ByteArray} {p : Purp} {r : List Purp} {R F : Int} (h : policyGo prev (p :: r) = R) (hk : L.isKey p.name = true) (h2 : prev.any (fun q => leS p.name q) = false) (hF : termsFault p.terms = F) : (if F ≠ 0 then F else policyGo (some p.name) r) = R := by rw [← hF, ← policyGo_go hk h2]; exact h
set_option maxHeartbeats 4000000 in
set_option maxRecDepth 100000 in
theorem policyFault_any (N : Nat → Prop) (A : Option Addr) (xs : List Purp) (c : Nat) (w : World) (hS : Sl rPurp N w A xs) (hok : PolOk xs) :
    Calls Tryz.prog 17 #[.slice A xs.length c] w fun e w' => e = .returned (.int .i64 (policyFault xs)) ∧ Below w.heap.size w w' := by
  have HS := Lib.hid hS
  have Hok := Lib.hid hok
  have hln := hok.len
  clear hS hok
  obtain ⟨R, HR⟩ : ∃ R, Hid (policyFault xs = R) := ⟨_, Lib.hid rfl⟩
  rw [HR.out]
  by_cases h0 : xs.length = 0
  · go_enter Tryz.func17, Tryz.ntmps17
    have h0' : ((xs.length : Int) == 0) = true := by simpa using h0
    go_wp2_with fail
    go_ret
    exact ⟨ret_i (by rw [← HR.out, policyFault, if_pos h0]), Below.refl _ _⟩
  have h0' : ((xs.length : Int) == 0) = false := by simpa using h0
  by_cases h20 : 30 < xs.length
  · go_enter Tryz.func17, Tryz.ntmps17
    go_wp2_with fail
    go_ret
    exact ⟨ret_i (by rw [← HR.out, policyFault, if_neg h0, if_pos h20]), Below.refl _ _⟩
  · have HR2 : Hid (policyGo none xs = R) := by show _ = _; rw [← HR.out, policyFault, if_neg h0, if_neg h20]
    clear HR
    go_enter Tryz.func17, Tryz.ntmps17
    go_wp2_with fail
    go_loopw [3, 18] (fun s3 i wr => ∃ (k : Nat) (nm : ByteArray), k ≤ xs.length ∧ i = .int .i64 k ∧ s3 = .string nm ∧ LastN ((ahd xs k).map Purp.name) nm ∧ policyGo ((ahd xs k).map Purp.name) (xs.drop k) = R ∧ Below w.heap.size w wr) (fun _ i _ => xs.length - (intOf i).toNat)
    case atStart => exact ⟨0, _, Nat.zero_le _, rfl, rfl, rfl, HR2.out, Below.refl _ _⟩
    case round =>
      clear HR2
      obtain ⟨k, nm, hk, rfl, rfl, hl, hr, hbl⟩ := hrel
      have Hr := Lib.hid hr
      have Hl := Lib.hid hl
      clear hr hl
      by_cases hlt : k < xs.length
      · obtain ⟨p, hf⟩ : ∃ p, xs[k]? = some p := ⟨_, List.getElem?_eq_getElem hlt⟩
        have hSr := HS.out.keepB hbl
        have hfs1 : p.name.size ≤ 1000000000 := Hok.out.nm p (List.mem_of_getElem? hf)
        have Hstep : Hid (policyGo ((ahd xs k).map Purp.name) (p :: xs.drop (k + 1)) = R) := by show _ = _; rw [← Hr.out, drop_at3 hf]
        have Hf := Lib.hid hf
        obtain ⟨blk, off, At, ct, rfl, hblk, d0, d1, hst⟩ := hSr.purp k p hf
        clear Hr hf hSr
        have hb0 : Below wr.heap.size wr (wr.alloc (.cells #[.string p.name, .slice At p.terms.length ct] 58)) := (Below.refl _ _).alloc (Nat.le_refl _) _
        have Hb1 : Hid (Below w.heap.size w (wr.alloc (.cells #[.string p.name, .slice At p.terms.length ct] 58))) := hbl.alloc hbl.size _
        have hsz := hbl.size
        have HKc := Lib.hid (fun w => Key_any p.name w hfs1)
        obtain ⟨K, HK⟩ : ∃ K, Hid (L.isKey p.name = K) := ⟨_, Lib.hid rfl⟩
        rw [HK.out] at HKc
        have lvY : LV _ wr.heap.size _ _ := LV.new wr wr.heap.size #[.string p.name, .slice At p.terms.length ct] 58 rfl
        have Hst := Lib.hid (Sl.keepB hst hb0)
        clear hst hb0
        go_upto_region 9 with fail
        clear d0 d1
        generalize wr.alloc (.cells #[.string p.name, .slice At p.terms.length ct] 58) = w1 at *
        obtain ⟨Y, hY⟩ : ∃ Y, Y = wr.heap.size := ⟨_, rfl⟩
        rw [← hY] at lvY ⊢
        have c0 : w1.cell? ⟨Y, 0, none⟩ = some (.string p.name) := lvY.cell 0 _ rfl
        clear hY hbl
        go_wp2_with fail
        ((with_reducible refine (HKc.out _).mono ?_); rintro e w2 ⟨rfl, hl2⟩)
        have m2 := LV.kb3 lvY hl2 lvY.lt
        have Hb2 : Hid (Below w.heap.size w w2) := Hb1.out.trans (hl2.mono Hb1.out.size)
        have Hst2 := Lib.hid (Sl.keepB Hst.out hl2)
        clear c0 hl2 HKc Hb1 lvY Hst
        cases K
        · have Hn : Hid (5 = R) := (policyGo_key HK.out).symm.trans Hstep.out
          go_wp2_with fail
          go_ret
          exact ⟨ret_i Hn.out, Hb2.out⟩
        · have c0 : w2.cell? ⟨Y, 0, none⟩ = some (.string p.name) := m2.cell 0 _ rfl
          have c1 : w2.cell? ⟨Y, 1, none⟩ = some (.slice At p.terms.length ct) := m2.cell 1 _ rfl
          clear m2
          obtain ⟨B, HB⟩ : ∃ B, Hid (((ahd xs k).map Purp.name).any (fun q => leS p.name q) = B) := ⟨_, Lib.hid rfl⟩
          have HB2 : Hid ((Op.bytesLess p.name.toList nm.toList || (p.name.toList == nm.toList)) = B) := by
            show _ = _
            rw [← HB.out, lastN_ord Hl.out HK.out]
            rfl
          clear Hl
          obtain ⟨F, HF⟩ : ∃ F, Hid (termsFault p.terms = F) := ⟨_, Lib.hid rfl⟩
          have htl : p.terms.length ≤ 1000000 := Hok.out.tl p (List.mem_of_getElem? Hf.out)
          have Hrg := Lib.hid (Hok.out.rg p (List.mem_of_getElem? Hf.out))
          cases B
          · have Hn := Lib.hid (policyGo_stop Hstep.out HK.out HB.out HF.out)
            clear HB Hstep
            by_cases h160 : 160 < p.terms.length
            · have Hn2 : Hid (2 = R) := step_is Hn.out (by rw [← HF.out, termsFault, if_pos h160]) (by decide)
              go_upto_if 27 with fail
              rw [HB2.out]
              go_wp2_with fail
              go_ret
              exact ⟨ret_i Hn2.out, Hb2.out⟩
            · have HF2 : Hid (termsGo none p.terms = F) := by show _ = _; rw [← HF.out, termsFault, if_neg h160]
              go_upto_if 27 with fail
              rw [HB2.out]
              clear HB2 HF
              go_wp2_with fail
              clear c0 c1
              go_loopw [6, 7, 42] (fun s6 s7 i wr => ∃ (j : Nat) (rg : ByteArray) (ch : Int), j ≤ p.terms.length ∧ i = .int .i64 j ∧ s6 = .string rg ∧ s7 = .int .i64 ch ∧ Last (ahd p.terms j) rg ch ∧ termsGo (ahd p.terms j) (p.terms.drop j) = F ∧ Below w2.heap.size w2 wr) (fun _ _ i _ => p.terms.length - (intOf i).toNat)
              case atStart => exact ⟨0, _, _, Nat.zero_le _, rfl, rfl, rfl, ⟨rfl, rfl⟩, HF2.out, Below.refl _ _⟩
              case round =>
                clear HF2
                obtain ⟨j, rg, ch, hj, rfl, rfl, rfl, hla, hr, hbl⟩ := hrel
                have Hr := Lib.hid hr
                have Hla := Lib.hid hla
                clear hr hla
                by_cases hjt : j < p.terms.length
                · obtain ⟨t, ht⟩ : ∃ t, p.terms[j]? = some t := ⟨_, List.getElem?_eq_getElem hjt⟩
                  have hSt := Sl.keepB Hst2.out hbl
                  obtain ⟨blk2, off2, rfl, hblk2, d0, d1, d2, d3, d4⟩ := hSt.term j t ht
                  have hfs2 : t.region.size ≤ 1000000000 := Hrg.out t (List.mem_of_getElem? ht)
                  have Hts : Hid ((if termF (ahd p.terms j) t ≠ 0 then termF (ahd p.terms j) t else termsGo (some t) (p.terms.drop (j + 1))) = F) := by show _ = _; rw [← Hr.out, drop_at3 ht]; rfl
                  have Ht := Lib.hid ht
                  clear Hr ht hSt
                  have Hb3 : Hid (Below w.heap.size w (wr.alloc (.cells #[.string t.region, .int .i64 t.channel, .bool t.free, .int .i64 t.days, .int .i64 t.wait] 34))) := (Hb2.out.trans (hbl.mono Hb2.out.size)).alloc (Nat.le_trans Hb2.out.size hbl.size) _
                  have Hb4 : Hid (Below w2.heap.size w2 (wr.alloc (.cells #[.string t.region, .int .i64 t.channel, .bool t.free, .int .i64 t.days, .int .i64 t.wait] 34))) := hbl.alloc hbl.size _
                  have hsz2 := hbl.size
                  obtain ⟨K, HK⟩ : ∃ K, Hid (L.isKey t.region = K) := ⟨_, Lib.hid rfl⟩
                  obtain ⟨C, HC⟩ : ∃ C, Hid (isCh t.channel = C) := ⟨_, Lib.hid rfl⟩
                  have HKc := Lib.hid (fun w => Key_any t.region w hfs2)
                  rw [HK.out] at HKc
                  have HCc : Hid (∀ w, Calls Tryz.prog 68 #[.int .i64 t.channel, .int .i64 1, .int .i64 4] w fun e w' => e = .returned (.bool C) ∧ w = w') := fun w => HC.out ▸ in_any t.channel 1 4 w
                  have lvY : tLV _ wr.heap.size t := LV.new wr wr.heap.size #[.string t.region, .int .i64 t.channel, .bool t.free, .int .i64 t.days, .int .i64 t.wait] 34 rfl
                  go_upto_region 20 with fail
                  clear d0 d1 d2 d3 d4
                  generalize wr.alloc (.cells #[.string t.region, .int .i64 t.channel, .bool t.free, .int .i64 t.days, .int .i64 t.wait] 34) = w3 at *
                  obtain ⟨X, hX⟩ : ∃ X, X = wr.heap.size := ⟨_, rfl⟩
                  rw [← hX] at lvY ⊢
                  have c0 : w3.cell? ⟨X, 0, none⟩ = some (.string t.region) := lvY.cell 0 _ rfl
                  clear hX hbl
                  go_wp2_with fail
                  ((with_reducible refine (HKc.out _).mono ?_); rintro e w4 ⟨rfl, hl4⟩)
                  have m4 : tLV w4 X t := LV.kb3 lvY hl4 lvY.lt
                  have Hb5 : Hid (Below w.heap.size w w4) := Hb3.out.trans (hl4.mono Hb3.out.size)
                  have Hb6 : Hid (Below w2.heap.size w2 w4) := Hb4.out.trans (hl4.mono Hb4.out.size)
                  clear c0 hl4 HKc Hb3 Hb4 lvY
                  cases K
                  · have Hn2 : Hid (5 = F) := step_is Hts.out (termF_key HK.out) (by decide)
                    have Hn3 : Hid (5 = R) := step_is Hn.out Hn2.out.symm (by decide)
                    go_wp2_with fail
                    go_ret
                    exact ⟨ret_i Hn3.out, Hb5.out⟩
                  · have c0 : w4.cell? ⟨X, 0, none⟩ = some (.string t.region) := m4.cell 0 _ rfl
                    have c1 : w4.cell? ⟨X, 1, none⟩ = some (.int .i64 t.channel) := m4.cell 1 _ rfl
                    have c2 : w4.cell? ⟨X, 2, none⟩ = some (.bool t.free) := m4.cell 2 _ rfl
                    have c3 : w4.cell? ⟨X, 3, none⟩ = some (.int .i64 t.days) := m4.cell 3 _ rfl
                    have c4 : w4.cell? ⟨X, 4, none⟩ = some (.int .i64 t.wait) := m4.cell 4 _ rfl
                    clear m4
                    cases C
                    · have Hn2 : Hid (4 = F) := step_is Hts.out (termF_ch HK.out HC.out) (by decide)
                      have Hn3 : Hid (4 = R) := step_is Hn.out Hn2.out.symm (by decide)
                      go_wp2_with fail
                      ((with_reducible refine (HCc.out _).mono ?_); rintro e _ ⟨rfl, rfl⟩)
                      go_wp2_with fail
                      go_ret
                      exact ⟨ret_i Hn3.out, Hb5.out⟩
                    · go_wp2_with fail
                      ((with_reducible refine (HCc.out _).mono ?_); rintro e _ ⟨rfl, rfl⟩)
                      clear HCc
                      obtain ⟨fr, hfr⟩ : ∃ x, t.free = x := ⟨_, rfl⟩
                      obtain ⟨dy, hdy⟩ : ∃ x, t.days = x := ⟨_, rfl⟩
                      obtain ⟨wt, hwt⟩ : ∃ x, t.wait = x := ⟨_, rfl⟩
                      have H3 : Hid (¬ (fr = true ∧ (dy ≠ 0 ∨ wt ≠ 0)) → (0 ≤ dy ∧ dy ≤ 2000) ∧ (0 ≤ wt ∧ wt ≤ 100000) → termF (ahd p.terms j) t = if (ahd p.terms j).any (fun p => decide (0 ≤ tCmp p t)) then 7 else 0) := fun h3 h4 => termF_ord HK.out HC.out (by rw [hfr, hdy, hwt]; exact h3) (by rw [hdy, hwt]; exact h4)
                      have H2 : Hid (¬ (fr = true ∧ (dy ≠ 0 ∨ wt ≠ 0)) → ¬ ((0 ≤ dy ∧ dy ≤ 2000) ∧ (0 ≤ wt ∧ wt ≤ 100000)) → termF (ahd p.terms j) t = 1) := fun h3 h4 => termF_rng HK.out HC.out (by rw [hfr, hdy, hwt]; exact h3) (by rw [hdy, hwt]; exact h4)
                      have H1 : Hid (fr = true ∧ (dy ≠ 0 ∨ wt ≠ 0) → termF (ahd p.terms j) t = 3) := fun h3 => termF_form HK.out HC.out (by rw [hfr, hdy, hwt]; exact h3)
                      obtain ⟨O, HO⟩ : ∃ O, Hid ((ahd p.terms j).any (fun p => decide (0 ≤ tCmp p t)) = O) := ⟨_, Lib.hid rfl⟩
                      have HO2 : Hid ((Op.bytesLess t.region.toList rg.toList || ((t.region.toList == rg.toList) && decide (t.channel ≤ ch))) = O) := by
                        show _ = _
                        rw [← HO.out, last_ord Hla.out HK.out]
                        rfl
                      rw [HO.out] at H3
                      rw [hfr] at c2
                      rw [hdy] at c3
                      rw [hwt] at c4
                      clear HK HC hfr hdy hwt HO Hla
                      go_upto_region 24 with fail
                      obtain ⟨B, hB⟩ : ∃ B, decide (fr = true ∧ (dy ≠ 0 ∨ wt ≠ 0)) = B := ⟨_, rfl⟩
                      have HB := Lib.hid hB
                      clear hB
                      go_cut [56] (fun s25 wx => s25 = .bool B ∧ w4 = wx)
                      case first =>
                        cases fr
                        · go_wp2_with fail
                          go_meet
                          exact ⟨by rw [← HB.out]; simp, rfl⟩
                        · by_cases h1 : dy = 0
                          · by_cases h2 : wt = 0
                            · subst h1 h2
                              go_wp2_with fail
                              go_meet
                              exact ⟨by rw [← HB.out]; simp, rfl⟩
                            · subst h1
                              have h2' : (wt != 0) = true := by simpa using h2
                              go_wp2_with fail
                              go_meet
                              exact ⟨by rw [← HB.out]; simp [h2], rfl⟩
                          · have h1' : (dy != 0) = true := by simpa using h1
                            go_wp2_with fail
                            go_meet
                            exact ⟨by rw [← HB.out]; simp [h1], rfl⟩
                      case rest =>
                        obtain ⟨rfl, rfl⟩ := hcut
                        cases B
                        · have HB2 : Hid (¬ (fr = true ∧ (dy ≠ 0 ∨ wt ≠ 0))) := of_decide_eq_false HB.out
                          clear HB H1
                          obtain ⟨D, hD⟩ : ∃ D, decide ((0 ≤ dy ∧ dy ≤ 2000) ∧ (0 ≤ wt ∧ wt ≤ 100000)) = D := ⟨_, rfl⟩
                          have HD := Lib.hid hD
                          clear hD
                          have Hw1 := Lib.hid (fun w => in_any dy 0 2000 w)
                          have Hw2 := Lib.hid (fun w => in_any wt 0 100000 w)
                          obtain ⟨W1, HW1⟩ : ∃ W1, Hid (decide (0 ≤ dy ∧ dy ≤ 2000) = W1) := ⟨_, Lib.hid rfl⟩
                          obtain ⟨W2, HW2⟩ : ∃ W2, Hid (decide (0 ≤ wt ∧ wt ≤ 100000) = W2) := ⟨_, Lib.hid rfl⟩
                          rw [HW1.out] at Hw1
                          rw [HW2.out] at Hw2
                          have HD2 : Hid (D = (W1 && W2)) := by show _ = _; rw [← HD.out, ← HW1.out, ← HW2.out, ← Bool.decide_and]
                          clear HW1 HW2
                          go_upto_region 26 with fail
                          go_cut [69] (fun s38 wx => s38 = .bool (!D) ∧ w4 = wx)
                          case first =>
                            go_wp2_with fail
                            ((with_reducible refine (Hw1.out _).mono ?_); rintro e _ ⟨rfl, rfl⟩)
                            cases W1
                            · go_wp2_with fail
                              go_meet
                              exact ⟨by rw [HD2.out]; simp, rfl⟩
                            · go_wp2_with fail
                              ((with_reducible refine (Hw2.out _).mono ?_); rintro e _ ⟨rfl, rfl⟩)
                              go_wp2_with fail
                              go_meet
                              exact ⟨by rw [HD2.out]; simp, rfl⟩
                          case rest =>
                            obtain ⟨rfl, rfl⟩ := hcut
                            clear Hw1 Hw2 HD2
                            cases D
                            · have Hn2 : Hid (1 = F) := step_is Hts.out (H2.out HB2.out (of_decide_eq_false HD.out)) (by decide)
                              have Hn3 : Hid (1 = R) := step_is Hn.out Hn2.out.symm (by decide)
                              go_wp2_with fail
                              go_ret
                              exact ⟨ret_i Hn3.out, Hb5.out⟩
                            · have H4 := Lib.hid (H3.out HB2.out (of_decide_eq_true HD.out))
                              clear H2 H3 HB2 HD
                              go_upto_region 28 with fail
                              go_cut [80] (fun s80 wx => s80 = .bool O ∧ w4 = wx)
                              case first =>
                                cases hA : Op.bytesLess t.region.toList rg.toList
                                · cases hE : (t.region.toList == rg.toList)
                                  · go_wp2_with fail
                                    go_meet
                                    exact ⟨by rw [← HO2.out, hA, hE]; rfl, rfl⟩
                                  · go_wp2_with fail
                                    go_meet
                                    exact ⟨by rw [← HO2.out, hA, hE]; rfl, rfl⟩
                                · go_wp2_with fail
                                  go_meet
                                  exact ⟨by rw [← HO2.out, hA]; rfl, rfl⟩
                              case rest =>
                                obtain ⟨rfl, rfl⟩ := hcut
                                clear HO2
                                cases O
                                · have Hn2 := Lib.hid (step_go Hts.out (by rw [H4.out]; rfl))
                                  go_wp2_with fail
                                  go_quiet (fail)
                                  go_wp2_with fail
                                  go_roundw
                                  case rel => exact ⟨j + 1, t.region, t.channel, by omega, by go_num, rfl, rfl, by rw [ahd_succ p.terms j t Ht.out]; exact ⟨rfl, rfl⟩, by rw [ahd_succ p.terms j t Ht.out]; exact Hn2.out, Hb6.out.trans (below_drewN _ _ _)⟩
                                  case measure => simp [intOf]; omega
                                · have Hn2 : Hid (7 = F) := step_is Hts.out (by rw [H4.out]; rfl) (by decide)
                                  have Hn3 : Hid (7 = R) := step_is Hn.out Hn2.out.symm (by decide)
                                  go_wp2_with fail
                                  go_ret
                                  exact ⟨ret_i Hn3.out, Hb5.out⟩
                        · have Hn2 : Hid (3 = F) := step_is Hts.out (H1.out (of_decide_eq_true HB.out)) (by decide)
                          have Hn3 : Hid (3 = R) := step_is Hn.out Hn2.out.symm (by decide)
                          go_wp2_with fail
                          go_ret
                          exact ⟨ret_i Hn3.out, Hb5.out⟩
                · have HF3 : Hid (0 = F) := by show _ = _; rw [← Hr.out, List.drop_eq_nil_of_le (by omega)]; rfl
                  have Hn2 := Lib.hid (step_go Hn.out HF3.out.symm)
                  have Hb3 : Hid (Below w.heap.size w wr) := Hb2.out.trans (hbl.mono Hb2.out.size)
                  go_wp2_with fail
                  go_roundw
                  case rel => exact ⟨k + 1, p.name, by omega, by go_num, rfl, by rw [ahd_succ xs k p Hf.out]; rfl, by rw [ahd_succ xs k p Hf.out]; exact Hn2.out, Hb3.out⟩
                  case measure => simp [intOf]; omega
          · have Hn : Hid (7 = R) := (policyGo_ord HK.out HB.out).symm.trans Hstep.out
            go_upto_if 27 with fail
            rw [HB2.out]
            go_wp2_with fail
            go_ret
            exact ⟨ret_i Hn.out, Hb2.out⟩
      · go_wp2_with fail
        go_ret
        exact ⟨ret_i (by rw [← Hr.out, List.drop_eq_nil_of_le (by omega)]; rfl), hbl⟩
end Go.Proofs.YtlnklkedpknbpaaGreatDoor
