/- What handref2.StatementsFault returns. -/
import Derived.Test.YthmkphmciiiagaaGreatDoorStmChk
import Derived.Test.YthmkphmciiiagaaGreatDoorPackC
namespace Go.Proofs.YthmkphmciiiagaaGreatDoor
open Go.RowKit
/-- the number of the statement before the k-th, or 0 -/
def lastNo (l : List Stm) (k : Nat) : Int := ((ahd l k).map (·.no)).getD 0
theorem lastNo_succ (l : List Stm) (k : Nat) (s : Stm) (h : l[k]? = some s) : lastNo l (k + 1) = s.no := by rw [lastNo, ahd_succ l k s h]; rfl
theorem lastNo_any (l : List Stm) (k : Nat) (s : Stm) (h : 1 ≤ s.no) : (ahd l k).any (fun q => decide (s.no ≤ q.no)) = decide (s.no ≤ lastNo l k) := by
  unfold lastNo
  cases ahd l k with
  | none => simp; omega
  | some q => simp
set_option maxHeartbeats 8000000 in
set_option maxRecDepth 100000 in
theorem refStms_any (N : Nat → Prop) (A Al : Option Addr) (p : List Purp) (l : List Stm) (c cl : Nat) (w : World) (hS : Sl rPurp N w A p) (hok : PolOk p) (hL : Sl rStm N w Al l) (hlo : StmOk l) (hM : MaxL w) :
    Calls Tryz.prog 33 #[.slice A p.length c, .slice Al l.length cl] w fun e w' => e = .returned (.int .i64 (stmsFault p l)) ∧ Below w.heap.size w w' := by
  have HS := Lib.hid hS
  have HL := Lib.hid hL
  have Hlo := Lib.hid hlo
  have HM := Lib.hid hM
  have hln := hlo.len
  have Hc := Lib.hid (policyFault_any N A p c w hS hok)
  have Hpl := Lib.hid hok.len
  clear hS hL hlo hM hok
  obtain ⟨R, HR⟩ : ∃ R, Hid (stmsFault p l = R) := ⟨_, Lib.hid rfl⟩
  rw [HR.out]
  obtain ⟨F0, HF0⟩ : ∃ F0, Hid (policyFault p = F0) := ⟨_, Lib.hid rfl⟩
  rw [HF0.out] at Hc
  go_enter Tryz.func33, Tryz.ntmps33
  go_wp2_with fail
  ((with_reducible refine (Hc.out).mono ?_); rintro e w1 ⟨rfl, hb1⟩)
  have HB1 := Lib.hid hb1
  clear hb1 Hc
  by_cases hF0 : F0 = 0
  · by_cases h20 : 3000 < l.length
    · subst hF0
      go_wp2_with fail
      go_ret
      exact ⟨ret_i (by rw [← HR.out, stmsFault, if_neg (by simp [HF0.out]), if_pos h20]), HB1.out⟩
    · have HR2 : Hid (stmsGo p none l = R) := by show _ = _; rw [← HR.out, stmsFault, if_neg (by simp [HF0.out, hF0]), if_neg h20]
      subst hF0
      clear HR HF0
      go_wp2_with fail
      go_loopw [6, 21] (fun la i wr => ∃ k : Nat, k ≤ l.length ∧ i = .int .i64 k ∧ la = .int .i64 (lastNo l k) ∧ stmsGo p (ahd l k) (l.drop k) = R ∧ Below w.heap.size w wr) (fun _ i _ => l.length - (intOf i).toNat)
      case atStart => exact ⟨0, Nat.zero_le _, rfl, rfl, HR2.out, HB1.out⟩
      case round =>
        clear HR2 HB1
        obtain ⟨k, hk, rfl, rfl, hr, hbl⟩ := hrel
        have Hr := Lib.hid hr
        clear hr
        by_cases hlt : k < l.length
        · obtain ⟨s, hf⟩ : ∃ s, l[k]? = some s := ⟨_, List.getElem?_eq_getElem hlt⟩
          have hLr := HL.out.keepB hbl
          obtain ⟨blk, off, rfl, hblk, d0, d1, d2, d3, d4, d5, d6, d7⟩ := hLr.stm k s hf
          have hst := Hlo.out.tx s (List.mem_of_getElem? hf)
          have hsr := Hlo.out.rg s (List.mem_of_getElem? hf)
          obtain ⟨D1, HD1⟩ : ∃ D1, Hid (decide (1 ≤ s.no ∧ s.no ≤ 1000000) = D1) := ⟨_, Lib.hid rfl⟩
          obtain ⟨B, HB⟩ : ∃ B, Hid ((ahd l k).any (fun q => decide (s.no ≤ q.no)) = B) := ⟨_, Lib.hid rfl⟩
          obtain ⟨D2, HD2⟩ : ∃ D2, Hid (decide (0 ≤ s.at' ∧ s.at' ≤ 4321439) = D2) := ⟨_, Lib.hid rfl⟩
          obtain ⟨F, HF⟩ : ∃ F, Hid (L.idFault s.kind s.text = F) := ⟨_, Lib.hid rfl⟩
          obtain ⟨C, HC⟩ : ∃ C, Hid (isCh s.channel = C) := ⟨_, Lib.hid rfl⟩
          obtain ⟨D3, HD3⟩ : ∃ D3, Hid (decide (1 ≤ s.what ∧ s.what ≤ 5) = D3) := ⟨_, Lib.hid rfl⟩
          obtain ⟨W, HW⟩ : ∃ W, Hid (whole s.what = W) := ⟨_, Lib.hid rfl⟩
          obtain ⟨E, HE⟩ : ∃ E, Hid ((s.purpose.toList == []) = E) := ⟨_, Lib.hid rfl⟩
          obtain ⟨H, HH⟩ : ∃ H, Hid (hasP p s.purpose = H) := ⟨_, Lib.hid rfl⟩
          obtain ⟨K, HK⟩ : ∃ K, Hid (L.isKey s.region = K) := ⟨_, Lib.hid rfl⟩
          have Hstep : Hid ((if stmE D1 B D2 F C D3 W E H K ≠ 0 then stmE D1 B D2 F C D3 W E H K else stmsGo p (some s) (l.drop (k + 1))) = R) := by
            show _ = _
            rw [← Hr.out, drop_at3 hf, stmsGo, stmF, HD1.out, HB.out, HD2.out, HF.out, HC.out, HD3.out, HW.out, HE.out, HH.out, HK.out]
          have Hf := Lib.hid hf
          clear Hr hf
          have C1 : Hid (∀ w, Calls Tryz.prog 74 #[.int .i64 s.no, .int .i64 1, .int .i64 1000000] w fun e w' => e = .returned (.bool D1) ∧ w = w') := fun w => HD1.out ▸ in_any s.no 1 1000000 w
          have C2 : Hid (∀ w, Calls Tryz.prog 74 #[.int .i64 s.at', .int .i64 0, .int .i64 4321439] w fun e w' => e = .returned (.bool D2) ∧ w = w') := fun w => HD2.out ▸ in_any s.at' 0 4321439 w
          have C3 : Hid (∀ w, MaxL w → Calls Tryz.prog 19 #[.agg #[.int .i64 s.kind, .string s.text]] w fun e w' => e = .returned (.int .i64 F) ∧ Below w.heap.size w w') := fun w h => HF.out ▸ refId_any s.kind s.text w hst h
          have C4 : Hid (∀ w, Calls Tryz.prog 74 #[.int .i64 s.channel, .int .i64 1, .int .i64 4] w fun e w' => e = .returned (.bool C) ∧ w = w') := fun w => HC.out ▸ in_any s.channel 1 4 w
          have C5 : Hid (∀ w, Calls Tryz.prog 74 #[.int .i64 s.what, .int .i64 1, .int .i64 5] w fun e w' => e = .returned (.bool D3) ∧ w = w') := fun w => HD3.out ▸ in_any s.what 1 5 w
          have C6 : Hid (∀ w', Below w.heap.size w w' → Calls Tryz.prog 94 #[.slice A p.length c, .string s.purpose] w' fun e w'' => e = .returned (.bool H) ∧ Below w'.heap.size w' w'') := fun w' h => HH.out ▸ hasPurpose_any N A p s.purpose c w' (HS.out.keepB h) Hpl.out
          have C7 : Hid (∀ w, Calls Tryz.prog 95 #[.string s.region] w fun e w' => e = .returned (.bool K) ∧ Below w.heap.size w w') := fun w => HK.out ▸ Key_any s.region w (by omega)
          have HBl : Hid (D1 = true → decide (s.no ≤ lastNo l k) = B) := fun h => by rw [← HB.out, lastNo_any l k s]; rw [← HD1.out] at h; exact (of_decide_eq_true h).1
          have HWw : Hid (s.what = 4 ∨ s.what = 5 ↔ W = true) := by show _ ↔ _; rw [← HW.out]; simp [whole]
          clear HD1 HD2 HF HC HD3 HW HK HB
          have hb0 : Below wr.heap.size wr (wr.alloc (.cells (stmCs s) 38)) := (Below.refl _ _).alloc (Nat.le_refl _) _
          have Hb1 : Hid (Below w.heap.size w (wr.alloc (.cells (stmCs s) 38))) := hbl.alloc hbl.size _
          have lvY := LV.new wr wr.heap.size (stmCs s) 38 rfl
          clear hLr hb0
          obtain ⟨Y, hY⟩ : ∃ Y, Y = wr.heap.size := ⟨_, rfl⟩
          go_upto_region 10 with fail
          clear d0 d1 d2 d3 d4 d5 d6 d7
          rw [← hY] at lvY ⊢
          generalize wr.alloc (.cells (stmCs s) 38) = w1 at *
          clear hY hbl
          have c0 : w1.cell? ⟨Y, 0, none⟩ = some (.int .i64 s.no) := lvY.cell 0 _ rfl
          have c1 : w1.cell? ⟨Y, 1, none⟩ = some (.int .i64 s.at') := lvY.cell 1 _ rfl
          cases D1
          · have Hn : Hid (1 = R) := step_is Hstep.out rfl (by decide)
            go_wp2_with fail
            ((with_reducible refine (C1.out _).mono ?_); rintro e _ ⟨rfl, rfl⟩)
            go_wp2_with fail
            go_ret
            exact ⟨ret_i Hn.out, Hb1.out⟩
          · go_wp2_with fail
            ((with_reducible refine (C1.out _).mono ?_); rintro e _ ⟨rfl, rfl⟩)
            have hB : decide (s.no ≤ lastNo l k) = B := HBl.out (by trivial)
            cases B
            · cases D2
              · have Hn : Hid (1 = R) := step_is Hstep.out rfl (by decide)
                go_wp2_with fail
                ((with_reducible refine (C2.out _).mono ?_); rintro e _ ⟨rfl, rfl⟩)
                go_wp2_with fail
                go_ret
                exact ⟨ret_i Hn.out, Hb1.out⟩
              · go_wp2_with fail
                ((with_reducible refine (C2.out _).mono ?_); rintro e _ ⟨rfl, rfl⟩)
                have c2 : w1.cell? ⟨Y, 2, none⟩ = some (.int .i64 s.kind) := lvY.cell 2 _ rfl
                have c3 : w1.cell? ⟨Y, 3, none⟩ = some (.string s.text) := lvY.cell 3 _ rfl
                go_wp2_with fail
                ((with_reducible refine (C3.out w1 (HM.out.below Hb1.out)).mono ?_); rintro e w2 ⟨rfl, hl2⟩)
                have lv2 := LV.kb3 lvY hl2 lvY.lt
                have Hb2 : Hid (Below w.heap.size w w2) := Hb1.out.trans (hl2.mono Hb1.out.size)
                clear c0 c1 c2 c3 lvY hl2 Hb1 C1 C2 C3 hB HBl
                by_cases hF : F = 0
                · subst hF
                  have c4 : w2.cell? ⟨Y, 4, none⟩ = some (.string s.purpose) := lv2.cell 4 _ rfl
                  have c5 : w2.cell? ⟨Y, 5, none⟩ = some (.string s.region) := lv2.cell 5 _ rfl
                  have c6 : w2.cell? ⟨Y, 6, none⟩ = some (.int .i64 s.channel) := lv2.cell 6 _ rfl
                  have c7 : w2.cell? ⟨Y, 7, none⟩ = some (.int .i64 s.what) := lv2.cell 7 _ rfl
                  by_cases hw4 : s.what = 4
                  · obtain rfl : true = W := (HWw.out.1 (.inl hw4)).symm
                    have h4 : (s.what == 4) = true := by simpa using hw4
                    clear HWw hw4
                    cases C
                    · have Hn : Hid (4 = R) := step_is Hstep.out rfl (by decide)
                      go_wp2_with fail
                      ((with_reducible refine (C4.out _).mono ?_); rintro e _ ⟨rfl, rfl⟩)
                      go_wp2_with fail
                      go_ret
                      exact ⟨ret_i Hn.out, Hb2.out⟩
                    · go_wp2_with fail
                      ((with_reducible refine (C4.out _).mono ?_); rintro e _ ⟨rfl, rfl⟩)
                      cases D3
                      · have Hn : Hid (4 = R) := step_is Hstep.out rfl (by decide)
                        go_wp2_with fail
                        ((with_reducible refine (C5.out _).mono ?_); rintro e _ ⟨rfl, rfl⟩)
                        go_wp2_with fail
                        go_ret
                        exact ⟨ret_i Hn.out, Hb2.out⟩
                      · go_wp2_with fail
                        ((with_reducible refine (C5.out _).mono ?_); rintro e _ ⟨rfl, rfl⟩)
                        clear C4 C5
                        cases E
                        · have Hn : Hid (3 = R) := step_is Hstep.out rfl (by decide)
                          have hE : (s.purpose.toList == []) = false := HE.out
                          have hE2 : (s.purpose.toList != []) = true := by rw [bne, hE]; rfl
                          go_wp2_with fail
                          go_ret
                          exact ⟨ret_i Hn.out, Hb2.out⟩
                        · have hE : (s.purpose.toList == []) = true := HE.out
                          have hE2 : (s.purpose.toList != []) = false := by rw [bne, hE]; rfl
                          go_wp2_with fail
                          ((with_reducible refine (C7.out w2).mono ?_); rintro e w9 ⟨rfl, hl9⟩)
                          have Hb9 : Hid (Below w.heap.size w w9) := Hb2.out.trans (hl9.mono Hb2.out.size)
                          clear hl9
                          cases K
                          · have Hn : Hid (5 = R) := step_is Hstep.out (by first | rfl | (cases E <;> rfl) | (cases H <;> rfl)) (by decide)
                            go_wp2_with fail
                            go_ret
                            exact ⟨ret_i Hn.out, Hb9.out⟩
                          · have Hn : Hid (stmsGo p (some s) (l.drop (k + 1)) = R) := step_go Hstep.out (by first | rfl | (cases E <;> rfl) | (cases H <;> rfl))
                            go_wp2_with fail
                            go_roundw
                            case rel => exact ⟨k + 1, by omega, by go_num, by rw [lastNo_succ l k s Hf.out], by rw [ahd_succ l k s Hf.out]; exact Hn.out, Hb9.out⟩
                            case measure => simp [intOf]; omega
                  · have h4 : (s.what == 4) = false := by simpa using hw4
                    by_cases hw5 : s.what = 5
                    · obtain rfl : true = W := (HWw.out.1 (.inr hw5)).symm
                      have h5 : (s.what == 5) = true := by simpa using hw5
                      clear HWw hw5
                      cases C
                      · have Hn : Hid (4 = R) := step_is Hstep.out rfl (by decide)
                        go_wp2_with fail
                        ((with_reducible refine (C4.out _).mono ?_); rintro e _ ⟨rfl, rfl⟩)
                        go_wp2_with fail
                        go_ret
                        exact ⟨ret_i Hn.out, Hb2.out⟩
                      · go_wp2_with fail
                        ((with_reducible refine (C4.out _).mono ?_); rintro e _ ⟨rfl, rfl⟩)
                        cases D3
                        · have Hn : Hid (4 = R) := step_is Hstep.out rfl (by decide)
                          go_wp2_with fail
                          ((with_reducible refine (C5.out _).mono ?_); rintro e _ ⟨rfl, rfl⟩)
                          go_wp2_with fail
                          go_ret
                          exact ⟨ret_i Hn.out, Hb2.out⟩
                        · go_wp2_with fail
                          ((with_reducible refine (C5.out _).mono ?_); rintro e _ ⟨rfl, rfl⟩)
                          clear C4 C5
                          cases E
                          · have Hn : Hid (3 = R) := step_is Hstep.out rfl (by decide)
                            have hE : (s.purpose.toList == []) = false := HE.out
                            have hE2 : (s.purpose.toList != []) = true := by rw [bne, hE]; rfl
                            go_wp2_with fail
                            go_ret
                            exact ⟨ret_i Hn.out, Hb2.out⟩
                          · have hE : (s.purpose.toList == []) = true := HE.out
                            have hE2 : (s.purpose.toList != []) = false := by rw [bne, hE]; rfl
                            go_wp2_with fail
                            ((with_reducible refine (C7.out w2).mono ?_); rintro e w9 ⟨rfl, hl9⟩)
                            have Hb9 : Hid (Below w.heap.size w w9) := Hb2.out.trans (hl9.mono Hb2.out.size)
                            clear hl9
                            cases K
                            · have Hn : Hid (5 = R) := step_is Hstep.out (by first | rfl | (cases E <;> rfl) | (cases H <;> rfl)) (by decide)
                              go_wp2_with fail
                              go_ret
                              exact ⟨ret_i Hn.out, Hb9.out⟩
                            · have Hn : Hid (stmsGo p (some s) (l.drop (k + 1)) = R) := step_go Hstep.out (by first | rfl | (cases E <;> rfl) | (cases H <;> rfl))
                              go_wp2_with fail
                              go_roundw
                              case rel => exact ⟨k + 1, by omega, by go_num, by rw [lastNo_succ l k s Hf.out], by rw [ahd_succ l k s Hf.out]; exact Hn.out, Hb9.out⟩
                              case measure => simp [intOf]; omega
                    · have h5 : (s.what == 5) = false := by simpa using hw5
                      obtain rfl : false = W := by
                        cases W with
                        | false => rfl
                        | true => exact absurd (HWw.out.2 rfl) (by omega)
                      clear HWw
                      cases C
                      · have Hn : Hid (4 = R) := step_is Hstep.out rfl (by decide)
                        go_wp2_with fail
                        ((with_reducible refine (C4.out _).mono ?_); rintro e _ ⟨rfl, rfl⟩)
                        go_wp2_with fail
                        go_ret
                        exact ⟨ret_i Hn.out, Hb2.out⟩
                      · go_wp2_with fail
                        ((with_reducible refine (C4.out _).mono ?_); rintro e _ ⟨rfl, rfl⟩)
                        cases D3
                        · have Hn : Hid (4 = R) := step_is Hstep.out rfl (by decide)
                          go_wp2_with fail
                          ((with_reducible refine (C5.out _).mono ?_); rintro e _ ⟨rfl, rfl⟩)
                          go_wp2_with fail
                          go_ret
                          exact ⟨ret_i Hn.out, Hb2.out⟩
                        · go_wp2_with fail
                          ((with_reducible refine (C5.out _).mono ?_); rintro e _ ⟨rfl, rfl⟩)
                          clear C4 C5
                          go_wp2_with fail
                          ((with_reducible refine (C6.out w2 Hb2.out).mono ?_); rintro e w3 ⟨rfl, hl3⟩)
                          have Hb3 : Hid (Below w.heap.size w w3) := Hb2.out.trans (hl3.mono Hb2.out.size)
                          have lv3 := LV.kb3 lv2 hl3 lv2.lt
                          clear c4 c5 c6 c7 hl3
                          have c5 : w3.cell? ⟨Y, 5, none⟩ = some (.string s.region) := lv3.cell 5 _ rfl
                          cases H
                          · have Hn : Hid (8 = R) := step_is Hstep.out rfl (by decide)
                            go_wp2_with fail
                            go_ret
                            exact ⟨ret_i Hn.out, Hb3.out⟩
                          · go_wp2_with fail
                            ((with_reducible refine (C7.out w3).mono ?_); rintro e w9 ⟨rfl, hl9⟩)
                            have Hb9 : Hid (Below w.heap.size w w9) := Hb3.out.trans (hl9.mono Hb3.out.size)
                            clear hl9
                            cases K
                            · have Hn : Hid (5 = R) := step_is Hstep.out (by first | rfl | (cases E <;> rfl) | (cases H <;> rfl)) (by decide)
                              go_wp2_with fail
                              go_ret
                              exact ⟨ret_i Hn.out, Hb9.out⟩
                            · have Hn : Hid (stmsGo p (some s) (l.drop (k + 1)) = R) := step_go Hstep.out (by first | rfl | (cases E <;> rfl) | (cases H <;> rfl))
                              go_wp2_with fail
                              go_roundw
                              case rel => exact ⟨k + 1, by omega, by go_num, by rw [lastNo_succ l k s Hf.out], by rw [ahd_succ l k s Hf.out]; exact Hn.out, Hb9.out⟩
                              case measure => simp [intOf]; omega
                · have Hn : Hid (F = R) := step_is Hstep.out (by simp [stmE, hF]) hF
                  have hF' : (F != 0) = true := by simpa using hF
                  go_wp2_with fail
                  go_ret
                  exact ⟨ret_i Hn.out, Hb2.out⟩
            · have Hn : Hid (7 = R) := step_is Hstep.out rfl (by decide)
              go_wp2_with fail
              go_ret
              exact ⟨ret_i Hn.out, Hb1.out⟩
        · go_wp2_with fail
          go_ret
          exact ⟨ret_i (by rw [← Hr.out, List.drop_eq_nil_of_le (by omega)]; rfl), hbl⟩
  · have hF' : (F0 != 0) = true := by simpa using hF0
    go_wp2_with fail
    go_ret
    exact ⟨ret_i (by rw [← HR.out, stmsFault, if_pos (by rw [HF0.out]; exact hF0), HF0.out]), HB1.out⟩
end Go.Proofs.YthmkphmciiiagaaGreatDoor
