/- What consent.Check returns. -/
import Derived.Test.YthmkphmciiiagaaGreatDoorStmLaw
namespace Go.Proofs.YthmkphmciiiagaaGreatDoor
open Go.RowKit
theorem idLoad {w : World} {X : Nat} {a b : Value} (c0 : w.cell? ⟨X, 2, none⟩ = some a) (c1 : w.cell? ⟨X, 3, none⟩ = some b) : (Instr.loadAt 29 (.pointer (some ⟨X, 2, none⟩))).run Tryz.prog w = .ok (.agg #[a, b]) w := by
  go_simp
set_option maxHeartbeats 8000000 in
set_option maxRecDepth 100000 in
theorem check_any (N : Nat → Prop) (A Al : Option Addr) (p : List Purp) (l : List Stm) (c cl : Nat) (w : World) (hS : Sl rPurp N w A p) (hok : PolOk p) (hL : Sl rStm N w Al l) (hlo : StmOk l) (hM : MaxL w) :
    Calls Tryz.prog 89 #[.slice A p.length c, .slice Al l.length cl] w fun e w' => e = .returned (.int .i64 (stmsFault p l)) ∧ Below w.heap.size w w' := by
  have HS := Lib.hid hS
  have HL := Lib.hid hL
  have Hlo := Lib.hid hlo
  have HM := Lib.hid hM
  have hln := hlo.len
  have Hc := Lib.hid (checkPolicy_any N A p c w hS hok)
  have Hg : Hid (policyFault p = 0 → GoodPol p) := fun h => policy_good h
  clear hS hL hlo hM hok
  obtain ⟨R, HR⟩ : ∃ R, Hid (stmsFault p l = R) := ⟨_, Lib.hid rfl⟩
  rw [HR.out]
  obtain ⟨F0, HF0⟩ : ∃ F0, Hid (policyFault p = F0) := ⟨_, Lib.hid rfl⟩
  rw [HF0.out] at Hc
  go_enter Tryz.func89, Tryz.ntmps89
  go_wp2_with fail
  ((with_reducible refine (Hc.out).mono ?_); rintro e w1 ⟨rfl, hb1⟩)
  have HB1 := Lib.hid hb1
  clear hb1 Hc
  by_cases hF0 : F0 = 0
  · have Hgp := Lib.hid (Hg.out (by rw [HF0.out, hF0]))
    by_cases h20 : 3000 < l.length
    · subst hF0
      go_wp2_with fail
      go_ret
      exact ⟨ret_i (by rw [← HR.out, stmsFault, if_neg (by simp [HF0.out]), if_pos h20]), HB1.out⟩
    · have HR2 : Hid (stmsGo p none l = R) := by show _ = _; rw [← HR.out, stmsFault, if_neg (by simp [HF0.out, hF0]), if_neg h20]
      subst hF0
      clear HR HF0 Hg
      go_wp2_with fail
      go_loopw [21] (fun i wr => ∃ k : Nat, k ≤ l.length ∧ i = .int .i64 k ∧ stmsGo p (ahd l k) (l.drop k) = R ∧ Below w.heap.size w wr) (fun i _ => l.length - (intOf i).toNat)
      case atStart => exact ⟨0, Nat.zero_le _, rfl, HR2.out, HB1.out⟩
      case round =>
        clear HR2 HB1
        obtain ⟨k, hk, rfl, hr, hbl⟩ := hrel
        have Hr := Lib.hid hr
        clear hr
        by_cases hlt : k < l.length
        · obtain ⟨s, hf⟩ : ∃ s, l[k]? = some s := ⟨_, List.getElem?_eq_getElem hlt⟩
          have hLr := HL.out.keepB hbl
          obtain ⟨blk, off, rfl, hblk, d0, d1, d2, d3, d4, d5, d6, d7⟩ := hLr.stm k s hf
          have hst := Hlo.out.tx s (List.mem_of_getElem? hf)
          have hsr := Hlo.out.rg s (List.mem_of_getElem? hf)
          obtain ⟨D1, HD1⟩ : ∃ D1, Hid (decide (1 ≤ s.no ∧ s.no ≤ 1000000) = D1) := ⟨_, Lib.hid rfl⟩
          obtain ⟨B, HB⟩ : ∃ B, Hid ((ahd l k).any (fun q => decide (s.no ≤ q.no)) = B) := ⟨_, Lib.hid rfl⟩
          obtain ⟨D2, HD2⟩ : ∃ D2, Hid (decide (0 ≤ s.at' ∧ s.at' ≤ 4321439) = D2) := ⟨_, Lib.hid rfl⟩
          obtain ⟨F, HF⟩ : ∃ F, Hid (L.idFault s.kind s.text = F) := ⟨_, Lib.hid rfl⟩
          obtain ⟨C, HC⟩ : ∃ C, Hid (isCh s.channel = C) := ⟨_, Lib.hid rfl⟩
          obtain ⟨D3, HD3⟩ : ∃ D3, Hid (decide (1 ≤ s.what ∧ s.what ≤ 5) = D3) := ⟨_, Lib.hid rfl⟩
          obtain ⟨W, HW⟩ : ∃ W, Hid (whole s.what = W) := ⟨_, Lib.hid rfl⟩
          obtain ⟨E, HE⟩ : ∃ E, Hid ((s.purpose.toList == []) = E) := ⟨_, Lib.hid rfl⟩
          obtain ⟨H, HH⟩ : ∃ H, Hid (hasP p s.purpose = H) := ⟨_, Lib.hid rfl⟩
          obtain ⟨K, HK⟩ : ∃ K, Hid (L.isKey s.region = K) := ⟨_, Lib.hid rfl⟩
          have Hstep : Hid ((if stmE D1 B D2 F C D3 W E H K ≠ 0 then stmE D1 B D2 F C D3 W E H K else stmsGo p (some s) (l.drop (k + 1))) = R) := by
            show _ = _
            rw [← Hr.out, drop_at3 hf, stmsGo, stmF, HD1.out, HB.out, HD2.out, HF.out, HC.out, HD3.out, HW.out, HE.out, HH.out, HK.out]
          have Hf := Lib.hid hf
          clear Hr hf
          have C1 : Hid (∀ w, Calls Tryz.prog 84 #[.int .i64 s.no, .int .i64 1, .int .i64 1000000] w fun e w' => e = .returned (.bool D1) ∧ w = w') := fun w => HD1.out ▸ cwithin_any s.no 1 1000000 w
          have C2 : Hid (∀ w, Calls Tryz.prog 84 #[.int .i64 s.at', .int .i64 0, .int .i64 4321439] w fun e w' => e = .returned (.bool D2) ∧ w = w') := fun w => HD2.out ▸ cwithin_any s.at' 0 4321439 w
          have C3 : Hid (∀ w, MaxL w → Calls Tryz.prog 70 #[.agg #[.int .i64 s.kind, .string s.text]] w fun e w' => e = .returned (.int .i64 F) ∧ Below w.heap.size w w') := fun w h => HF.out ▸ checkId_any s.kind s.text w hst h
          have C4 : Hid (∀ w, Calls Tryz.prog 176 #[.int .i64 s.channel] w fun e w' => e = .returned (.bool C) ∧ w = w') := fun w => HC.out ▸ cchannel_any s.channel w
          have C5 : Hid (∀ w, Calls Tryz.prog 84 #[.int .i64 s.what, .int .i64 1, .int .i64 5] w fun e w' => e = .returned (.bool D3) ∧ w = w') := fun w => HD3.out ▸ cwithin_any s.what 1 5 w
          have C6 : Hid (∀ w, Calls Tryz.prog 61 #[.int .i64 s.what] w fun e w' => e = .returned (.bool W) ∧ w = w') := fun w => HW.out ▸ ofChannel_any s.what w
          have C7 : Hid (∀ w, Calls Tryz.prog 115 #[.string s.region] w fun e w' => e = .returned (.bool K) ∧ w = w') := fun w => HK.out ▸ isKey_any s.region w (by omega)
          clear HD1 HD2 HF HC HD3 HW HK
          have hb0 : Below wr.heap.size wr (wr.alloc (.cells (stmCs s) 38)) := (Below.refl _ _).alloc (Nat.le_refl _) _
          have Hb1 : Hid (Below w.heap.size w (wr.alloc (.cells (stmCs s) 38))) := hbl.alloc hbl.size _
          have lvY := LV.new wr wr.heap.size (stmCs s) 38 rfl
          have HLr := Lib.hid (Sl.keepB hLr hb0)
          clear hLr hb0
          obtain ⟨Y, hY⟩ : ∃ Y, Y = wr.heap.size := ⟨_, rfl⟩
          go_upto_region 9 with fail
          clear d0 d1 d2 d3 d4 d5 d6 d7
          rw [← hY] at lvY ⊢
          generalize wr.alloc (.cells (stmCs s) 38) = w1 at *
          clear hY hbl
          have c0 : w1.cell? ⟨Y, 0, none⟩ = some (.int .i64 s.no) := lvY.cell 0 _ rfl
          cases D1
          · have Hn : Hid (1 = R) := step_is Hstep.out rfl (by decide)
            go_wp2_with fail
            ((with_reducible refine (C1.out _).mono ?_); rintro e _ ⟨rfl, rfl⟩)
            go_wp2_with fail
            go_ret
            exact ⟨ret_i Hn.out, Hb1.out⟩
          · go_wp2_with fail
            ((with_reducible refine (C1.out _).mono ?_); rintro e _ ⟨rfl, rfl⟩)
            go_upto_region 11 with fail
            go_cut [31] (fun s31 wx => s31 = .bool B ∧ Below w1.heap.size w1 wx)
            case first =>
              by_cases hk0 : k = 0
              · subst hk0
                obtain rfl : false = B := HB.out
                go_wp2_with fail
                go_quiet (fail)
                first | go_meet | (go_wp2_with fail; go_meet)
                exact ⟨rfl, below_drewN _ _ _⟩
              · obtain ⟨q, rfl⟩ : ∃ q, k = q + 1 := ⟨k - 1, by omega⟩
                obtain ⟨s', hp⟩ : ∃ s', l[q]? = some s' := ⟨_, List.getElem?_eq_getElem (by omega)⟩
                have HB2 : Hid (decide (s.no ≤ s'.no) = B) := by
                  show _ = _
                  rw [← HB.out, ahd_succ l q s' hp]
                  simp
                obtain ⟨_, _, e, _, e0, _⟩ := HLr.out.stm q s' hp
                cases e
                clear HB hp
                go_wp2_with fail
                go_quiet (fail)
                first | go_meet | (go_wp2_with fail; go_meet)
                exact ⟨by rw [← HB2.out], below_drewN _ _ _⟩
            case rest =>
              obtain ⟨rfl, hbc⟩ := hcut
              have Hb2 : Hid (Below w.heap.size w wc) := Hb1.out.trans (hbc.mono Hb1.out.size)
              have lvc := LV.kb3 lvY hbc lvY.lt
              clear c0 hbc lvY Hb1 HB HLr C1
              cases B
              · have c1 : wc.cell? ⟨Y, 1, none⟩ = some (.int .i64 s.at') := lvc.cell 1 _ rfl
                cases D2
                · have Hn : Hid (1 = R) := step_is Hstep.out rfl (by decide)
                  go_wp2_with fail
                  ((with_reducible refine (C2.out _).mono ?_); rintro e _ ⟨rfl, rfl⟩)
                  go_wp2_with fail
                  go_ret
                  exact ⟨ret_i Hn.out, Hb2.out⟩
                · go_wp2_with fail
                  ((with_reducible refine (C2.out _).mono ?_); rintro e _ ⟨rfl, rfl⟩)
                  have c2 : wc.cell? ⟨Y, 2, none⟩ = some (.int .i64 s.kind) := lvc.cell 2 _ rfl
                  have c3 : wc.cell? ⟨Y, 3, none⟩ = some (.string s.text) := lvc.cell 3 _ rfl
                  go_wp2_with fail
                  ((with_reducible refine (C3.out wc (HM.out.below Hb2.out)).mono ?_); rintro e w2 ⟨rfl, hl2⟩)
                  have lv2 := LV.kb3 lvc hl2 lvc.lt
                  have Hb3 : Hid (Below w.heap.size w w2) := Hb2.out.trans (hl2.mono Hb2.out.size)
                  clear c1 c2 c3 lvc hl2 Hb2 C2 C3
                  by_cases hF : F = 0
                  · subst hF
                    have Hp := Lib.hid (purposeOf_any N A p s.purpose c w2 (HS.out.keepB Hb3.out) (by have := Hgp.out.len; omega) Hgp.out.rise)
                    unfold GivesPurp at Hp
                    rw [purpAt_has, HH.out] at Hp
                    generalize (purpAt p s.purpose).getD pZero = pp at *
                    have c4 : w2.cell? ⟨Y, 4, none⟩ = some (.string s.purpose) := lv2.cell 4 _ rfl
                    go_wp2_with fail
                    ((with_reducible refine (Hp.out).mono ?_); rintro e w3 ⟨At, ct, rfl, _, hl3⟩)
                    have lv3 := LV.kb3 lv2 hl3 lv2.lt
                    have hb4 : Below w3.heap.size w3 (w3.alloc (.cells #[.string pp.name, .slice At pp.terms.length ct] 75)) := (Below.refl _ _).alloc (Nat.le_refl _) _
                    have lv4 := LV.kb3 lv3 hb4 lv3.lt
                    have Hb4 : Hid (Below w.heap.size w (w3.alloc (.cells #[.string pp.name, .slice At pp.terms.length ct] 75))) := (Hb3.out.trans (hl3.mono Hb3.out.size)).alloc (Nat.le_trans Hb3.out.size hl3.size) _
                    clear c4 lv2 lv3 hl3 hb4 Hp HH
                    go_upto_region 19 with fail
                    generalize w3.alloc (.cells #[.string pp.name, .slice At pp.terms.length ct] 75) = w4 at *
                    have c4 : w4.cell? ⟨Y, 4, none⟩ = some (.string s.purpose) := lv4.cell 4 _ rfl
                    have c5 : w4.cell? ⟨Y, 5, none⟩ = some (.string s.region) := lv4.cell 5 _ rfl
                    have c6 : w4.cell? ⟨Y, 6, none⟩ = some (.int .i64 s.channel) := lv4.cell 6 _ rfl
                    have c7 : w4.cell? ⟨Y, 7, none⟩ = some (.int .i64 s.what) := lv4.cell 7 _ rfl
                    clear lv4
                    cases C
                    · have Hn : Hid (4 = R) := step_is Hstep.out rfl (by decide)
                      go_wp2_with fail
                      ((with_reducible refine (C4.out _).mono ?_); rintro e _ ⟨rfl, rfl⟩)
                      go_wp2_with fail
                      go_ret
                      exact ⟨ret_i Hn.out, Hb4.out⟩
                    · go_wp2_with fail
                      ((with_reducible refine (C4.out _).mono ?_); rintro e _ ⟨rfl, rfl⟩)
                      cases D3
                      · have Hn : Hid (4 = R) := step_is Hstep.out rfl (by decide)
                        go_wp2_with fail
                        ((with_reducible refine (C5.out _).mono ?_); rintro e _ ⟨rfl, rfl⟩)
                        go_wp2_with fail
                        go_ret
                        exact ⟨ret_i Hn.out, Hb4.out⟩
                      · go_wp2_with fail
                        ((with_reducible refine (C5.out _).mono ?_); rintro e _ ⟨rfl, rfl⟩)
                        clear C4 C5
                        cases W
                        · go_wp2_with fail
                          ((with_reducible refine (C6.out _).mono ?_); rintro e _ ⟨rfl, rfl⟩)
                          go_wp2_with fail
                          ((with_reducible refine (C6.out _).mono ?_); rintro e _ ⟨rfl, rfl⟩)
                          cases H
                          · have Hn : Hid (8 = R) := step_is Hstep.out rfl (by decide)
                            go_wp2_with fail
                            go_ret
                            exact ⟨ret_i Hn.out, Hb4.out⟩
                          · cases K
                            · have Hn : Hid (5 = R) := step_is Hstep.out (by first | rfl | (cases E <;> rfl) | (cases H <;> rfl)) (by decide)
                              go_wp2_with fail
                              ((with_reducible refine (C7.out _).mono ?_); rintro e _ ⟨rfl, rfl⟩)
                              go_wp2_with fail
                              go_ret
                              exact ⟨ret_i Hn.out, Hb4.out⟩
                            · have Hn : Hid (stmsGo p (some s) (l.drop (k + 1)) = R) := step_go Hstep.out (by first | rfl | (cases E <;> rfl) | (cases H <;> rfl))
                              go_wp2_with fail
                              ((with_reducible refine (C7.out _).mono ?_); rintro e _ ⟨rfl, rfl⟩)
                              go_wp2_with fail
                              go_roundw
                              case rel => exact ⟨k + 1, by omega, by go_num, by rw [ahd_succ l k s Hf.out]; exact Hn.out, Hb4.out⟩
                              case measure => simp [intOf]; omega
                        · cases E
                          · have Hn : Hid (3 = R) := step_is Hstep.out rfl (by decide)
                            have hE : (s.purpose.toList == []) = false := HE.out
                            have hE2 : (s.purpose.toList != []) = true := by rw [bne, hE]; rfl
                            go_wp2_with fail
                            ((with_reducible refine (C6.out _).mono ?_); rintro e _ ⟨rfl, rfl⟩)
                            go_wp2_with fail
                            go_ret
                            exact ⟨ret_i Hn.out, Hb4.out⟩
                          · have hE : (s.purpose.toList == []) = true := HE.out
                            have hE2 : (s.purpose.toList != []) = false := by rw [bne, hE]; rfl
                            go_wp2_with fail
                            ((with_reducible refine (C6.out _).mono ?_); rintro e _ ⟨rfl, rfl⟩)
                            go_wp2_with fail
                            ((with_reducible refine (C6.out _).mono ?_); rintro e _ ⟨rfl, rfl⟩)
                            clear hE hE2
                            cases K
                            · have Hn : Hid (5 = R) := step_is Hstep.out (by first | rfl | (cases E <;> rfl) | (cases H <;> rfl)) (by decide)
                              go_wp2_with fail
                              ((with_reducible refine (C7.out _).mono ?_); rintro e _ ⟨rfl, rfl⟩)
                              go_wp2_with fail
                              go_ret
                              exact ⟨ret_i Hn.out, Hb4.out⟩
                            · have Hn : Hid (stmsGo p (some s) (l.drop (k + 1)) = R) := step_go Hstep.out (by first | rfl | (cases E <;> rfl) | (cases H <;> rfl))
                              go_wp2_with fail
                              ((with_reducible refine (C7.out _).mono ?_); rintro e _ ⟨rfl, rfl⟩)
                              go_wp2_with fail
                              go_roundw
                              case rel => exact ⟨k + 1, by omega, by go_num, by rw [ahd_succ l k s Hf.out]; exact Hn.out, Hb4.out⟩
                              case measure => simp [intOf]; omega
                  · have Hn : Hid (F = R) := step_is Hstep.out (by simp [stmE, hF]) hF
                    have hF' : (F != 0) = true := by simpa using hF
                    go_wp2_with fail
                    go_ret
                    exact ⟨ret_i Hn.out, Hb3.out⟩
              · have Hn : Hid (7 = R) := step_is Hstep.out rfl (by decide)
                go_wp2_with fail
                go_ret
                exact ⟨ret_i Hn.out, Hb2.out⟩
        · go_wp2_with fail
          go_ret
          exact ⟨ret_i (by rw [← Hr.out, List.drop_eq_nil_of_le (by omega)]; rfl), hbl⟩
  · have hF' : (F0 != 0) = true := by simpa using hF0
    go_wp2_with fail
    go_ret
    exact ⟨ret_i (by rw [← HR.out, stmsFault, if_pos (by rw [HF0.out]; exact hF0), HF0.out]), HB1.out⟩
end Go.Proofs.YthmkphmciiiagaaGreatDoor
