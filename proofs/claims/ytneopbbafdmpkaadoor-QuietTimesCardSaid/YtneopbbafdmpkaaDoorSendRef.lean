/- What handref2.SendRulesFault returns. -/
import Derived.Test.YtneopbbafdmpkaaDoorSendRules
import Derived.Test.YtneopbbafdmpkaaDoorMix
namespace Go.Proofs.YtneopbbafdmpkaaDoor
open Go.RowKit
theorem capsGo_ch (c : SCap) (r : List SCap) (h : ¬ (0 ≤ c.channel ∧ c.channel ≤ 4)) : capsGo (c :: r) = 4 := by
  rw [capsGo, if_pos]
  intro e
  rcases e with e | e
  · omega
  · simp [isCh] at e; omega
theorem ch_ok {n : Int} (h : 0 ≤ n ∧ n ≤ 4) : ¬ ¬ (n = 0 ∨ isCh n = true) := by
  by_cases h0 : n = 0
  · exact not_not_intro (.inl h0)
  · exact not_not_intro (.inr (by simp [isCh]; omega))
theorem capsGo_pu (c : SCap) (r : List SCap) (h : 0 ≤ c.channel ∧ c.channel ≤ 4) (h2 : noneOr c.purpose = false) : capsGo (c :: r) = 5 := by rw [capsGo, if_neg (ch_ok h), if_pos h2]
theorem capsGo_rng (c : SCap) (r : List SCap) (h : 0 ≤ c.channel ∧ c.channel ≤ 4) (h2 : noneOr c.purpose = true) (h3 : ¬ ((1 ≤ c.many ∧ c.many ≤ 1000) ∧ (1 ≤ c.within ∧ c.within ≤ 100000))) : capsGo (c :: r) = 1 := by rw [capsGo, if_neg (ch_ok h), if_neg (by simp [h2]), if_pos h3]
theorem capsGo_ok (c : SCap) (r : List SCap) (h : 0 ≤ c.channel ∧ c.channel ≤ 4) (h2 : noneOr c.purpose = true) (h3 : (1 ≤ c.many ∧ c.many ≤ 1000) ∧ (1 ≤ c.within ∧ c.within ≤ 100000)) : capsGo (c :: r) = capsGo r := by rw [capsGo, if_neg (ch_ok h), if_neg (by simp [h2]), if_neg (not_not_intro h3)]
theorem LV.pool5 {w : World} {X : Nat} {a b c d e : Value} (h : LV w X #[a, b, c, d, e] 36) : (Instr.loadAt 36 (.pointer (some ⟨X, 0, none⟩))).run Tryd.prog w = .ok (.agg #[a, b, c, d, e]) w := by
  have c0 := h.cell 0 _ rfl
  have c1 := h.cell 1 _ rfl
  have c2 := h.cell 2 _ rfl
  have c3 := h.cell 3 _ rfl
  have c4 := h.cell 4 _ rfl
  go_simp
set_option maxHeartbeats 8000000 in
set_option maxRecDepth 100000 in
theorem refRules_any (N : Nat → Prop) (r : SRules) (Aq Ar Ac Ap Ad : Option Addr) (cq cr cc cpp cd : Nat) (w : World) (hI : RulesIn N w r Aq Ar Ac Ap Ad) (hO : RulesOk r) (hcap : r.ranks.length ≤ cr ∧ r.pools.length ≤ cpp) :
    Calls Tryd.prog 12 #[.agg #[.slice Aq r.quiet.length cq, .int .i64 r.qfrom, .int .i64 r.qto, .slice Ar r.ranks.length cr, .slice Ac r.caps.length cc, .slice Ap r.pools.length cpp, .slice Ad r.delays.length cd]] w fun e w' => e = .returned (.int .i64 (rulesFault r)) ∧ Below w.heap.size w w' := by
  have Hq := Lib.hid hI.q
  have HR0 : Hid (rulesFault r = rulesFault r) := rfl
  obtain ⟨qt, qf, qo, rk, cp, po, dl⟩ := r
  obtain ⟨Rq, HRq⟩ : ∃ R, Hid (quietGo none qt = R) := ⟨_, Lib.hid rfl⟩
  obtain ⟨Rr, HRr⟩ : ∃ R, Hid (ranksGo [] rk = R) := ⟨_, Lib.hid rfl⟩
  obtain ⟨Rc, HRc⟩ : ∃ R, Hid (capsFault cp = R) := ⟨_, Lib.hid rfl⟩
  obtain ⟨Rp, HRp⟩ : ∃ R, Hid (poolsFault po = R) := ⟨_, Lib.hid rfl⟩
  obtain ⟨Rd, HRd⟩ : ∃ R, Hid (delaysFault dl = R) := ⟨_, Lib.hid rfl⟩
  obtain ⟨R, HR⟩ : ∃ R, Hid ((if Rq ≠ 0 then Rq else if ¬ ((0 ≤ qf ∧ qf ≤ 1439) ∧ (0 ≤ qo ∧ qo ≤ 1439)) then 1 else if 30 < rk.length then 2 else if Rr ≠ 0 then Rr else if Rc ≠ 0 then Rc else if Rp ≠ 0 then Rp else Rd) = R) := ⟨_, Lib.hid rfl⟩
  have hspec : rulesFault ⟨qt, qf, qo, rk, cp, po, dl⟩ = R := by rw [rulesFault]; dsimp only; rw [HRq.out, HRr.out, HRc.out, HRp.out, HRd.out]; exact HR.out
  rw [hspec]
  clear hspec HR0
  have HbW : Hid (Below w.heap.size w (w.alloc (.cells #[.slice Aq qt.length cq, .int .i64 qf, .int .i64 qo, .slice Ar rk.length cr, .slice Ac cp.length cc, .slice Ap po.length cpp, .slice Ad dl.length cd] 30))) := (Below.refl _ _).alloc (Nat.le_refl _) _
  have lvX := LV.new w w.heap.size #[.slice Aq qt.length cq, .int .i64 qf, .int .i64 qo, .slice Ar rk.length cr, .slice Ac cp.length cc, .slice Ap po.length cpp, .slice Ad dl.length cd] 30 rfl
  have HSq : Hid (Sl rInt N _ Aq qt) := Lib.hid (hI.q.keepB HbW.out)
  have HSr : Hid (Sl rStr N _ Ar rk) := Lib.hid (hI.k.keepB HbW.out)
  have HSc : Hid (Sl rCap N _ Ac cp) := Lib.hid (hI.c.keepB HbW.out)
  have HSp : Hid (Sl rPool N _ Ap po) := Lib.hid (hI.p.keepB HbW.out)
  have HSd : Hid (Sl rInt N _ Ad dl) := Lib.hid (hI.d.keepB HbW.out)
  obtain ⟨hql, hrl, hcl, hpl, hdl, hrs, hcs, hps⟩ := hO
  dsimp only at hql hrl hcl hpl hdl hrs hcs hps
  have Hrs := Lib.hid hrs
  have Hcs := Lib.hid hcs
  have Hps := Lib.hid hps
  obtain ⟨hcap1, hcap2⟩ := hcap
  dsimp only at hcap1 hcap2
  clear hI Hq hrs hcs hps
  have HCh : Hid (∀ n w, Calls Tryd.prog 32 #[.int .i64 n, .int .i64 1, .int .i64 4] w fun e w' => e = .returned (.bool (isCh n)) ∧ w = w') := fun n w => in_any n 1 4 w
  have HWi := Lib.hid (fun n a b w => in_any n a b w)
  have HKey : Hid (∀ s w, s.size ≤ 1000 → Calls Tryd.prog 33 #[.string s] w fun e w' => e = .returned (.bool (L.isKey s)) ∧ Below w.heap.size w w') := fun s w hs => Key_any s w (by omega)
  go_enter Tryd.func12, Tryd.ntmps12
  go_wp2_with fail
  generalize w.alloc (.cells #[.slice Aq qt.length cq, .int .i64 qf, .int .i64 qo, .slice Ar rk.length cr, .slice Ac cp.length cc, .slice Ap po.length cpp, .slice Ad dl.length cd] 30) = W0 at *
  go_loopw [17] (fun i wr => ∃ k : Nat, k ≤ qt.length ∧ i = .int .i64 k ∧ quietGo (prevI qt k) (qt.drop k) = Rq ∧ W0 = wr) (fun i _ => qt.length - (intOf i).toNat)
  case atStart => exact ⟨0, Nat.zero_le _, rfl, HRq.out, rfl⟩
  case round =>
    clear HRq
    obtain ⟨k, hk, rfl, hr, rfl⟩ := hrel
    have Hr := Lib.hid hr
    clear hr
    have r0 : W0.cell? ⟨w.heap.size, 0, none⟩ = some (.slice Aq qt.length cq) := lvX.cell 0 _ rfl
    by_cases hlt : k < qt.length
    · obtain ⟨x, hx⟩ : ∃ x, qt[k]? = some x := ⟨_, List.getElem?_eq_getElem hlt⟩
      obtain ⟨blk, off, rfl, hblk, d0⟩ := HSq.out.int k x hx
      have Hs : Hid (quietGo (prevI qt k) (x :: qt.drop (k + 1)) = Rq) := by show _ = _; rw [← Hr.out, drop_at3 hx]
      have Hx := Lib.hid hx
      clear Hr hx
      by_cases h1 : isCh x = true
      · go_wp2_with fail
        ((with_reducible refine (HCh.out _ _).mono ?_); rintro e _ ⟨rfl, rfl⟩)
        rw [h1]
        by_cases hk0 : k = 0
        · have hk1 : decide ((0 : Int) < (k : Int)) = false := by simp; omega
          have Hn : Hid (quietGo (prevI qt (k + 1)) (qt.drop (k + 1)) = Rq) := by
            show _ = _
            have e := Hs.out
            rw [show prevI qt k = none by rw [hk0]; rfl, quietGo_one x _ h1] at e
            rw [prevI_succ Hx.out]
            exact e
          clear Hs
          go_wp2_with fail
          go_roundw
          case rel => exact ⟨k + 1, by omega, by go_num, Hn.out, by first | rfl | trivial⟩
          case measure => simp [intOf]; omega
        · obtain ⟨j, rfl⟩ : ∃ j, k = j + 1 := ⟨k - 1, by omega⟩
          obtain ⟨y, hy⟩ : ∃ y, qt[j]? = some y := ⟨_, List.getElem?_eq_getElem (by omega)⟩
          obtain ⟨_, _, e, _, d1⟩ := HSq.out.int j y hy
          cases e
          have hk1 : decide ((0 : Int) < (j : Int) + 1) = true := by rw [decide_eq_true_eq]; omega
          have hk3 : (j : Int) + 1 - 1 = (j : Int) := by omega
          have Hs2 : Hid (quietGo (some y) (x :: qt.drop (j + 1 + 1)) = Rq) := by
            show _ = _
            rw [← Hs.out, prevI_succ hy]
          clear Hs hy hk0
          by_cases hxy : x ≤ y
          · have Hn : Hid (7 = R) := by
              show _ = _
              have e : (7 : Int) = Rq := by rw [← Hs2.out, quietGo_le y x _ h1 hxy]
              rw [e]
              exact step_no HR.out (by rw [← e]; decide)
            clear Hs2 HR
            go_wp2_with fail
            go_ret
            exact ⟨ret_i Hn.out, HbW.out⟩
          · have Hn : Hid (quietGo (prevI qt (j + 1 + 1)) (qt.drop (j + 1 + 1)) = Rq) := by
              show _ = _
              rw [prevI_succ Hx.out, ← Hs2.out, quietGo_ok y x _ h1 hxy]
            clear Hs2
            go_wp2_with fail
            go_roundw
            case rel => exact ⟨j + 1 + 1, by omega, by go_num, Hn.out, by first | rfl | trivial⟩
            case measure => simp [intOf]; omega
      · have h1 : isCh x = false := by simpa using h1
        have Hn : Hid (4 = R) := by
          show _ = _
          have e : (4 : Int) = Rq := by rw [← Hs.out, quietGo_bad _ x _ h1]
          rw [e]
          exact step_no HR.out (by rw [← e]; decide)
        clear Hs HR
        go_wp2_with fail
        ((with_reducible refine (HCh.out _ _).mono ?_); rintro e _ ⟨rfl, rfl⟩)
        rw [h1]
        go_wp2_with fail
        go_ret
        exact ⟨ret_i Hn.out, HbW.out⟩
    · have HR2 : Hid ((if ¬ ((0 ≤ qf ∧ qf ≤ 1439) ∧ (0 ≤ qo ∧ qo ≤ 1439)) then 1 else if 30 < rk.length then 2 else if Rr ≠ 0 then Rr else if Rc ≠ 0 then Rc else if Rp ≠ 0 then Rp else Rd) = R) := by
        show _ = _
        exact step_go HR.out (by rw [← Hr.out, List.drop_eq_nil_of_le (by omega)]; rfl)
      clear HR Hr r0
      have r1 : W0.cell? ⟨w.heap.size, 1, none⟩ = some (.int .i64 qf) := lvX.cell 1 _ rfl
      have r2 : W0.cell? ⟨w.heap.size, 2, none⟩ = some (.int .i64 qo) := lvX.cell 2 _ rfl
      have r3 : W0.cell? ⟨w.heap.size, 3, none⟩ = some (.slice Ar rk.length cr) := lvX.cell 3 _ rfl
      by_cases h1 : (0 ≤ qf ∧ qf ≤ 1439)
      · have e1 : decide (0 ≤ qf ∧ qf ≤ 1439) = true := by simpa using h1
        by_cases h2 : (0 ≤ qo ∧ qo ≤ 1439)
        · have e2 : decide (0 ≤ qo ∧ qo ≤ 1439) = true := by simpa using h2
          go_wp2_with fail
          ((with_reducible refine (HWi.out _ _ _ _).mono ?_); rintro e _ ⟨rfl, rfl⟩)
          rw [e1]
          go_wp2_with fail
          ((with_reducible refine (HWi.out _ _ _ _).mono ?_); rintro e _ ⟨rfl, rfl⟩)
          rw [e2]
          by_cases h3 : 30 < rk.length
          · have Hn : Hid (2 = R) := big_no (rng_go HR2.out ⟨h1, h2⟩) h3
            clear HR2
            go_wp2_with fail
            go_ret
            exact ⟨ret_i Hn.out, HbW.out⟩
          · have HR3 : Hid ((if Rr ≠ 0 then Rr else if Rc ≠ 0 then Rc else if Rp ≠ 0 then Rp else Rd) = R) := big_go (rng_go HR2.out ⟨h1, h2⟩) h3
            clear HR2
            go_wp2_with fail
            clear r1 r2 r3
            go_loopw [55] (fun i wr => ∃ k : Nat, k ≤ rk.length ∧ i = .int .i64 k ∧ ranksGo (rk.take k) (rk.drop k) = Rr ∧ Below W0.heap.size W0 wr) (fun i _ => rk.length - (intOf i).toNat)
            case atStart => exact ⟨0, Nat.zero_le _, rfl, HRr.out, Below.refl _ _⟩
            case round =>
              clear HRr
              obtain ⟨k, hk, rfl, hr, hbl⟩ := hrel
              have Hr := Lib.hid hr
              have Hbl := Lib.hid hbl
              have Hbw := Lib.hid (HbW.out.trans (hbl.mono HbW.out.size))
              have lvr := LV.kb3 lvX hbl lvX.lt
              have HSr1 := Lib.hid (HSr.out.keepB hbl)
              clear hr hbl
              by_cases hlt : k < rk.length
              · obtain ⟨x, hx⟩ : ∃ x, rk[k]? = some x := ⟨_, List.getElem?_eq_getElem hlt⟩
                obtain ⟨blk, off, rfl, hblk, d0⟩ := HSr1.out.str k x hx
                have hxs := Hrs.out x (List.mem_of_getElem? hx)
                have Hs : Hid (ranksGo (rk.take k) (x :: rk.drop (k + 1)) = Rr) := by show _ = _; rw [← Hr.out, drop_at3 hx]
                have Htk := Lib.hid (take_snoc hx)
                have HKx := Lib.hid (fun w => HKey.out x w hxs)
                clear Hr hx
                by_cases h1 : L.isKey x = true
                · rw [h1] at HKx
                  go_wp2_with fail
                  ((with_reducible refine (HKx.out _).mono ?_); rintro e w1 ⟨rfl, hl1⟩)
                  have Hb1 := Lib.hid (Hbl.out.trans (hl1.mono Hbl.out.size))
                  have Hbw1 := Lib.hid (Hbw.out.trans (hl1.mono Hbw.out.size))
                  have r3 : w1.cell? ⟨w.heap.size, 3, none⟩ = some (.slice (some ⟨blk, off, none⟩) rk.length cr) := (LV.kb3 lvr hl1 lvr.lt).cell 3 _ rfl
                  have Hc := Lib.hid (containsStr_any N _ rk cr k x w1 (HSr1.out.keepB hl1) (by omega) (by omega))
                  obtain ⟨ct, hct⟩ : ∃ ct, Lib.containsS (rk.take k) x = ct := ⟨_, rfl⟩
                  rw [hct] at Hc
                  have Hct := Lib.hid hct
                  clear hl1 HKx hct
                  go_wp2_with fail
                  ((with_reducible refine (Hc.out).mono ?_); rintro e _ ⟨rfl, rfl⟩)
                  cases ct
                  · have Hn : Hid (ranksGo (rk.take (k + 1)) (rk.drop (k + 1)) = Rr) := by show _ = _; rw [← Hs.out, ranksGo_ok _ x _ h1 Hct.out, Htk.out]
                    clear Hs
                    go_wp2_with fail
                    go_roundw
                    case rel => exact ⟨k + 1, by omega, by go_num, Hn.out, Hb1.out⟩
                    case measure => simp [intOf]; omega
                  · have Hn : Hid (6 = R) := by
                      show _ = _
                      have e : (6 : Int) = Rr := by rw [← Hs.out, ranksGo_twice _ x _ h1 Hct.out]
                      rw [e]
                      exact step_no HR3.out (by rw [← e]; decide)
                    clear Hs HR3
                    go_wp2_with fail
                    go_ret
                    exact ⟨ret_i Hn.out, Hbw1.out⟩
                · have h1 : L.isKey x = false := by simpa using h1
                  rw [h1] at HKx
                  have Hn : Hid (5 = R) := by
                    show _ = _
                    have e : (5 : Int) = Rr := by rw [← Hs.out, ranksGo_bad _ x _ h1]
                    rw [e]
                    exact step_no HR3.out (by rw [← e]; decide)
                  clear Hs HR3
                  go_wp2_with fail
                  ((with_reducible refine (HKx.out _).mono ?_); rintro e w1 ⟨rfl, hl1⟩)
                  have Hbw1 := Lib.hid (Hbw.out.trans (hl1.mono Hbw.out.size))
                  clear hl1 HKx
                  go_wp2_with fail
                  go_ret
                  exact ⟨ret_i Hn.out, Hbw1.out⟩
              · have HR4 : Hid ((if Rc ≠ 0 then Rc else if Rp ≠ 0 then Rp else Rd) = R) := by
                  show _ = _
                  exact step_go HR3.out (by rw [← Hr.out, List.drop_eq_nil_of_le (by omega)]; rfl)
                clear HR3 Hr HSr1
                have r4 : wr.cell? ⟨w.heap.size, 4, none⟩ = some (.slice Ac cp.length cc) := lvr.cell 4 _ rfl
                by_cases h20 : 20 < cp.length
                · have Hn : Hid (2 = R) := by
                    show _ = _
                    have e : (2 : Int) = Rc := by rw [← HRc.out, capsFault, if_pos h20]
                    rw [e]
                    exact step_no HR4.out (by rw [← e]; decide)
                  clear HR4
                  go_wp2_with fail
                  go_ret
                  exact ⟨ret_i Hn.out, Hbw.out⟩
                · have HRc2 : Hid (capsGo cp = Rc) := by show _ = _; rw [← HRc.out, capsFault, if_neg h20]
                  clear HRc
                  go_wp2_with fail
                  clear r4
                  go_loopw [77] (fun i wr => ∃ k : Nat, k ≤ cp.length ∧ i = .int .i64 k ∧ capsGo (cp.drop k) = Rc ∧ Below W0.heap.size W0 wr) (fun i _ => cp.length - (intOf i).toNat)
                  case atStart => exact ⟨0, Nat.zero_le _, rfl, HRc2.out, Hbl.out⟩
                  case round =>
                    clear HRc2 Hbl Hbw lvr
                    obtain ⟨k, hk, rfl, hr, hbl⟩ := hrel
                    have Hr := Lib.hid hr
                    have Hbl := Lib.hid hbl
                    have Hbw := Lib.hid (HbW.out.trans (hbl.mono HbW.out.size))
                    have lvr := LV.kb3 lvX hbl lvX.lt
                    have hszr := hbl.size
                    clear hr hbl
                    by_cases hlt : k < cp.length
                    · obtain ⟨f, hf⟩ : ∃ f, cp[k]? = some f := ⟨_, List.getElem?_eq_getElem hlt⟩
                      obtain ⟨blk, off, rfl, hblk, d0, d1, d2, d3⟩ := (HSc.out.keepB Hbl.out).cap k f hf
                      have hfs1 := Hcs.out f (List.mem_of_getElem? hf)
                      have Hs : Hid (capsGo (f :: cp.drop (k + 1)) = Rc) := by show _ = _; rw [← Hr.out, drop_at3 hf]
                      clear Hr hf
                      have Hb1 : Hid (Below W0.heap.size W0 (wr.alloc (.cells #[.int .i64 f.channel, .string f.purpose, .int .i64 f.many, .int .i64 f.within] 63))) := Hbl.out.alloc Hbl.out.size _
                      have lvY := LV.new wr wr.heap.size #[.int .i64 f.channel, .string f.purpose, .int .i64 f.many, .int .i64 f.within] 63 rfl
                      by_cases h1 : 0 ≤ f.channel ∧ f.channel ≤ 4
                      · have e1 : decide (0 ≤ f.channel ∧ f.channel ≤ 4) = true := by simpa using h1
                        go_wp2_with fail
                        ((with_reducible refine (HWi.out _ _ _ _).mono ?_); rintro e _ ⟨rfl, rfl⟩)
                        rw [e1]
                        by_cases h2 : f.purpose.toList = []
                        · have hno : noneOr f.purpose = true := by unfold noneOr; rw [h2]; rfl
                          have h2' : (f.purpose.toList == []) = true := by rw [h2]; rfl
                          have h2'' : f.purpose.toList.isEmpty = true := by rw [h2]; rfl
                          have Hb2 := Hb1
                          have y2 : (wr.alloc (.cells #[.int .i64 f.channel, .string f.purpose, .int .i64 f.many, .int .i64 f.within] 63)).cell? ⟨wr.heap.size, 2, none⟩ = some (.int .i64 f.many) := lvY.cell 2 _ rfl
                          clear d0 d1 d2 d3
                          by_cases h3 : 1 ≤ f.many ∧ f.many ≤ 1000
                          · have e3 : decide (1 ≤ f.many ∧ f.many ≤ 1000) = true := by simpa using h3
                            go_wp2_with fail
                            ((with_reducible refine (HWi.out _ _ _ _).mono ?_); rintro e _ ⟨rfl, rfl⟩)
                            rw [e3]
                            by_cases h4 : 1 ≤ f.within ∧ f.within ≤ 100000
                            · have e4 : decide (1 ≤ f.within ∧ f.within ≤ 100000) = true := by simpa using h4
                              have Hn : Hid (capsGo (cp.drop (k + 1)) = Rc) := by show _ = _; rw [← Hs.out, capsGo_ok f _ h1 hno ⟨h3, h4⟩]
                              clear Hs
                              go_wp2_with fail
                              ((with_reducible refine (HWi.out _ _ _ _).mono ?_); rintro e _ ⟨rfl, rfl⟩)
                              rw [e4]
                              go_wp2_with fail
                              go_roundw
                              case rel => exact ⟨k + 1, by omega, by go_num, Hn.out, Hb2.out⟩
                              case measure => simp [intOf]; omega
                            · have e4 : decide (1 ≤ f.within ∧ f.within ≤ 100000) = false := by simpa using h4
                              have Hn : Hid (1 = R) := by
                                show _ = _
                                have e : (1 : Int) = Rc := by rw [← Hs.out, capsGo_rng f _ h1 hno (fun h => h4 h.2)]
                                rw [e]
                                exact step_no HR4.out (by rw [← e]; decide)
                              clear Hs HR4
                              go_wp2_with fail
                              ((with_reducible refine (HWi.out _ _ _ _).mono ?_); rintro e _ ⟨rfl, rfl⟩)
                              rw [e4]
                              go_wp2_with fail
                              go_ret
                              exact ⟨ret_i Hn.out, HbW.out.trans (Hb2.out.mono HbW.out.size)⟩
                          · have e3 : decide (1 ≤ f.many ∧ f.many ≤ 1000) = false := by simpa using h3
                            have Hn : Hid (1 = R) := by
                              show _ = _
                              have e : (1 : Int) = Rc := by rw [← Hs.out, capsGo_rng f _ h1 hno (fun h => h3 h.1)]
                              rw [e]
                              exact step_no HR4.out (by rw [← e]; decide)
                            clear Hs HR4
                            go_wp2_with fail
                            ((with_reducible refine (HWi.out _ _ _ _).mono ?_); rintro e _ ⟨rfl, rfl⟩)
                            rw [e3]
                            go_wp2_with fail
                            go_ret
                            exact ⟨ret_i Hn.out, HbW.out.trans (Hb2.out.mono HbW.out.size)⟩
                        · have h2' : (f.purpose.toList == []) = false := by simpa using h2
                          have h2'' : f.purpose.toList.isEmpty = false := by simpa using h2
                          have HKx := Lib.hid (fun w => HKey.out f.purpose w hfs1)
                          have hno0 : noneOr f.purpose = L.isKey f.purpose := by unfold noneOr; rw [h2']; rfl
                          obtain ⟨ky, hky⟩ : ∃ ky, L.isKey f.purpose = ky := ⟨_, rfl⟩
                          rw [hky] at HKx hno0
                          clear hky
                          go_wp2_with fail
                          ((with_reducible refine (HKx.out _).mono ?_); rintro e w1 ⟨rfl, hl1⟩)
                          have Hb2 := Lib.hid (Hb1.out.trans (hl1.mono Hb1.out.size))
                          have lvY1 := LV.kb3 lvY hl1 lvY.lt
                          clear hl1 HKx d0 d1 d2 d3 lvY Hb1
                          cases ky
                          · have Hn : Hid (5 = R) := by
                              show _ = _
                              have e : (5 : Int) = Rc := by rw [← Hs.out, capsGo_pu f _ h1 hno0]
                              rw [e]
                              exact step_no HR4.out (by rw [← e]; decide)
                            clear Hs HR4
                            go_wp2_with fail
                            go_ret
                            exact ⟨ret_i Hn.out, HbW.out.trans (Hb2.out.mono HbW.out.size)⟩
                          · have hno := hno0
                            have lvY := lvY1
                            have y2 : w1.cell? ⟨wr.heap.size, 2, none⟩ = some (.int .i64 f.many) := lvY1.cell 2 _ rfl
                            have y3 : w1.cell? ⟨wr.heap.size, 3, none⟩ = some (.int .i64 f.within) := lvY1.cell 3 _ rfl
                            clear lvY1
                            by_cases h3 : 1 ≤ f.many ∧ f.many ≤ 1000
                            · have e3 : decide (1 ≤ f.many ∧ f.many ≤ 1000) = true := by simpa using h3
                              go_wp2_with fail
                              ((with_reducible refine (HWi.out _ _ _ _).mono ?_); rintro e _ ⟨rfl, rfl⟩)
                              rw [e3]
                              by_cases h4 : 1 ≤ f.within ∧ f.within ≤ 100000
                              · have e4 : decide (1 ≤ f.within ∧ f.within ≤ 100000) = true := by simpa using h4
                                have Hn : Hid (capsGo (cp.drop (k + 1)) = Rc) := by show _ = _; rw [← Hs.out, capsGo_ok f _ h1 hno ⟨h3, h4⟩]
                                clear Hs
                                go_wp2_with fail
                                ((with_reducible refine (HWi.out _ _ _ _).mono ?_); rintro e _ ⟨rfl, rfl⟩)
                                rw [e4]
                                go_wp2_with fail
                                go_roundw
                                case rel => exact ⟨k + 1, by omega, by go_num, Hn.out, Hb2.out⟩
                                case measure => simp [intOf]; omega
                              · have e4 : decide (1 ≤ f.within ∧ f.within ≤ 100000) = false := by simpa using h4
                                have Hn : Hid (1 = R) := by
                                  show _ = _
                                  have e : (1 : Int) = Rc := by rw [← Hs.out, capsGo_rng f _ h1 hno (fun h => h4 h.2)]
                                  rw [e]
                                  exact step_no HR4.out (by rw [← e]; decide)
                                clear Hs HR4
                                go_wp2_with fail
                                ((with_reducible refine (HWi.out _ _ _ _).mono ?_); rintro e _ ⟨rfl, rfl⟩)
                                rw [e4]
                                go_wp2_with fail
                                go_ret
                                exact ⟨ret_i Hn.out, HbW.out.trans (Hb2.out.mono HbW.out.size)⟩
                            · have e3 : decide (1 ≤ f.many ∧ f.many ≤ 1000) = false := by simpa using h3
                              have Hn : Hid (1 = R) := by
                                show _ = _
                                have e : (1 : Int) = Rc := by rw [← Hs.out, capsGo_rng f _ h1 hno (fun h => h3 h.1)]
                                rw [e]
                                exact step_no HR4.out (by rw [← e]; decide)
                              clear Hs HR4
                              go_wp2_with fail
                              ((with_reducible refine (HWi.out _ _ _ _).mono ?_); rintro e _ ⟨rfl, rfl⟩)
                              rw [e3]
                              go_wp2_with fail
                              go_ret
                              exact ⟨ret_i Hn.out, HbW.out.trans (Hb2.out.mono HbW.out.size)⟩
                      · have e1 : decide (0 ≤ f.channel ∧ f.channel ≤ 4) = false := by simpa using h1
                        have Hn : Hid (4 = R) := by
                          show _ = _
                          have e : (4 : Int) = Rc := by rw [← Hs.out, capsGo_ch f _ h1]
                          rw [e]
                          exact step_no HR4.out (by rw [← e]; decide)
                        clear Hs HR4
                        go_wp2_with fail
                        ((with_reducible refine (HWi.out _ _ _ _).mono ?_); rintro e _ ⟨rfl, rfl⟩)
                        rw [e1]
                        go_wp2_with fail
                        go_ret
                        exact ⟨ret_i Hn.out, HbW.out.trans (Hb1.out.mono HbW.out.size)⟩
                    · have HR5 : Hid ((if Rp ≠ 0 then Rp else Rd) = R) := by
                        show _ = _
                        exact step_go HR4.out (by rw [← Hr.out, List.drop_eq_nil_of_le (by omega)]; rfl)
                      clear HR4 Hr
                      have r5 : wr.cell? ⟨w.heap.size, 5, none⟩ = some (.slice Ap po.length cpp) := lvr.cell 5 _ rfl
                      by_cases h10 : 10 < po.length
                      · have Hn : Hid (2 = R) := by
                          show _ = _
                          have e : (2 : Int) = Rp := by rw [← HRp.out, poolsFault, if_pos h10]
                          rw [e]
                          exact step_no HR5.out (by rw [← e]; decide)
                        clear HR5
                        go_wp2_with fail
                        go_ret
                        exact ⟨ret_i Hn.out, Hbw.out⟩
                      · have HRp2 : Hid (poolsGo [] po = Rp) := by show _ = _; rw [← HRp.out, poolsFault, if_neg h10]
                        clear HRp
                        go_wp2_with fail
                        clear r5
                        go_loopw [115] (fun i wr => ∃ k : Nat, k ≤ po.length ∧ i = .int .i64 k ∧ poolsGo (po.take k) (po.drop k) = Rp ∧ Below W0.heap.size W0 wr) (fun i _ => po.length - (intOf i).toNat)
                        case atStart => exact ⟨0, Nat.zero_le _, rfl, HRp2.out, Hbl.out⟩
                        case round =>
                          clear HRp2 Hbl Hbw lvr hszr
                          obtain ⟨k, hk, rfl, hr, hbl⟩ := hrel
                          have Hr := Lib.hid hr
                          have Hbl := Lib.hid hbl
                          have Hbw := Lib.hid (HbW.out.trans (hbl.mono HbW.out.size))
                          have lvr := LV.kb3 lvX hbl lvX.lt
                          have hszr := hbl.size
                          clear hr hbl
                          by_cases hlt : k < po.length
                          · obtain ⟨p, hf⟩ : ∃ p, po[k]? = some p := ⟨_, List.getElem?_eq_getElem hlt⟩
                            obtain ⟨blk, off, Aw, cw, rfl, hblk, d0, d1, d2, d3, d4, hSw⟩ := (HSp.out.keepB Hbl.out).pool k p hf
                            have hfs := Hps.out p (List.mem_of_getElem? hf)
                            have Hs : Hid ((if poolF (po.take k) p ≠ 0 then poolF (po.take k) p else poolsGo (po.take (k + 1)) (po.drop (k + 1))) = Rp) := by
                              show _ = _
                              rw [← Hr.out, drop_at3 hf, poolsGo, take_snoc hf]
                            clear Hr hf
                            have Hb1 : Hid (Below W0.heap.size W0 (wr.alloc (.cells #[.string p.name, .int .i64 p.channel, .int .i64 p.per, .int .i64 p.first, .slice Aw p.warm.length cw] 36))) := Hbl.out.alloc Hbl.out.size _
                            have hb1 : Below wr.heap.size wr (wr.alloc (.cells #[.string p.name, .int .i64 p.channel, .int .i64 p.per, .int .i64 p.first, .slice Aw p.warm.length cw] 36)) := (Below.refl _ _).alloc (Nat.le_refl _) _
                            have lvY := LV.new wr wr.heap.size #[.string p.name, .int .i64 p.channel, .int .i64 p.per, .int .i64 p.first, .slice Aw p.warm.length cw] 36 rfl
                            have lvX1 := lvr.alloc (.cells #[.string p.name, .int .i64 p.channel, .int .i64 p.per, .int .i64 p.first, .slice Aw p.warm.length cw] 36)
                            have HF := Lib.hid (fun w' (h : Below (wr.alloc (.cells #[.string p.name, .int .i64 p.channel, .int .i64 p.per, .int .i64 p.first, .slice Aw p.warm.length cw] 36)).heap.size (wr.alloc (.cells #[.string p.name, .int .i64 p.channel, .int .i64 p.per, .int .i64 p.first, .slice Aw p.warm.length cw] 36)) w') => refPool_any N (some ⟨blk, off, none⟩) Aw po p k cpp cw w' (((HSp.out.keepB Hbl.out).keepB hb1).keepB h) ((hSw.keepB hb1).keepB h) (by omega) (by omega) (by omega) (by omega))
                            obtain ⟨pf, hpf⟩ : ∃ pf, poolF (po.take k) p = pf := ⟨_, rfl⟩
                            rw [hpf] at HF Hs
                            clear hSw hb1 hpf
                            go_wp2_with fail
                            clear d0 d1 d2 d3 d4
                            generalize wr.alloc (.cells #[.string p.name, .int .i64 p.channel, .int .i64 p.per, .int .i64 p.first, .slice Aw p.warm.length cw] 36) = W1 at *
                            have hkk : k ≤ cpp := by omega
                            refine wp_region_mix (fun w' => LV w' w.heap.size #[.slice Aq qt.length cq, .int .i64 qf, .int .i64 qo, .slice Ar rk.length cr, .slice Ac cp.length cc, .slice (some ⟨blk, off, none⟩) po.length cpp, .slice Ad dl.length cd] 30 ∧ LV w' wr.heap.size #[.string p.name, .int .i64 p.channel, .int .i64 p.per, .int .i64 p.first, .slice Aw p.warm.length cw] 36) [(true, 0), (true, 1), (true, 2), (true, 3), (true, 4), (false, 5), (true, 6)] (by kernel_rfl) (by kernel_rfl) (fun w' hd => ⟨LV.kb3 lvX1 (hd.below _) lvX1.lt, LV.kb3 lvY (hd.below _) lvY.lt⟩) (fun KK hKK wd hd => ?_)
                            have Hbd := Lib.hid (hd.below W1.heap.size)
                            have hC : LV wd w.heap.size #[.slice Aq qt.length cq, .int .i64 qf, .int .i64 qo, .slice Ar rk.length cr, .slice Ac cp.length cc, .slice (some ⟨blk, off, none⟩) po.length cpp, .slice Ad dl.length cd] 30 ∧ LV wd wr.heap.size #[.string p.name, .int .i64 p.channel, .int .i64 p.per, .int .i64 p.first, .slice Aw p.warm.length cw] 36 := ⟨LV.kb3 lvX1 (hd.below _) lvX1.lt, LV.kb3 lvY (hd.below _) lvY.lt⟩
                            clear hd lvX1 lvY
                            repeat (refine mix_p rfl (fun K hK => ?_); go_simp; (try go_bits); (try simp (disch := omega) only [if_pos]); (try simp (disch := omega) only [if_neg]); (try simp (disch := omega) only [dif_pos]); (try simp (disch := omega) only [dif_neg]); (try go_simp); (refine hK _ ?_; clear hK K))
                            refine mix_load (.slice (some ⟨blk, off, none⟩) po.length cpp) rfl rfl rfl rfl (fun _ => rfl) (fun w' h => h.1.cell 5 _ rfl) ?_
                            repeat (refine mix_p rfl (fun K hK => ?_); go_simp; (try go_bits); (try simp (disch := omega) only [if_pos]); (try simp (disch := omega) only [if_neg]); (try simp (disch := omega) only [dif_pos]); (try simp (disch := omega) only [dif_neg]); (try go_simp); (refine hK _ ?_; clear hK K))
                            refine mix_loadR (.agg #[.string p.name, .int .i64 p.channel, .int .i64 p.per, .int .i64 p.first, .slice Aw p.warm.length cw]) rfl rfl rfl rfl (fun w' h => h.2.pool5) ?_
                            refine mix_l rfl (fun K hK => ?_) hC
                            go_wp2_with fail
                            ((with_reducible refine (HF.out _ Hbd.out).mono ?_); rintro e w2 ⟨rfl, hl2⟩)
                            have Hb2 := Lib.hid (Hb1.out.trans ((Hbd.out.trans (hl2.mono Hbd.out.size)).mono Hb1.out.size))
                            have hC2 : LV w2 w.heap.size #[.slice Aq qt.length cq, .int .i64 qf, .int .i64 qo, .slice Ar rk.length cr, .slice Ac cp.length cc, .slice (some ⟨blk, off, none⟩) po.length cpp, .slice Ad dl.length cd] 30 ∧ LV w2 wr.heap.size #[.string p.name, .int .i64 p.channel, .int .i64 p.per, .int .i64 p.first, .slice Aw p.warm.length cw] 36 := ⟨LV.kb3 hC.1 hl2 hC.1.lt, LV.kb3 hC.2 hl2 hC.2.lt⟩
                            clear hl2 HF hC Hbd Hb1
                            go_wp2_with fail
                            refine ⟨hC2, ?_⟩
                            repeat (refine mix_p rfl (fun K hK => ?_); go_simp; (try go_bits); (try simp (disch := omega) only [if_pos]); (try simp (disch := omega) only [if_neg]); (try simp (disch := omega) only [dif_pos]); (try simp (disch := omega) only [dif_neg]); (try go_simp); (refine hK _ ?_; clear hK K))
                            refine mix_nil ?_
                            simp only [Exit.then]
                            refine hKK _ _ ?_
                            clear hC2
                            by_cases h6 : pf = 0
                            · subst h6
                              have Hn : Hid (poolsGo (po.take (k + 1)) (po.drop (k + 1)) = Rp) := step_go Hs.out rfl
                              clear Hs
                              go_wp2_with fail
                              go_roundw
                              case rel => exact ⟨k + 1, by omega, by go_num, Hn.out, Hb2.out⟩
                              case measure => simp [intOf]; omega
                            · have h6' : (pf != 0) = true := by simpa using h6
                              have Hn : Hid (pf = R) := by
                                show _ = _
                                have e : pf = Rp := step_no Hs.out h6
                                rw [e]
                                exact step_no HR5.out (by rw [← e]; exact h6)
                              clear Hs HR5 h6
                              go_wp2_with fail
                              go_ret
                              exact ⟨ret_i Hn.out, HbW.out.trans (Hb2.out.mono HbW.out.size)⟩
                          · have HR6 : Hid (delaysFault dl = R) := by
                              show _ = _
                              rw [HRd.out]
                              exact step_go HR5.out (by rw [← Hr.out, List.drop_eq_nil_of_le (by omega)]; rfl)
                            clear HR5 Hr HRd
                            have r6 : wr.cell? ⟨w.heap.size, 6, none⟩ = some (.slice Ad dl.length cd) := lvr.cell 6 _ rfl
                            have HSd2 := Lib.hid (HSd.out.keepB Hbl.out)
                            by_cases h7 : 10 < dl.length
                            · have Hn : Hid (2 = R) := by show _ = _; rw [← HR6.out, delaysFault, if_pos h7]
                              clear HR6
                              go_wp2_with fail
                              go_ret
                              exact ⟨ret_i Hn.out, Hbw.out⟩
                            · have HR7 : Hid ((if dl.any (fun n => !(decide (1 ≤ n ∧ n ≤ 100000))) then 1 else 0) = R) := by show _ = _; rw [← HR6.out, delaysFault, if_neg h7]
                              clear HR6
                              go_wp2_with fail
                              clear r6
                              go_loopw [137] (fun i wr => ∃ k : Nat, k ≤ dl.length ∧ i = .int .i64 k ∧ (∀ x ∈ dl.take k, (!(decide ((1 : Int) ≤ x ∧ x ≤ 100000))) = false) ∧ Below W0.heap.size W0 wr) (fun i _ => dl.length - (intOf i).toNat)
                              case atStart => exact ⟨0, Nat.zero_le _, rfl, (fun x hx => by simp at hx), Hbl.out⟩
                              case round =>
                                clear HSd2 Hbl Hbw lvr hszr
                                obtain ⟨k, hk, rfl, hr, hbl⟩ := hrel
                                have Hr := Lib.hid hr
                                have Hbl := Lib.hid hbl
                                have Hbw := Lib.hid (HbW.out.trans (hbl.mono HbW.out.size))
                                have HSd2 := Lib.hid (HSd.out.keepB hbl)
                                clear hr hbl
                                by_cases hlt : k < dl.length
                                · obtain ⟨x, hx⟩ : ∃ x, dl[k]? = some x := ⟨_, List.getElem?_eq_getElem hlt⟩
                                  obtain ⟨blk, off, rfl, hblk, d0⟩ := HSd2.out.int k x hx
                                  have Hx := Lib.hid hx
                                  clear hx
                                  by_cases h7 : 1 ≤ x ∧ x ≤ 100000
                                  · have e7 : decide (1 ≤ x ∧ x ≤ 100000) = true := by simpa using h7
                                    go_wp2_with fail
                                    ((with_reducible refine (HWi.out _ _ _ _).mono ?_); rintro e _ ⟨rfl, rfl⟩)
                                    rw [e7]
                                    go_wp2_with fail
                                    go_roundw
                                    case rel =>
                                      refine ⟨k + 1, by omega, by go_num, fun y hy => ?_, Hbl.out⟩
                                      rw [List.take_add_one, Hx.out] at hy
                                      rcases List.mem_append.1 hy with hy | hy
                                      · exact Hr.out y hy
                                      · have : y = x := by simpa using hy
                                        rw [this, e7]; rfl
                                    case measure => simp [intOf]; omega
                                  · have e7 : decide (1 ≤ x ∧ x ≤ 100000) = false := by simpa using h7
                                    have Hn : Hid (1 = R) := by
                                      show _ = _
                                      rw [← HR7.out, if_pos]
                                      exact List.any_eq_true.2 ⟨x, List.mem_of_getElem? Hx.out, by rw [e7]; rfl⟩
                                    clear HR7 Hr
                                    go_wp2_with fail
                                    ((with_reducible refine (HWi.out _ _ _ _).mono ?_); rintro e _ ⟨rfl, rfl⟩)
                                    rw [e7]
                                    go_wp2_with fail
                                    go_ret
                                    exact ⟨ret_i Hn.out, Hbw.out⟩
                                · have Hn : Hid (0 = R) := by
                                    show _ = _
                                    rw [← HR7.out, any_false_of (fun x hx => Hr.out x (by rw [List.take_of_length_le (by omega)]; exact hx))]
                                    rfl
                                  clear HR7 Hr
                                  go_wp2_with fail
                                  go_ret
                                  exact ⟨ret_i Hn.out, Hbw.out⟩
        · have e2 : decide (0 ≤ qo ∧ qo ≤ 1439) = false := by simpa using h2
          have Hn : Hid (1 = R) := rng_no HR2.out (fun h => h2 h.2)
          clear HR2
          go_wp2_with fail
          ((with_reducible refine (HWi.out _ _ _ _).mono ?_); rintro e _ ⟨rfl, rfl⟩)
          rw [e1]
          go_wp2_with fail
          ((with_reducible refine (HWi.out _ _ _ _).mono ?_); rintro e _ ⟨rfl, rfl⟩)
          rw [e2]
          go_wp2_with fail
          go_ret
          exact ⟨ret_i Hn.out, HbW.out⟩
      · have e1 : decide (0 ≤ qf ∧ qf ≤ 1439) = false := by simpa using h1
        have Hn : Hid (1 = R) := rng_no HR2.out (fun h => h1 h.1)
        clear HR2
        go_wp2_with fail
        ((with_reducible refine (HWi.out _ _ _ _).mono ?_); rintro e _ ⟨rfl, rfl⟩)
        rw [e1]
        go_wp2_with fail
        go_ret
        exact ⟨ret_i Hn.out, HbW.out⟩
end Go.Proofs.YtneopbbafdmpkaaDoor
