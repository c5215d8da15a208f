/- The law DoubleMeasures walked: it returns true, and nothing that was there has turned. -/
import Derived.Test.YtmlpkejeglpciaaDoorGenMeas
import Derived.Test.YtmlpkejeglpciaaDoorPoints2
import Derived.Test.YtmlpkejeglpciaaDoorPtsOf
import Derived.Test.YtmlpkejeglpciaaDoorText
import Derived.Test.YtmlpkejeglpciaaDoorPeople
import Derived.Test.YtmlpkejeglpciaaDoorWrong
namespace Go.Proofs.YtmlpkejeglpciaaDoor
open Go.RowKit
set_option maxHeartbeats 8000000 in
set_option maxRecDepth 100000 in
theorem doubleMeasures_any (v : Value) (w : World) (hv : IntsIn v w) (hT : Tabs w) (hN : Names w) :
    Calls Tryd.prog 3 #[v] w fun e w' => e = .returned (.bool true) ∧ Below w.heap.size w w' := by
  have hNl := hN.lt
  have HN0 := Lib.hid (hN.keep (b := w.heap.size) ((SK.refl _ w).alloc (.cells #[v, .int .i64 0] 25)) (Nat.ne_of_lt hN.lt))
  have HT := Lib.hid hT
  clear hT hN
  obtain ⟨va, vn, vc, rfl⟩ : ∃ a n c, v = .slice a n c := by
    rcases hv with ⟨a, c, rfl⟩ | ⟨k, off, len, cap, rfl, _⟩
    · exact ⟨_, _, _, rfl⟩
    · exact ⟨_, _, _, rfl⟩
  have g0 := G.start (Strm.start hv)
  clear hv
  go_enter Tryd.func3, Tryd.ntmps3
  go_wp2_with fail
  refine (measures_any w.heap.size 0 _ g0.s (by omega) HN0.out (Nat.ne_of_lt hNl)).mono ?_
  rintro e w1 ⟨v1, ms, rfl, ho1, hml, hms, g1⟩
  have g2 := g0.step g1.k g1.s
  have HN1 := Lib.hid (HN0.out.keep g1.k (Nat.ne_of_lt hNl))
  obtain ⟨Am, cm, rfl, hS1⟩ := ho1.toSl (fun k hk h => by unfold Lt at h; omega)
  have HM1 : Hid (Sl rMeas (Off w.heap.size) w1 Am ms) := hS1.mono (fun k _ e => by unfold Off at e; unfold Lt; simp; omega)
  have Hms := Lib.hid hms
  clear ho1 hS1 g1 HN0 hms
  go_wp2_with fail
  refine (fields_any w.heap.size _ _ _ g2.s (by omega) HN1.out).mono ?_
  rintro e w2 ⟨v2, a, rfl, ho2, hal, hat, g3⟩
  have g4 := g2.step g3.k g3.s
  have HN2 := Lib.hid (HN1.out.keep g3.k (Nat.ne_of_lt hNl))
  have hz1 := g2.size
  simp only [World.size_alloc] at hz1
  obtain ⟨Aa, ca, rfl, hS2⟩ := ho2.toSl (off_ge (by omega))
  have HM2 := Lib.hid (HM1.out.keep g3.k.n)
  have HA2 := Lib.hid hS2
  have Hat := Lib.hid hat
  clear ho2 hS2 g3 g2 HN1 HM1 hat
  go_wp2_with fail
  refine (fields_any w.heap.size _ _ _ g4.s (by omega) HN2.out).mono ?_
  rintro e w3 ⟨v3, b, rfl, ho3, hbl, hbt, g5⟩
  have g6 := g4.step g5.k g5.s
  have hz2 := g4.size
  simp only [World.size_alloc] at hz2
  obtain ⟨Ab, cb, rfl, hS3⟩ := ho3.toSl (off_ge (by omega))
  have HM3 := Lib.hid (HM2.out.keep g5.k.n)
  have HA3 := Lib.hid (HA2.out.keep g5.k.n)
  have HB3 := Lib.hid hS3
  have Hbt := Lib.hid hbt
  clear ho3 hS3 g5 g4 HN2 HM2 HA2 hbt
  go_wp2_with fail
  refine (flip_any w.heap.size _ _ _ g6.s (by omega) (by omega) (by omega)).mono ?_
  rintro e w4 ⟨r4, rfl, hk_w4, hs_w4⟩
  have g7 := g6.step hk_w4 hs_w4
  have HM := Lib.hid (HM3.out.keep hk_w4.n)
  have HA := Lib.hid (HA3.out.keep hk_w4.n)
  have HB := Lib.hid (HB3.out.keep hk_w4.n)
  clear hk_w4 hs_w4 g6 HM3 HA3 HB3
  have Hbw : Hid (Below w.heap.size w w4) := ((Below.refl _ _).alloc (Nat.le_refl _) _).trans (g7.k.below (Nat.le_refl _) (by simp))
  have HT4 := Lib.hid (Utf8Tabs_below HT.out Hbw.out)
  clear g7 HT
  have hmsz : Hid (∀ m ∈ ms, m.name.size ≤ 1000000000) := fun m hm => by have := Hms.out m hm; omega
  have hasz : Hid (∀ f ∈ a, f.small) := fun f hf => by have := Hat.out f hf; exact ⟨by have := this.1; omega, by have := this.2; omega⟩
  have hbsz : Hid (∀ f ∈ b, f.small) := fun f hf => by have := Hbt.out f hf; exact ⟨by have := this.1; omega, by have := this.2; omega⟩
  clear Hms Hat Hbt
  cases r4
  · have HP := Lib.hid (points2_any (Off w.heap.size) Am Aa Ab ms a b cm ca cb w4 HM.out HA.out HB.out hmsz.out (by omega) hasz.out (by omega) hbsz.out (by omega) HT4.out)
    have HR1 := Lib.hid (fun w' (h : Below w4.heap.size w4 w') => refMeasures_any (Off w.heap.size) Am ms cm w' (HM.out.keepB h) hmsz.out (by omega))
    have HC1 := Lib.hid (fun w' (h : Below w4.heap.size w4 w') => checkMeasures_any (Off w.heap.size) Am ms cm w' (HM.out.keepB h) hmsz.out (by omega))
    have HF1 := Lib.hid (fun w' (h : Below w4.heap.size w4 w') => refFields_any (Off w.heap.size) Aa a ca w' (HA.out.keepB h) hasz.out (by omega) (Utf8Tabs_below HT4.out h))
    have HF2 := Lib.hid (fun w' (h : Below w4.heap.size w4 w') => refFields_any (Off w.heap.size) Ab b cb w' (HB.out.keepB h) hbsz.out (by omega) (Utf8Tabs_below HT4.out h))
    have HO := Lib.hid (fun w' (h : Below w4.heap.size w4 w') (hm : MOk ms) (ha : FOk a) (hb : FOk b) => pointsOf_any (Off w.heap.size) Am Aa Ab ms a b cm ca cb w' (HM.out.keepB h) (HA.out.keepB h) (HB.out.keepB h) hm ha hb (Utf8Tabs_below HT4.out h))
    have HPe := Lib.hid (fun w' (h : Below w4.heap.size w4 w') => people_any w' (Utf8Tabs_below HT4.out h))
    have H1 : Hid (measFault ms = 0 → MOk ms) := fun h => meas_ok h
    have H2 : Hid (fldsFault a = 0 → FOk a) := fun h => flds_ok h
    have H3 : Hid (fldsFault b = 0 → FOk b) := fun h => flds_ok h
    clear HM HA HB HT4 hmsz hasz hbsz
    generalize measFault ms = fm at *
    generalize hfa0 : fldsFault a = fa at *
    generalize hfb0 : fldsFault b = fb at *
    generalize goM a b ms = sc at *
    clear hfa0 hfb0
    by_cases hfm : fm = 0
    · have K1 := Lib.hid (H1.out hfm)
      subst hfm
      by_cases hfa : fa = 0
      · have K2 := Lib.hid (H2.out hfa)
        subst hfa
        by_cases hfb : fb = 0
        · have K3 := Lib.hid (H3.out hfb)
          subst hfb
          have HO2 := Lib.hid (fun w' h => HO.out w' h K1.out K2.out K3.out)
          rw [show ptsV 0 0 0 sc = .tuple #[.int .i64 sc, .int .i64 0] by rw [ptsV, if_neg (by simp), if_neg (by simp), if_neg (by simp)]] at HP
          clear HO H1 H2 H3 K1 K2 K3
          go_wp2_with fail
          refine (HP.out).mono ?_
          rintro e w5 ⟨rfl, hl_w5⟩
          have Hb_a := Lib.hid hl_w5
          clear hl_w5 HP
          go_wp2_with fail
          refine (HR1.out _ Hb_a.out).mono ?_
          rintro e w6 ⟨rfl, hl_w6⟩
          have Hb_b := Lib.hid (Hb_a.out.trans (hl_w6.mono Hb_a.out.size))
          clear hl_w6 HR1
          go_wp2_with fail
          refine (HC1.out _ Hb_b.out).mono ?_
          rintro e w7 ⟨rfl, hl_w7⟩
          have Hb_c := Lib.hid (Hb_b.out.trans (hl_w7.mono Hb_b.out.size))
          clear hl_w7 HC1
          go_wp2_with fail
          refine (HF1.out _ Hb_c.out).mono ?_
          rintro e w8 ⟨rfl, hl_w8⟩
          have Hb_d := Lib.hid (Hb_c.out.trans (hl_w8.mono Hb_c.out.size))
          clear hl_w8 HF1
          go_wp2_with fail
          refine (HF2.out _ Hb_d.out).mono ?_
          rintro e w9 ⟨rfl, hl_w9⟩
          have Hb_9 := Lib.hid (Hb_d.out.trans (hl_w9.mono Hb_d.out.size))
          clear hl_w9 HF2
          have Hb_e : Hid (Below w4.heap.size w4 (w9.alloc (.cells #[.int .i64 0, .int .i64 0, .int .i64 0] 31))) := Hb_9.out.alloc Hb_9.out.size _
          have HW := Lib.hid (wrongOr_any w9.heap.size [0, 0, 0] (w9.alloc (.cells #[.int .i64 0, .int .i64 0, .int .i64 0] 31)) (LV.new _ _ _ _ rfl) (by simp))
          change Hid (Calls _ _ #[.slice (some ⟨w9.heap.size, 0, none⟩) 3 3] _ _) at HW
          go_wp2_with fail
          refine (HW.out).mono ?_
          rintro e _ ⟨rfl, rfl⟩
          clear HW Hb_a Hb_b Hb_c Hb_d Hb_9
          go_wp2_with fail
          refine (HO2.out _ Hb_e.out).mono ?_
          rintro e w11 ⟨rfl, hl_w11⟩
          have Hb_f := Lib.hid (Hb_e.out.trans (hl_w11.mono Hb_e.out.size))
          clear hl_w11
          go_wp2_with fail
          refine (HPe.out _ Hb_f.out).mono ?_
          rintro e wh ⟨rfl, hlh⟩
          go_wp2_with fail
          go_ret
          exact ⟨rfl, Hbw.out.trans (((Hb_f.out.trans (hlh.mono Hb_f.out.size))).mono Hbw.out.size)⟩
        · have hb1 : (fb != 0) = true := by simpa using hfb
          rw [show ptsV 0 0 fb sc = .tuple #[.int .i64 0, .int .i64 fb] by rw [ptsV, if_neg (by simp), if_neg (by simp), if_pos hfb]] at HP
          have hfe : firstErr [0, 0, fb] = fb := by rw [firstErr, if_neg (by simp), firstErr, if_neg (by simp), firstErr, if_pos hfb]
          clear HO H1 H2 H3 K1 K2 hfb
          go_wp2_with fail
          refine (HP.out).mono ?_
          rintro e w5 ⟨rfl, hl_w5⟩
          have Hb_a := Lib.hid hl_w5
          clear hl_w5 HP
          go_wp2_with fail
          refine (HR1.out _ Hb_a.out).mono ?_
          rintro e w6 ⟨rfl, hl_w6⟩
          have Hb_b := Lib.hid (Hb_a.out.trans (hl_w6.mono Hb_a.out.size))
          clear hl_w6 HR1
          go_wp2_with fail
          refine (HC1.out _ Hb_b.out).mono ?_
          rintro e w7 ⟨rfl, hl_w7⟩
          have Hb_c := Lib.hid (Hb_b.out.trans (hl_w7.mono Hb_b.out.size))
          clear hl_w7 HC1
          go_wp2_with fail
          refine (HF1.out _ Hb_c.out).mono ?_
          rintro e w8 ⟨rfl, hl_w8⟩
          have Hb_d := Lib.hid (Hb_c.out.trans (hl_w8.mono Hb_c.out.size))
          clear hl_w8 HF1
          go_wp2_with fail
          refine (HF2.out _ Hb_d.out).mono ?_
          rintro e w9 ⟨rfl, hl_w9⟩
          have Hb_9 := Lib.hid (Hb_d.out.trans (hl_w9.mono Hb_d.out.size))
          clear hl_w9 HF2
          have Hb_e : Hid (Below w4.heap.size w4 (w9.alloc (.cells #[.int .i64 0, .int .i64 0, .int .i64 fb] 31))) := Hb_9.out.alloc Hb_9.out.size _
          have HW := Lib.hid (wrongOr_any w9.heap.size [0, 0, fb] (w9.alloc (.cells #[.int .i64 0, .int .i64 0, .int .i64 fb] 31)) (LV.new _ _ _ _ rfl) (by simp))
          change Hid (Calls _ _ #[.slice (some ⟨w9.heap.size, 0, none⟩) 3 3] _ _) at HW
          go_wp2_with fail
          refine (HW.out).mono ?_
          rintro e _ ⟨rfl, rfl⟩
          clear HW Hb_a Hb_b Hb_c Hb_d Hb_9
          rw [hfe]
          go_wp2_with fail
          refine (HPe.out _ Hb_e.out).mono ?_
          rintro e wh ⟨rfl, hlh⟩
          go_wp2_with fail
          go_ret
          exact ⟨rfl, Hbw.out.trans (((Hb_e.out.trans (hlh.mono Hb_e.out.size))).mono Hbw.out.size)⟩
      · have hb1 : (fa != 0) = true := by simpa using hfa
        rw [show ptsV 0 fa fb sc = .tuple #[.int .i64 0, .int .i64 fa] by rw [ptsV, if_neg (by simp), if_pos hfa]] at HP
        have hfe : firstErr [0, fa, fb] = fa := by rw [firstErr, if_neg (by simp), firstErr, if_pos hfa]
        clear HO H1 H2 H3 K1 hfa
        go_wp2_with fail
        refine (HP.out).mono ?_
        rintro e w5 ⟨rfl, hl_w5⟩
        have Hb_a := Lib.hid hl_w5
        clear hl_w5 HP
        go_wp2_with fail
        refine (HR1.out _ Hb_a.out).mono ?_
        rintro e w6 ⟨rfl, hl_w6⟩
        have Hb_b := Lib.hid (Hb_a.out.trans (hl_w6.mono Hb_a.out.size))
        clear hl_w6 HR1
        go_wp2_with fail
        refine (HC1.out _ Hb_b.out).mono ?_
        rintro e w7 ⟨rfl, hl_w7⟩
        have Hb_c := Lib.hid (Hb_b.out.trans (hl_w7.mono Hb_b.out.size))
        clear hl_w7 HC1
        go_wp2_with fail
        refine (HF1.out _ Hb_c.out).mono ?_
        rintro e w8 ⟨rfl, hl_w8⟩
        have Hb_d := Lib.hid (Hb_c.out.trans (hl_w8.mono Hb_c.out.size))
        clear hl_w8 HF1
        go_wp2_with fail
        refine (HF2.out _ Hb_d.out).mono ?_
        rintro e w9 ⟨rfl, hl_w9⟩
        have Hb_9 := Lib.hid (Hb_d.out.trans (hl_w9.mono Hb_d.out.size))
        clear hl_w9 HF2
        have Hb_e : Hid (Below w4.heap.size w4 (w9.alloc (.cells #[.int .i64 0, .int .i64 fa, .int .i64 fb] 31))) := Hb_9.out.alloc Hb_9.out.size _
        have HW := Lib.hid (wrongOr_any w9.heap.size [0, fa, fb] (w9.alloc (.cells #[.int .i64 0, .int .i64 fa, .int .i64 fb] 31)) (LV.new _ _ _ _ rfl) (by simp))
        change Hid (Calls _ _ #[.slice (some ⟨w9.heap.size, 0, none⟩) 3 3] _ _) at HW
        go_wp2_with fail
        refine (HW.out).mono ?_
        rintro e _ ⟨rfl, rfl⟩
        clear HW Hb_a Hb_b Hb_c Hb_d Hb_9
        rw [hfe]
        go_wp2_with fail
        refine (HPe.out _ Hb_e.out).mono ?_
        rintro e wh ⟨rfl, hlh⟩
        go_wp2_with fail
        go_ret
        exact ⟨rfl, Hbw.out.trans (((Hb_e.out.trans (hlh.mono Hb_e.out.size))).mono Hbw.out.size)⟩
    · have hb1 : (fm != 0) = true := by simpa using hfm
      rw [show ptsV fm fa fb sc = .tuple #[.int .i64 0, .int .i64 fm] by rw [ptsV, if_pos hfm]] at HP
      have hfe : firstErr [fm, fa, fb] = fm := by rw [firstErr, if_pos hfm]
      clear HO H1 H2 H3 hfm
      go_wp2_with fail
      refine (HP.out).mono ?_
      rintro e w5 ⟨rfl, hl_w5⟩
      have Hb_a := Lib.hid hl_w5
      clear hl_w5 HP
      go_wp2_with fail
      refine (HR1.out _ Hb_a.out).mono ?_
      rintro e w6 ⟨rfl, hl_w6⟩
      have Hb_b := Lib.hid (Hb_a.out.trans (hl_w6.mono Hb_a.out.size))
      clear hl_w6 HR1
      go_wp2_with fail
      refine (HC1.out _ Hb_b.out).mono ?_
      rintro e w7 ⟨rfl, hl_w7⟩
      have Hb_c := Lib.hid (Hb_b.out.trans (hl_w7.mono Hb_b.out.size))
      clear hl_w7 HC1
      go_wp2_with fail
      refine (HF1.out _ Hb_c.out).mono ?_
      rintro e w8 ⟨rfl, hl_w8⟩
      have Hb_d := Lib.hid (Hb_c.out.trans (hl_w8.mono Hb_c.out.size))
      clear hl_w8 HF1
      go_wp2_with fail
      refine (HF2.out _ Hb_d.out).mono ?_
      rintro e w9 ⟨rfl, hl_w9⟩
      have Hb_9 := Lib.hid (Hb_d.out.trans (hl_w9.mono Hb_d.out.size))
      clear hl_w9 HF2
      have Hb_e : Hid (Below w4.heap.size w4 (w9.alloc (.cells #[.int .i64 fm, .int .i64 fa, .int .i64 fb] 31))) := Hb_9.out.alloc Hb_9.out.size _
      have HW := Lib.hid (wrongOr_any w9.heap.size [fm, fa, fb] (w9.alloc (.cells #[.int .i64 fm, .int .i64 fa, .int .i64 fb] 31)) (LV.new _ _ _ _ rfl) (by simp))
      change Hid (Calls _ _ #[.slice (some ⟨w9.heap.size, 0, none⟩) 3 3] _ _) at HW
      go_wp2_with fail
      refine (HW.out).mono ?_
      rintro e _ ⟨rfl, rfl⟩
      clear HW Hb_a Hb_b Hb_c Hb_d Hb_9
      rw [hfe]
      go_wp2_with fail
      refine (HPe.out _ Hb_e.out).mono ?_
      rintro e wh ⟨rfl, hlh⟩
      go_wp2_with fail
      go_ret
      exact ⟨rfl, Hbw.out.trans (((Hb_e.out.trans (hlh.mono Hb_e.out.size))).mono Hbw.out.size)⟩
  · have HP := Lib.hid (points2_any (Off w.heap.size) Am Aa Aa ms a a cm ca ca w4 HM.out HA.out HA.out hmsz.out (by omega) hasz.out (by omega) hasz.out (by omega) HT4.out)
    have HR1 := Lib.hid (fun w' (h : Below w4.heap.size w4 w') => refMeasures_any (Off w.heap.size) Am ms cm w' (HM.out.keepB h) hmsz.out (by omega))
    have HC1 := Lib.hid (fun w' (h : Below w4.heap.size w4 w') => checkMeasures_any (Off w.heap.size) Am ms cm w' (HM.out.keepB h) hmsz.out (by omega))
    have HF1 := Lib.hid (fun w' (h : Below w4.heap.size w4 w') => refFields_any (Off w.heap.size) Aa a ca w' (HA.out.keepB h) hasz.out (by omega) (Utf8Tabs_below HT4.out h))
    have HF2 := Lib.hid (fun w' (h : Below w4.heap.size w4 w') => refFields_any (Off w.heap.size) Aa a ca w' (HA.out.keepB h) hasz.out (by omega) (Utf8Tabs_below HT4.out h))
    have HO := Lib.hid (fun w' (h : Below w4.heap.size w4 w') (hm : MOk ms) (ha : FOk a) (hb : FOk a) => pointsOf_any (Off w.heap.size) Am Aa Aa ms a a cm ca ca w' (HM.out.keepB h) (HA.out.keepB h) (HA.out.keepB h) hm ha hb (Utf8Tabs_below HT4.out h))
    have HPe := Lib.hid (fun w' (h : Below w4.heap.size w4 w') => people_any w' (Utf8Tabs_below HT4.out h))
    have H1 : Hid (measFault ms = 0 → MOk ms) := fun h => meas_ok h
    have H2 : Hid (fldsFault a = 0 → FOk a) := fun h => flds_ok h
    have H3 : Hid (fldsFault a = 0 → FOk a) := fun h => flds_ok h
    clear HM HA HB HT4 hmsz hasz hbsz
    generalize measFault ms = fm at *
    generalize hfa0 : fldsFault a = fa at *
    generalize goM a a ms = sc at *
    clear hfa0
    by_cases hfm : fm = 0
    · have K1 := Lib.hid (H1.out hfm)
      subst hfm
      by_cases hfa : fa = 0
      · have K2 := Lib.hid (H2.out hfa)
        subst hfa
        have HO2 := Lib.hid (fun w' h => HO.out w' h K1.out K2.out K2.out)
        rw [show ptsV 0 0 0 sc = .tuple #[.int .i64 sc, .int .i64 0] by rw [ptsV, if_neg (by simp), if_neg (by simp), if_neg (by simp)]] at HP
        clear HO H1 H2 H3 K1 K2
        go_wp2_with fail
        refine (HP.out).mono ?_
        rintro e w5 ⟨rfl, hl_w5⟩
        have Hb_a := Lib.hid hl_w5
        clear hl_w5 HP
        go_wp2_with fail
        refine (HR1.out _ Hb_a.out).mono ?_
        rintro e w6 ⟨rfl, hl_w6⟩
        have Hb_b := Lib.hid (Hb_a.out.trans (hl_w6.mono Hb_a.out.size))
        clear hl_w6 HR1
        go_wp2_with fail
        refine (HC1.out _ Hb_b.out).mono ?_
        rintro e w7 ⟨rfl, hl_w7⟩
        have Hb_c := Lib.hid (Hb_b.out.trans (hl_w7.mono Hb_b.out.size))
        clear hl_w7 HC1
        go_wp2_with fail
        refine (HF1.out _ Hb_c.out).mono ?_
        rintro e w8 ⟨rfl, hl_w8⟩
        have Hb_d := Lib.hid (Hb_c.out.trans (hl_w8.mono Hb_c.out.size))
        clear hl_w8 HF1
        go_wp2_with fail
        refine (HF2.out _ Hb_d.out).mono ?_
        rintro e w9 ⟨rfl, hl_w9⟩
        have Hb_9 := Lib.hid (Hb_d.out.trans (hl_w9.mono Hb_d.out.size))
        clear hl_w9 HF2
        have Hb_e : Hid (Below w4.heap.size w4 (w9.alloc (.cells #[.int .i64 0, .int .i64 0, .int .i64 0] 31))) := Hb_9.out.alloc Hb_9.out.size _
        have HW := Lib.hid (wrongOr_any w9.heap.size [0, 0, 0] (w9.alloc (.cells #[.int .i64 0, .int .i64 0, .int .i64 0] 31)) (LV.new _ _ _ _ rfl) (by simp))
        change Hid (Calls _ _ #[.slice (some ⟨w9.heap.size, 0, none⟩) 3 3] _ _) at HW
        go_wp2_with fail
        refine (HW.out).mono ?_
        rintro e _ ⟨rfl, rfl⟩
        clear HW Hb_a Hb_b Hb_c Hb_d Hb_9
        go_wp2_with fail
        refine (HO2.out _ Hb_e.out).mono ?_
        rintro e w11 ⟨rfl, hl_w11⟩
        have Hb_f := Lib.hid (Hb_e.out.trans (hl_w11.mono Hb_e.out.size))
        clear hl_w11
        go_wp2_with fail
        refine (HPe.out _ Hb_f.out).mono ?_
        rintro e wh ⟨rfl, hlh⟩
        go_wp2_with fail
        go_ret
        exact ⟨rfl, Hbw.out.trans (((Hb_f.out.trans (hlh.mono Hb_f.out.size))).mono Hbw.out.size)⟩
      · have hb1 : (fa != 0) = true := by simpa using hfa
        rw [show ptsV 0 fa fa sc = .tuple #[.int .i64 0, .int .i64 fa] by rw [ptsV, if_neg (by simp), if_pos hfa]] at HP
        have hfe : firstErr [0, fa, fa] = fa := by rw [firstErr, if_neg (by simp), firstErr, if_pos hfa]
        clear HO H1 H2 H3 K1 hfa
        go_wp2_with fail
        refine (HP.out).mono ?_
        rintro e w5 ⟨rfl, hl_w5⟩
        have Hb_a := Lib.hid hl_w5
        clear hl_w5 HP
        go_wp2_with fail
        refine (HR1.out _ Hb_a.out).mono ?_
        rintro e w6 ⟨rfl, hl_w6⟩
        have Hb_b := Lib.hid (Hb_a.out.trans (hl_w6.mono Hb_a.out.size))
        clear hl_w6 HR1
        go_wp2_with fail
        refine (HC1.out _ Hb_b.out).mono ?_
        rintro e w7 ⟨rfl, hl_w7⟩
        have Hb_c := Lib.hid (Hb_b.out.trans (hl_w7.mono Hb_b.out.size))
        clear hl_w7 HC1
        go_wp2_with fail
        refine (HF1.out _ Hb_c.out).mono ?_
        rintro e w8 ⟨rfl, hl_w8⟩
        have Hb_d := Lib.hid (Hb_c.out.trans (hl_w8.mono Hb_c.out.size))
        clear hl_w8 HF1
        go_wp2_with fail
        refine (HF2.out _ Hb_d.out).mono ?_
        rintro e w9 ⟨rfl, hl_w9⟩
        have Hb_9 := Lib.hid (Hb_d.out.trans (hl_w9.mono Hb_d.out.size))
        clear hl_w9 HF2
        have Hb_e : Hid (Below w4.heap.size w4 (w9.alloc (.cells #[.int .i64 0, .int .i64 fa, .int .i64 fa] 31))) := Hb_9.out.alloc Hb_9.out.size _
        have HW := Lib.hid (wrongOr_any w9.heap.size [0, fa, fa] (w9.alloc (.cells #[.int .i64 0, .int .i64 fa, .int .i64 fa] 31)) (LV.new _ _ _ _ rfl) (by simp))
        change Hid (Calls _ _ #[.slice (some ⟨w9.heap.size, 0, none⟩) 3 3] _ _) at HW
        go_wp2_with fail
        refine (HW.out).mono ?_
        rintro e _ ⟨rfl, rfl⟩
        clear HW Hb_a Hb_b Hb_c Hb_d Hb_9
        rw [hfe]
        go_wp2_with fail
        refine (HPe.out _ Hb_e.out).mono ?_
        rintro e wh ⟨rfl, hlh⟩
        go_wp2_with fail
        go_ret
        exact ⟨rfl, Hbw.out.trans (((Hb_e.out.trans (hlh.mono Hb_e.out.size))).mono Hbw.out.size)⟩
    · have hb1 : (fm != 0) = true := by simpa using hfm
      rw [show ptsV fm fa fa sc = .tuple #[.int .i64 0, .int .i64 fm] by rw [ptsV, if_pos hfm]] at HP
      have hfe : firstErr [fm, fa, fa] = fm := by rw [firstErr, if_pos hfm]
      clear HO H1 H2 H3 hfm
      go_wp2_with fail
      refine (HP.out).mono ?_
      rintro e w5 ⟨rfl, hl_w5⟩
      have Hb_a := Lib.hid hl_w5
      clear hl_w5 HP
      go_wp2_with fail
      refine (HR1.out _ Hb_a.out).mono ?_
      rintro e w6 ⟨rfl, hl_w6⟩
      have Hb_b := Lib.hid (Hb_a.out.trans (hl_w6.mono Hb_a.out.size))
      clear hl_w6 HR1
      go_wp2_with fail
      refine (HC1.out _ Hb_b.out).mono ?_
      rintro e w7 ⟨rfl, hl_w7⟩
      have Hb_c := Lib.hid (Hb_b.out.trans (hl_w7.mono Hb_b.out.size))
      clear hl_w7 HC1
      go_wp2_with fail
      refine (HF1.out _ Hb_c.out).mono ?_
      rintro e w8 ⟨rfl, hl_w8⟩
      have Hb_d := Lib.hid (Hb_c.out.trans (hl_w8.mono Hb_c.out.size))
      clear hl_w8 HF1
      go_wp2_with fail
      refine (HF2.out _ Hb_d.out).mono ?_
      rintro e w9 ⟨rfl, hl_w9⟩
      have Hb_9 := Lib.hid (Hb_d.out.trans (hl_w9.mono Hb_d.out.size))
      clear hl_w9 HF2
      have Hb_e : Hid (Below w4.heap.size w4 (w9.alloc (.cells #[.int .i64 fm, .int .i64 fa, .int .i64 fa] 31))) := Hb_9.out.alloc Hb_9.out.size _
      have HW := Lib.hid (wrongOr_any w9.heap.size [fm, fa, fa] (w9.alloc (.cells #[.int .i64 fm, .int .i64 fa, .int .i64 fa] 31)) (LV.new _ _ _ _ rfl) (by simp))
      change Hid (Calls _ _ #[.slice (some ⟨w9.heap.size, 0, none⟩) 3 3] _ _) at HW
      go_wp2_with fail
      refine (HW.out).mono ?_
      rintro e _ ⟨rfl, rfl⟩
      clear HW Hb_a Hb_b Hb_c Hb_d Hb_9
      rw [hfe]
      go_wp2_with fail
      refine (HPe.out _ Hb_e.out).mono ?_
      rintro e wh ⟨rfl, hlh⟩
      go_wp2_with fail
      go_ret
      exact ⟨rfl, Hbw.out.trans (((Hb_e.out.trans (hlh.mono Hb_e.out.size))).mono Hbw.out.size)⟩
end Go.Proofs.YtmlpkejeglpciaaDoor
