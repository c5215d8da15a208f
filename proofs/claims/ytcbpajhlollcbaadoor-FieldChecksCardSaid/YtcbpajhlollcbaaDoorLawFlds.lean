/- The law FieldChecks walked: it returns true, and nothing that was there has turned. -/
import Derived.Test.YtcbpajhlollcbaaDoorGenFlds
import Derived.Test.YtcbpajhlollcbaaDoorText
import Derived.Test.YtcbpajhlollcbaaDoorPeople
namespace Go.Proofs.YtcbpajhlollcbaaDoor
open Go.RowKit
theorem LV.keepB {w w' : World} {X B : Nat} {cs : Array Value} {T : TypeId} (h : LV w X cs T) (k : Below B w w') (hb : X < B) : LV w' X cs T := (k.block X hb).trans h
theorem G.bl {b m : Nat} {w0 w : World} (h : G b m w0 w) {B : Nat} (hB : B ≤ b) (hB2 : B ≤ w0.heap.size) : Below B w0 w := h.k.below hB hB2
theorem G.toBelow {m : Nat} {w w1 : World} {o : Obj} (h : G w.heap.size m (w.alloc o) w1) : Below w.heap.size w w1 :=
  ((Below.refl _ _).alloc (Nat.le_refl _) o).trans (h.k.below (Nat.le_refl _) (by simp))
set_option maxHeartbeats 8000000 in
set_option maxRecDepth 100000 in
theorem fieldChecks_any (v : Value) (w : World) (hv : IntsIn v w) (hT : Tabs w) (hN : Names w) :
    Calls Tryd.prog 5 #[v] w fun e w' => e = .returned (.bool true) ∧ Below w.heap.size w w' := by
  obtain ⟨va, vn, vc, rfl⟩ : ∃ a n c, v = .slice a n c := by
    rcases hv with ⟨a, c, rfl⟩ | ⟨k, off, len, cap, rfl, _⟩
    · exact ⟨_, _, _, rfl⟩
    · exact ⟨_, _, _, rfl⟩
  have g0 := G.start (Strm.start hv)
  have HT := Lib.hid hT
  have HN := Lib.hid (hN.keep (b := w.heap.size) ((SK.refl _ w).alloc (.cells #[.slice va vn vc, .int .i64 0] 25)) (Nat.ne_of_lt hN.lt))
  have hNl := hN.lt
  clear hT hv hN
  go_enter Tryd.func5, Tryd.ntmps5
  go_wp2_with fail
  ((with_reducible refine (value_any w.heap.size 0 _ g0.s (by omega)).mono ?_); rintro e w1 ⟨k1, t1, n1, t1_le, rfl, hk_w1, hs_w1⟩)
  have g1 := (g0.step hk_w1 hs_w1).alloc (.cells #[.int .i64 k1, .string t1, .int .i64 n1] 60)
  have hz1 := hk_w1.size
  simp only [World.size_alloc] at hz1
  have bX := LV.new w1 w1.heap.size #[.int .i64 k1, .string t1, .int .i64 n1] 60 rfl
  clear hk_w1 hs_w1
  go_wp2_with fail
  ((with_reducible refine (flip_any w.heap.size _ _ _ g1.s (by omega) (by omega) (by omega)).mono ?_); rintro e w2 ⟨r2, rfl, hk_w2, hs_w2⟩)
  have g2 := g1.step hk_w2 hs_w2
  have bX2 := bX.keep hk_w2 (by omega)
  clear hk_w2 hs_w2 g1 bX
  cases r2
  · go_wp2_with fail
    ((with_reducible refine (pick_le w.heap.size _ _ _ 2 6 g2.s (by simp) (by simp) (intsIn_of (by decide)) (by simp) (by simp) (by omega)).mono ?_); rintro e w6 ⟨z6, z6_lo, z6_hi, rfl, hk_w6, hs_w6⟩)
    have g6 := g2.step hk_w6 hs_w6
    have bX6 := bX2.keep hk_w6 (by omega)
    have hz6 := bX6.lt
    clear hk_w6 hs_w6 g2 bX2
    go_wp2_with fail
    ((with_reducible refine (fields_any w.heap.size _ _ _ g6.s (by omega) (HN.out.keep g6.k (Nat.ne_of_lt hNl))).mono ?_); rintro e w7 ⟨v7, xs7, rfl, ho7, hxl7, hti7, g7'⟩)
    have g7 := (g6.step g7'.k g7'.s).mono (show _ ≤ 1000 by omega)
    have bX7 := bX6.keep g7'.k (by omega)
    have hz7 := g7'.k.size
    have hB7 : w.heap.size < w6.heap.size := by omega
    obtain ⟨A7, c7, rfl⟩ := ho7.len
    clear bX6 g6 g7'
    go_wp2_with fail
    go_loopw [5, 6] (fun v i wr => ∃ (k : Nat) (ys : List Fld), k ≤ 31 ∧ i = .int .i64 k ∧ Own rFld (Off w.heap.size) w6.heap.size 67 wr v ys ∧ ys.length ≤ 7 + k ∧ (∀ f ∈ ys, f.tiny) ∧ G w.heap.size (1000 + k) (w.alloc (.cells #[.slice va vn vc, .int .i64 0] 25)) wr ∧ LV wr w1.heap.size #[.int .i64 k1, .string t1, .int .i64 n1] 60 ∧ w6.heap.size ≤ wr.heap.size) (fun _ i _ => 31 - (intOf i).toNat)
    case atStart => exact ⟨0, xs7, by omega, rfl, ho7, by omega, hti7, g7, bX7, hz7⟩
    case round =>
      clear ho7 hti7 g7 bX7 hxl7 hz7
      obtain ⟨k, ys, hk, rfl, hown, hyl, hti, hg, hlv, hzr⟩ := hrel
      obtain ⟨A, c, rfl⟩ := hown.len
      go_wp2_with fail
      ((with_reducible refine (flip_any w.heap.size (1000 + k) _ _ hg.s (by omega) (by omega) (by omega)).mono ?_); rintro e w8 ⟨r8, rfl, hk_w8, hs_w8⟩)
      have g8 := hg.step hk_w8 hs_w8
      have bX8 := hlv.keep hk_w8 (by omega)
      have ho8 := hown.stepG hk_w8 hB7
      have hz8 : w6.heap.size ≤ w8.heap.size := Nat.le_trans hzr hk_w8.size
      have hsm : ∀ f ∈ ys, f.small := fun f hf => ⟨Nat.le_trans (hti f hf).1 (by omega), Nat.le_trans (hti f hf).2 (by omega)⟩
      have Hti := Lib.hid hti
      clear hk_w8 hs_w8 hg hlv hown hti
      cases r8
      · have Hsm := Lib.hid hsm
        clear hsm Hti
        have Hb := Lib.hid g8.toBelow
        obtain ⟨A9, c9, hA9, hS9⟩ := ho8.toSl (off_ge (b := w.heap.size) hB7)
        cases hA9
        have HS9 := Lib.hid hS9
        clear hS9
        go_wp2_with fail
        refine wp_region_mix (fun w' => LV w' w1.heap.size #[.int .i64 k1, .string t1, .int .i64 n1] 60) [(true, 0), (true, 2), (false, 1), (false, 3), (true, 4), (true, 5), (true, 6), (true, 8), (false, 7), (false, 9), (true, 10), (true, 11), (true, 12), (false, 13), (true, 14), (true, 15)] (by kernel_rfl) (by kernel_rfl) (fun w' hd => bX8.keepB (hd.below _) bX8.lt) (fun KK hKK wd hd_wd => ?_)
        have lvd := bX8.keepB (hd_wd.below _) bX8.lt
        have Hbd : Hid (Below w.heap.size w wd) := Hb.out.trans (hd_wd.below _)
        have HSd := Lib.hid (HS9.out.keepB (hd_wd.below _))
        clear Hb HS9 hd_wd
        refine mix_loadR (.agg #[.int .i64 k1, .string t1, .int .i64 n1]) rfl rfl rfl rfl (fun w' h => h.load3) ?_
        refine mix_loadR (.agg #[.int .i64 k1, .string t1, .int .i64 n1]) rfl rfl rfl rfl (fun w' h => h.load3) ?_
        refine mix_l rfl (fun K hK => ?_) lvd
        go_wp2_with fail
        ((with_reducible refine (checkValue_any k1 n1 t1 _ (by omega) (Utf8Tabs_below HT.out Hbd.out)).mono ?_); rintro e we ⟨rfl, hle⟩)
        have lve := lvd.keepB hle lvd.lt
        have Hbe : Hid (Below w.heap.size w we) := Hbd.out.trans (hle.mono Hbd.out.size)
        have HSe := Lib.hid (HSd.out.keepB hle)
        clear lvd Hbd HSd hle
        generalize hvf : valueFault k1 t1 n1 = vf
        have Hvf := Lib.hid hvf
        clear hvf
        go_wp2_with fail
        refine ⟨lve, ?_⟩
        refine mix_l rfl (fun K hK => ?_) lve
        go_wp2_with fail
        ((with_reducible refine (refValue_any k1 n1 t1 _ (Utf8Tabs_below HT.out Hbe.out)).mono ?_); rintro e wf ⟨rfl, hlf⟩)
        have lvf := lve.keepB hlf lve.lt
        have Hbf : Hid (Below w.heap.size w wf) := Hbe.out.trans (hlf.mono Hbe.out.size)
        have HSf := Lib.hid (HSe.out.keepB hlf)
        clear lve Hbe HSe hlf
        rw [Hvf.out]
        go_wp2_with fail
        refine ⟨lvf, ?_⟩
        repeat (refine mix_p rfl (fun K hK => ?_); go_simp; (try go_bits); (try simp (disch := omega) only [if_pos]); (try simp (disch := omega) only [if_neg]); (try simp (disch := omega) only [dif_pos]); (try simp (disch := omega) only [dif_neg]); (try go_simp); (refine hK _ ?_; clear hK K))
        refine mix_l rfl (fun K hK => ?_) lvf
        go_wp2_with fail
        ((with_reducible refine (checkFields_any (Off w.heap.size) _ _ _ _ HSf.out Hsm.out (by omega) (Utf8Tabs_below HT.out Hbf.out)).mono ?_); rintro e wg ⟨rfl, hlg⟩)
        have lvg := lvf.keepB hlg lvf.lt
        have Hbg : Hid (Below w.heap.size w wg) := Hbf.out.trans (hlg.mono Hbf.out.size)
        have HSg := Lib.hid (HSf.out.keepB hlg)
        clear lvf Hbf HSf hlg
        generalize hff : fldsFault _ = ff
        have Hff := Lib.hid hff
        clear hff
        go_wp2_with fail
        refine ⟨lvg, ?_⟩
        refine mix_l rfl (fun K hK => ?_) lvg
        go_wp2_with fail
        ((with_reducible refine (refFields_any (Off w.heap.size) _ _ _ _ HSg.out Hsm.out (by omega) (Utf8Tabs_below HT.out Hbg.out)).mono ?_); rintro e wh ⟨rfl, hlh⟩)
        have lvh := lvg.keepB hlh lvg.lt
        have Hbh : Hid (Below w.heap.size w wh) := Hbg.out.trans (hlh.mono Hbg.out.size)
        clear lvg Hbg HSg hlh
        rw [Hff.out]
        go_wp2_with fail
        refine ⟨lvh, ?_⟩
        repeat (refine mix_p rfl (fun K hK => ?_); go_simp; (try go_bits); (try simp (disch := omega) only [if_pos]); (try simp (disch := omega) only [if_neg]); (try simp (disch := omega) only [dif_pos]); (try simp (disch := omega) only [dif_neg]); (try go_simp); (refine hK _ ?_; clear hK K))
        refine mix_l rfl (fun K hK => ?_) lvh
        go_wp2_with fail
        ((with_reducible refine (people_any _ (Utf8Tabs_below HT.out Hbh.out)).mono ?_); rintro e wi ⟨rfl, hli⟩)
        have lvi := lvh.keepB hli lvh.lt
        have Hbi : Hid (Below w.heap.size w wi) := Hbh.out.trans (hli.mono Hbh.out.size)
        clear lvh Hbh hli
        go_wp2_with fail
        refine ⟨lvi, ?_⟩
        repeat (refine mix_p rfl (fun K hK => ?_); go_simp; (try go_bits); (try simp (disch := omega) only [if_pos]); (try simp (disch := omega) only [if_neg]); (try simp (disch := omega) only [dif_pos]); (try simp (disch := omega) only [dif_neg]); (try go_simp); (refine hK _ ?_; clear hK K))
        refine mix_nil ?_
        simp only [Exit.then]
        refine hKK _ _ ?_
        go_wp2_with fail
        go_ret
        exact ⟨rfl, Hbi.out⟩
      · by_cases hk31 : k < 31
        · clear hsm
          go_wp2_with fail
          refine wp_region_mix (fun w' => LV w' w1.heap.size #[.int .i64 k1, .string t1, .int .i64 n1] 60) [(true, 0), (true, 1), (true, 4), (false, 2), (true, 3), (true, 5), (false, 6), (false, 7), (true, 8)] (by kernel_rfl) (by kernel_rfl) (fun w' hd => bX8.keepB (hd.below _) bX8.lt) (fun KK hKK wd hd_wd => ?_)
          have lvd := bX8.keepB (hd_wd.below _) bX8.lt
          have gd := g8.below (hd_wd.below _)
          have Hod := Lib.hid (ho8.stepG (SK.ofBelow (hd_wd.below _)) hB7)
          have hzd := (hd_wd.below 0).size
          clear hd_wd bX8 g8 ho8
          repeat (refine mix_p rfl (fun K hK => ?_); go_simp; (try go_bits); (try simp (disch := omega) only [if_pos]); (try simp (disch := omega) only [if_neg]); (try simp (disch := omega) only [dif_pos]); (try simp (disch := omega) only [dif_neg]); (try go_simp); (refine hK _ ?_; clear hK K))
          refine mix_loadR (.agg #[.int .i64 k1, .string t1, .int .i64 n1]) rfl rfl rfl rfl (fun w' h => h.load3) ?_
          refine mix_l rfl (fun K hK => ?_) lvd
          go_wp2_with fail
          ((with_reducible refine (repeat_le ⟨#[120]⟩ k 100 _ (by omega) (by omega) (by simp [ByteArray.size]; omega) (by decide)).mono ?_); rintro e we ⟨ra, ra_le, rfl, hle⟩)
          have lve := lvd.keepB hle lvd.lt
          have ge := gd.below hle
          have Hoe := Lib.hid (Hod.out.stepG (SK.ofBelow hle) hB7)
          have hze := hle.size
          clear lvd gd Hod hle
          go_wp2_with fail
          refine ⟨lve, ?_⟩
          repeat (refine mix_p rfl (fun K hK => ?_); go_simp; (try go_bits); (try simp (disch := omega) only [if_pos]); (try simp (disch := omega) only [if_neg]); (try simp (disch := omega) only [dif_pos]); (try simp (disch := omega) only [dif_neg]); (try go_simp); (refine hK _ ?_; clear hK K))
          refine mix_l rfl (fun K hK => ?_) lve
          go_wp2_with fail
          refine ⟨lve.alloc _, ?_⟩
          refine mix_l rfl (fun K hK => ?_) (lve.alloc _)
          refine app_flat (w0 := we) flatFld tyFld rfl _ _ rfl (Off w.heap.size) w6.heap.size _ ys ⟨⟨#[120]⟩ ++ ra, k1, t1, n1⟩ _ rfl Hoe.out rfl rfl (oneFld _) (by omega) (by omega) (by decide) ?_
          intro v' wg hog hlg
          have lvg := lve.keepB hlg hz6
          go_wp2_with fail
          refine ⟨lvg, ?_⟩
          repeat (refine mix_p rfl (fun K hK => ?_); go_simp; (try go_bits); (try simp (disch := omega) only [if_pos]); (try simp (disch := omega) only [if_neg]); (try simp (disch := omega) only [dif_pos]); (try simp (disch := omega) only [dif_neg]); (try go_simp); (refine hK _ ?_; clear hK K))
          refine mix_nil ?_
          simp only [Exit.then]
          refine hKK _ _ ?_
          go_wp2_with fail
          go_roundw
          case rel => exact ⟨k + 1, ys ++ [⟨⟨#[120]⟩ ++ ra, k1, t1, n1⟩], by omega, by go_num, hog, by simp; omega, tiny_snoc Hti.out ⟨by show ((ByteArray.mk #[120]) ++ ra).size ≤ 1000; rw [ByteArray.size_append]; have e1 : (ByteArray.mk #[120]).size = 1 := rfl; omega, by assumption⟩, (ge.belowB (hlg.mono (by simp; omega)) (by simp)).mono (by omega), lvg, Nat.le_trans (Nat.le_trans hz8 (Nat.le_trans hzd hze)) hlg.size⟩
          case measure => simp [intOf]; omega
        · have Hsm := Lib.hid hsm
          clear hsm Hti
          have Hb := Lib.hid g8.toBelow
          obtain ⟨A9, c9, hA9, hS9⟩ := ho8.toSl (off_ge (b := w.heap.size) hB7)
          cases hA9
          have HS9 := Lib.hid hS9
          clear hS9
          go_wp2_with fail
          refine wp_region_mix (fun w' => LV w' w1.heap.size #[.int .i64 k1, .string t1, .int .i64 n1] 60) [(true, 0), (true, 2), (false, 1), (false, 3), (true, 4), (true, 5), (true, 6), (true, 8), (false, 7), (false, 9), (true, 10), (true, 11), (true, 12), (false, 13), (true, 14), (true, 15)] (by kernel_rfl) (by kernel_rfl) (fun w' hd => bX8.keepB (hd.below _) bX8.lt) (fun KK hKK wd hd_wd => ?_)
          have lvd := bX8.keepB (hd_wd.below _) bX8.lt
          have Hbd : Hid (Below w.heap.size w wd) := Hb.out.trans (hd_wd.below _)
          have HSd := Lib.hid (HS9.out.keepB (hd_wd.below _))
          clear Hb HS9 hd_wd
          refine mix_loadR (.agg #[.int .i64 k1, .string t1, .int .i64 n1]) rfl rfl rfl rfl (fun w' h => h.load3) ?_
          refine mix_loadR (.agg #[.int .i64 k1, .string t1, .int .i64 n1]) rfl rfl rfl rfl (fun w' h => h.load3) ?_
          refine mix_l rfl (fun K hK => ?_) lvd
          go_wp2_with fail
          ((with_reducible refine (checkValue_any k1 n1 t1 _ (by omega) (Utf8Tabs_below HT.out Hbd.out)).mono ?_); rintro e we ⟨rfl, hle⟩)
          have lve := lvd.keepB hle lvd.lt
          have Hbe : Hid (Below w.heap.size w we) := Hbd.out.trans (hle.mono Hbd.out.size)
          have HSe := Lib.hid (HSd.out.keepB hle)
          clear lvd Hbd HSd hle
          generalize hvf : valueFault k1 t1 n1 = vf
          have Hvf := Lib.hid hvf
          clear hvf
          go_wp2_with fail
          refine ⟨lve, ?_⟩
          refine mix_l rfl (fun K hK => ?_) lve
          go_wp2_with fail
          ((with_reducible refine (refValue_any k1 n1 t1 _ (Utf8Tabs_below HT.out Hbe.out)).mono ?_); rintro e wf ⟨rfl, hlf⟩)
          have lvf := lve.keepB hlf lve.lt
          have Hbf : Hid (Below w.heap.size w wf) := Hbe.out.trans (hlf.mono Hbe.out.size)
          have HSf := Lib.hid (HSe.out.keepB hlf)
          clear lve Hbe HSe hlf
          rw [Hvf.out]
          go_wp2_with fail
          refine ⟨lvf, ?_⟩
          repeat (refine mix_p rfl (fun K hK => ?_); go_simp; (try go_bits); (try simp (disch := omega) only [if_pos]); (try simp (disch := omega) only [if_neg]); (try simp (disch := omega) only [dif_pos]); (try simp (disch := omega) only [dif_neg]); (try go_simp); (refine hK _ ?_; clear hK K))
          refine mix_l rfl (fun K hK => ?_) lvf
          go_wp2_with fail
          ((with_reducible refine (checkFields_any (Off w.heap.size) _ _ _ _ HSf.out Hsm.out (by omega) (Utf8Tabs_below HT.out Hbf.out)).mono ?_); rintro e wg ⟨rfl, hlg⟩)
          have lvg := lvf.keepB hlg lvf.lt
          have Hbg : Hid (Below w.heap.size w wg) := Hbf.out.trans (hlg.mono Hbf.out.size)
          have HSg := Lib.hid (HSf.out.keepB hlg)
          clear lvf Hbf HSf hlg
          generalize hff : fldsFault _ = ff
          have Hff := Lib.hid hff
          clear hff
          go_wp2_with fail
          refine ⟨lvg, ?_⟩
          refine mix_l rfl (fun K hK => ?_) lvg
          go_wp2_with fail
          ((with_reducible refine (refFields_any (Off w.heap.size) _ _ _ _ HSg.out Hsm.out (by omega) (Utf8Tabs_below HT.out Hbg.out)).mono ?_); rintro e wh ⟨rfl, hlh⟩)
          have lvh := lvg.keepB hlh lvg.lt
          have Hbh : Hid (Below w.heap.size w wh) := Hbg.out.trans (hlh.mono Hbg.out.size)
          clear lvg Hbg HSg hlh
          rw [Hff.out]
          go_wp2_with fail
          refine ⟨lvh, ?_⟩
          repeat (refine mix_p rfl (fun K hK => ?_); go_simp; (try go_bits); (try simp (disch := omega) only [if_pos]); (try simp (disch := omega) only [if_neg]); (try simp (disch := omega) only [dif_pos]); (try simp (disch := omega) only [dif_neg]); (try go_simp); (refine hK _ ?_; clear hK K))
          refine mix_l rfl (fun K hK => ?_) lvh
          go_wp2_with fail
          ((with_reducible refine (people_any _ (Utf8Tabs_below HT.out Hbh.out)).mono ?_); rintro e wi ⟨rfl, hli⟩)
          have lvi := lvh.keepB hli lvh.lt
          have Hbi : Hid (Below w.heap.size w wi) := Hbh.out.trans (hli.mono Hbh.out.size)
          clear lvh Hbh hli
          go_wp2_with fail
          refine ⟨lvi, ?_⟩
          repeat (refine mix_p rfl (fun K hK => ?_); go_simp; (try go_bits); (try simp (disch := omega) only [if_pos]); (try simp (disch := omega) only [if_neg]); (try simp (disch := omega) only [dif_pos]); (try simp (disch := omega) only [dif_neg]); (try go_simp); (refine hK _ ?_; clear hK K))
          refine mix_nil ?_
          simp only [Exit.then]
          refine hKK _ _ ?_
          go_wp2_with fail
          go_ret
          exact ⟨rfl, Hbi.out⟩
  · clear t1_le
    go_wp2_with fail
    ((with_reducible refine (range_any w.heap.size _ _ _ _ g2.s (by omega) (by omega) (by omega) (by omega)).mono ?_); rintro e w3 ⟨k3, k3_lo, k3_hi, rfl, hk_w3, hs_w3⟩)
    have g3 := g2.step hk_w3 hs_w3
    have bX3 := bX2.keep hk_w3 (by omega)
    clear hk_w3 hs_w3 g2 bX2
    go_wp2_with fail
    ((with_reducible refine (strange_any w.heap.size _ _ g3.s (by omega)).mono ?_); rintro e w4 ⟨t4, t4_le, rfl, hk_w4, hs_w4⟩)
    have g4 := g3.step hk_w4 hs_w4
    have bX4 := bX3.keep hk_w4 (by omega)
    clear hk_w4 hs_w4 g3 bX3
    go_wp2_with fail
    ((with_reducible refine (pick_le w.heap.size _ _ _ (-1) 1000000000001 g4.s (by simp) (by simp) (intsIn_of (by decide)) (by simp) (by simp) (by omega)).mono ?_); rintro e w5 ⟨n5, n5_lo, n5_hi, rfl, hk_w5, hs_w5⟩)
    have g5 := g4.step hk_w5 hs_w5
    have bX5 := bX4.keep hk_w5 (by omega)
    clear hk_w5 hs_w5 g4 bX4
    have t5_le : t4.size ≤ 1000 := by omega
    have g5b := ((g5.set (X := w1.heap.size) (by omega) (by simp; omega) 0 (.int .i64 k3)).set (X := w1.heap.size) (by omega) (by simp; omega) 1 (.string t4)).set (X := w1.heap.size) (by omega) (by simp; omega) 2 (.int .i64 n5)
    have bX5b := ((bX5.set 0 (.int .i64 k3) #[.int .i64 k3, .string t1, .int .i64 n1] rfl).set 1 (.string t4) #[.int .i64 k3, .string t4, .int .i64 n1] rfl).set 2 (.int .i64 n5) #[.int .i64 k3, .string t4, .int .i64 n5] rfl
    have bX5_c0 := bX5.cell 0 _ rfl
    have bX5_c1 := bX5.cell 1 _ rfl
    have bX5_c2 := bX5.cell 2 _ rfl
    have bX5_f0 := bX5.free 0
    have bX5_f1 := bX5.free 1
    have bX5_f2 := bX5.free 2
    clear bX5 g5
    go_wp2_with fail
    ((with_reducible refine (pick_le w.heap.size _ _ _ 2 6 g5b.s (by simp) (by simp) (intsIn_of (by decide)) (by simp) (by simp) (by omega)).mono ?_); rintro e w6 ⟨z6, z6_lo, z6_hi, rfl, hk_w6, hs_w6⟩)
    have g6 := g5b.step hk_w6 hs_w6
    have bX6 := bX5b.keep hk_w6 (by omega)
    have hz6 := bX6.lt
    clear hk_w6 hs_w6 g5b bX5b
    go_wp2_with fail
    ((with_reducible refine (fields_any w.heap.size _ _ _ g6.s (by omega) (HN.out.keep g6.k (Nat.ne_of_lt hNl))).mono ?_); rintro e w7 ⟨v7, xs7, rfl, ho7, hxl7, hti7, g7'⟩)
    have g7 := (g6.step g7'.k g7'.s).mono (show _ ≤ 1000 by omega)
    have bX7 := bX6.keep g7'.k (by omega)
    have hz7 := g7'.k.size
    have hB7 : w.heap.size < w6.heap.size := by omega
    obtain ⟨A7, c7, rfl⟩ := ho7.len
    clear bX6 g6 g7'
    go_wp2_with fail
    go_loopw [5, 6] (fun v i wr => ∃ (k : Nat) (ys : List Fld), k ≤ 31 ∧ i = .int .i64 k ∧ Own rFld (Off w.heap.size) w6.heap.size 67 wr v ys ∧ ys.length ≤ 7 + k ∧ (∀ f ∈ ys, f.tiny) ∧ G w.heap.size (1000 + k) (w.alloc (.cells #[.slice va vn vc, .int .i64 0] 25)) wr ∧ LV wr w1.heap.size #[.int .i64 k3, .string t4, .int .i64 n5] 60 ∧ w6.heap.size ≤ wr.heap.size) (fun _ i _ => 31 - (intOf i).toNat)
    case atStart => exact ⟨0, xs7, by omega, rfl, ho7, by omega, hti7, g7, bX7, hz7⟩
    case round =>
      clear ho7 hti7 g7 bX7 hxl7 hz7
      obtain ⟨k, ys, hk, rfl, hown, hyl, hti, hg, hlv, hzr⟩ := hrel
      obtain ⟨A, c, rfl⟩ := hown.len
      go_wp2_with fail
      ((with_reducible refine (flip_any w.heap.size (1000 + k) _ _ hg.s (by omega) (by omega) (by omega)).mono ?_); rintro e w8 ⟨r8, rfl, hk_w8, hs_w8⟩)
      have g8 := hg.step hk_w8 hs_w8
      have bX8 := hlv.keep hk_w8 (by omega)
      have ho8 := hown.stepG hk_w8 hB7
      have hz8 : w6.heap.size ≤ w8.heap.size := Nat.le_trans hzr hk_w8.size
      have hsm : ∀ f ∈ ys, f.small := fun f hf => ⟨Nat.le_trans (hti f hf).1 (by omega), Nat.le_trans (hti f hf).2 (by omega)⟩
      have Hti := Lib.hid hti
      clear hk_w8 hs_w8 hg hlv hown hti
      cases r8
      · have Hsm := Lib.hid hsm
        clear hsm Hti
        have Hb := Lib.hid g8.toBelow
        obtain ⟨A9, c9, hA9, hS9⟩ := ho8.toSl (off_ge (b := w.heap.size) hB7)
        cases hA9
        have HS9 := Lib.hid hS9
        clear hS9
        go_wp2_with fail
        refine wp_region_mix (fun w' => LV w' w1.heap.size #[.int .i64 k3, .string t4, .int .i64 n5] 60) [(true, 0), (true, 2), (false, 1), (false, 3), (true, 4), (true, 5), (true, 6), (true, 8), (false, 7), (false, 9), (true, 10), (true, 11), (true, 12), (false, 13), (true, 14), (true, 15)] (by kernel_rfl) (by kernel_rfl) (fun w' hd => bX8.keepB (hd.below _) bX8.lt) (fun KK hKK wd hd_wd => ?_)
        have lvd := bX8.keepB (hd_wd.below _) bX8.lt
        have Hbd : Hid (Below w.heap.size w wd) := Hb.out.trans (hd_wd.below _)
        have HSd := Lib.hid (HS9.out.keepB (hd_wd.below _))
        clear Hb HS9 hd_wd
        refine mix_loadR (.agg #[.int .i64 k3, .string t4, .int .i64 n5]) rfl rfl rfl rfl (fun w' h => h.load3) ?_
        refine mix_loadR (.agg #[.int .i64 k3, .string t4, .int .i64 n5]) rfl rfl rfl rfl (fun w' h => h.load3) ?_
        refine mix_l rfl (fun K hK => ?_) lvd
        go_wp2_with fail
        ((with_reducible refine (checkValue_any k3 n5 t4 _ (by omega) (Utf8Tabs_below HT.out Hbd.out)).mono ?_); rintro e we ⟨rfl, hle⟩)
        have lve := lvd.keepB hle lvd.lt
        have Hbe : Hid (Below w.heap.size w we) := Hbd.out.trans (hle.mono Hbd.out.size)
        have HSe := Lib.hid (HSd.out.keepB hle)
        clear lvd Hbd HSd hle
        generalize hvf : valueFault k3 t4 n5 = vf
        have Hvf := Lib.hid hvf
        clear hvf
        go_wp2_with fail
        refine ⟨lve, ?_⟩
        refine mix_l rfl (fun K hK => ?_) lve
        go_wp2_with fail
        ((with_reducible refine (refValue_any k3 n5 t4 _ (Utf8Tabs_below HT.out Hbe.out)).mono ?_); rintro e wf ⟨rfl, hlf⟩)
        have lvf := lve.keepB hlf lve.lt
        have Hbf : Hid (Below w.heap.size w wf) := Hbe.out.trans (hlf.mono Hbe.out.size)
        have HSf := Lib.hid (HSe.out.keepB hlf)
        clear lve Hbe HSe hlf
        rw [Hvf.out]
        go_wp2_with fail
        refine ⟨lvf, ?_⟩
        repeat (refine mix_p rfl (fun K hK => ?_); go_simp; (try go_bits); (try simp (disch := omega) only [if_pos]); (try simp (disch := omega) only [if_neg]); (try simp (disch := omega) only [dif_pos]); (try simp (disch := omega) only [dif_neg]); (try go_simp); (refine hK _ ?_; clear hK K))
        refine mix_l rfl (fun K hK => ?_) lvf
        go_wp2_with fail
        ((with_reducible refine (checkFields_any (Off w.heap.size) _ _ _ _ HSf.out Hsm.out (by omega) (Utf8Tabs_below HT.out Hbf.out)).mono ?_); rintro e wg ⟨rfl, hlg⟩)
        have lvg := lvf.keepB hlg lvf.lt
        have Hbg : Hid (Below w.heap.size w wg) := Hbf.out.trans (hlg.mono Hbf.out.size)
        have HSg := Lib.hid (HSf.out.keepB hlg)
        clear lvf Hbf HSf hlg
        generalize hff : fldsFault _ = ff
        have Hff := Lib.hid hff
        clear hff
        go_wp2_with fail
        refine ⟨lvg, ?_⟩
        refine mix_l rfl (fun K hK => ?_) lvg
        go_wp2_with fail
        ((with_reducible refine (refFields_any (Off w.heap.size) _ _ _ _ HSg.out Hsm.out (by omega) (Utf8Tabs_below HT.out Hbg.out)).mono ?_); rintro e wh ⟨rfl, hlh⟩)
        have lvh := lvg.keepB hlh lvg.lt
        have Hbh : Hid (Below w.heap.size w wh) := Hbg.out.trans (hlh.mono Hbg.out.size)
        clear lvg Hbg HSg hlh
        rw [Hff.out]
        go_wp2_with fail
        refine ⟨lvh, ?_⟩
        repeat (refine mix_p rfl (fun K hK => ?_); go_simp; (try go_bits); (try simp (disch := omega) only [if_pos]); (try simp (disch := omega) only [if_neg]); (try simp (disch := omega) only [dif_pos]); (try simp (disch := omega) only [dif_neg]); (try go_simp); (refine hK _ ?_; clear hK K))
        refine mix_l rfl (fun K hK => ?_) lvh
        go_wp2_with fail
        ((with_reducible refine (people_any _ (Utf8Tabs_below HT.out Hbh.out)).mono ?_); rintro e wi ⟨rfl, hli⟩)
        have lvi := lvh.keepB hli lvh.lt
        have Hbi : Hid (Below w.heap.size w wi) := Hbh.out.trans (hli.mono Hbh.out.size)
        clear lvh Hbh hli
        go_wp2_with fail
        refine ⟨lvi, ?_⟩
        repeat (refine mix_p rfl (fun K hK => ?_); go_simp; (try go_bits); (try simp (disch := omega) only [if_pos]); (try simp (disch := omega) only [if_neg]); (try simp (disch := omega) only [dif_pos]); (try simp (disch := omega) only [dif_neg]); (try go_simp); (refine hK _ ?_; clear hK K))
        refine mix_nil ?_
        simp only [Exit.then]
        refine hKK _ _ ?_
        go_wp2_with fail
        go_ret
        exact ⟨rfl, Hbi.out⟩
      · by_cases hk31 : k < 31
        · clear hsm
          go_wp2_with fail
          refine wp_region_mix (fun w' => LV w' w1.heap.size #[.int .i64 k3, .string t4, .int .i64 n5] 60) [(true, 0), (true, 1), (true, 4), (false, 2), (true, 3), (true, 5), (false, 6), (false, 7), (true, 8)] (by kernel_rfl) (by kernel_rfl) (fun w' hd => bX8.keepB (hd.below _) bX8.lt) (fun KK hKK wd hd_wd => ?_)
          have lvd := bX8.keepB (hd_wd.below _) bX8.lt
          have gd := g8.below (hd_wd.below _)
          have Hod := Lib.hid (ho8.stepG (SK.ofBelow (hd_wd.below _)) hB7)
          have hzd := (hd_wd.below 0).size
          clear hd_wd bX8 g8 ho8
          repeat (refine mix_p rfl (fun K hK => ?_); go_simp; (try go_bits); (try simp (disch := omega) only [if_pos]); (try simp (disch := omega) only [if_neg]); (try simp (disch := omega) only [dif_pos]); (try simp (disch := omega) only [dif_neg]); (try go_simp); (refine hK _ ?_; clear hK K))
          refine mix_loadR (.agg #[.int .i64 k3, .string t4, .int .i64 n5]) rfl rfl rfl rfl (fun w' h => h.load3) ?_
          refine mix_l rfl (fun K hK => ?_) lvd
          go_wp2_with fail
          ((with_reducible refine (repeat_le ⟨#[120]⟩ k 100 _ (by omega) (by omega) (by simp [ByteArray.size]; omega) (by decide)).mono ?_); rintro e we ⟨ra, ra_le, rfl, hle⟩)
          have lve := lvd.keepB hle lvd.lt
          have ge := gd.below hle
          have Hoe := Lib.hid (Hod.out.stepG (SK.ofBelow hle) hB7)
          have hze := hle.size
          clear lvd gd Hod hle
          go_wp2_with fail
          refine ⟨lve, ?_⟩
          repeat (refine mix_p rfl (fun K hK => ?_); go_simp; (try go_bits); (try simp (disch := omega) only [if_pos]); (try simp (disch := omega) only [if_neg]); (try simp (disch := omega) only [dif_pos]); (try simp (disch := omega) only [dif_neg]); (try go_simp); (refine hK _ ?_; clear hK K))
          refine mix_l rfl (fun K hK => ?_) lve
          go_wp2_with fail
          refine ⟨lve.alloc _, ?_⟩
          refine mix_l rfl (fun K hK => ?_) (lve.alloc _)
          refine app_flat (w0 := we) flatFld tyFld rfl _ _ rfl (Off w.heap.size) w6.heap.size _ ys ⟨⟨#[120]⟩ ++ ra, k3, t4, n5⟩ _ rfl Hoe.out rfl rfl (oneFld _) (by omega) (by omega) (by decide) ?_
          intro v' wg hog hlg
          have lvg := lve.keepB hlg hz6
          go_wp2_with fail
          refine ⟨lvg, ?_⟩
          repeat (refine mix_p rfl (fun K hK => ?_); go_simp; (try go_bits); (try simp (disch := omega) only [if_pos]); (try simp (disch := omega) only [if_neg]); (try simp (disch := omega) only [dif_pos]); (try simp (disch := omega) only [dif_neg]); (try go_simp); (refine hK _ ?_; clear hK K))
          refine mix_nil ?_
          simp only [Exit.then]
          refine hKK _ _ ?_
          go_wp2_with fail
          go_roundw
          case rel => exact ⟨k + 1, ys ++ [⟨⟨#[120]⟩ ++ ra, k3, t4, n5⟩], by omega, by go_num, hog, by simp; omega, tiny_snoc Hti.out ⟨by show ((ByteArray.mk #[120]) ++ ra).size ≤ 1000; rw [ByteArray.size_append]; have e1 : (ByteArray.mk #[120]).size = 1 := rfl; omega, by assumption⟩, (ge.belowB (hlg.mono (by simp; omega)) (by simp)).mono (by omega), lvg, Nat.le_trans (Nat.le_trans hz8 (Nat.le_trans hzd hze)) hlg.size⟩
          case measure => simp [intOf]; omega
        · have Hsm := Lib.hid hsm
          clear hsm Hti
          have Hb := Lib.hid g8.toBelow
          obtain ⟨A9, c9, hA9, hS9⟩ := ho8.toSl (off_ge (b := w.heap.size) hB7)
          cases hA9
          have HS9 := Lib.hid hS9
          clear hS9
          go_wp2_with fail
          refine wp_region_mix (fun w' => LV w' w1.heap.size #[.int .i64 k3, .string t4, .int .i64 n5] 60) [(true, 0), (true, 2), (false, 1), (false, 3), (true, 4), (true, 5), (true, 6), (true, 8), (false, 7), (false, 9), (true, 10), (true, 11), (true, 12), (false, 13), (true, 14), (true, 15)] (by kernel_rfl) (by kernel_rfl) (fun w' hd => bX8.keepB (hd.below _) bX8.lt) (fun KK hKK wd hd_wd => ?_)
          have lvd := bX8.keepB (hd_wd.below _) bX8.lt
          have Hbd : Hid (Below w.heap.size w wd) := Hb.out.trans (hd_wd.below _)
          have HSd := Lib.hid (HS9.out.keepB (hd_wd.below _))
          clear Hb HS9 hd_wd
          refine mix_loadR (.agg #[.int .i64 k3, .string t4, .int .i64 n5]) rfl rfl rfl rfl (fun w' h => h.load3) ?_
          refine mix_loadR (.agg #[.int .i64 k3, .string t4, .int .i64 n5]) rfl rfl rfl rfl (fun w' h => h.load3) ?_
          refine mix_l rfl (fun K hK => ?_) lvd
          go_wp2_with fail
          ((with_reducible refine (checkValue_any k3 n5 t4 _ (by omega) (Utf8Tabs_below HT.out Hbd.out)).mono ?_); rintro e we ⟨rfl, hle⟩)
          have lve := lvd.keepB hle lvd.lt
          have Hbe : Hid (Below w.heap.size w we) := Hbd.out.trans (hle.mono Hbd.out.size)
          have HSe := Lib.hid (HSd.out.keepB hle)
          clear lvd Hbd HSd hle
          generalize hvf : valueFault k3 t4 n5 = vf
          have Hvf := Lib.hid hvf
          clear hvf
          go_wp2_with fail
          refine ⟨lve, ?_⟩
          refine mix_l rfl (fun K hK => ?_) lve
          go_wp2_with fail
          ((with_reducible refine (refValue_any k3 n5 t4 _ (Utf8Tabs_below HT.out Hbe.out)).mono ?_); rintro e wf ⟨rfl, hlf⟩)
          have lvf := lve.keepB hlf lve.lt
          have Hbf : Hid (Below w.heap.size w wf) := Hbe.out.trans (hlf.mono Hbe.out.size)
          have HSf := Lib.hid (HSe.out.keepB hlf)
          clear lve Hbe HSe hlf
          rw [Hvf.out]
          go_wp2_with fail
          refine ⟨lvf, ?_⟩
          repeat (refine mix_p rfl (fun K hK => ?_); go_simp; (try go_bits); (try simp (disch := omega) only [if_pos]); (try simp (disch := omega) only [if_neg]); (try simp (disch := omega) only [dif_pos]); (try simp (disch := omega) only [dif_neg]); (try go_simp); (refine hK _ ?_; clear hK K))
          refine mix_l rfl (fun K hK => ?_) lvf
          go_wp2_with fail
          ((with_reducible refine (checkFields_any (Off w.heap.size) _ _ _ _ HSf.out Hsm.out (by omega) (Utf8Tabs_below HT.out Hbf.out)).mono ?_); rintro e wg ⟨rfl, hlg⟩)
          have lvg := lvf.keepB hlg lvf.lt
          have Hbg : Hid (Below w.heap.size w wg) := Hbf.out.trans (hlg.mono Hbf.out.size)
          have HSg := Lib.hid (HSf.out.keepB hlg)
          clear lvf Hbf HSf hlg
          generalize hff : fldsFault _ = ff
          have Hff := Lib.hid hff
          clear hff
          go_wp2_with fail
          refine ⟨lvg, ?_⟩
          refine mix_l rfl (fun K hK => ?_) lvg
          go_wp2_with fail
          ((with_reducible refine (refFields_any (Off w.heap.size) _ _ _ _ HSg.out Hsm.out (by omega) (Utf8Tabs_below HT.out Hbg.out)).mono ?_); rintro e wh ⟨rfl, hlh⟩)
          have lvh := lvg.keepB hlh lvg.lt
          have Hbh : Hid (Below w.heap.size w wh) := Hbg.out.trans (hlh.mono Hbg.out.size)
          clear lvg Hbg HSg hlh
          rw [Hff.out]
          go_wp2_with fail
          refine ⟨lvh, ?_⟩
          repeat (refine mix_p rfl (fun K hK => ?_); go_simp; (try go_bits); (try simp (disch := omega) only [if_pos]); (try simp (disch := omega) only [if_neg]); (try simp (disch := omega) only [dif_pos]); (try simp (disch := omega) only [dif_neg]); (try go_simp); (refine hK _ ?_; clear hK K))
          refine mix_l rfl (fun K hK => ?_) lvh
          go_wp2_with fail
          ((with_reducible refine (people_any _ (Utf8Tabs_below HT.out Hbh.out)).mono ?_); rintro e wi ⟨rfl, hli⟩)
          have lvi := lvh.keepB hli lvh.lt
          have Hbi : Hid (Below w.heap.size w wi) := Hbh.out.trans (hli.mono Hbh.out.size)
          clear lvh Hbh hli
          go_wp2_with fail
          refine ⟨lvi, ?_⟩
          repeat (refine mix_p rfl (fun K hK => ?_); go_simp; (try go_bits); (try simp (disch := omega) only [if_pos]); (try simp (disch := omega) only [if_neg]); (try simp (disch := omega) only [dif_pos]); (try simp (disch := omega) only [dif_neg]); (try go_simp); (refine hK _ ?_; clear hK K))
          refine mix_nil ?_
          simp only [Exit.then]
          refine hKK _ _ ?_
          go_wp2_with fail
          go_ret
          exact ⟨rfl, Hbi.out⟩
end Go.Proofs.YtcbpajhlollcbaaDoor
