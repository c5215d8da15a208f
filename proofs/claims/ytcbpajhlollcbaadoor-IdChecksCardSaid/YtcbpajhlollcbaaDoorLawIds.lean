/- The law IdChecks walked: it returns true, and nothing that was there has turned. -/
import Derived.Test.YtcbpajhlollcbaaDoorGenId
import Derived.Test.YtcbpajhlollcbaaDoorIdFault
import Derived.Test.YtcbpajhlollcbaaDoorPeople
namespace Go.Proofs.YtcbpajhlollcbaaDoor
open Go.RowKit
theorem TwoIds.keepB {X Y : Nat} {k1 k2 : Int} {t1 t2 : ByteArray} {w w' : World} (h : TwoIds X Y k1 t1 k2 t2 w) (k : Below w.heap.size w w') : TwoIds X Y k1 t1 k2 t2 w' :=
  ⟨(k.block X h.1.lt).trans h.1, (k.block Y h.2.lt).trans h.2⟩
theorem LV.load2 {w : World} {X : Nat} {a b : Value} (h : LV w X #[a, b] 76) : (Instr.loadAt 76 (.pointer (some ⟨X, 0, none⟩))).run Tryd.prog w = .ok (.agg #[a, b]) w := by
  have h_c0 := h.cell 0 _ rfl
  have h_c1 := h.cell 1 _ rfl
  have h_f0 := h.free 0
  have h_f1 := h.free 1
  go_simp
theorem G.toBelow {m : Nat} {w w1 : World} {o : Obj} (h : G w.heap.size m (w.alloc o) w1) : Below w.heap.size w w1 :=
  ((Below.refl _ _).alloc (Nat.le_refl _) o).trans (h.k.below (Nat.le_refl _) (by simp))
set_option maxHeartbeats 8000000 in
set_option maxRecDepth 100000 in
theorem idChecks_any (v : Value) (w : World) (hv : IntsIn v w) (hT : Tabs w) (hP : Pool w) (hM : MaxL w) :
    Calls Tryd.prog 7 #[v] w fun e w' => e = .returned (.bool true) ∧ Below w.heap.size w w' := by
  obtain ⟨va, vn, vc, rfl⟩ : ∃ a n c, v = .slice a n c := by
    rcases hv with ⟨a, c, rfl⟩ | ⟨k, off, len, cap, rfl, _⟩
    · exact ⟨_, _, _, rfl⟩
    · exact ⟨_, _, _, rfl⟩
  have g0 := G.start (Strm.start hv)
  have HT := Lib.hid hT
  have HM := Lib.hid hM
  have hPl := hP.lt
  have hPn : 1 ≠ w.heap.size := Nat.ne_of_lt hPl
  have HP := Lib.hid (hP.keep (b := w.heap.size) ((SK.refl _ w).alloc (.cells #[.slice va vn vc, .int .i64 0] 25)) hPn)
  clear hT hv hP hM
  go_enter Tryd.func7, Tryd.ntmps7
  go_wp2_with fail
  ((with_reducible refine (spoiledId_any w.heap.size 0 _ g0.s (by omega) HP.out hPn).mono ?_); rintro e w1 ⟨k1, t1, t1_le, rfl, hk_w1, hs_w1⟩)
  have g1 := g0.step hk_w1 hs_w1
  clear hk_w1 hs_w1
  go_wp2_with fail
  ((with_reducible refine (id_any w.heap.size _ _ g1.s (by omega) (HP.out.keep g1.k hPn) hPn).mono ?_); rintro e w2 ⟨k2, t2, t2_le, rfl, hk_w2, hs_w2⟩)
  have g2 := (((g1.step hk_w2 hs_w2).alloc (.cells #[.int .i64 k1, .string t1] 76)).alloc (.cells #[.int .i64 k2, .string t2] 76))
  clear hk_w2 hs_w2 g1 g0 HP
  have lv1 := (LV.new w2 w2.heap.size #[.int .i64 k1, .string t1] 76 rfl).alloc (.cells #[.int .i64 k2, .string t2] 76)
  have lv2 := LV.new (w2.alloc (.cells #[.int .i64 k1, .string t1] 76)) (w2.heap.size + 1) #[.int .i64 k2, .string t2] 76 (by simp)
  have Hb2 := Lib.hid g2.toBelow
  clear g2
  have hC0 : TwoIds w2.heap.size (w2.heap.size + 1) k1 t1 k2 t2 _ := ⟨lv1, lv2⟩
  clear lv1 lv2
  go_wp2_with fail
  refine wp_region_mix (TwoIds w2.heap.size (w2.heap.size + 1) k1 t1 k2 t2) [(true, 0), (true, 2), (false, 1), (false, 3), (true, 4), (true, 5), (true, 6), (true, 8), (false, 7), (false, 9), (true, 10), (true, 11), (true, 12), (true, 13), (true, 14), (true, 16), (true, 17), (false, 15), (false, 18), (true, 19), (true, 20), (true, 21), (true, 22), (true, 23), (true, 25), (true, 26), (false, 24), (false, 27), (true, 28), (true, 29), (true, 30), (false, 31), (true, 32), (true, 33)] (by kernel_rfl) (by kernel_rfl) (fun w' hd => TwoIds.keepB hC0 (hd.below _)) (fun KK hKK wd hd_wd => ?_)
  have hCd := TwoIds.keepB hC0 (hd_wd.below _)
  have Hbd : Hid (Below w.heap.size w wd) := Hb2.out.trans (hd_wd.below _)
  clear hC0 Hb2 hd_wd
  obtain ⟨f1, Hf1⟩ : ∃ f, Hid (L.idFault k1 t1 = f) := ⟨_, Lib.hid rfl⟩
  obtain ⟨f2, Hf2⟩ : ∃ f, Hid (L.idFault k2 t2 = f) := ⟨_, Lib.hid rfl⟩
  obtain ⟨c1, Hc1⟩ : ∃ f, Hid (idCmp k1 t1 k2 t2 = f) := ⟨_, Lib.hid rfl⟩
  obtain ⟨c2, Hc2⟩ : ∃ f, Hid (idCmp k2 t2 k1 t1 = f) := ⟨_, Lib.hid rfl⟩
  refine mix_loadR (.agg #[.int .i64 k1, .string t1]) rfl rfl rfl rfl (fun w' h => h.1.load2) ?_
  refine mix_loadR (.agg #[.int .i64 k1, .string t1]) rfl rfl rfl rfl (fun w' h => h.1.load2) ?_
  refine mix_l rfl (fun K hK => ?_) hCd
  go_wp2_with fail
  ((with_reducible refine (checkId_any k1 t1 _ (by omega) (HM.out.below Hbd.out)).mono ?_); rintro e wa ⟨rfl, hl_wa⟩)
  have hC_wa := TwoIds.keepB hCd hl_wa
  have Hb_wa : Hid (Below w.heap.size w wa) := Hbd.out.trans (hl_wa.mono Hbd.out.size)
  clear hl_wa hCd Hbd
  rw [Hf1.out]
  go_wp2_with fail
  refine ⟨hC_wa, ?_⟩
  refine mix_l rfl (fun K hK => ?_) hC_wa
  go_wp2_with fail
  ((with_reducible refine (refId_any k1 t1 _ (by omega) (HM.out.below Hb_wa.out)).mono ?_); rintro e wb ⟨rfl, hl_wb⟩)
  have hC_wb := TwoIds.keepB hC_wa hl_wb
  have Hb_wb : Hid (Below w.heap.size w wb) := Hb_wa.out.trans (hl_wb.mono Hb_wa.out.size)
  clear hl_wb hC_wa Hb_wa
  rw [Hf1.out]
  go_wp2_with fail
  refine ⟨hC_wb, ?_⟩
  repeat (refine mix_p rfl (fun K hK => ?_); go_simp; (try go_bits); (try simp (disch := omega) only [if_pos]); (try simp (disch := omega) only [if_neg]); (try simp (disch := omega) only [dif_pos]); (try simp (disch := omega) only [dif_neg]); (try go_simp); (refine hK _ ?_; clear hK K))
  refine mix_loadG (.agg #[.int .i64 k2, .string t2]) rfl (by simp [Region.wanted, yielded, Act.put, go_sem]) rfl rfl (fun w' h => h.2.load2) ?_
  refine mix_loadG (.agg #[.int .i64 k2, .string t2]) rfl (by simp [Region.wanted, yielded, Act.put, go_sem]) rfl rfl (fun w' h => h.2.load2) ?_
  refine mix_l rfl (fun K hK => ?_) hC_wb
  go_wp2_with fail
  ((with_reducible refine (checkId_any k2 t2 _ (by omega) (HM.out.below Hb_wb.out)).mono ?_); rintro e wc ⟨rfl, hl_wc⟩)
  have hC_wc := TwoIds.keepB hC_wb hl_wc
  have Hb_wc : Hid (Below w.heap.size w wc) := Hb_wb.out.trans (hl_wc.mono Hb_wb.out.size)
  clear hl_wc hC_wb Hb_wb
  rw [Hf2.out]
  go_wp2_with fail
  refine ⟨hC_wc, ?_⟩
  refine mix_l rfl (fun K hK => ?_) hC_wc
  go_wp2_with fail
  ((with_reducible refine (refId_any k2 t2 _ (by omega) (HM.out.below Hb_wc.out)).mono ?_); rintro e we ⟨rfl, hl_we⟩)
  have hC_we := TwoIds.keepB hC_wc hl_we
  have Hb_we : Hid (Below w.heap.size w we) := Hb_wc.out.trans (hl_we.mono Hb_wc.out.size)
  clear hl_we hC_wc Hb_wc
  rw [Hf2.out]
  go_wp2_with fail
  refine ⟨hC_we, ?_⟩
  repeat (refine mix_p rfl (fun K hK => ?_); go_simp; (try go_bits); (try simp (disch := omega) only [if_pos]); (try simp (disch := omega) only [if_neg]); (try simp (disch := omega) only [dif_pos]); (try simp (disch := omega) only [dif_neg]); (try go_simp); (refine hK _ ?_; clear hK K))
  refine mix_loadG (.agg #[.int .i64 k1, .string t1]) rfl (by simp [Region.wanted, yielded, Act.put, go_sem]) rfl rfl (fun w' h => h.1.load2) ?_
  refine mix_loadG (.agg #[.int .i64 k2, .string t2]) rfl (by simp [Region.wanted, yielded, Act.put, go_sem]) rfl rfl (fun w' h => h.2.load2) ?_
  refine mix_loadG (.agg #[.int .i64 k1, .string t1]) rfl (by simp [Region.wanted, yielded, Act.put, go_sem]) rfl rfl (fun w' h => h.1.load2) ?_
  refine mix_loadG (.agg #[.int .i64 k2, .string t2]) rfl (by simp [Region.wanted, yielded, Act.put, go_sem]) rfl rfl (fun w' h => h.2.load2) ?_
  refine mix_l rfl (fun K hK => ?_) hC_we
  go_wp2_with fail
  ((with_reducible refine (compareIds_any k1 k2 t1 t2 _).mono ?_); rintro e wf ⟨rfl, hl_wf⟩)
  have hC_wf := TwoIds.keepB hC_we hl_wf
  have Hb_wf : Hid (Below w.heap.size w wf) := Hb_we.out.trans (hl_wf.mono Hb_we.out.size)
  clear hl_wf hC_we Hb_we
  rw [Hc1.out]
  go_wp2_with fail
  refine ⟨hC_wf, ?_⟩
  refine mix_l rfl (fun K hK => ?_) hC_wf
  go_wp2_with fail
  ((with_reducible refine (order_any k1 k2 t1 t2 _).mono ?_); rintro e wg ⟨rfl, hl_wg⟩)
  have hC_wg := TwoIds.keepB hC_wf hl_wg
  have Hb_wg : Hid (Below w.heap.size w wg) := Hb_wf.out.trans (hl_wg.mono Hb_wf.out.size)
  clear hl_wg hC_wf Hb_wf
  rw [Hc1.out]
  go_wp2_with fail
  refine ⟨hC_wg, ?_⟩
  repeat (refine mix_p rfl (fun K hK => ?_); go_simp; (try go_bits); (try simp (disch := omega) only [if_pos]); (try simp (disch := omega) only [if_neg]); (try simp (disch := omega) only [dif_pos]); (try simp (disch := omega) only [dif_neg]); (try go_simp); (refine hK _ ?_; clear hK K))
  refine mix_loadG (.agg #[.int .i64 k2, .string t2]) rfl (by simp [Region.wanted, yielded, Act.put, go_sem]) rfl rfl (fun w' h => h.2.load2) ?_
  refine mix_loadG (.agg #[.int .i64 k1, .string t1]) rfl (by simp [Region.wanted, yielded, Act.put, go_sem]) rfl rfl (fun w' h => h.1.load2) ?_
  refine mix_loadG (.agg #[.int .i64 k2, .string t2]) rfl (by simp [Region.wanted, yielded, Act.put, go_sem]) rfl rfl (fun w' h => h.2.load2) ?_
  refine mix_loadG (.agg #[.int .i64 k1, .string t1]) rfl (by simp [Region.wanted, yielded, Act.put, go_sem]) rfl rfl (fun w' h => h.1.load2) ?_
  refine mix_l rfl (fun K hK => ?_) hC_wg
  go_wp2_with fail
  ((with_reducible refine (compareIds_any k2 k1 t2 t1 _).mono ?_); rintro e wh ⟨rfl, hl_wh⟩)
  have hC_wh := TwoIds.keepB hC_wg hl_wh
  have Hb_wh : Hid (Below w.heap.size w wh) := Hb_wg.out.trans (hl_wh.mono Hb_wg.out.size)
  clear hl_wh hC_wg Hb_wg
  rw [Hc2.out]
  go_wp2_with fail
  refine ⟨hC_wh, ?_⟩
  refine mix_l rfl (fun K hK => ?_) hC_wh
  go_wp2_with fail
  ((with_reducible refine (order_any k2 k1 t2 t1 _).mono ?_); rintro e wi ⟨rfl, hl_wi⟩)
  have hC_wi := TwoIds.keepB hC_wh hl_wi
  have Hb_wi : Hid (Below w.heap.size w wi) := Hb_wh.out.trans (hl_wi.mono Hb_wh.out.size)
  clear hl_wi hC_wh Hb_wh
  rw [Hc2.out]
  go_wp2_with fail
  refine ⟨hC_wi, ?_⟩
  repeat (refine mix_p rfl (fun K hK => ?_); go_simp; (try go_bits); (try simp (disch := omega) only [if_pos]); (try simp (disch := omega) only [if_neg]); (try simp (disch := omega) only [dif_pos]); (try simp (disch := omega) only [dif_neg]); (try go_simp); (refine hK _ ?_; clear hK K))
  refine mix_l rfl (fun K hK => ?_) hC_wi
  go_wp2_with fail
  ((with_reducible refine (people_any _ (Utf8Tabs_below HT.out Hb_wi.out)).mono ?_); rintro e wj ⟨rfl, hl_wj⟩)
  have hC_wj := TwoIds.keepB hC_wi hl_wj
  have Hb_wj : Hid (Below w.heap.size w wj) := Hb_wi.out.trans (hl_wj.mono Hb_wi.out.size)
  clear hl_wj hC_wi Hb_wi
  go_wp2_with fail
  refine ⟨hC_wj, ?_⟩
  repeat (refine mix_p rfl (fun K hK => ?_); go_simp; (try go_bits); (try simp (disch := omega) only [if_pos]); (try simp (disch := omega) only [if_neg]); (try simp (disch := omega) only [dif_pos]); (try simp (disch := omega) only [dif_neg]); (try go_simp); (refine hK _ ?_; clear hK K))
  refine mix_nil ?_
  simp only [Exit.then]
  refine hKK _ _ ?_
  go_wp2_with fail
  go_ret
  exact ⟨rfl, Hb_wj.out⟩
end Go.Proofs.YtcbpajhlollcbaaDoor
