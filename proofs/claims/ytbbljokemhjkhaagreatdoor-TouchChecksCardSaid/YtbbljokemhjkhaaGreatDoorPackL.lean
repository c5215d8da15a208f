/- Several texts in one: People, LawTch. -/
import Derived.Test.YtbbljokemhjkhaaGreatDoorPackV
import Derived.Test.YtbbljokemhjkhaaGreatDoorPackJ
import Derived.Test.YtbbljokemhjkhaaGreatDoorPackK
import Derived.Test.YtbbljokemhjkhaaGreatDoorPackC
/- What handlaw2.people returns: true. -/
namespace Go.Proofs.YtbbljokemhjkhaaGreatDoor
open Go.RowKit

theorem far_kitten : far ⟨#[107, 105, 116, 116, 101, 110]⟩ ⟨#[115, 105, 116, 116, 105, 110, 103]⟩ = 3 := by decide +kernel
theorem quote_blank : Q.quote [32] = [34, 92, 120, 50, 48, 34] := by decide +kernel

theorem people_any (w : World) (hT : Tabs w) : Calls Tryz.prog 30 #[] w fun e w' => e = .returned (.bool true) ∧ Below w.heap.size w w' := by
  have Hd : Hid (Calls Tryz.prog 79 #[.string ⟨#[107, 105, 116, 116, 101, 110]⟩, .string ⟨#[115, 105, 116, 116, 105, 110, 103]⟩] w fun e w' => e = .returned (.tuple #[.int .i64 3, .int .i64 0]) ∧ Below w.heap.size w w') :=
    (distance_any _ _ w (by simp [ByteArray.size]) (by simp [ByteArray.size]) hT).mono fun e w' ⟨h1, h2⟩ => ⟨by rw [h1, far_kitten]; rfl, h2⟩
  have Hq : Hid (∀ w', Calls Tryz.prog 80 #[.string ⟨#[32]⟩] w' fun e w'' => e = .returned (.string ⟨#[34, 92, 120, 50, 48, 34]⟩) ∧ Below w'.heap.size w' w'') := fun w' =>
    (quote_any _ w' (by simp [ByteArray.size])).mono fun e w'' ⟨h1, h2⟩ => ⟨by rw [h1, quote_blank], h2⟩
  clear hT
  go_enter Tryz.func30, Tryz.ntmps30
  go_wp2_with fail
  ((with_reducible refine Hd.out.mono ?_); rintro e w1 ⟨rfl, hl1⟩)
  have hz1 := hl1.size
  go_wp2_with fail
  ((with_reducible refine (Hq.out _).mono ?_); rintro e w2 ⟨rfl, hl2⟩)
  go_wp2_with fail
  go_ret
  exact ⟨rfl, hl1.trans (hl2.mono (by omega))⟩
end Go.Proofs.YtbbljokemhjkhaaGreatDoor

/- The law TouchChecks walked: it returns true, and nothing that was there has turned. -/
namespace Go.Proofs.YtbbljokemhjkhaaGreatDoor
open Go Go.RowKit
theorem loadAtJ {w : World} {X : Nat} {a b c d : Value} (h : LV w X #[a, b, c, d] 59) : (Instr.loadAt 59 (.pointer (some ⟨X, 0, none⟩))).run Tryz.prog w = .ok (.agg #[a, b, c, d]) w := by
  have c0 := h.all
  go_simp
set_option maxHeartbeats 8000000 in
set_option maxRecDepth 100000 in
theorem touchChecks_any (v : Value) (w : World) (hv : IntsIn v w) (hT : Tabs w) (hM : MaxL w) (hN : Names w) (hP : Pool w) :
    Calls Tryz.prog 4 #[v] w fun e w' => e = .returned (.bool true) ∧ Below w.heap.size w w' := by
  obtain ⟨va, vn, vc, rfl⟩ : ∃ a n c, v = .slice a n c := by
    rcases hv with ⟨a, c, rfl⟩ | ⟨k, off, len, cap, rfl, _⟩
    · exact ⟨_, _, _, rfl⟩
    · exact ⟨_, _, _, rfl⟩
  have g0 := G.start (Strm.start hv)
  clear hv
  have S := St.start g0.s
  have hPn : 1 ≠ w.heap.size := Nat.ne_of_lt hP.lt
  have hNn : 0 ≠ w.heap.size := Nat.ne_of_lt hN.lt
  have hb0 : Below w.heap.size w (w.alloc (.cells #[.slice va vn vc, .int .i64 0] 25)) := (Below.refl _ _).alloc (Nat.le_refl _) _
  have Hb0 := Lib.hid hb0
  have HTM : Hid (∀ w', Below w.heap.size w w' → Tabs w' ∧ MaxL w') := fun w' h => ⟨Utf8Tabs_below hT h, hM.below h⟩
  have HP := Lib.hid (hP.keep (b := w.heap.size) ((SK.refl _ w).alloc (.cells #[.slice va vn vc, .int .i64 0] 25)) hPn)
  have HN := Lib.hid (hN.keep (b := w.heap.size) ((SK.refl _ w).alloc (.cells #[.slice va vn vc, .int .i64 0] 25)) hNn)
  have hw0 : w.heap.size ≤ (w.alloc (.cells #[.slice va vn vc, .int .i64 0] 25)).heap.size := by simp
  clear hP hM hN hT hb0
  go_enter Tryz.func4, Tryz.ntmps4
  go_wp2_with fail
  ((with_reducible refine (range_any w.heap.size _ _ _ _ S.g.s (by omega) (by omega) (by omega) (by omega)).mono ?_); rintro e w1 ⟨many, m_lo, m_hi, rfl, hk_w1, hs_w1⟩)
  replace S := S.step hk_w1 hs_w1
  clear hk_w1 hs_w1
  obtain ⟨n, rfl⟩ := Int.eq_ofNat_of_zero_le m_lo
  go_wp2_with fail
  ((with_reducible refine (touches_any w.heap.size _ n _ S.g.s (by omega) (by omega) (HN.out.keep S.g.k hNn) hNn (HP.out.keep S.g.k hPn) hPn).mono ?_); rintro e w2 ⟨v2, qs, rfl, hql, hqs, T⟩)
  obtain ⟨A, c, rfl, S3⟩ := (S.join T).frz 0 rfl
  obtain ⟨M, hMm⟩ : ∃ M, 0 + 1 + 600 * n + 10 = M := ⟨_, rfl⟩
  have S4 : St w.heap.size M _ w2 [.sl rTch A (qs.map TQ.t), .tdat qs] := St.mono (S3.tchs 0 1 rfl rfl) (Nat.le_of_eq hMm)
  have hM2 : M ≤ 10000 := by omega
  obtain ⟨xs, hxs⟩ : ∃ xs, qs.map TQ.t = xs := ⟨_, rfl⟩
  have hxl : qs.length = xs.length := by rw [← hxs, List.length_map]
  have Hok : Hid (TchsOk xs) := by
    rw [← hxs]
    exact ⟨by rw [List.length_map]; omega, fun t ht => by
      obtain ⟨q, hq, rfl⟩ := List.mem_map.1 ht
      exact (hqs q hq).ok⟩
  rw [hxs] at S4
  rw [hxl]
  clear S S3 T hxs hxl hqs hql hMm m_lo m_hi
  go_wp2_with fail
  ((with_reducible refine (joinRules_any w.heap.size _ _ S4.g.s (by omega) (HN.out.keep S4.g.k hNn) hNn (HP.out.keep S4.g.k hPn) hPn).mono ?_); rintro e w3 ⟨r, K, ck, W, cw, Sv, cs, rfl, hr, T2⟩)
  have S5 := S4.join T2
  obtain ⟨Y, hY⟩ : ∃ Y, Y = w3.heap.size := ⟨_, rfl⟩
  have S6 := S5.newAt (ruCs r K ck W cw Sv cs) 59 Y hY
  replace S6 : St w.heap.size (M + 1000) _ (w3.alloc (.cells (ruCs r K ck W cw Sv cs) 59)) [.sl rTch A xs, .tdat qs, .sl rInt K r.kinds, .sl rId W r.weak, .sl rSrv Sv r.surv, .loc Y (ruCs r K ck W cw Sv cs) 59] := S6
  have Hr := Lib.hid hr
  clear S4 S5 T2 hr
  go_upto_region 3 with fail
  rw [← hY]
  clear hY
  generalize w3.alloc (.cells (ruCs r K ck W cw Sv cs) 59) = w4 at *
  have Hb4 : Hid (Below w.heap.size w w4) := Hb0.out.trans (S6.g.k.below (Nat.le_refl _) hw0)
  have hS := (S6.slc 0 rfl).mono (M := fun _ => False) (fun _ _ h => h.elim)
  have hR : RulIn (fun _ => False) w4 r K W Sv := ⟨(S6.slc 2 rfl).mono (fun _ _ h => h.elim), (S6.slc 3 rfl).mono (fun _ _ h => h.elim), (S6.slc 4 rfl).mono (fun _ _ h => h.elim)⟩
  have lvY := S6.lv 5 rfl
  have Hc1 := Lib.hid (fun w' (h : Below w4.heap.size w4 w') => checkTouches_any (fun _ => False) A xs c w' (hS.keepB h) Hok.out (HTM.out w' (Hb4.out.trans (h.mono Hb4.out.size))).1 (HTM.out w' (Hb4.out.trans (h.mono Hb4.out.size))).2)
  have Hc2 := Lib.hid (fun w' (h : Below w4.heap.size w4 w') => refTouches_any (fun _ => False) A xs c w' (hS.keepB h) Hok.out (HTM.out w' (Hb4.out.trans (h.mono Hb4.out.size))).1 (HTM.out w' (Hb4.out.trans (h.mono Hb4.out.size))).2)
  have Hc3 := Lib.hid (fun w' (h : Below w4.heap.size w4 w') => checkJoin_any (fun _ => False) r K W Sv ck cw cs w' (hR.keepB h) Hr.out.ok (HTM.out w' (Hb4.out.trans (h.mono Hb4.out.size))).2)
  have Hc4 := Lib.hid (fun w' (h : Below w4.heap.size w4 w') => refRules_any (fun _ => False) r K W Sv ck cw cs w' (hR.keepB h) Hr.out.ok (HTM.out w' (Hb4.out.trans (h.mono Hb4.out.size))).2)
  have Hc5 := Lib.hid (fun w' (h : Below w4.heap.size w4 w') => people_any w' (HTM.out w' (Hb4.out.trans (h.mono Hb4.out.size))).1)
  obtain ⟨F, HF⟩ : ∃ F, Hid (tchsFault xs = F) := ⟨_, Lib.hid rfl⟩
  obtain ⟨E, HE⟩ : ∃ E, Hid (rulFault r = E) := ⟨_, Lib.hid rfl⟩
  rw [HF.out] at Hc1 Hc2
  rw [HE.out] at Hc3 Hc4
  clear hS hR S6 HF HE Hok Hr HTM HP HN
  go_wp2_with fail
  refine wp_region_mix (fun w' => Below w4.heap.size w4 w') [(true, 0), (true, 2), (false, 1), (false, 3), (true, 4), (true, 5), (true, 6), (true, 8), (false, 7), (false, 9), (true, 10), (true, 11), (true, 12), (false, 13), (true, 14), (true, 15)] (by kernel_rfl) (by kernel_rfl) (fun w' hd => hd.below _) (fun KK hKK wd hd_wd => ?_)
  have hC := hd_wd.below w4.heap.size
  clear hd_wd
  repeat (refine mix_p rfl (fun K hK => ?_); go_simp; (try go_bits); (try simp (disch := omega) only [if_pos]); (try simp (disch := omega) only [if_neg]); (try simp (disch := omega) only [dif_pos]); (try simp (disch := omega) only [dif_neg]); (try go_simp); (refine hK _ ?_; clear hK K))
  refine mix_l rfl (fun K hK => ?_) hC
  go_wp2_with fail
  ((with_reducible refine (Hc1.out wd hC).mono ?_); rintro e wa ⟨rfl, hl_wa⟩)
  have hC_wa := Below.trans hC (hl_wa.mono (Below.size hC))
  clear hl_wa hC
  go_wp2_with fail
  refine ⟨hC_wa, ?_⟩
  refine mix_l rfl (fun K hK => ?_) hC_wa
  go_wp2_with fail
  ((with_reducible refine (Hc2.out wa hC_wa).mono ?_); rintro e wb ⟨rfl, hl_wb⟩)
  have hC_wb := Below.trans hC_wa (hl_wb.mono (Below.size hC_wa))
  clear hl_wb hC_wa
  go_wp2_with fail
  refine ⟨hC_wb, ?_⟩
  repeat (refine mix_p rfl (fun K hK => ?_); go_simp; (try go_bits); (try simp (disch := omega) only [if_pos]); (try simp (disch := omega) only [if_neg]); (try simp (disch := omega) only [dif_pos]); (try simp (disch := omega) only [dif_neg]); (try go_simp); (refine hK _ ?_; clear hK K))
  refine mix_loadG (.agg (ruCs r K ck W cw Sv cs)) rfl (by simp [Region.wanted, yielded, go_sem]) rfl rfl (fun w' h => loadAtJ (LV.kb3 lvY h lvY.lt)) ?_
  refine mix_loadG (.agg (ruCs r K ck W cw Sv cs)) rfl (by simp [Region.wanted, yielded, Act.put, go_sem]) rfl rfl (fun w' h => loadAtJ (LV.kb3 lvY h lvY.lt)) ?_
  refine mix_l rfl (fun K hK => ?_) hC_wb
  go_wp2_with fail
  ((with_reducible refine (Hc3.out wb hC_wb).mono ?_); rintro e wc ⟨rfl, hl_wc⟩)
  have hC_wc := Below.trans hC_wb (hl_wc.mono (Below.size hC_wb))
  clear hl_wc hC_wb
  go_wp2_with fail
  refine ⟨hC_wc, ?_⟩
  refine mix_l rfl (fun K hK => ?_) hC_wc
  go_wp2_with fail
  ((with_reducible refine (Hc4.out wc hC_wc).mono ?_); rintro e we ⟨rfl, hl_we⟩)
  have hC_we := Below.trans hC_wc (hl_we.mono (Below.size hC_wc))
  clear hl_we hC_wc
  go_wp2_with fail
  refine ⟨hC_we, ?_⟩
  repeat (refine mix_p rfl (fun K hK => ?_); go_simp; (try go_bits); (try simp (disch := omega) only [if_pos]); (try simp (disch := omega) only [if_neg]); (try simp (disch := omega) only [dif_pos]); (try simp (disch := omega) only [dif_neg]); (try go_simp); (refine hK _ ?_; clear hK K))
  refine mix_l rfl (fun K hK => ?_) hC_we
  go_wp2_with fail
  ((with_reducible refine (Hc5.out we hC_we).mono ?_); rintro e wf ⟨rfl, hl_wf⟩)
  have hC_wf := Below.trans hC_we (hl_wf.mono (Below.size hC_we))
  clear hl_wf hC_we
  go_wp2_with fail
  refine ⟨hC_wf, ?_⟩
  repeat (refine mix_p rfl (fun K hK => ?_); go_simp; (try go_bits); (try simp (disch := omega) only [if_pos]); (try simp (disch := omega) only [if_neg]); (try simp (disch := omega) only [dif_pos]); (try simp (disch := omega) only [dif_neg]); (try go_simp); (refine hK _ ?_; clear hK K))
  refine mix_nil ?_
  simp only [Exit.then]
  refine hKK _ _ ?_
  go_wp2_with fail
  go_ret
  exact ⟨rfl, Hb4.out.trans (hC_wf.mono Hb4.out.size)⟩
end Go.Proofs.YtbbljokemhjkhaaGreatDoor
