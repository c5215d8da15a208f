/- The law SchemaChecks walked: it returns true, and nothing that was there has turned. -/
import Derived.Test.YthlcdepjmoddnaaGreatDoorPackF
import Derived.Test.YthlcdepjmoddnaaGreatDoorPackS
import Derived.Test.YthlcdepjmoddnaaGreatDoorPackZ
namespace Go.Proofs.YthlcdepjmoddnaaGreatDoor
open Go Go.RowKit
theorem loadAtEv {w : World} {X : Nat} {a b c d e f : Value} (h : LV w X #[a, b, c, d, e, f] 32) : (Instr.loadAt 32 (.pointer (some ⟨X, 0, none⟩))).run Tryz.prog w = .ok (.agg #[a, b, c, d, e, f]) w := by
  have c0 := h.all
  go_simp
set_option maxHeartbeats 8000000 in
set_option maxRecDepth 100000 in
theorem schemaChecks_any (v : Value) (w : World) (hv : IntsIn v w) (hT : Tabs w) (hM : MaxL w) (hN : Names w) (hE : ENames w) (hP : Pool w) :
    Calls Tryz.prog 3 #[v] w fun e w' => e = .returned (.bool true) ∧ Below w.heap.size w w' := by
  obtain ⟨va, vn, vc, rfl⟩ : ∃ a n c, v = .slice a n c := by
    rcases hv with ⟨a, c, rfl⟩ | ⟨k, off, len, cap, rfl, _⟩
    · exact ⟨_, _, _, rfl⟩
    · exact ⟨_, _, _, rfl⟩
  have g0 := G.start (Strm.start hv)
  clear hv
  have S := St.start g0.s
  have HT := Lib.hid hT
  have HM := Lib.hid hM
  have hPn : 2 ≠ w.heap.size := Nat.ne_of_lt hP.lt
  have hNn : 1 ≠ w.heap.size := Nat.ne_of_lt hN.lt
  have hEn : 0 ≠ w.heap.size := Nat.ne_of_lt hE.lt
  have HP := Lib.hid (hP.keep (b := w.heap.size) ((SK.refl _ w).alloc (.cells #[.slice va vn vc, .int .i64 0] 25)) hPn)
  have HN := Lib.hid (hN.keep (b := w.heap.size) ((SK.refl _ w).alloc (.cells #[.slice va vn vc, .int .i64 0] 25)) hNn)
  have HE := Lib.hid (hE.keep (b := w.heap.size) ((SK.refl _ w).alloc (.cells #[.slice va vn vc, .int .i64 0] 25)) hEn)
  clear hP hM hN hE hT
  have hb0 : Below w.heap.size w (w.alloc (.cells #[.slice va vn vc, .int .i64 0] 25)) := (Below.refl _ _).alloc (Nat.le_refl _) _
  go_enter Tryz.func3, Tryz.ntmps3
  go_wp2_with fail
  ((with_reducible refine (schemas_any w.heap.size 0 _ S.g.s (by omega) HN.out hNn HE.out).mono ?_); rintro e w1 ⟨v, l, rfl, hsm, T⟩)
  replace S := S.join T
  have Hsm := Lib.hid hsm
  have hll := hsm.len
  obtain ⟨A, c, rfl, S2⟩ := T.frz 0 rfl
  clear T S hsm
  have S := S2
  clear S2
  go_wp2_with fail
  ((with_reducible refine (range_any w.heap.size _ _ _ _ S.g.s (by omega) (by omega) (by omega) (by omega)).mono ?_); rintro e w2 ⟨at', at_lo, at_hi, rfl, hk_w2, hs_w2⟩)
  replace S := S.step hk_w2 hs_w2
  clear hk_w2 hs_w2
  have hS2 : Sl rScm (Off w.heap.size) w2 A l := (S.slc 0 rfl).mono (fun k _ e => by
    have : k = w.heap.size := e
    subst this
    exact .inl S.b0)
  go_wp2_with fail
  ((with_reducible refine (eventFor_any w.heap.size _ A l c ⟨#[101]⟩ at' w2 S.g.s (by omega) (by decide) (HN.out.keep S.g.k hNn) hNn (HE.out.keep S.g.k hEn) hEn (HP.out.keep S.g.k hPn) hPn hS2 Hsm.out).mono ?_); rintro e w3 ⟨x, Ax, cx, rfl, hx, T⟩)
  have hS3 := hS2.keep T.g.k.n
  have hF3 : Sl rFld (Off w.heap.size) w3 Ax x.flds := (T.slc 0 rfl).mono (fun k _ e => by
    have : k = w.heap.size := e
    subst this
    exact .inl T.b0)
  replace S := S.join T
  have Hb3 : Hid (Below w.heap.size w w3) := hb0.trans (S.g.k.below (Nat.le_refl _) (by simp))
  clear T hS2 S hb0
  have hb4 : Below w3.heap.size w3 (w3.alloc (.cells (evCs x Ax cx) 32)) := (Below.refl _ _).alloc (Nat.le_refl _) _
  have Hb4 : Hid (Below w.heap.size w (w3.alloc (.cells (evCs x Ax cx) 32))) := Hb3.out.alloc Hb3.out.size _
  have lvX := LV.new w3 w3.heap.size (evCs x Ax cx) 32 rfl
  have hS4 := hS3.keepB hb4
  have hF4 := hF3.keepB hb4
  have hok := Hsm.out.ok
  have hxo := hx.ok
  go_upto_region 4 with fail
  clear hb4 hS3 hF3 Hb3
  obtain ⟨X, hX⟩ : ∃ X, X = w3.heap.size := ⟨_, rfl⟩
  rw [← hX] at lvX ⊢
  generalize w3.alloc (.cells (evCs x Ax cx) 32) = w4 at *
  clear hX
  have C1 := Lib.hid (fun w' (h : Below w4.heap.size w4 w') => checkSchemas_any _ A l c w' (hS4.keepB h) hok)
  have C2 := Lib.hid (fun w' (h : Below w4.heap.size w4 w') => refSchemas_any _ A l c w' (hS4.keepB h) hok)
  have C3 := Lib.hid (fun w' (h : Below w4.heap.size w4 w') => checkEvent_any _ A Ax l c cx x w' (hS4.keepB h) hok (hF4.keepB h) hxo (Utf8Tabs_below HT.out (Hb4.out.trans (h.mono Hb4.out.size))) (HM.out.below (Hb4.out.trans (h.mono Hb4.out.size))))
  have C4 := Lib.hid (fun w' (h : Below w4.heap.size w4 w') => eventFault_any _ A Ax l c cx x w' (hS4.keepB h) hok (hF4.keepB h) hxo (Utf8Tabs_below HT.out (Hb4.out.trans (h.mono Hb4.out.size))) (HM.out.below (Hb4.out.trans (h.mono Hb4.out.size))))
  generalize scmsFault l = F at *
  generalize evFault l x = G at *
  clear hS4 hF4
  refine wp_region_mix (fun w' => LV w' X (evCs x Ax cx) 32) [(true, 0), (true, 2), (false, 1), (false, 3), (true, 4), (true, 5), (true, 6), (true, 7), (true, 9), (true, 10), (false, 8), (false, 11), (true, 12), (true, 13), (true, 14), (false, 15), (true, 16), (true, 17)] (by kernel_rfl) (by kernel_rfl) (fun w' hd => LV.kb3 lvX (hd.below _) lvX.lt) (fun KK hKK wd hd_wd => ?_)
  have hC_wd := LV.kb3 lvX (hd_wd.below _) lvX.lt
  have hr_wd : Hid (Below w4.heap.size w4 wd) := hd_wd.below _
  clear lvX hd_wd
  repeat (refine mix_p rfl (fun K hK => ?_); go_simp; (try go_bits); (try simp (disch := omega) only [if_pos]); (try simp (disch := omega) only [if_neg]); (try simp (disch := omega) only [dif_pos]); (try simp (disch := omega) only [dif_neg]); (try go_simp); (refine hK _ ?_; clear hK K))
  refine mix_l rfl (fun K hK => ?_) hC_wd
  go_wp2_with fail
  ((with_reducible refine (C1.out wd hr_wd.out).mono ?_); rintro e wa ⟨rfl, hl_wa⟩)
  have hC_wa := LV.kb3 hC_wd hl_wa hC_wd.lt
  have hr_wa : Hid (Below w4.heap.size w4 wa) := hr_wd.out.trans (hl_wa.mono hr_wd.out.size)
  clear hl_wa hC_wd hr_wd
  go_wp2_with fail
  refine ⟨hC_wa, ?_⟩
  refine mix_l rfl (fun K hK => ?_) hC_wa
  go_wp2_with fail
  ((with_reducible refine (C2.out wa hr_wa.out).mono ?_); rintro e wb ⟨rfl, hl_wb⟩)
  have hC_wb := LV.kb3 hC_wa hl_wb hC_wa.lt
  have hr_wb : Hid (Below w4.heap.size w4 wb) := hr_wa.out.trans (hl_wb.mono hr_wa.out.size)
  clear hl_wb hC_wa hr_wa
  go_wp2_with fail
  refine ⟨hC_wb, ?_⟩
  repeat (refine mix_p rfl (fun K hK => ?_); go_simp; (try go_bits); (try simp (disch := omega) only [if_pos]); (try simp (disch := omega) only [if_neg]); (try simp (disch := omega) only [dif_pos]); (try simp (disch := omega) only [dif_neg]); (try go_simp); (refine hK _ ?_; clear hK K))
  refine mix_loadG (.agg (evCs x Ax cx)) rfl (by simp [Region.wanted, yielded, go_sem]) rfl rfl (fun w' h => loadAtEv h) ?_
  repeat (refine mix_p rfl (fun K hK => ?_); go_simp; (try go_bits); (try simp (disch := omega) only [if_pos]); (try simp (disch := omega) only [if_neg]); (try simp (disch := omega) only [dif_pos]); (try simp (disch := omega) only [dif_neg]); (try go_simp); (refine hK _ ?_; clear hK K))
  refine mix_loadG (.agg (evCs x Ax cx)) rfl (by simp [Region.wanted, yielded, go_sem]) rfl rfl (fun w' h => loadAtEv h) ?_
  refine mix_l rfl (fun K hK => ?_) hC_wb
  go_wp2_with fail
  ((with_reducible refine (C3.out wb hr_wb.out).mono ?_); rintro e wc ⟨rfl, hl_wc⟩)
  have hC_wc := LV.kb3 hC_wb hl_wc hC_wb.lt
  have hr_wc : Hid (Below w4.heap.size w4 wc) := hr_wb.out.trans (hl_wc.mono hr_wb.out.size)
  clear hl_wc hC_wb hr_wb
  go_wp2_with fail
  refine ⟨hC_wc, ?_⟩
  refine mix_l rfl (fun K hK => ?_) hC_wc
  go_wp2_with fail
  ((with_reducible refine (C4.out wc hr_wc.out).mono ?_); rintro e we ⟨rfl, hl_we⟩)
  have hC_we := LV.kb3 hC_wc hl_we hC_wc.lt
  have hr_we : Hid (Below w4.heap.size w4 we) := hr_wc.out.trans (hl_we.mono hr_wc.out.size)
  clear hl_we hC_wc hr_wc
  go_wp2_with fail
  refine ⟨hC_we, ?_⟩
  repeat (refine mix_p rfl (fun K hK => ?_); go_simp; (try go_bits); (try simp (disch := omega) only [if_pos]); (try simp (disch := omega) only [if_neg]); (try simp (disch := omega) only [dif_pos]); (try simp (disch := omega) only [dif_neg]); (try go_simp); (refine hK _ ?_; clear hK K))
  refine mix_l rfl (fun K hK => ?_) hC_we
  go_wp2_with fail
  ((with_reducible refine (happenings_any we).mono ?_); rintro e wf ⟨rfl, hl_wf⟩)
  have hC_wf := LV.kb3 hC_we hl_wf hC_we.lt
  have hr_wf : Hid (Below w4.heap.size w4 wf) := hr_we.out.trans (hl_wf.mono hr_we.out.size)
  clear hl_wf hC_we hr_we
  go_wp2_with fail
  refine ⟨hC_wf, ?_⟩
  repeat (refine mix_p rfl (fun K hK => ?_); go_simp; (try go_bits); (try simp (disch := omega) only [if_pos]); (try simp (disch := omega) only [if_neg]); (try simp (disch := omega) only [dif_pos]); (try simp (disch := omega) only [dif_neg]); (try go_simp); (refine hK _ ?_; clear hK K))
  refine mix_nil ?_
  simp only [Exit.then]
  refine hKK _ _ ?_
  go_wp2_with fail
  go_ret
  exact ⟨rfl, Hb4.out.trans (hr_wf.out.mono Hb4.out.size)⟩
end Go.Proofs.YthlcdepjmoddnaaGreatDoor
