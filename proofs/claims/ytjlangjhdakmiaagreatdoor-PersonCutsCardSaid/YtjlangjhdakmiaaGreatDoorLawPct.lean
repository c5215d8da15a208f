/- The law PersonCuts walked: it returns true, and nothing that was there has turned. -/
import Derived.Test.YtjlangjhdakmiaaGreatDoorPackD
import Derived.Test.YtjlangjhdakmiaaGreatDoorPackO
import Derived.Test.YtjlangjhdakmiaaGreatDoorPackN
import Derived.Test.YtjlangjhdakmiaaGreatDoorPackI
import Derived.Test.YtjlangjhdakmiaaGreatDoorPackG
import Derived.Test.YtjlangjhdakmiaaGreatDoorPackW
import Derived.Test.YtjlangjhdakmiaaGreatDoorPackL
namespace Go.Proofs.YtjlangjhdakmiaaGreatDoor
open Go Go.RowKit
set_option maxHeartbeats 8000000 in
set_option maxRecDepth 100000 in
theorem personCuts_any (v : Value) (w : World) (hv : IntsIn v w) (hT : Tabs w) (hM : MaxL w) (hN : Names w) (hP : Pool w) :
    Calls Tryz.prog 5 #[v] w fun e w' => e = .returned (.bool true) ∧ Below w.heap.size w w' := by
  obtain ⟨va, vn, vc, rfl⟩ : ∃ a n c, v = .slice a n c := by
    rcases hv with ⟨a, c, rfl⟩ | ⟨k, off, len, cap, rfl, _⟩
    · exact ⟨_, _, _, rfl⟩
    · exact ⟨_, _, _, rfl⟩
  have g0 := G.start (Strm.start hv)
  clear hv
  have S := St.start g0.s
  have hPn : 0 ≠ w.heap.size := Nat.ne_of_lt hP.lt
  have hNn : 1 ≠ w.heap.size := Nat.ne_of_lt hN.lt
  have hb0 : Below w.heap.size w (w.alloc (.cells #[.slice va vn vc, .int .i64 0] 25)) := (Below.refl _ _).alloc (Nat.le_refl _) _
  have Hb0 := Lib.hid hb0
  have HTM : Hid (∀ w', Below w.heap.size w w' → Tabs w' ∧ MaxL w') := fun w' h => ⟨Utf8Tabs_below hT h, hM.below h⟩
  have HP := Lib.hid (hP.keep (b := w.heap.size) ((SK.refl _ w).alloc (.cells #[.slice va vn vc, .int .i64 0] 25)) hPn)
  have HN := Lib.hid (hN.keep (b := w.heap.size) ((SK.refl _ w).alloc (.cells #[.slice va vn vc, .int .i64 0] 25)) hNn)
  have hw0 : w.heap.size ≤ (w.alloc (.cells #[.slice va vn vc, .int .i64 0] 25)).heap.size := by simp
  clear hP hM hN hT hb0
  go_enter Tryz.func5, Tryz.ntmps5
  go_wp2_with fail
  ((with_reducible refine (range_any w.heap.size _ _ _ _ S.g.s (by omega) (by omega) (by omega) (by omega)).mono ?_); rintro e w1 ⟨many, m_lo, m_hi, rfl, hk_w1, hs_w1⟩)
  replace S := S.step hk_w1 hs_w1
  clear hk_w1 hs_w1
  obtain ⟨n, rfl⟩ := Int.eq_ofNat_of_zero_le (show 0 ≤ many by omega)
  go_wp2_with fail
  ((with_reducible refine (joined_any w.heap.size _ n w.heap.size _ S.g.s (by omega) (by omega) (HN.out.keep S.g.k hNn) hNn (HP.out.keep S.g.k hPn) hPn (Nat.le_refl _) (Nat.le_trans hw0 S.g.size) (fun w' h => HTM.out w' ((Hb0.out.trans (S.g.k.below (Nat.le_refl _) hw0)).trans h))).mono ?_); rintro e w2 ⟨r, K, ck, W, cw, Sv, cs, A, c, ts, rfl, hr, ht, htl, T⟩)
  obtain ⟨M, hMm⟩ : ∃ M, 0 + 1 + 40000 = M := ⟨_, rfl⟩
  have S3 := S.join T
  rw [hMm] at S3
  have HMl : Hid (M ≤ 100000) := by show M ≤ 100000; omega
  obtain ⟨Y, hY⟩ : ∃ Y, Y = w2.heap.size := ⟨_, rfl⟩
  have S6 : St w.heap.size M _ (w2.alloc (.cells (ruCs r K ck W cw Sv cs) 29)) [.sl rInt K r.kinds, .sl rId W r.weak, .sl rSrv Sv r.surv, .sl rTch A ts, .loc Y (ruCs r K ck W cw Sv cs) 29] := S3.newAt (ruCs r K ck W cw Sv cs) 29 Y hY
  have Hr := Lib.hid hr
  have Ht := Lib.hid ht
  clear S S3 T hMm m_lo m_hi hr ht htl
  obtain ⟨F0, HF0⟩ : ∃ F, Hid (bothF r ts = F) := ⟨_, Lib.hid rfl⟩
  rw [HF0.out]
  go_upto_region 3 with fail
  rw [← hY]
  clear hY
  generalize w2.alloc (.cells (ruCs r K ck W cw Sv cs) 29) = w3 at *
  have Hk := Lib.hid (keyFor_any w.heap.size M r K W Sv A ck cw cs c ts F0 w3 S6.g.s (by have := HMl.out; omega) (HP.out.keep S6.g.k hPn) hPn (fun h => RtOk.both (HF0.out.trans h) Hr.out) Ht.out (fun w' hk => ⟨⟨S6.slK 0 rfl hk, S6.slK 1 rfl hk, S6.slK 2 rfl hk⟩, S6.slK 3 rfl hk⟩))
  have y0 := (S6.lv 4 rfl).all
  go_wp2_with fail
  ((with_reducible refine (Hk.out).mono ?_); rintro e w4 ⟨x, hxt, rfl, hk4, hs4⟩)
  replace S6 := S6.step hk4 hs4
  clear hk4 hs4 HP HN hPn hNn HMl y0 Hk
  obtain ⟨X, hX⟩ : ∃ X, X = w4.heap.size := ⟨_, rfl⟩
  have S7 : St w.heap.size _ _ (w4.alloc (.cells #[.int .i64 x.k, .string x.t] 43)) [.sl rInt K r.kinds, .sl rId W r.weak, .sl rSrv Sv r.surv, .sl rTch A ts, .loc Y (ruCs r K ck W cw Sv cs) 29, .loc X #[.int .i64 x.k, .string x.t] 43] := S6.newAt #[.int .i64 x.k, .string x.t] 43 X hX
  clear S6
  go_upto_region 4 with fail
  rw [← hX]
  clear hX
  generalize w4.alloc (.cells #[.int .i64 x.k, .string x.t] 43) = w5 at *
  have Hb5 : Hid (Below w.heap.size w w5) := Hb0.out.trans (S7.g.k.below (Nat.le_refl _) hw0)
  have hS := (S7.slc 3 rfl).mono (M := fun _ => False) (fun _ _ h => h.elim)
  have hR : RulIn (fun _ => False) w5 r K W Sv := ⟨(S7.slc 0 rfl).mono (fun _ _ h => h.elim), (S7.slc 1 rfl).mono (fun _ _ h => h.elim), (S7.slc 2 rfl).mono (fun _ _ h => h.elim)⟩
  have HlY := Lib.hid (S7.lv 4 rfl)
  have HlX := Lib.hid (S7.lv 5 rfl)
  have HTM2 : Hid (∀ w', Below w5.heap.size w5 w' → Tabs w' ∧ MaxL w') := fun w' h => HTM.out w' (Hb5.out.trans (h.mono Hb5.out.size))
  have Hxl := Lib.hid hxt
  have Hc1 := Lib.hid (cuts_any r K W Sv A ck cw cs c ts x w5 hR hS Hr.out Ht.out Hxl.out (HTM2.out w5 (Below.refl _ _)).1 (HTM2.out w5 (Below.refl _ _)).2)
  have Hc2 := Lib.hid (fun w' (h : Below w5.heap.size w5 w') => refId_any x.k x.t w' Hxl.out (HTM2.out w' h).2)
  have Hc3 := Lib.hid (fun w' (h : Below w5.heap.size w5 w') (ho : RtOk r ts) (hw : r.weak.length ≤ 1000) (hu : NoUp ts) => refCuts_any r K W Sv A ck cw cs c ts x w' (hR.keepB h) (hS.keepB h) ho hw hu)
  have Hc5 := Lib.hid (fun w' (h : Below w5.heap.size w5 w') => people_any w' (HTM2.out w' h).1)
  have Hkl : Hid (r.kinds.length ≤ 1000000) := Hr.out.kl
  clear hS hR S7 HTM HTM2 Hr Ht Hb0 hw0 hxt Hxl
  obtain ⟨F1, HF1⟩ : ∃ F, Hid (L.idFault x.k x.t = F) := ⟨_, Lib.hid rfl⟩
  rw [HF1.out] at Hc2
  have y0 := HlY.out.all
  have x0 := HlX.out.all
  go_wp2_with fail
  ((with_reducible refine (Hc1.out).mono ?_); rintro e w6 ⟨A7, c7, l, F, rfl, M6, hD⟩)
  have hD2 := cut_law hD
  rw [HF0.out, HF1.out] at hD2
  obtain ⟨E, HE⟩ : ∃ E, Hid (firstErr [F0, F1] = E) := ⟨_, Lib.hid rfl⟩
  rw [HE.out, ← HF0.out] at hD2
  have HD := Lib.hid hD2
  have Hl6 := Lib.hid ((M6.slc 0 rfl).mono (M := fun _ => False) (fun _ _ h => h.elim))
  have hb6 := M6.b
  clear hD hD2 Hc1 M6
  have y0 := (LV.kb3 HlY.out hb6 HlY.out.lt).all
  have x0 := (LV.kb3 HlX.out hb6 HlX.out.lt).all
  go_wp2_with fail
  ((with_reducible refine (Hc2.out _ hb6).mono ?_); rintro e w8 ⟨rfl, hb8⟩)
  have hb58 := hb6.trans (hb8.mono hb6.size)
  obtain ⟨U, hU⟩ : ∃ U, U = w8.heap.size := ⟨_, rfl⟩
  have Hw : Hid (Calls Tryz.prog 19 #[.slice (some ⟨U, 0, none⟩) 2 2] (w8.alloc (.cells #[.int .i64 F0, .int .i64 F1] 31)) fun e w' => e = .returned (.int .i64 E) ∧ (w8.alloc (.cells #[.int .i64 F0, .int .i64 F1] 31)) = w') := by
    show Calls _ _ _ _ _
    rw [← HE.out]
    exact wrongOr_any U [F0, F1] _ (LV.new w8 U #[.int .i64 F0, .int .i64 F1] 31 hU) (by simp)
  have hb9 := hb58.alloc hb58.size (.cells #[.int .i64 F0, .int .i64 F1] 31)
  have hb69 := hb8.alloc hb8.size (.cells #[.int .i64 F0, .int .i64 F1] 31)
  clear x0 y0 hb8 hb58 Hc2
  go_wp2_with fail
  rw [← hU]
  clear hU
  generalize w8.alloc (.cells #[.int .i64 F0, .int .i64 F1] 31) = w9 at *
  ((with_reducible refine (Hw.out).mono ?_); rintro e _ ⟨rfl, rfl⟩)
  clear Hw
  by_cases hE : E = 0
  · subst hE
    obtain ⟨hF0, cc, hp, ha⟩ : bothF r ts = 0 ∧ ∃ cc, IsPart ts.length (Edge r ts) cc ∧ CutAns r ts x cc F l := by
      rcases HD.out with ⟨h, _⟩ | ⟨_, h, h2⟩
      · exact absurd rfl h
      · exact ⟨h, h2⟩
    have hbz := both_zero hF0
    have Ho : Hid (RtOk r ts) := RtOk.of hbz.1 Hkl.out hbz.2
    have Hu : Hid (NoUp ts) := noUp_of hbz.2
    have Hwl : Hid (r.weak.length ≤ 1000) := by
      have := (rul_right hbz.1).2
      show _ ≤ _
      omega
    have Hp := Lib.hid hp
    have Ha := Lib.hid ha
    have y0 := (LV.kb3 HlY.out hb9 HlY.out.lt).all
    have x0 := (LV.kb3 HlX.out hb9 HlX.out.lt).all
    clear hF0 hp ha hbz HD
    go_wp2_with fail
    ((with_reducible refine (Hc3.out _ hb9 Ho.out Hwl.out Hu.out).mono ?_); rintro e w10 ⟨A8, c8, l2, F2, cc2, rfl, M8, hp2, ha2⟩)
    obtain ⟨hF, hl⟩ := cut_same Hu.out Hp.out hp2 Ha.out ha2
    subst hF hl
    have hb10 := hb9.trans (M8.b.mono hb9.size)
    have Heq := Lib.hid (eqId_any (fun _ => False) A7 A8 l c7 c8 w10 (Hl6.out.keepB (hb69.trans (M8.b.mono hb69.size))) ((M8.slc 0 rfl).mono (M := fun _ => False) (fun _ _ h => h.elim)) (Nat.le_trans (cut_len Ho.out Ha.out) (by decide)))
    clear y0 x0 ha2 hp2 M8
    go_wp2_with fail
    ((with_reducible refine (Heq.out).mono ?_); rintro e w11 ⟨rfl, hb11⟩)
    have hb12 := hb10.trans (hb11.mono hb10.size)
    clear hb11 Heq
    go_wp2_with fail
    ((with_reducible refine (Hc5.out _ hb12).mono ?_); rintro e w14 ⟨rfl, hb14⟩)
    have hb5 := hb12.trans (hb14.mono hb12.size)
    go_wp2_with fail
    go_ret
    exact ⟨rfl, Hb5.out.trans (hb5.mono Hb5.out.size)⟩
  · obtain ⟨rfl, rfl⟩ : F = E ∧ l = [] := by
      rcases HD.out with ⟨_, h1, h2⟩ | ⟨h, _⟩
      · exact ⟨h1, h2⟩
      · exact absurd h hE
    have h1 : (F != 0) = true := by simpa using hE
    clear hE HD HE
    go_wp2_with fail
    ((with_reducible refine (Hc5.out _ hb9).mono ?_); rintro e w14 ⟨rfl, hb14⟩)
    have hb5 := hb9.trans (hb14.mono hb9.size)
    go_wp2_with fail
    go_ret
    exact ⟨rfl, Hb5.out.trans (hb5.mono Hb5.out.size)⟩
end Go.Proofs.YtjlangjhdakmiaaGreatDoor
