/- The law PersonChains walked: it returns true, and nothing that was there has turned. -/
import Derived.Test.YtfdcgedcfafmcaaGreatDoorPackD
import Derived.Test.YtfdcgedcfafmcaaGreatDoorPackH
import Derived.Test.YtfdcgedcfafmcaaGreatDoorPackS
import Derived.Test.YtfdcgedcfafmcaaGreatDoorPackO
import Derived.Test.YtfdcgedcfafmcaaGreatDoorPackL
namespace Go.Proofs.YtfdcgedcfafmcaaGreatDoor
open Go Go.RowKit
set_option maxHeartbeats 8000000 in
set_option maxRecDepth 100000 in
theorem personChains_any (v : Value) (w : World) (hv : IntsIn v w) (hT : Tabs w) (hM : MaxL w) (hN : Names w) (hP : Pool w) :
    Calls Tryz.prog 3 #[v] w fun e w' => e = .returned (.bool true) ∧ Below w.heap.size w w' := by
  obtain ⟨va, vn, vc, rfl⟩ : ∃ a n c, v = .slice a n c := by
    rcases hv with ⟨a, c, rfl⟩ | ⟨k, off, len, cap, rfl, _⟩
    · exact ⟨_, _, _, rfl⟩
    · exact ⟨_, _, _, rfl⟩
  have g0 := G.start (Strm.start hv)
  clear hv
  have S := St.start g0.s
  have hPn : 1 ≠ w.heap.size := Nat.ne_of_lt hP.lt
  have hNn : 0 ≠ w.heap.size := Nat.ne_of_lt hN.lt
  have hb0 : Below w.heap.size w (w.alloc (.cells #[.slice va vn vc, .int .i64 0] 25)) := (Below.refl _ _).alloc (Nat.le_refl _) _
  have Hb0 := Lib.hid hb0
  have HTM : Hid (∀ w', Below w.heap.size w w' → Tabs w' ∧ MaxL w') := fun w' h => ⟨Utf8Tabs_below hT h, hM.below h⟩
  have HP := Lib.hid (hP.keep (b := w.heap.size) ((SK.refl _ w).alloc (.cells #[.slice va vn vc, .int .i64 0] 25)) hPn)
  have HN := Lib.hid (hN.keep (b := w.heap.size) ((SK.refl _ w).alloc (.cells #[.slice va vn vc, .int .i64 0] 25)) hNn)
  have hw0 : w.heap.size ≤ (w.alloc (.cells #[.slice va vn vc, .int .i64 0] 25)).heap.size := by simp
  clear hP hM hN hT hb0
  go_enter Tryz.func3, Tryz.ntmps3
  go_wp2_with fail
  ((with_reducible refine (range_any w.heap.size _ _ _ _ S.g.s (by omega) (by omega) (by omega) (by omega)).mono ?_); rintro e w1 ⟨many, m_lo, m_hi, rfl, hk_w1, hs_w1⟩)
  replace S := S.step hk_w1 hs_w1
  clear hk_w1 hs_w1
  obtain ⟨n, rfl⟩ := Int.eq_ofNat_of_zero_le (show 0 ≤ many by omega)
  go_wp2_with fail
  ((with_reducible refine (joined_any w.heap.size _ n w.heap.size _ S.g.s (by omega) (by omega) (HN.out.keep S.g.k hNn) hNn (HP.out.keep S.g.k hPn) hPn (Nat.le_refl _) (Nat.le_trans hw0 S.g.size) (fun w' h => HTM.out w' ((Hb0.out.trans (S.g.k.below (Nat.le_refl _) hw0)).trans h))).mono ?_); rintro e w2 ⟨r, K, ck, W, cw, Sv, cs, A, c, ts, rfl, hr, ht, htl, T⟩)
  obtain ⟨M, hMm⟩ : ∃ M, 0 + 1 + 40000 = M := ⟨_, rfl⟩
  have S3 := S.join T
  rw [hMm] at S3
  have HMl : Hid (M ≤ 100000) := by show M ≤ 100000; omega
  obtain ⟨Y, hY⟩ : ∃ Y, Y = w2.heap.size := ⟨_, rfl⟩
  have S6 : St w.heap.size M _ (w2.alloc (.cells (ruCs r K ck W cw Sv cs) 29)) [.sl rInt K r.kinds, .sl rId W r.weak, .sl rSrv Sv r.surv, .sl rTch A ts, .loc Y (ruCs r K ck W cw Sv cs) 29] := S3.newAt (ruCs r K ck W cw Sv cs) 29 Y hY
  have Hr := Lib.hid hr
  have Ht := Lib.hid ht
  clear S S3 T hMm m_lo m_hi hr ht htl
  obtain ⟨F0, HF0⟩ : ∃ F, Hid (bothF r ts = F) := ⟨_, Lib.hid rfl⟩
  rw [HF0.out]
  go_upto_region 3 with fail
  rw [← hY]
  clear hY
  generalize w2.alloc (.cells (ruCs r K ck W cw Sv cs) 29) = w3 at *
  go_wp2_with fail
  ((with_reducible refine (range_any w.heap.size _ _ _ _ S6.g.s (by omega) (by omega) (by omega) (by have := HMl.out; omega)).mono ?_); rintro e w4 ⟨a, a_lo, a_hi, rfl, hk4, hs4⟩)
  replace S6 := S6.step hk4 hs4
  clear hk4 hs4
  go_wp2_with fail
  ((with_reducible refine (range_any w.heap.size _ _ _ _ S6.g.s (by omega) (by omega) (by omega) (by have := HMl.out; omega)).mono ?_); rintro e w5 ⟨b, b_lo, b_hi, rfl, hk5, hs5⟩)
  replace S6 := S6.step hk5 hs5
  clear hk5 hs5 HP HN hPn hNn HMl a_lo a_hi b_lo b_hi
  have Hb5 : Hid (Below w.heap.size w w5) := Hb0.out.trans (S6.g.k.below (Nat.le_refl _) hw0)
  have hS := (S6.slc 3 rfl).mono (M := fun _ => False) (fun _ _ h => h.elim)
  have hR : RulIn (fun _ => False) w5 r K W Sv := ⟨(S6.slc 0 rfl).mono (fun _ _ h => h.elim), (S6.slc 1 rfl).mono (fun _ _ h => h.elim), (S6.slc 2 rfl).mono (fun _ _ h => h.elim)⟩
  have HlY := Lib.hid (S6.lv 4 rfl)
  have HTM2 : Hid (∀ w', Below w5.heap.size w5 w' → Tabs w' ∧ MaxL w') := fun w' h => HTM.out w' (Hb5.out.trans (h.mono Hb5.out.size))
  have Hc1 := Lib.hid (chain_any r K W Sv A ck cw cs c ts a b w5 hR hS Hr.out Ht.out (HTM2.out w5 (Below.refl _ _)).1 (HTM2.out w5 (Below.refl _ _)).2)
  have Hc3 := Lib.hid (fun w' (h : Below w5.heap.size w5 w') (ho : RtOk r ts) (hu : NoUp ts) => refChain_any r K W Sv A ck cw cs c ts a b w' (hR.keepB h) (hS.keepB h) ho hu)
  have Hc5 := Lib.hid (fun w' (h : Below w5.heap.size w5 w') => people_any w' (HTM2.out w' h).1)
  clear hS hR S6 HTM HTM2 Ht Hb0 hw0
  have y0 := HlY.out.all
  go_wp2_with fail
  ((with_reducible refine (Hc1.out).mono ?_); rintro e w6 ⟨A7, c7, l, F, rfl, hD, M6⟩)
  have HD := Lib.hid hD
  have Hl6 := Lib.hid ((M6.slc 0 rfl).mono (M := fun _ => False) (fun _ _ h => h.elim))
  have hb6 := M6.b
  clear hD Hc1 M6 y0
  by_cases hE : F0 = 0
  · subst hE
    have Hbz := Lib.hid (both_zero HF0.out)
    have Ho : Hid (RtOk r ts) := RtOk.both HF0.out Hr.out
    have Hu : Hid (NoUp ts) := noUp_of Hbz.out.2
    have Ha : Hid (ChnAns r ts a b F l) := by
      rcases HD.out with ⟨h, _⟩ | ⟨_, h⟩
      · exact absurd HF0.out h
      · exact h
    have y0 := (LV.kb3 HlY.out hb6 HlY.out.lt).all
    clear HD
    go_wp2_with fail
    ((with_reducible refine (Hc3.out _ hb6 Ho.out Hu.out).mono ?_); rintro e w10 ⟨A8, c8, l2, F2, rfl, ha2, M8⟩)
    obtain ⟨hF, hl⟩ := ChnAns.uniq Ha.out ha2
    subst hF hl
    have hb10 := hb6.trans (M8.b.mono hb6.size)
    have Heq := Lib.hid (eqLnk_any (fun _ => False) A7 A8 l c7 c8 w10 (Hl6.out.keepB M8.b) ((M8.slc 0 rfl).mono (M := fun _ => False) (fun _ _ h => h.elim)) (by have := Ha.out.len; have := Ho.out.tb; omega))
    clear y0 ha2 M8
    go_wp2_with fail
    ((with_reducible refine (Heq.out).mono ?_); rintro e w11 ⟨rfl, hb11⟩)
    have hb12 := hb10.trans (hb11.mono hb10.size)
    clear hb11 Heq
    go_wp2_with fail
    ((with_reducible refine (Hc5.out _ hb12).mono ?_); rintro e w14 ⟨rfl, hb14⟩)
    have hb5 := hb12.trans (hb14.mono hb12.size)
    go_wp2_with fail
    go_ret
    exact ⟨rfl, Hb5.out.trans (hb5.mono Hb5.out.size)⟩
  · obtain ⟨rfl, rfl⟩ : F = F0 ∧ l = [] := by
      rcases HD.out with ⟨_, h1, h2⟩ | ⟨h, _⟩
      · exact ⟨h1.trans HF0.out, h2⟩
      · exact absurd (HF0.out.symm.trans h) hE
    have h1 : (F != 0) = true := by simpa using hE
    clear hE HD
    go_wp2_with fail
    ((with_reducible refine (Hc5.out _ hb6).mono ?_); rintro e w14 ⟨rfl, hb14⟩)
    have hb5 := hb6.trans (hb14.mono hb6.size)
    go_wp2_with fail
    go_ret
    exact ⟨rfl, Hb5.out.trans (hb5.mono Hb5.out.size)⟩
end Go.Proofs.YtfdcgedcfafmcaaGreatDoor
