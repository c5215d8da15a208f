/- The law PersonRecords walked: it returns true, and nothing that was there has turned. -/
import Derived.Test.YtfdcgedcfafmcaaGreatDoorPackD
import Derived.Test.YtfdcgedcfafmcaaGreatDoorPack3
import Derived.Test.YtfdcgedcfafmcaaGreatDoorPackR
import Derived.Test.YtfdcgedcfafmcaaGreatDoorPackN
import Derived.Test.YtfdcgedcfafmcaaGreatDoorPackI
import Derived.Test.YtfdcgedcfafmcaaGreatDoorPackG
import Derived.Test.YtfdcgedcfafmcaaGreatDoorPackW
import Derived.Test.YtfdcgedcfafmcaaGreatDoorPackL
namespace Go.Proofs.YtfdcgedcfafmcaaGreatDoor
open Go Go.RowKit
theorem both_eq0 {r : Rul} {ts : List Tch} (h : bothF r ts = 0) : NoUp ts ∧ QOk ts ∧ r.surv.length ≤ 30 ∧ ∀ at', SvEq (svP r) (svR r) ts at' :=
  ⟨noUp_of (both_zero h).2, qok_of (both_zero h).2, (rul_surv (both_zero h).1).2, fun at' => sv_eq (both_zero h).2 at'⟩
theorem rec_len {sv : ByteArray → Tc → List Tc → Vt} {ts : List Tch} {o : Option (List Nat)} {F : Int} {l : List Fld} (h : RecOf sv ts o F l) : l.length ≤ 1000 := by
  rcases h with ⟨_, _, rfl⟩ | ⟨_, m, _, _, ⟨_, _, rfl⟩ | ⟨h1, _, rfl⟩⟩
  · simp
  · simp
  · omega
theorem src_len {sv : ByteArray → Tc → List Tc → Vt} {r : Rul} {ts : List Tch} {x : IdV} {nm : ByteArray} {o : Option (List Nat)} {F : Int} {l : List Int} (hq : QOk ts) (hl : ts.length ≤ 100) (ho : OwnAt r ts x o) (h : SrcOf sv ts nm o F l) : l.length ≤ 100000 := by
  rcases h with ⟨_, _, rfl⟩ | ⟨at', rfl, ⟨_, _, rfl⟩ | ⟨x0, r0, h1, _, rfl⟩⟩
  · simp
  · simp
  · rw [List.length_map]
    have h2 := List.length_filter_le (fun y : Tc => decide (y.v = sv nm x0 r0)) (x0 :: r0)
    have h3 : (x0 :: r0).length ≤ (tellC ts at').length := by
      rw [← h1]
      unfold selC
      rw [List.length_map]
      exact List.length_filter_le _ _
    have h4 := tellC_len hq.fl at'
    obtain ⟨cc, _, ⟨_, e⟩ | ⟨hd, _, _, e⟩⟩ := ho
    · cases e
    · obtain rfl := Option.some.inj e
      have h5 := part_len cc ts.length hd
      omega
abbrev nmCs : Array Value := #[.string ⟨#[97, 103, 101]⟩, .string ⟨#[110, 97, 109, 101]⟩, .string ⟨#[99, 105, 116, 121]⟩, .string ⟨#[118, 105, 112]⟩, .string ⟨#[110, 111, 110, 101]⟩]
theorem nm_at {j : Nat} (h : j < 5) : ∃ nm, nmCs[j]? = some (.string nm) := by
  have : j = 0 ∨ j = 1 ∨ j = 2 ∨ j = 3 ∨ j = 4 := by omega
  rcases this with rfl | rfl | rfl | rfl | rfl <;> exact ⟨_, rfl⟩
set_option maxHeartbeats 8000000 in
set_option maxRecDepth 100000 in
theorem personRecords_any (v : Value) (w : World) (hv : IntsIn v w) (hT : Tabs w) (hM : MaxL w) (hN : Names w) (hP : Pool w) :
    Calls Tryz.prog 4 #[v] w fun e w' => e = .returned (.bool true) ∧ Below w.heap.size w w' := by
  obtain ⟨va, vn, vc, rfl⟩ : ∃ a n c, v = .slice a n c := by
    rcases hv with ⟨a, c, rfl⟩ | ⟨k, off, len, cap, rfl, _⟩
    · exact ⟨_, _, _, rfl⟩
    · exact ⟨_, _, _, rfl⟩
  have g0 := G.start (Strm.start hv)
  clear hv
  have S := St.start g0.s
  have hPn : 1 ≠ w.heap.size := Nat.ne_of_lt hP.lt
  have hNn : 0 ≠ w.heap.size := Nat.ne_of_lt hN.lt
  have hb0 : Below w.heap.size w (w.alloc (.cells #[.slice va vn vc, .int .i64 0] 25)) := (Below.refl _ _).alloc (Nat.le_refl _) _
  have Hb0 := Lib.hid hb0
  have HTM : Hid (∀ w', Below w.heap.size w w' → Tabs w' ∧ MaxL w') := fun w' h => ⟨Utf8Tabs_below hT h, hM.below h⟩
  have HP := Lib.hid (hP.keep (b := w.heap.size) ((SK.refl _ w).alloc (.cells #[.slice va vn vc, .int .i64 0] 25)) hPn)
  have HN := Lib.hid (hN.keep (b := w.heap.size) ((SK.refl _ w).alloc (.cells #[.slice va vn vc, .int .i64 0] 25)) hNn)
  have hw0 : w.heap.size ≤ (w.alloc (.cells #[.slice va vn vc, .int .i64 0] 25)).heap.size := by simp
  clear hP hM hN hT hb0
  go_enter Tryz.func4, Tryz.ntmps4
  go_wp2_with fail
  ((with_reducible refine (range_any w.heap.size _ _ _ _ S.g.s (by omega) (by omega) (by omega) (by omega)).mono ?_); rintro e w1 ⟨many, m_lo, m_hi, rfl, hk_w1, hs_w1⟩)
  replace S := S.step hk_w1 hs_w1
  clear hk_w1 hs_w1
  obtain ⟨n, rfl⟩ := Int.eq_ofNat_of_zero_le (show 0 ≤ many by omega)
  go_wp2_with fail
  ((with_reducible refine (joined_any w.heap.size _ n w.heap.size _ S.g.s (by omega) (by omega) (HN.out.keep S.g.k hNn) hNn (HP.out.keep S.g.k hPn) hPn (Nat.le_refl _) (Nat.le_trans hw0 S.g.size) (fun w' h => HTM.out w' ((Hb0.out.trans (S.g.k.below (Nat.le_refl _) hw0)).trans h))).mono ?_); rintro e w2 ⟨r, K, ck, W, cw, Sv, cs, A, c, ts, rfl, hr, ht, htl, T⟩)
  obtain ⟨M, hMm⟩ : ∃ M, 0 + 1 + 40000 = M := ⟨_, rfl⟩
  have S3 := S.join T
  rw [hMm] at S3
  have HMl : Hid (M ≤ 100000) := by show M ≤ 100000; omega
  obtain ⟨Y, hY⟩ : ∃ Y, Y = w2.heap.size := ⟨_, rfl⟩
  have S6 : St w.heap.size M _ (w2.alloc (.cells (ruCs r K ck W cw Sv cs) 29)) [.sl rInt K r.kinds, .sl rId W r.weak, .sl rSrv Sv r.surv, .sl rTch A ts, .loc Y (ruCs r K ck W cw Sv cs) 29] := S3.newAt (ruCs r K ck W cw Sv cs) 29 Y hY
  have Hr := Lib.hid hr
  have Ht := Lib.hid ht
  have Htl : Hid (ts.length ≤ 100) := by show _ ≤ _; omega
  clear S S3 T hMm m_lo m_hi hr ht htl
  obtain ⟨F0, HF0⟩ : ∃ F, Hid (bothF r ts = F) := ⟨_, Lib.hid rfl⟩
  rw [HF0.out]
  go_upto_region 3 with fail
  rw [← hY]
  clear hY
  generalize w2.alloc (.cells (ruCs r K ck W cw Sv cs) 29) = w3 at *
  have Hk := Lib.hid (keyFor_any w.heap.size M r K W Sv A ck cw cs c ts F0 w3 S6.g.s (by have := HMl.out; omega) (HP.out.keep S6.g.k hPn) hPn (fun h => RtOk.both (HF0.out.trans h) Hr.out) Ht.out (fun w' hk => ⟨⟨S6.slK 0 rfl hk, S6.slK 1 rfl hk, S6.slK 2 rfl hk⟩, S6.slK 3 rfl hk⟩))
  have y0 := (S6.lv 4 rfl).all
  go_wp2_with fail
  ((with_reducible refine (Hk.out).mono ?_); rintro e w4 ⟨x, hxt, rfl, hk4, hs4⟩)
  replace S6 := S6.step hk4 hs4
  clear hk4 hs4 HP HN hPn hNn y0 Hk
  obtain ⟨X, hX⟩ : ∃ X, X = w4.heap.size := ⟨_, rfl⟩
  have S7 : St w.heap.size (M + 13) _ (w4.alloc (.cells #[.int .i64 x.k, .string x.t] 41)) [.sl rInt K r.kinds, .sl rId W r.weak, .sl rSrv Sv r.surv, .sl rTch A ts, .loc Y (ruCs r K ck W cw Sv cs) 29, .loc X #[.int .i64 x.k, .string x.t] 41] := S6.newAt #[.int .i64 x.k, .string x.t] 41 X hX
  clear S6
  go_upto_region 4 with fail
  rw [← hX]
  clear hX
  generalize w4.alloc (.cells #[.int .i64 x.k, .string x.t] 41) = w5 at *
  obtain ⟨V, hV⟩ : ∃ V, V = w5.heap.size := ⟨_, rfl⟩
  obtain ⟨M2, hM2⟩ : ∃ M2, M + 13 = M2 := ⟨_, rfl⟩
  have hM2l : M2 ≤ 200000 := by have := HMl.out; omega
  rw [hM2] at S7
  have S : St w.heap.size M2 _ (w5.alloc (.cells nmCs 9)) [.sl rInt K r.kinds, .sl rId W r.weak, .sl rSrv Sv r.surv, .sl rTch A ts, .loc Y (ruCs r K ck W cw Sv cs) 29, .loc X #[.int .i64 x.k, .string x.t] 41, .loc V nmCs 9] := S7.newAt nmCs 9 V hV
  clear S7 hM2 HMl
  go_wp2_with fail
  rw [← hV]
  ((with_reducible refine (next_any w.heap.size _ _ _ S.g.s (by omega) (by omega) (by omega)).mono ?_); rintro e wb ⟨rr, r_lo, r_hi, rfl, hk6, hs6⟩)
  replace S := S.step hk6 hs6
  clear hV hk6 hs6
  generalize w5.alloc (.cells nmCs 9) = w55 at *
  obtain ⟨j, rfl⟩ := Int.eq_ofNat_of_zero_le r_lo
  have hj5 : j < 5 := by omega
  obtain ⟨nm, hnm⟩ := nm_at hj5
  have hcell : wb.cell? ⟨V, j, none⟩ = some (.string nm) := (S.lv 6 rfl).cell j _ hnm
  clear r_lo r_hi hnm
  have S7 := S
  clear S
  go_upto_region 5 with fail
  clear hcell hj5
  have Hb5 : Hid (Below w.heap.size w wb) := Hb0.out.trans (S7.g.k.below (Nat.le_refl _) hw0)
  have hS := (S7.slc 3 rfl).mono (M := fun _ => False) (fun _ _ h => h.elim)
  have hR : RulIn (fun _ => False) wb r K W Sv := ⟨(S7.slc 0 rfl).mono (fun _ _ h => h.elim), (S7.slc 1 rfl).mono (fun _ _ h => h.elim), (S7.slc 2 rfl).mono (fun _ _ h => h.elim)⟩
  have HlY := Lib.hid (S7.lv 4 rfl)
  have HlX := Lib.hid (S7.lv 5 rfl)
  have HTM2 : Hid (∀ w', Below wb.heap.size wb w' → Tabs w' ∧ MaxL w') := fun w' h => HTM.out w' (Hb5.out.trans (h.mono Hb5.out.size))
  have Hxl := Lib.hid hxt
  have Hlen : Hid (ts.length ≤ 100) := Htl.out
  have Hc1 := Lib.hid (recordT_any r K W Sv A ck cw cs c ts x wb hR hS Hr.out Ht.out Hxl.out (HTM2.out wb (Below.refl _ _)).1 (HTM2.out wb (Below.refl _ _)).2 (fun h => (both_eq0 h).2.1) Hlen.out)
  have Hc7 := Lib.hid (fun w' (h : Below wb.heap.size wb w') => sourcesT_any r K W Sv A ck cw cs c ts x nm w' (hR.keepB h) (hS.keepB h) Hr.out Ht.out Hxl.out (HTM2.out w' h).1 (HTM2.out w' h).2 (fun h => (both_eq0 h).2.1) Hlen.out)
  have Hc2 := Lib.hid (fun w' (h : Below wb.heap.size wb w') => refId_any x.k x.t w' Hxl.out (HTM2.out w' h).2)
  have Hc3 := Lib.hid (fun w' (h : Below wb.heap.size wb w') (ho : RtOk r ts) (hu : NoUp ts) (hq : QOk ts) (hsl : r.surv.length ≤ 30) => refRecordOf_any r K W Sv A ck cw cs c ts x w' (hR.keepB h) (hS.keepB h) ho hu hq hsl Hr.out.ss Hlen.out (HTM2.out w' h).1)
  have Hc4 := Lib.hid (fun w' (h : Below wb.heap.size wb w') (ho : RtOk r ts) (hu : NoUp ts) (hq : QOk ts) (hsl : r.surv.length ≤ 30) => refSourcesOf_any r K W Sv A ck cw cs c ts x nm w' (hR.keepB h) (hS.keepB h) ho hu hq hsl Hr.out.ss Hlen.out (HTM2.out w' h).1)
  have Hc5 := Lib.hid (fun w' (h : Below wb.heap.size wb w') => people_any w' (HTM2.out w' h).1)
  have Hkl : Hid (r.kinds.length ≤ 1000000) := Hr.out.kl
  clear hS hR S7 HTM HTM2 Hr Ht Hb0 hw0 hxt Hxl
  obtain ⟨F1, HF1⟩ : ∃ F, Hid (L.idFault x.k x.t = F) := ⟨_, Lib.hid rfl⟩
  rw [HF1.out] at Hc2
  have y0 := HlY.out.all
  have x0 := HlX.out.all
  go_wp2_with fail
  ((with_reducible refine (Hc1.out).mono ?_); rintro e w6 ⟨A7, c7, l, F, rfl, hD, M6⟩)
  have HD := Lib.hid hD
  have Hl6 := Lib.hid ((M6.slc 0 rfl).mono (M := fun _ => False) (fun _ _ h => h.elim))
  have hb6 := M6.b
  clear hD Hc1 M6 y0 x0
  have y0 := (LV.kb3 HlY.out hb6 HlY.out.lt).all
  have x0 := (LV.kb3 HlX.out hb6 HlX.out.lt).all
  go_wp2_with fail
  ((with_reducible refine (Hc7.out w6 hb6).mono ?_); rintro e w7 ⟨A8, c8, l8, F8, rfl, hD8, M7⟩)
  have HD8 := Lib.hid hD8
  have Hl7 := Lib.hid ((M7.slc 0 rfl).mono (M := fun _ => False) (fun _ _ h => h.elim))
  have hb67 := M7.b
  have hb7 := hb6.trans (hb67.mono hb6.size)
  clear hD8 Hc7 M7 y0 x0
  have y0 := (LV.kb3 HlY.out hb7 HlY.out.lt).all
  have x0 := (LV.kb3 HlX.out hb7 HlX.out.lt).all
  obtain ⟨E, HE⟩ : ∃ E, Hid (firstErr [F0, F1] = E) := ⟨_, Lib.hid rfl⟩
  go_wp2_with fail
  ((with_reducible refine (Hc2.out _ hb7).mono ?_); rintro e w8 ⟨rfl, hb8⟩)
  have hb58 := hb7.trans (hb8.mono hb7.size)
  obtain ⟨U, hU⟩ : ∃ U, U = w8.heap.size := ⟨_, rfl⟩
  have Hw : Hid (Calls Tryz.prog 16 #[.slice (some ⟨U, 0, none⟩) 2 2] (w8.alloc (.cells #[.int .i64 F0, .int .i64 F1] 31)) fun e w' => e = .returned (.int .i64 E) ∧ (w8.alloc (.cells #[.int .i64 F0, .int .i64 F1] 31)) = w') := by
    show Calls _ _ _ _ _
    rw [← HE.out]
    exact wrongOr_any U [F0, F1] _ (LV.new w8 U #[.int .i64 F0, .int .i64 F1] 31 hU) (by simp)
  have hb9 := hb58.alloc hb58.size (.cells #[.int .i64 F0, .int .i64 F1] 31)
  have hb79 := hb8.alloc hb8.size (.cells #[.int .i64 F0, .int .i64 F1] 31)
  clear x0 y0 hb8 hb58 Hc2
  go_wp2_with fail
  rw [← hU]
  clear hU
  generalize w8.alloc (.cells #[.int .i64 F0, .int .i64 F1] 31) = w9 at *
  ((with_reducible refine (Hw.out).mono ?_); rintro e _ ⟨rfl, rfl⟩)
  clear Hw
  by_cases hE : E = 0
  · subst hE
    obtain ⟨hF0, o1, hp, ha⟩ : bothF r ts = 0 ∧ ∃ o, OwnAt r ts x o ∧ RecOf (svP r) ts o F l := by
      rcases HD.out with ⟨h, _⟩ | ⟨_, h, h2⟩
      · rw [HF0.out, HF1.out, HE.out] at h; exact absurd rfl h
      · exact ⟨h, h2⟩
    obtain ⟨o2, hp2, ha2⟩ : ∃ o, OwnAt r ts x o ∧ SrcOf (svP r) ts nm o F8 l8 := by
      rcases HD8.out with ⟨h, _⟩ | ⟨_, _, h2⟩
      · rw [HF0.out, HF1.out, HE.out] at h; exact absurd rfl h
      · exact h2
    have hbz := both_zero hF0
    have Ho : Hid (RtOk r ts) := RtOk.of hbz.1 Hkl.out hbz.2
    have Hbe := Lib.hid (both_eq0 hF0)
    have Hp := Lib.hid hp
    have Ha := Lib.hid ha
    have Hp2 := Lib.hid hp2
    have Ha2 := Lib.hid ha2
    have y0 := (LV.kb3 HlY.out hb9 HlY.out.lt).all
    have x0 := (LV.kb3 HlX.out hb9 HlX.out.lt).all
    clear hF0 hp ha hp2 ha2 hbz HD HD8
    go_wp2_with fail
    ((with_reducible refine (Hc3.out _ hb9 Ho.out Hbe.out.1 Hbe.out.2.1 Hbe.out.2.2.1).mono ?_); rintro e w10 ⟨A3, c3, l3, F3, rfl, ho3, M8⟩)
    obtain ⟨o3, hp3, ha3⟩ := ho3
    obtain rfl := OwnAt.uniq Hbe.out.1 Hp.out hp3
    obtain ⟨hF, hl⟩ := RecOf.uniq Ha.out ha3 (fun at' _ => Hbe.out.2.2.2 at')
    subst hF hl
    have hb10 := hb9.trans (M8.b.mono hb9.size)
    have hb9a := M8.b
    have Hl3 := Lib.hid ((M8.slc 0 rfl).mono (M := fun _ => False) (fun _ _ h => h.elim))
    clear y0 x0 ha3 hp3 M8
    have y0 := (LV.kb3 HlY.out hb10 HlY.out.lt).all
    have x0 := (LV.kb3 HlX.out hb10 HlX.out.lt).all
    go_wp2_with fail
    ((with_reducible refine (Hc4.out _ hb10 Ho.out Hbe.out.1 Hbe.out.2.1 Hbe.out.2.2.1).mono ?_); rintro e w11 ⟨A4, c4, l4, F4, rfl, ho4, M9⟩)
    obtain ⟨o4, hp4, ha4⟩ := ho4
    obtain rfl := OwnAt.uniq Hbe.out.1 Hp2.out hp4
    obtain ⟨hF, hl⟩ := SrcOf.uniq Ha2.out ha4 (fun at' _ => Hbe.out.2.2.2 at')
    subst hF hl
    have hb11 := hb10.trans (M9.b.mono hb10.size)
    have hbab := M9.b
    have hb7b : Below w7.heap.size w7 w11 := (hb79.trans (hb9a.mono hb79.size)).trans (hbab.mono (hb79.trans (hb9a.mono hb79.size)).size)
    have hb6b : Below w6.heap.size w6 w11 := hb67.trans (hb7b.mono hb67.size)
    have Heq := Lib.hid (eqFld_any (fun _ => False) A7 A3 l c7 c3 w11 (Hl6.out.keepB hb6b) (Hl3.out.keepB hbab) (Nat.le_trans (rec_len Ha.out) (by decide)))
    have Heq2 := Lib.hid (fun w' (h : Below w11.heap.size w11 w') => eqInt_any (fun _ => False) A8 A4 l8 c8 c4 w' ((Hl7.out.keepB hb7b).keepB h) (((M9.slc 0 rfl).mono (M := fun _ => False) (fun _ _ h => h.elim)).keepB h) (Nat.le_trans (src_len Hbe.out.2.1 Hlen.out Hp2.out Ha2.out) (by decide)))
    clear y0 x0 ha4 hp4 M9 hb9a hbab hb7b hb6b
    go_wp2_with fail
    ((with_reducible refine (Heq.out).mono ?_); rintro e w12 ⟨rfl, hb12⟩)
    have hb12b := hb11.trans (hb12.mono hb11.size)
    have Heq3 := Lib.hid (Heq2.out w12 hb12)
    clear hb12 Heq Heq2
    go_wp2_with fail
    ((with_reducible refine (Heq3.out).mono ?_); rintro e w13 ⟨rfl, hb13⟩)
    have hb13b := hb12b.trans (hb13.mono hb12b.size)
    clear hb13 Heq3
    go_wp2_with fail
    ((with_reducible refine (Hc5.out _ hb13b).mono ?_); rintro e w14 ⟨rfl, hb14⟩)
    have hb5 := hb13b.trans (hb14.mono hb13b.size)
    go_wp2_with fail
    go_ret
    exact ⟨rfl, Hb5.out.trans (hb5.mono Hb5.out.size)⟩
  · obtain ⟨rfl, rfl⟩ : F = E ∧ l = [] := by
      rcases HD.out with ⟨_, h1, h2⟩ | ⟨h, _⟩
      · rw [HF0.out, HF1.out, HE.out] at h1; exact ⟨h1, h2⟩
      · rw [HF0.out, HF1.out, HE.out] at h; exact absurd h hE
    obtain ⟨rfl, rfl⟩ : F8 = F ∧ l8 = [] := by
      rcases HD8.out with ⟨_, h1, h2⟩ | ⟨h, _⟩
      · rw [HF0.out, HF1.out, HE.out] at h1; exact ⟨h1, h2⟩
      · rw [HF0.out, HF1.out, HE.out] at h; exact absurd h hE
    have h1 : (F8 != 0) = true := by simpa using hE
    clear hE HD HD8 HE
    go_wp2_with fail
    ((with_reducible refine (Hc5.out _ hb9).mono ?_); rintro e w14 ⟨rfl, hb14⟩)
    have hb5 := hb9.trans (hb14.mono hb9.size)
    go_wp2_with fail
    go_ret
    exact ⟨rfl, Hb5.out.trans (hb5.mono Hb5.out.size)⟩
end Go.Proofs.YtfdcgedcfafmcaaGreatDoor
