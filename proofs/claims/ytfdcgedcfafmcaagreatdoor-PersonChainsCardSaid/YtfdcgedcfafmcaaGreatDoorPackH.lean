/- Several texts in one: ShRef, ShPr, Numb, Lnk, Chain. -/
import Derived.Test.YtfdcgedcfafmcaaGreatDoorPackA
import Derived.Test.YtfdcgedcfafmcaaGreatDoorPackY
import Derived.Test.YtfdcgedcfafmcaaGreatDoorPackC
import Derived.Test.YtfdcgedcfafmcaaGreatDoorPackT
import Derived.Test.YtfdcgedcfafmcaaGreatDoorPackO
import Derived.Test.YtfdcgedcfafmcaaGreatDoorPackV
import Derived.Test.YtfdcgedcfafmcaaGreatDoorPackX
import Derived.Test.YtfdcgedcfafmcaaGreatDoorPackK
/- handref2.shared: the first id of a touch that joins and that another touch has. -/
namespace Go.Proofs.YtfdcgedcfafmcaaGreatDoor
open Go Go.RowKit
set_option maxHeartbeats 8000000 in
set_option maxRecDepth 100000 in
theorem refShared_any (N : Nat → Prop) (r : Rul) (ts : List Tch) (X3 : Nat) (L3 : List (IdV × Value)) (ta tb : Tch) (A1 B1 A2 B2 : Option Addr) (c1 d1 c2 d2 : Nat) (w : World) (hM : MapG keyId w X3 L3) (hL : ∀ y, getG y L3 = if hav ts y = [] then none else some (.bool (joinsP r ts y)))
    (hA : Sl rId N w A1 ta.ids) (hB : Sl rId N w A2 tb.ids) (hne : ∀ y ∈ ta.ids, hav ts y ≠ []) (hla : ta.ids.length ≤ 1000000) (hlb : tb.ids.length ≤ 1000000) :
    Calls Tryz.prog 47 #[.map (some X3), .agg (tcCs ta A1 c1 B1 d1), .agg (tcCs tb A2 c2 B2 d2)] w (GivesSh (shT r ts ta.ids tb.ids) w) := by
  obtain ⟨Y, hY⟩ : ∃ Y, Y = w.heap.size := ⟨_, rfl⟩
  have T0 := (Mem.start w).newAt (tcCs ta A1 c1 B1 d1) 85 Y hY
  have T1 := T0.newAt (tcCs tb A2 c2 B2 d2) 85 (Y + 1) (by rw [hY, World.size_alloc])
  have T : Mem w _ [.loc Y (tcCs ta A1 c1 B1 d1) 85, .loc (Y + 1) (tcCs tb A2 c2 B2 d2) 85, .loc (Y + 1 + 1) #[.int .i64 0, .string ⟨#[]⟩] 41] := T1.newAt #[.int .i64 0, .string ⟨#[]⟩] 41 (Y + 1 + 1) (by rw [hY, World.size_alloc, World.size_alloc])
  obtain ⟨la, hla2⟩ : ∃ la, ta.ids = la := ⟨_, rfl⟩
  obtain ⟨lb, hlb2⟩ : ∃ lb, tb.ids = lb := ⟨_, rfl⟩
  rw [hla2] at hA hne hla ⊢
  rw [hlb2] at hB hlb ⊢
  have HA := Lib.hid (fun w' (h : Below w.heap.size w w') => hA.keepB h)
  have Hct := Lib.hid (fun w' x (h : Below w.heap.size w w') => containsId_any N A2 lb c2 x w' (hB.keepB h) hlb)
  have Hlk : Hid (∀ w' y, y ∈ la → Below w.heap.size w w' → (Instr.lookup 91 (.map (some X3)) (.agg #[.int .i64 y.k, .string y.t]) false).run Tryz.prog w' = .ok (.bool (joinsP r ts y)) w') := fun w' y hy h => by
    obtain ⟨es, cl, hb, he⟩ := hM
    have h1 := look_g (K := keyId) (T := 91) (E := 4) (L := L3) (z := .bool false) (⟨es, cl, (h.block X3 (Array.getElem?_eq_some_iff.1 hb).1).trans hb, he⟩ : MapG keyId w' X3 L3) (by kernel_rfl) (by kernel_rfl) y false
    rw [if_neg (by decide), hL y, if_neg (hne y hy)] at h1
    exact h1
  clear T0 T1 hA hB hM hL hne
  go_enter Tryz.func47, Tryz.ntmps47
  go_upto_region 1 with fail
  rw [← hY]
  clear hY
  generalize ((w.alloc (.cells (tcCs ta A1 c1 B1 d1) 85)).alloc (.cells (tcCs tb A2 c2 B2 d2) 85)).alloc (.cells #[.int .i64 0, .string ⟨#[]⟩] 41) = w1 at *
  obtain ⟨Z, hZ⟩ : ∃ Z, Z = Y + 1 := ⟨_, rfl⟩
  obtain ⟨R, hRr⟩ : ∃ R, R = Z + 1 := ⟨_, rfl⟩
  rw [← hZ, ← hRr] at T ⊢
  clear hZ hRr
  rw [show (tcCs ta A1 c1 B1 d1) = #[.int .i64 ta.no, .int .i64 ta.at', .string ta.src, .slice A1 la.length c1, .slice B1 ta.flds.length d1] by rw [← hla2]] at T ⊢
  rw [show (tcCs tb A2 c2 B2 d2) = #[.int .i64 tb.no, .int .i64 tb.at', .string tb.src, .slice A2 lb.length c2, .slice B2 tb.flds.length d2] by rw [← hlb2]] at T ⊢
  clear hla2 hlb2
  have y0 := (T.lv 0 rfl).all
  go_wp2_with fail
  clear y0
  go_loopw [13] (fun i wr => ∃ j : Nat, j ≤ la.length ∧ i = .int .i64 j ∧ Hid (shT r ts (la.drop j) lb = shT r ts la lb) ∧ Mem w wr [.loc Y #[.int .i64 ta.no, .int .i64 ta.at', .string ta.src, .slice A1 la.length c1, .slice B1 ta.flds.length d1] 85, .loc Z #[.int .i64 tb.no, .int .i64 tb.at', .string tb.src, .slice A2 lb.length c2, .slice B2 tb.flds.length d2] 85, .loc R #[.int .i64 0, .string ⟨#[]⟩] 41]) (fun i _ => la.length - (intOf i).toNat)
  case atStart => exact ⟨0, Nat.zero_le _, rfl, rfl, T⟩
  case round =>
    clear T
    obtain ⟨j, hj, rfl, Hf, T⟩ := hrel
    by_cases hlt : j < la.length
    · obtain ⟨y, hy⟩ : ∃ y, la[j]? = some y := ⟨_, List.getElem?_eq_getElem hlt⟩
      obtain ⟨b5, o5, rfl, hb5, d0, d1⟩ := (HA.out wr T.b).idv j y hy
      have Hs := Lib.hid (shT_at (r := r) (ts := ts) (lb := lb) hy)
      have hym := List.mem_of_getElem? hy
      obtain ⟨V, hV⟩ : ∃ V, V = wr.heap.size := ⟨_, rfl⟩
      have T2 := T.newAt #[.int .i64 y.k, .string y.t] 41 V hV
      have hlk := Hlk.out _ y hym T2.b
      obtain ⟨jv, hjv⟩ : ∃ jv, joinsP r ts y = jv := ⟨_, rfl⟩
      rw [hjv] at hlk Hs
      have Hc := Lib.hid (Hct.out _ y T2.b)
      obtain ⟨cv, hcv⟩ : ∃ cv, decide (y ∈ lb) = cv := ⟨_, rfl⟩
      rw [hcv] at Hs
      clear hy hym
      go_upto_region 4 with fail
      rw [← hV] at *
      clear hV T d0 d1
      generalize wr.alloc (.cells #[.int .i64 y.k, .string y.t] 41) = w3 at *
      have v0 := (T2.lv 3 rfl).all
      have z0 := (T2.lv 1 rfl).all
      cases jv
      · have Hn : Hid (shT r ts (la.drop (j + 1)) lb = shT r ts la lb) := by show _ = _; rw [← Hf.out, Hs.out]; rfl
        go_wp2_with fail
        go_roundw
        case rel => exact ⟨j + 1, by omega, by go_num, Hn, T2.del 3⟩
        case measure => simp [intOf]; omega
      · go_wp2_with fail
        ((with_reducible refine (Hc.out).mono ?_); rintro e w4 ⟨rfl, hl4⟩)
        have T3 := T2.below hl4
        clear T2 v0 z0 hl4
        rw [hcv]
        cases cv
        · have Hn : Hid (shT r ts (la.drop (j + 1)) lb = shT r ts la lb) := by show _ = _; rw [← Hf.out, Hs.out]; rfl
          go_wp2_with fail
          go_roundw
          case rel => exact ⟨j + 1, by omega, by go_num, Hn, T3.del 3⟩
          case measure => simp [intOf]; omega
        · have Hn : Hid (shT r ts la lb = some y) := by show _ = _; rw [← Hf.out, Hs.out]; rfl
          have v0 := (T3.lv 3 rfl).all
          have r0 := (T3.lv 2 rfl).all
          have T9 := (T3.set 2 0 (.int .i64 y.k) rfl).set 2 1 (.string y.t) rfl
          go_wp2_with fail
          exact bodyPost_ret (results_cs rfl rfl rfl (loadIdV (T9.lv 2 rfl))) rfl ⟨by rw [Hn.out]; rfl, T9.b⟩
    · obtain rfl : j = la.length := by omega
      have Hn : Hid (shT r ts la lb = none) := by show _ = _; rw [← Hf.out, shT_end]
      have r0 := (T.lv 2 rfl).all
      have T9 := (T.set 2 0 (.int .i64 0) rfl).set 2 1 (.string ⟨#[]⟩) rfl
      clear Hf
      go_wp2_with fail
      exact bodyPost_ret (results_cs rfl rfl rfl (loadIdV (T9.lv 2 rfl))) rfl ⟨by rw [Hn.out]; rfl, T9.b⟩
end Go.Proofs.YtfdcgedcfafmcaaGreatDoor

/- (*group).shared: the first id that joins and that two touches share. -/
namespace Go.Proofs.YtfdcgedcfafmcaaGreatDoor
open Go Go.RowKit
set_option maxHeartbeats 8000000 in
set_option maxRecDepth 100000 in
theorem shared_any (G X : Nat) (r : Rul) (K W S A : Option Addr) (ck cw cs c : Nat) (ts : List Tch) (qs : List HQ) (a b : Nat) (w : World) (hG : Grp (fun _ => False) w G X r K W S A ck cw cs c ts qs) (ho : RtOk r ts) (ha : a < ts.length) (hb : b < ts.length) :
    Calls Tryz.prog 40 #[.pointer (some ⟨G, 0, none⟩), .int .i64 a, .int .i64 b] w (GivesSh (shL r ts a b) w) := by
  obtain ⟨ta, hta⟩ : ∃ t, ts[a]? = some t := ⟨_, List.getElem?_eq_getElem ha⟩
  obtain ⟨tb, htb⟩ : ∃ t, ts[b]? = some t := ⟨_, List.getElem?_eq_getElem hb⟩
  obtain ⟨la, hla⟩ : ∃ l, ta.ids = l := ⟨_, rfl⟩
  obtain ⟨lb, hlb⟩ : ∃ l, tb.ids = l := ⟨_, rfl⟩
  have e1 : shL r ts a b = shT r ts la lb := by unfold shL; rw [idsAt_is hta, idsAt_is htb, hla, hlb]
  rw [e1]
  have hll : la.length ≤ 10 := by rw [← hla]; exact ho.ib ta (List.mem_of_getElem? hta)
  have hbl : lb.length ≤ 10 := by rw [← hlb]; exact ho.ib tb (List.mem_of_getElem? htb)
  have Hri : Hid (SrtI lb) := by show SrtI lb; rw [← hlb]; exact (ho.up tb (List.mem_of_getElem? htb)).srt
  have htl := ho.tl
  have HG := Lib.hid (fun w' (h : Below w.heap.size w w') => hG.keepB h)
  have Hj := Lib.hid (fun w' y (h : Below w.heap.size w w') => joinsG_any (fun _ => False) G X r K W S A ck cw cs c ts qs y w' (hG.keepB h) ho)
  obtain ⟨blk, off, Ai, ci, Af, cf, rfl, hblk, d0, d1, d2, d3, d4, hsi, hsf⟩ := hG.t.tch a ta hta
  obtain ⟨blk2, off2, Bi, ci2, Bf, cf2, e2, hblk2, g0, g1, g2, g3, g4, hsi2, hsf2⟩ := hG.t.tch b tb htb
  simp only [Option.some.injEq, Addr.mk.injEq, and_true] at e2
  obtain ⟨rfl, rfl⟩ := e2
  rw [hla] at d3 hsi
  rw [hlb] at g3 hsi2
  have HI := Lib.hid (fun w' (h : Below w.heap.size w w') => hsi.keepB h)
  have Hbs := Lib.hid (fun w' y (h : Below w.heap.size w w') => bsIdS_any (fun _ => False) Bi lb y ci2 w' (hsi2.keepB h) (by omega) Hri.out)
  have Hd3 := Lib.hid (fun w' (h : Below w.heap.size w w') => (h.cell (p := ⟨blk, off + b * 5 + 3, none⟩) hblk).trans g3)
  have hgl := Lib.hid hG.g
  have z0 := hG.g.all
  obtain ⟨R, hR⟩ : ∃ R, R = w.heap.size := ⟨_, rfl⟩
  have T : Mem w (w.alloc (.cells #[.int .i64 0, .string ⟨#[]⟩] 41)) [.loc R #[.int .i64 0, .string ⟨#[]⟩] 41] := (Mem.start w).newAt #[.int .i64 0, .string ⟨#[]⟩] 41 R hR
  have d3' := (T.b.cell (p := ⟨blk, off + a * 5 + 3, none⟩) hblk).trans d3
  clear hsi hsf hsi2 hsf2 d0 d1 d2 d3 d4 g0 g1 g2 g3 g4 hta htb hla hlb e1 hG ho z0
  go_enter Tryz.func40, Tryz.ntmps40
  go_upto_region 1 with fail
  rw [← hR]
  clear hR
  generalize w.alloc (.cells #[.int .i64 0, .string ⟨#[]⟩] 41) = w1 at *
  have z0 := (LV.kb3 hgl.out T.b hgl.out.lt).all
  have hblk1 := Nat.lt_of_lt_of_le hblk T.b.size
  go_wp2_with fail
  clear z0 d3' hblk1
  go_loopw [21] (fun i wr => ∃ j : Nat, j ≤ la.length ∧ i = .int .i64 j ∧ Hid (shT r ts (la.drop j) lb = shT r ts la lb) ∧ Mem w wr [.loc R #[.int .i64 0, .string ⟨#[]⟩] 41]) (fun i _ => la.length - (intOf i).toNat)
  case atStart => exact ⟨0, Nat.zero_le _, rfl, rfl, T⟩
  case round =>
    clear T
    obtain ⟨j, hj, rfl, Hf, T⟩ := hrel
    by_cases hlt : j < la.length
    · obtain ⟨y, hy⟩ : ∃ y, la[j]? = some y := ⟨_, List.getElem?_eq_getElem hlt⟩
      obtain ⟨b5, o5, rfl, hb5, d0, d1⟩ := (HI.out wr T.b).idv j y hy
      have Hs := Lib.hid (shT_at (r := r) (ts := ts) (lb := lb) hy)
      obtain ⟨V, hV⟩ : ∃ V, V = wr.heap.size := ⟨_, rfl⟩
      have T2 : Mem w (wr.alloc (.cells #[.int .i64 y.k, .string y.t] 41)) [.loc V #[.int .i64 y.k, .string y.t] 41, .loc R #[.int .i64 0, .string ⟨#[]⟩] 41] := (T.newAt #[.int .i64 y.k, .string y.t] 41 V hV).front
      go_upto_region 4 with fail
      rw [← hV]
      clear hV T d0 d1 hy
      generalize wr.alloc (.cells #[.int .i64 y.k, .string y.t] 41) = w3 at *
      refine wp_region_mix (fun w' => Below w3.heap.size w3 w') [(true, 0), (true, 1), (true, 2), (true, 3), (true, 4), (true, 5), (true, 6), (true, 7), (true, 8), (false, 9), (true, 10), (true, 11), (true, 12), (true, 13), (true, 14)] (by kernel_rfl) (by kernel_rfl) (fun w' hd => hd.below _) (fun KK hKK wd hd_wd => ?_)
      have hC := hd_wd.below w3.heap.size
      clear hd_wd
      have Hb3 := Lib.hid T2.b
      have HlV := Lib.hid (T2.lv 0 rfl)
      repeat (refine mix_p rfl (fun K hK => ?_); go_simp; (try go_bits); (try simp (disch := omega) only [if_pos]); (try simp (disch := omega) only [if_neg]); (try simp (disch := omega) only [dif_pos]); (try simp (disch := omega) only [dif_neg]); (try go_simp); (refine hK _ ?_; clear hK K))
      refine mix_loadG (.slice (some ⟨blk, off, none⟩) ts.length c) rfl (by first | (simp [Region.wanted, go_sem]; done) | simp [Region.wanted, yielded, go_sem]) rfl rfl (fun w' h => loadC rfl ((LV.kb3 hgl.out (Hb3.out.trans (h.mono Hb3.out.size)) hgl.out.lt).cell 4 _ rfl)) ?_
      repeat (refine mix_p rfl (fun K hK => ?_); go_simp; (try go_bits); (try simp (disch := omega) only [if_pos]); (try simp (disch := omega) only [if_neg]); (try simp (disch := omega) only [dif_pos]); (try simp (disch := omega) only [dif_neg]); (try go_simp); (refine hK _ ?_; clear hK K))
      refine mix_loadG (.slice Bi lb.length ci2) rfl (by first | (simp [Region.wanted, go_sem]; done) | simp [Region.wanted, yielded, go_sem]) rfl rfl (fun w' h => loadC rfl (Hd3.out w' (Hb3.out.trans (h.mono Hb3.out.size)))) ?_
      refine mix_loadG (.agg #[.int .i64 y.k, .string y.t]) rfl (by first | (simp [Region.wanted, go_sem]; done) | simp [Region.wanted, yielded, go_sem]) rfl rfl (fun w' h => loadAtI ((LV.kb3 HlV.out h HlV.out.lt).cell 0 _ rfl) ((LV.kb3 HlV.out h HlV.out.lt).cell 1 _ rfl)) ?_
      refine mix_l rfl (fun K9 hK9 => ?_) hC
      have Ho := Lib.hid (Hbs.out wd y (Hb3.out.trans (hC.mono Hb3.out.size)))
      go_wp2_with fail
      ((with_reducible refine (Ho.out).mono ?_); rintro e w4 ⟨i, bv, rfl, hil, hlo, hhi, hbv, hl4⟩)
      have hC2 := hC.trans (hl4.mono hC.size)
      have hw : bv = true ↔ ∃ f ∈ lb, cmpId f y = 0 := by_hasS Hri.out hlo hhi hbv
      have Hcv : Hid (decide (y ∈ lb) = bv) := by
        show _ = _
        rw [Bool.eq_iff_iff, decide_eq_true_eq, hw]
        exact ⟨fun h => ⟨y, h, cmpId_ok.refl y⟩, fun ⟨f, hf, h0⟩ => by rw [← cmpId_zero h0]; exact hf⟩
      clear Ho hl4 hil hlo hhi hbv hC hw
      go_wp2_with fail
      refine ⟨hC2, ?_⟩
      repeat (refine mix_p rfl (fun K hK => ?_); go_simp; (try go_bits); (try simp (disch := omega) only [if_pos]); (try simp (disch := omega) only [if_neg]); (try simp (disch := omega) only [dif_pos]); (try simp (disch := omega) only [dif_neg]); (try go_simp); (refine hK _ ?_; clear hK K))
      refine mix_nil ?_
      simp only [Exit.then]
      refine hKK _ _ ?_
      clear hKK KK
      have T3 := T2.below hC2
      clear T2 hC2
      rw [Hcv.out] at Hs
      cases bv
      · have Hn : Hid (shT r ts (la.drop (j + 1)) lb = shT r ts la lb) := by
          have h1 := Hs.out
          rw [Bool.and_false, if_neg (by decide)] at h1
          show _ = _
          rw [← h1]; exact Hf.out
        go_wp2_with fail
        go_roundw
        case rel => exact ⟨j + 1, by omega, by go_num, Hn.out, T3.del 0⟩
        case measure => simp [intOf]; omega
      · rw [Bool.and_true] at Hs
        obtain ⟨jv, hjv⟩ : ∃ jv, joinsP r ts y = jv := ⟨_, rfl⟩
        have Hjo := Lib.hid (Hj.out w4 y T3.b)
        rw [hjv] at Hs Hjo
        have v0 := (T3.lv 0 rfl).all
        clear hjv
        go_wp2_with fail
        ((with_reducible refine (Hjo.out).mono ?_); rintro e w5 ⟨rfl, hl5⟩)
        have T4 := T3.below hl5
        clear T3 v0 hl5 Hjo
        cases jv
        · have Hn : Hid (shT r ts (la.drop (j + 1)) lb = shT r ts la lb) := by show _ = _; rw [← Hf.out, Hs.out]; rfl
          go_wp2_with fail
          go_roundw
          case rel => exact ⟨j + 1, by omega, by go_num, Hn.out, T4.del 0⟩
          case measure => simp [intOf]; omega
        · have Hn : Hid (shT r ts la lb = some y) := by show _ = _; rw [← Hf.out, Hs.out]; rfl
          have v0 := (T4.lv 0 rfl).all
          have r0 := (T4.lv 1 rfl).all
          have T9 := (T4.set 1 0 (.int .i64 y.k) rfl).set 1 1 (.string y.t) rfl
          go_wp2_with fail
          exact bodyPost_ret (results_cs rfl rfl rfl (loadIdV (T9.lv 1 rfl))) rfl ⟨by rw [Hn.out]; rfl, T9.b⟩
    · obtain rfl : j = la.length := by omega
      have Hn : Hid (shT r ts la lb = none) := by show _ = _; rw [← Hf.out, shT_end]
      have r0 := (T.lv 0 rfl).all
      have T9 := (T.set 0 0 (.int .i64 0) rfl).set 0 1 (.string ⟨#[]⟩) rfl
      clear Hf
      go_wp2_with fail
      exact bodyPost_ret (results_cs rfl rfl rfl (loadIdV (T9.lv 0 rfl))) rfl ⟨by rw [Hn.out]; rfl, T9.b⟩
end Go.Proofs.YtfdcgedcfafmcaaGreatDoor

/- person.numbered: the position of the touch with a number. -/
namespace Go.Proofs.YtfdcgedcfafmcaaGreatDoor
open Go Go.RowKit
theorem cmpNo (x y : Int) : (Lib.compareInt x y < 0 ↔ x < y) ∧ (Lib.compareInt x y = 0 ↔ x = y) := by
  constructor <;> (unfold Lib.compareInt; split <;> (try split) <;> omega)
theorem numb1_any (t : Tch) (Ai Bi : Option Addr) (ni c1 nf d1 : Nat) (no : Int) (w : World) : Calls Tryz.prog 90 #[.agg #[.int .i64 t.no, .int .i64 t.at', .string t.src, .slice Ai ni c1, .slice Bi nf d1], .int .i64 no] w fun e w' => e = .returned (.int .i64 (Lib.compareInt t.no no)) ∧ Below w.heap.size w w' := by
  have Hb : Hid (Below w.heap.size w (w.alloc (.cells #[.int .i64 t.no, .int .i64 t.at', .string t.src, .slice Ai ni c1, .slice Bi nf d1] 85))) := (Below.refl _ _).alloc (Nat.le_refl _) _
  go_enter Tryz.func90, Tryz.ntmps90
  go_wp2_with fail
  ((with_reducible refine (cmpInt_any t.no no _).mono ?_); rintro e _ ⟨rfl, rfl⟩)
  go_wp2_with fail
  go_ret
  exact ⟨rfl, Hb.out⟩
def GivesPlc (ts : List Tch) (no : Int) (w : World) (e : Ending) (w' : World) : Prop :=
  ∃ (i : Nat) (b : Bool), e = .returned (.tuple #[.int .i64 i, .bool b]) ∧ i ≤ ts.length ∧ (plcL ts no = if b = true then some i else none) ∧ Below w.heap.size w w'
theorem plc_is {ts : List Tch} {no : Int} {i : Nat} (hu : NoUp ts) (hlo : ∀ (p : Nat) s, p < i → ts[p]? = some s → s.no < no) (hhi : ∀ (p : Nat) s, i ≤ p → ts[p]? = some s → no ≤ s.no) (b : Bool) (hb : b = true ↔ ∃ s, ts[i]? = some s ∧ s.no = no) : plcL ts no = if b = true then some i else none := by
  split
  · rename_i h
    obtain ⟨s, hs, h0⟩ := hb.1 h
    exact plcL_some hu (lt_of_get hs) (by rw [noAt_is hs]; exact h0)
  · rename_i h
    refine plcL_none fun j hj e => h (hb.2 ?_)
    have hs : ts[j]? = some ts[j] := List.getElem?_eq_getElem hj
    rw [noAt_is hs] at e
    rcases Nat.lt_trichotomy j i with h1 | h1 | h1
    · have := hlo j _ h1 hs; omega
    · subst h1; exact ⟨_, hs, e⟩
    · have hsi : ts[i]? = some ts[i] := List.getElem?_eq_getElem (by omega)
      have h2 := hhi i _ (Nat.le_refl _) hsi
      have h3 := hu i j h1 hj
      rw [noAt_is hs, noAt_is hsi] at h3
      omega
set_option maxHeartbeats 4000000 in
set_option maxRecDepth 100000 in
theorem searchNo_any (N : Nat → Prop) (A : Option Addr) (U : List Tch) (t : Int) (c : Nat) (w : World) (hS : Sl rTch N w A U) (hn : U.length ≤ 1000000) (hri : NoUp U) :
    Calls Tryz.prog 89 #[.slice A U.length c, .int .i64 t, .func (.func 90) #[] #[]] w (GivesPlc U t w) := by
  have HS := Lib.hid hS
  have Hri : Hid (∀ (i j : Nat) p q, i < j → U[i]? = some p → U[j]? = some q → p.no < q.no) := fun i j p q hij hi hj => by
    have h := hri i j hij (lt_of_get hj)
    rw [noAt_is hi, noAt_is hj] at h
    exact h
  have Hfin := Lib.hid (fun (i : Nat) h1 h2 b hb => plc_is (no := t) (i := i) hri h1 h2 b hb)
  clear hS hri
  go_enter Tryz.func89, Tryz.ntmps89
  go_wp2_with fail
  go_loopw [9, 10] (fun a b wr => ∃ i j : Nat, i ≤ j ∧ j ≤ U.length ∧ a = .int .i64 i ∧ b = .int .i64 j ∧ (∀ (p : Nat) f, p < i → U[p]? = some f → f.no < t) ∧ (∀ (p : Nat) f, j ≤ p → U[p]? = some f → t ≤ f.no) ∧ Below w.heap.size w wr) (fun a b _ => (intOf b - intOf a).toNat)
  case atStart => exact ⟨0, U.length, by omega, by omega, rfl, rfl, (fun p f h => by omega), (fun p f h hp => by rw [List.getElem?_eq_none h] at hp; cases hp), Below.refl _ _⟩
  case round =>
    obtain ⟨i, j, hij, hj, rfl, rfl, hlo, hhi, hbl⟩ := hrel
    have Hlo := Lib.hid hlo
    have Hhi := Lib.hid hhi
    have hsz := hbl.size
    clear hlo hhi
    by_cases hlt : i < j
    · obtain ⟨h, hh⟩ : ∃ h : Nat, h = (i + j) / 2 := ⟨_, rfl⟩
      have h1 : i ≤ h := by omega
      have h2 : h < j := by omega
      have eh : ((i : Int) + (j : Int)) / 2 = (h : Int) := by omega
      clear hh
      obtain ⟨s, hf⟩ : ∃ s, U[h]? = some s := ⟨_, List.getElem?_eq_getElem (by omega)⟩
      obtain ⟨blk, off, Ai, ci, Af, cf, rfl, hblk, d0, d1, d2, d3, d4, _, _⟩ := (HS.out.keepB hbl).tch h s hf
      have Hf := Lib.hid hf
      clear hf
      go_wp2_with fail
      ((with_reducible refine (numb1_any s Ai Af s.ids.length ci s.flds.length cf t _).mono ?_); rintro e w1 ⟨rfl, hl_w1⟩)
      have hz_w1 := hl_w1.size
      have Hb1 : Hid (Below w.heap.size w w1) := hbl.trans (hl_w1.mono hsz)
      have Hcn := Lib.hid (cmpNo s.no t).1
      generalize Lib.compareInt s.no t = cm at *
      clear hl_w1 hz_w1 d0 d1 d2 d3 d4
      by_cases hc : cm < 0
      · have Hl : Hid (∀ (p : Nat) g, p < h + 1 → U[p]? = some g → g.no < t) := fun p g hp hg => by
          have h5 := Hcn.out.1 hc
          by_cases hph : p = h
          · subst hph
            rw [Hf.out] at hg
            cases hg
            exact h5
          · have := Hri.out p h g s (by omega) hg Hf.out; omega
        go_wp2_with fail
        go_roundw
        case rel => exact ⟨h + 1, j, by omega, by omega, by go_num, rfl, Hl.out, Hhi.out, Hb1.out⟩
        case measure => simp [intOf]; omega
      · have Hl : Hid (∀ (p : Nat) g, h ≤ p → U[p]? = some g → t ≤ g.no) := fun p g hp hg => by
          have h5 : ¬ s.no < t := fun e => hc (Hcn.out.2 e)
          by_cases hph : p = h
          · subst hph
            rw [Hf.out] at hg
            cases hg
            omega
          · have := Hri.out h p s g (by omega) Hf.out hg; omega
        go_wp2_with fail
        go_roundw
        case rel => exact ⟨i, h, by omega, by omega, rfl, rfl, Hlo.out, Hl.out, Hb1.out⟩
        case measure => simp [intOf]; omega
    · obtain rfl : i = j := by omega
      by_cases hli : i < U.length
      · obtain ⟨s, hf⟩ : ∃ s, U[i]? = some s := ⟨_, List.getElem?_eq_getElem hli⟩
        obtain ⟨blk, off, Ai, ci, Af, cf, rfl, hblk, d0, d1, d2, d3, d4, _, _⟩ := (HS.out.keepB hbl).tch i s hf
        have Hf := Lib.hid hf
        clear hf
        go_wp2_with fail
        ((with_reducible refine (numb1_any s Ai Af s.ids.length ci s.flds.length cf t _).mono ?_); rintro e w1 ⟨rfl, hl_w1⟩)
        have hz_w1 := hl_w1.size
        have Hb1 : Hid (Below w.heap.size w w1) := hbl.trans (hl_w1.mono hsz)
        have Hcz : Hid (Lib.compareInt s.no t = 0 ↔ s.no = t) := (cmpNo s.no t).2
        generalize Lib.compareInt s.no t = cm at *
        clear hl_w1 hz_w1 d0 d1 d2 d3 d4
        go_wp2_with fail
        go_ret2
        refine ⟨i, (cm == 0), rfl, hj, Hfin.out i Hlo.out Hhi.out _ ?_, Hb1.out⟩
        rw [beq_iff_eq, Hcz.out]
        exact ⟨fun h => ⟨s, Hf.out, h⟩, fun ⟨g, hg, h⟩ => by rw [Hf.out] at hg; cases hg; exact h⟩
      · go_wp2_with fail
        go_ret2
        exact ⟨i, false, rfl, hj, Hfin.out i Hlo.out Hhi.out _ ⟨(fun h => by cases h), (fun ⟨g, hg, _⟩ => by rw [List.getElem?_eq_none (by omega)] at hg; cases hg)⟩, hbl⟩
theorem numbered_any (N : Nat → Prop) (A : Option Addr) (U : List Tch) (t : Int) (c : Nat) (w : World) (hS : Sl rTch N w A U) (hn : U.length ≤ 1000000) (hri : NoUp U) :
    Calls Tryz.prog 36 #[.slice A U.length c, .int .i64 t] w (GivesPlc U t w) := by
  have H := Lib.hid (fun w' (h : Below w.heap.size w w') => searchNo_any N A U t c w' (hS.keepB h) hn hri)
  clear hS hri
  go_enter Tryz.func36, Tryz.ntmps36
  go_wp2_with fail
  ((with_reducible refine (H.out w (Below.refl _ _)).mono ?_); rintro e w2 ⟨i, b, rfl, hi, hp, hl⟩)
  have Hp := Lib.hid hp
  have Hl := Lib.hid hl
  clear hp hl H
  go_wp2_with fail
  exact bodyPost_ret (results_two rfl rfl rfl) rfl ⟨i, b, rfl, hi, Hp.out, Hl.out⟩
end Go.Proofs.YtfdcgedcfafmcaaGreatDoor

/- Rows of links: a number and an id. -/
namespace Go.Proofs.YtfdcgedcfafmcaaGreatDoor
open Go Go.RowKit
def Lnk.cells (s : Lnk) : List Value := [.int .i64 s.no, .int .i64 s.id.k, .string s.id.t]
def rLnk : Rep Lnk := .flat 3 Lnk.cells (fun _ => rfl)
theorem flatLnk : rLnk.Flat Lnk.cells := fun _ _ _ _ => Iff.rfl
theorem tyLnk : STy 35 43 rLnk.size 32 (.agg #[.int .i64 0, .int .i64 0, .string ⟨#[]⟩]) := ⟨Tryz.underlying35, by kernel_rfl, rfl, by decide⟩
theorem oneLnk (s : Lnk) : ∀ u ∈ s.cells, u.oneCell' = true := fun u hu => by
  simp only [Lnk.cells, List.mem_cons, List.not_mem_nil, or_false] at hu
  rcases hu with rfl | rfl | rfl <;> rfl
abbrev lkCs (s : Lnk) : Array Value := #[.int .i64 s.no, .int .i64 s.id.k, .string s.id.t]
theorem Sl.lnk {N : Nat → Prop} {w : World} {A : Option Addr} {xs : List Lnk} (h : Sl rLnk N w A xs) (k : Nat) (s : Lnk) (hk : xs[k]? = some s) : ∃ blk off, A = some ⟨blk, off, none⟩ ∧ blk < w.heap.size ∧
    w.cell? ⟨blk, off + k * 3, none⟩ = some (.int .i64 s.no) ∧ w.cell? ⟨blk, off + k * 3 + 1, none⟩ = some (.int .i64 s.id.k) ∧ w.cell? ⟨blk, off + k * 3 + 2, none⟩ = some (.string s.id.t) := by
  obtain ⟨blk, off, l, e1, h1, _, h3, h4⟩ := h k s hk
  obtain rfl : l = Lnk.cells s := h3
  exact ⟨blk, off, e1, h1, h4 0 _ rfl, h4 1 _ rfl, h4 2 _ rfl⟩
set_option maxHeartbeats 4000000 in
set_option maxRecDepth 100000 in
theorem eqLnk_any (N : Nat → Prop) (A A2 : Option Addr) (xs : List Lnk) (c c2 : Nat) (w : World) (h1 : Sl rLnk N w A xs) (h2 : Sl rLnk N w A2 xs) (hl : xs.length ≤ 1000000000) :
    Calls Tryz.prog 11 #[.slice A xs.length c, .slice A2 xs.length c2] w fun e w' => e = .returned (.bool true) ∧ Below w.heap.size w w' := by
  have H1 := Lib.hid h1
  have H2 := Lib.hid h2
  clear h1 h2
  go_enter Tryz.func11, Tryz.ntmps11
  go_wp2_with fail
  go_loopw [13] (fun i wr => ∃ j : Nat, j ≤ xs.length ∧ i = .int .i64 j ∧ Below w.heap.size w wr) (fun i _ => xs.length - (intOf i).toNat)
  case atStart => exact ⟨0, Nat.zero_le _, rfl, Below.refl _ _⟩
  case round =>
    obtain ⟨j, hj, rfl, hb⟩ := hrel
    by_cases hlt : j < xs.length
    · obtain ⟨e, hf⟩ : ∃ e, xs[j]? = some e := ⟨_, List.getElem?_eq_getElem hlt⟩
      obtain ⟨b1, o1, rfl, _, c0, c1, c2⟩ := (H1.out.keepB hb).lnk j e hf
      obtain ⟨b2, o2, rfl, _, d0, d1, d2⟩ := (H2.out.keepB hb).lnk j e hf
      clear hf
      go_wp2_with fail
      go_quiet (fail)
      go_wp2_with fail
      go_roundw
      case rel => exact ⟨j + 1, by omega, by go_num, hb.trans (below_drewN _ _ _)⟩
      case measure => simp [intOf]; omega
    · go_wp2_with fail
      go_ret
      exact ⟨rfl, hb⟩
def GivesChn (r : Rul) (ts : List Tch) (a b : Int) (w : World) (e : Ending) (w' : World) : Prop :=
  ∃ (A : Option Addr) (c : Nat) (l : List Lnk) (F : Int), e = .returned (.tuple #[.slice A l.length c, .int .i64 F]) ∧ ChnAns r ts a b F l ∧ Mem w w' [.sl rLnk A l]
def GivesChnE (r : Rul) (ts : List Tch) (a b : Int) (w : World) (e : Ending) (w' : World) : Prop :=
  ∃ (A : Option Addr) (c : Nat) (l : List Lnk) (F : Int), e = .returned (.tuple #[.slice A l.length c, .int .i64 F]) ∧ ((bothF r ts ≠ 0 ∧ F = bothF r ts ∧ l = []) ∨ (bothF r ts = 0 ∧ ChnAns r ts a b F l)) ∧ Mem w w' [.sl rLnk A l]
theorem ChnAns.len {r : Rul} {ts : List Tch} {a b F : Int} {l : List Lnk} (h : ChnAns r ts a b F l) : l.length ≤ ts.length + 1 := by
  rcases h with ⟨_, _, rfl⟩ | ⟨i, s, _, h2, ⟨_, _, rfl⟩ | ⟨k, h3, _, rfl⟩⟩
  · simp
  · simp
  · have h4 := chnL_len r ts s k i
    have h5 := far_small (plcL_at h2).1 k i h3
    rw [List.length_cons]
    omega
end Go.Proofs.YtfdcgedcfafmcaaGreatDoor

/- person.Chain: why two touches are of one person. -/
namespace Go.Proofs.YtfdcgedcfafmcaaGreatDoor
open Go Go.RowKit
structure ChnSt (r : Rul) (ts : List Tch) (s : Nat) (full : List Lnk) (i k : Nat) (l : List Lnk) : Prop where
  lt : i < ts.length
  far : farD ts.length (Edge r ts) s i = some k
  all : l ++ chnL r ts s k i = full
  sm : l.length + k ≤ ts.length
theorem ChnSt.start {r : Rul} {ts : List Tch} {s i k : Nat} {a : Int} (hs : s < ts.length) (hi : i < ts.length) (h : farD ts.length (Edge r ts) s i = some k) : ChnSt r ts s (⟨a, zId⟩ :: chnL r ts s k i) i k [⟨a, zId⟩] := ⟨hi, h, rfl, by have := far_small hs k i h; simp; omega⟩
theorem ChnSt.fin {r : Rul} {ts : List Tch} {s k : Nat} {full l : List Lnk} (h : ChnSt r ts s full s k l) : l = full := by
  have h1 := h.far
  rw [far_self] at h1
  obtain rfl := Option.some.inj h1
  have h2 := h.all
  rw [chnL, List.append_nil] at h2
  exact h2
theorem ChnSt.next {r : Rul} {ts : List Tch} {s i k : Nat} {full l : List Lnk} (hs : s < ts.length) (h : ChnSt r ts s full i k l) (hne : i ≠ s) : ∃ m j, k = m + 1 ∧ nxtL r ts s i = some j ∧ j < ts.length ∧ ChnSt r ts s full j m (l ++ [⟨noAt ts j, (shL r ts i j).getD zId⟩]) := by
  cases k with
  | zero => exact absurd (far_zero.1 h.far) hne
  | succ m =>
    obtain ⟨j, h1, h2, h3, _⟩ := nxtL_ex hs h.far
    refine ⟨m, j, rfl, h1, h3, h3, h2, ?_, ?_⟩
    · rw [List.append_assoc]
      have h4 := h.all
      rw [chnL_step h1] at h4
      exact h4
    · have := h.sm
      rw [List.length_append, List.length_singleton]
      omega
theorem find_at {α : Type} {l : List α} {p : α → Bool} {j : Nat} {x : α} (h : l[j]? = some x) : (l.drop j).find? p = if p x = true then some x else (l.drop (j + 1)).find? p := by
  rw [drop_at3 h, List.find?_cons]
  cases p x <;> rfl
set_option maxHeartbeats 8000000 in
set_option maxRecDepth 100000 in
theorem chain_any (r : Rul) (K W S A : Option Addr) (ck cw cs c : Nat) (ts : List Tch) (a b : Int) (w : World) (hR : RulIn (fun _ => False) w r K W S) (hT : Sl rTch (fun _ => False) w A ts) (hr : RulOk r) (ht : TchsOk ts) (hU : Tabs w) (hM : MaxL w) :
    Calls Tryz.prog 8 #[.agg (ruCs r K ck W cw S cs), .slice A ts.length c, .int .i64 a, .int .i64 b] w (GivesChnE r ts a b w) := by
  obtain ⟨Y, hY⟩ : ∃ Y, Y = w.heap.size := ⟨_, rfl⟩
  have T := (Mem.start w).newAt (ruCs r K ck W cw S cs) 29 Y hY
  have Hc := Lib.hid (fun w' (h : Below w.heap.size w w') => checkBoth_any (fun _ => False) r K W S A ck cw cs c ts w' (hR.keepB h) (hT.keepB h) hr ht (Utf8Tabs_below hU h) (hM.below h))
  obtain ⟨F, hF⟩ : ∃ F, bothF r ts = F := ⟨_, rfl⟩
  rw [hF] at Hc
  have HF := Lib.hid hF
  have HR := Lib.hid (fun w' (h : Below w.heap.size w w') => hR.keepB h)
  have HT := Lib.hid (fun w' (h : Below w.heap.size w w') => hT.keepB h)
  have Hr := Lib.hid hr
  have Hy := Lib.hid hY
  clear hF hR hT hr ht hU hM hY
  go_enter Tryz.func8, Tryz.ntmps8
  go_upto_region 1 with fail
  rw [← Hy.out]
  generalize w.alloc (.cells (ruCs r K ck W cw S cs) 29) = w1 at *
  replace T : Mem w w1 [.loc Y (ruCs r K ck W cw S cs) 29] := T
  have y0 := (T.lv 0 rfl).all
  go_wp2_with fail
  ((with_reducible refine (Hc.out w1 T.b).mono ?_); rintro e w2 ⟨rfl, hl2⟩)
  have T2 := T.below hl2
  clear y0 Hc hl2 T
  by_cases hE : F = 0
  · have Ho : Hid (RtOk r ts) := RtOk.both (HF.out.trans hE) Hr.out
    have Hu : Hid (NoUp ts) := noUp_of (both_zero (HF.out.trans hE)).2
    subst hE
    have htb := Ho.out.tb
    have Hn1 := Lib.hid (fun w' (z : Int) (h : Below w.heap.size w w') => numbered_any (fun _ => False) A ts z c w' (HT.out w' h) Ho.out.tl Hu.out)
    go_wp2_with fail
    ((with_reducible refine (Hn1.out w2 a T2.b).mono ?_); rintro e w3 ⟨i, b1, rfl, hi, hp1, hl3⟩)
    have T3 := T2.below hl3
    have Hp1 := Lib.hid hp1
    clear T2 hl3 hp1
    go_wp2_with fail
    ((with_reducible refine (Hn1.out w3 b T3.b).mono ?_); rintro e w4 ⟨s, b2, rfl, hs, hp2, hl4⟩)
    have T4 := T3.below hl4
    have Hp2 := Lib.hid hp2
    clear T3 hl4 hp2 Hn1
    cases b1
    · have Hw : Hid (Mem w w4 [.sl rLnk none []]) := (T4.del 0).call (Below.refl _ _) _ Sl.nil (fun k e => by cases e)
      clear T4
      go_wp2_with fail
      exact bodyPost_ret (results_two rfl rfl rfl) rfl ⟨none, 0, [], 8, rfl, .inr ⟨HF.out, .inl ⟨.inl Hp1.out, rfl, rfl⟩⟩, Hw.out⟩
    · cases b2
      · have Hw : Hid (Mem w w4 [.sl rLnk none []]) := (T4.del 0).call (Below.refl _ _) _ Sl.nil (fun k e => by cases e)
        clear T4
        go_wp2_with fail
        exact bodyPost_ret (results_two rfl rfl rfl) rfl ⟨none, 0, [], 8, rfl, .inr ⟨HF.out, .inl ⟨.inr Hp2.out, rfl, rfl⟩⟩, Hw.out⟩
      · have Hp1 : Hid (plcL ts a = some i) := Hp1.out
        have Hp2 : Hid (plcL ts b = some s) := Hp2.out
        have hi2 : i < ts.length := (plcL_at Hp1.out).1
        have hs2 : s < ts.length := (plcL_at Hp2.out).1
        have Hn := Lib.hid (newGroup_any (fun _ => False) r K W S A ck cw cs c ts w4 (HT.out w4 T4.b) Ho.out.tl (fun t h => (Ho.out.up t h).nodup) Ho.out.il)
        have y0 := (T4.lv 0 rfl).all
        go_wp2_with fail
        ((with_reducible refine (Hn.out).mono ?_); rintro e w5 ⟨G, X, qs, rfl, T5, hH⟩)
        have hG := grp_of T5.b (HR.out w4 T4.b) (HT.out w4 T4.b) T5 hH
        have T6 := T4.below T5.b
        have Hf := Lib.hid (far_any G X r K W S A ck cw cs c ts qs s w5 hG Ho.out hs2)
        have HNb := Lib.hid (fun w' i (h : Below w5.heap.size w5 w') (hi : i < ts.length) => neighbours_any G X r K W S A ck cw cs c ts qs i w' (hG.keepB h) Ho.out hi)
        have HSh := Lib.hid (fun w' x y (h : Below w5.heap.size w5 w') (hx : x < ts.length) (hy : y < ts.length) => shared_any G X r K W S A ck cw cs c ts qs x y w' (hG.keepB h) Ho.out hx hy)
        have Hb5 : Hid (Below w.heap.size w w5) := T6.b
        have Hnl := Lib.hid (fun i => nbL_len r ts i)
        clear hG T5 hH T4 y0 Hn hi hs
        go_wp2_with fail
        ((with_reducible refine (Hf.out).mono ?_); rintro e w6 ⟨V, out, rfl, hol, hof, T7⟩)
        have Hw6 : Hid (Below w5.heap.size w5 w6) := T7.b
        obtain ⟨B, hB⟩ : ∃ B, B = w5.heap.size := ⟨_, rfl⟩
        have T8 : Mem w5 w6 [.own rInt B 3 (.slice (some ⟨V, 0, none⟩) ts.length ts.length) out] := by rw [hB]; exact T7
        have HT6 : Hid (Mem w w5 []) := T6.del 0
        have Hb := Lib.hid hB
        have Hol : Hid (ts.length = out.length) := hol.symm
        have Hof := Lib.hid hof
        clear T6 T7 hB hol hof Hf
        obtain ⟨di, _⟩ := (T8.ow 0 rfl).intAt Hol.out i _ (Hof.out i hi2)
        obtain ⟨fi, hfi⟩ : ∃ fi, farI ts.length (Edge r ts) s i = fi := ⟨_, rfl⟩
        rw [hfi] at di
        by_cases hneg : fi < 0
        · have Hfn : Hid (farD ts.length (Edge r ts) s i = none) := farI_neg.1 (by rw [hfi]; exact hneg)
          have Hw : Hid (Mem w w6 [.sl rLnk none []]) := HT6.out.join ((T8.del 0).call (Below.refl _ _) _ Sl.nil (fun k e => by cases e))
          clear T8 hfi
          go_wp2_with fail
          exact bodyPost_ret (results_two rfl rfl rfl) rfl ⟨none, 0, [], 16, rfl, .inr ⟨HF.out, .inr ⟨i, s, Hp1.out, Hp2.out, .inl ⟨Hfn.out, rfl, rfl⟩⟩⟩, Hw.out⟩
        · obtain ⟨k, hk⟩ : ∃ k, farD ts.length (Edge r ts) s i = some k := by
            cases h : farD ts.length (Edge r ts) s i with
            | none => exact absurd (by rw [← hfi]; exact farI_neg.2 h) hneg
            | some k => exact ⟨k, rfl⟩
          have Hk := Lib.hid hk
          have HC := Lib.hid (ChnSt.start (a := a) hs2 hi2 hk)
          obtain ⟨full, hfull⟩ : ∃ full, (⟨a, zId⟩ : Lnk) :: chnL r ts s k i = full := ⟨_, rfl⟩
          rw [hfull] at HC
          have Hans : Hid (ChnAns r ts a b 0 full) := .inr ⟨i, s, Hp1.out, Hp2.out, .inr ⟨k, hk, rfl, hfull.symm⟩⟩
          clear hfi hk hfull
          go_upto_region 13 with fail
          obtain ⟨Z, hZ⟩ : ∃ Z, Z = w6.heap.size := ⟨_, rfl⟩
          have T9 : Mem w5 (w6.alloc (.cells (lkCs ⟨a, zId⟩) 43)) [.own rInt B 3 (.slice (some ⟨V, 0, none⟩) ts.length ts.length) out, .own rLnk B 43 (.slice (some ⟨Z, 0, none⟩) 1 1) [⟨a, zId⟩]] := (T8.newAt (lkCs ⟨a, zId⟩) 43 Z hZ).asOwn flatLnk 1 rfl [⟨a, zId⟩] rfl rfl (by simp) Hb.out 1 rfl
          rw [← hZ]
          have hb9 : Below w6.heap.size w6 (w6.alloc (.cells (lkCs ⟨a, zId⟩) 43)) := (Below.refl _ _).alloc (Nat.le_refl _) _
          clear hZ T8 di hneg
          replace T9 : Mem w5 (w6.alloc (.cells #[.int .i64 a, .int .i64 0, .string ⟨#[]⟩] 43)) [.own rInt B 3 (.slice (some ⟨V, 0, none⟩) ts.length ts.length) out, .own rLnk B 43 (.slice (some ⟨Z, 0, none⟩) 1 1) [⟨a, zId⟩]] := T9
          generalize w6.alloc (.cells #[.int .i64 a, .int .i64 0, .string ⟨#[]⟩] 43) = w7 at *
          have Hb7 : Hid (Below w5.heap.size w5 w7) := Hw6.out.trans (hb9.mono Hw6.out.size)
          clear hb9 Hw6
          go_wp2_with fail
          go_loopw [17, 18] (fun v at' wr => ∃ (i k : Nat) (l : List Lnk), at' = .int .i64 i ∧ i < ts.length ∧ Hid (ChnSt r ts s full i k l) ∧ Hid (Below w5.heap.size w5 wr) ∧ Mem w5 wr [.own rInt B 3 (.slice (some ⟨V, 0, none⟩) ts.length ts.length) out, .own rLnk B 43 v l]) (fun _ at' _ => (farI ts.length (Edge r ts) s (intOf at').toNat).toNat)
          case atStart => exact ⟨i, k, [⟨a, zId⟩], rfl, hi2, HC, Hb7, T9⟩
          case round =>
            clear T9 HC Hk Hp1 hi2
            obtain ⟨x, k, l, rfl, hx, HC, Hbr, T⟩ := hrel
            by_cases hxs : x = s
            · subst hxs
              have Hl : Hid (l = full) := HC.out.fin
              obtain ⟨A9, c9, rfl, T2⟩ := T.frz 1 rfl
              have HT2 : Hid (Mem w wr [.sl rLnk A9 l]) := HT6.out.join (T2.del 0)
              clear T T2
              go_wp2_with fail
              exact bodyPost_ret (results_two rfl rfl rfl) rfl ⟨A9, c9, l, 0, rfl, .inr ⟨HF.out, by rw [Hl.out]; exact Hans.out⟩, HT2.out⟩
            · obtain ⟨m, j, rfl, hnx, hjn, hC2⟩ := HC.out.next hs2 hxs
              have HC2 := Lib.hid hC2
              have Hms : Hid ((farI ts.length (Edge r ts) s j).toNat < (farI ts.length (Edge r ts) s x).toNat) := by
                show _ < _
                rw [farI_is HC2.out.far, farI_is HC.out.far]
                omega
              have Hnx := Lib.hid hnx
              have hlm : l.length ≤ 2000 := by have := HC.out.sm; omega
              have Hn := Lib.hid (HNb.out wr x Hbr.out hx)
              have hxc : ¬ (x : Int) = (s : Int) := by omega
              clear hC2 hnx
              go_wp2_with fail
              ((with_reducible refine (Hn.out).mono ?_); rintro e w8 ⟨v8, rfl, T8⟩)
              have Hb8 : Hid (Below w5.heap.size w5 w8) := Hbr.out.trans (T8.b.mono Hbr.out.size)
              obtain ⟨A9, c9, rfl, T9⟩ := (T.join T8).frz 2 rfl
              obtain ⟨zs, hzs⟩ : ∃ zs, nbL r ts x = zs := ⟨_, rfl⟩
              have hzl : zs.length ≤ 2000 := by rw [← hzs]; have := Hnl.out x; omega
              have Hzn : Hid (∀ z ∈ zs, z < ts.length) := fun z hz => by rw [← hzs] at hz; exact (nbL_mem.1 hz).1
              have Hfnd : Hid (zs.find? (fun z => decide (farI ts.length (Edge r ts) s z = (m : Int))) = some j) := by
                have h := Hnx.out
                unfold nxtL at h
                rw [farI_is HC.out.far, show (((m + 1 : Nat) : Int) - 1) = (m : Int) by omega] at h
                rw [← hzs]; exact h
              rw [hzs] at T9 ⊢
              replace T9 : Mem w5 w8 [.own rInt B 3 (.slice (some ⟨V, 0, none⟩) ts.length ts.length) out, .own rLnk B 43 u17 l, .sl rInt A9 (iL zs)] := T9
              rw [iL_len]
              clear T T8 hzs Hn Hnx Hbr
              go_wp2_with fail
              go_loopw [17, 18, 69] (fun v at' i wx => ∃ p : Nat, at' = .int .i64 x ∧ i = .int .i64 p ∧ p ≤ zs.length ∧ Hid ((zs.drop p).find? (fun z => decide (farI ts.length (Edge r ts) s z = (m : Int))) = some j) ∧ Hid (Below w5.heap.size w5 wx) ∧ Mem w5 wx [.own rInt B 3 (.slice (some ⟨V, 0, none⟩) ts.length ts.length) out, .own rLnk B 43 v l, .sl rInt A9 (iL zs)]) (fun _ _ i _ => zs.length - (intOf i).toNat)
              case atStart => exact ⟨0, rfl, rfl, Nat.zero_le _, Hfnd, Hb8, T9⟩
              case round =>
                clear T9 Hfnd Hb8
                obtain ⟨p, rfl, rfl, hp, Hfnd, Hb8, T⟩ := hrel
                by_cases hlt : p < zs.length
                · obtain ⟨z, hz⟩ : ∃ z, zs[p]? = some z := ⟨_, List.getElem?_eq_getElem hlt⟩
                  obtain ⟨b5, o5, rfl, hb5, d0⟩ := (T.slc 2 rfl).int p (z : Int) (by unfold iL; rw [List.getElem?_map, hz]; rfl)
                  have hzn := Hzn.out z (List.mem_of_getElem? hz)
                  have Hst := Lib.hid (find_at (p := fun z => decide (farI ts.length (Edge r ts) s z = (m : Int))) hz)
                  clear hz
                  go_upto_region 18 with fail
                  clear d0
                  obtain ⟨dz, _⟩ := (T.ow 0 rfl).intAt Hol.out z _ (Hof.out z hzn)
                  obtain ⟨dx, _⟩ := (T.ow 0 rfl).intAt Hol.out x _ (Hof.out x hx)
                  obtain ⟨fx, hfx⟩ : ∃ fx, farI ts.length (Edge r ts) s x = fx := ⟨_, rfl⟩
                  obtain ⟨fz, hfz⟩ : ∃ fz, farI ts.length (Edge r ts) s z = fz := ⟨_, rfl⟩
                  have hmb : m ≤ 2000 := by have := HC.out.sm; omega
                  have hwr : IntKind.i64.wrap (fx - 1) = (m : Int) := by
                    rw [← hfx, farI_is HC.out.far]
                    simp [IntKind.wrap, IntKind.bits, IntKind.signed]
                    omega
                  rw [hfx] at dx
                  rw [hfz] at dz
                  have Hfz := Lib.hid hfz
                  clear hfz hfx
                  by_cases he : fz = (m : Int)
                  · have Hzj : Hid (z = j) := by
                      have h1 := Hst.out
                      rw [if_pos (decide_eq_true (Hfz.out.trans he)), Hfnd.out] at h1
                      exact (Option.some.inj h1).symm
                    obtain rfl : z = j := Hzj.out
                    obtain ⟨y, hy⟩ : ∃ y, (shL r ts x z).getD zId = y := ⟨_, rfl⟩
                    obtain ⟨bb, hbb⟩ : ∃ bb, (shL r ts x z).isSome = bb := ⟨_, rfl⟩
                    have Hsh := Lib.hid (fun w' (h : Below w5.heap.size w5 w') => HSh.out w' x z h hx hzn)
                    unfold GivesSh at Hsh
                    rw [hy, hbb] at Hsh
                    obtain ⟨no, hno⟩ : ∃ no, noAt ts z = no := ⟨_, rfl⟩
                    rw [hy, hno] at HC2
                    obtain ⟨tz, htz⟩ : ∃ tz, ts[z]? = some tz := ⟨_, List.getElem?_eq_getElem hzn⟩
                    have hnz : tz.no = no := by rw [← hno, noAt_is htz]
                    obtain ⟨bt, ot, Ai, ci, Af, cf, rfl, hbt, t0, _⟩ := (HT.out w (Below.refl _ _)).tch z tz htz
                    rw [hnz] at t0
                    have Ht0 := Lib.hid (fun w' (h : Below w5.heap.size w5 w') => ((Hb5.out.trans (h.mono Hb5.out.size)).cell (p := ⟨bt, ot + z * 5, none⟩) hbt).trans t0)
                    clear hy hbb hno htz hnz Hst Hfnd Hzj t0 hbt
                    go_wp2_with fail
                    go_quiet (fail)
                    go_wp2_with fail
                    clear dz dx hwr
                    ((with_reducible refine (Hsh.out _ (Hb8.out.trans (below_drewN _ _ _))).mono ?_); rintro e w9 ⟨rfl, hl9⟩)
                    have T2 := (T.below (below_drewN _ _ _)).below hl9
                    have Hb9 : Hid (Below w5.heap.size w5 w9) := T2.b
                    clear T hl9 Hsh
                    go_upto_region 20 with fail
                    obtain ⟨U, hU⟩ : ∃ U, U = w9.heap.size := ⟨_, rfl⟩
                    have T3 := T2.newAt #[.int .i64 y.k, .string y.t] 41 U hU
                    have hb10 : Below w9.heap.size w9 (w9.alloc (.cells #[.int .i64 y.k, .string y.t] 41)) := (Below.refl _ _).alloc (Nat.le_refl _) _
                    have Hb10 : Hid (Below w5.heap.size w5 (w9.alloc (.cells #[.int .i64 y.k, .string y.t] 41))) := Hb9.out.trans (hb10.mono Hb9.out.size)
                    replace T3 : Mem w5 (w9.alloc (.cells #[.int .i64 y.k, .string y.t] 41)) [.own rInt B 3 (.slice (some ⟨V, 0, none⟩) ts.length ts.length) out, .own rLnk B 43 u17 l, .sl rInt (some ⟨b5, o5, none⟩) (iL zs), .loc U #[.int .i64 y.k, .string y.t] 41] := T3
                    rw [← hU]
                    clear hU hb10 T2
                    generalize w9.alloc (.cells #[.int .i64 y.k, .string y.t] 41) = w10 at *
                    refine wp_region_mixT [] (fun w' => Below w5.heap.size w5 w' ∧ LV w' U #[.int .i64 y.k, .string y.t] 41) (.p 0 (.p 1 (.p 2 (.p 3 (.p 4 (.q 5 (.q 6 (.p 7 (.e 8 (.e 9 (.p 10 .z))))))))))) (by kernel_rfl) (by kernel_rfl) (fun w' hd => ⟨(T3.below (hd.below _)).b, (T3.below (hd.below _)).lv 3 rfl⟩) (fun KK hKK wd hd => ?_)
                    have T4 := T3.below (hd.below _)
                    have Hb11 : Hid (Below w5.heap.size w5 wd) := Hb10.out.trans (hd.below _)
                    clear hd T3
                    repeat ((first | refine mixT_pp rfl (fun K hK => ?_) | refine mixT_p rfl (fun K hK => ?_)); go_simp; (try go_bits); (try simp (disch := omega) only [if_pos]); (try simp (disch := omega) only [if_neg]); (try simp (disch := omega) only [dif_pos]); (try simp (disch := omega) only [dif_neg]); (try go_simp); (refine hK _ ?_; clear hK K))
                    refine mixT_loadR (.int .i64 no) rfl rfl rfl rfl (fun w' h => loadC rfl (Ht0.out w' h.1)) ?_
                    refine mixT_loadR (.agg #[.int .i64 y.k, .string y.t]) rfl rfl rfl rfl (fun w' h => loadAtI (h.2.cell 0 _ rfl) (h.2.cell 1 _ rfl)) ?_
                    repeat ((first | refine mixT_pp rfl (fun K hK => ?_) | refine mixT_p rfl (fun K hK => ?_)); go_simp; (try go_bits); (try simp (disch := omega) only [if_pos]); (try simp (disch := omega) only [if_neg]); (try simp (disch := omega) only [dif_pos]); (try simp (disch := omega) only [dif_neg]); (try go_simp); (refine hK _ ?_; clear hK K))
                    refine mixT_l rfl rfl (fun K9 hK9 => ?_)
                    have hsz : B ≤ wd.heap.size := by rw [Hb.out]; exact T4.b.size
                    have hC8 : Below w5.heap.size w5 (wd.alloc (.cells #[.int .i64 no, .int .i64 y.k, .string y.t] 43)) ∧ LV (wd.alloc (.cells #[.int .i64 no, .int .i64 y.k, .string y.t] 43)) U #[.int .i64 y.k, .string y.t] 41 := ⟨(T4.alloc _).b, (T4.alloc _).lv 3 rfl⟩
                    go_wp2_with fail
                    refine ⟨hC8, ?_⟩
                    clear hC8
                    refine mixT_l rfl rfl (fun K9 hK9 => ?_)
                    refine T4.app 1 rfl tyLnk rfl _ _ rfl ⟨no, y⟩ 1 rfl rfl rfl (oneLnk ⟨no, y⟩) hsz (by omega) (by decide) ?_
                    intro v5 w12 T5
                    have hC9 : Below w5.heap.size w5 w12 ∧ LV w12 U #[.int .i64 y.k, .string y.t] 41 := ⟨T5.b, T5.lv 3 rfl⟩
                    have Hb12 : Hid (Below w5.heap.size w5 w12) := T5.b
                    clear T4
                    go_wp2_with fail
                    refine ⟨hC9, ?_⟩
                    clear hC9
                    repeat ((first | refine mixT_pp rfl (fun K hK => ?_) | refine mixT_p rfl (fun K hK => ?_)); go_simp; (try go_bits); (try simp (disch := omega) only [if_pos]); (try simp (disch := omega) only [if_neg]); (try simp (disch := omega) only [dif_pos]); (try simp (disch := omega) only [dif_neg]); (try go_simp); (refine hK _ ?_; clear hK K))
                    refine mixT_nil ?_
                    simp only [Exit.then]
                    refine hKK _ _ ?_
                    clear hKK KK
                    have HT7 : Hid (Mem w5 w12 [.own rInt B 3 (.slice (some ⟨V, 0, none⟩) ts.length ts.length) out, .own rLnk B 43 v5 (l ++ [⟨no, y⟩])]) := (T5.del 3).del 2
                    clear T5
                    go_wp2_with fail
                    go_roundw
                    case rel => exact ⟨z, m, l ++ [⟨no, y⟩], rfl, hzn, HC2, Hb12, HT7.out⟩
                    case measure => exact Hms.out
                  · have Hfn2 : Hid ((zs.drop (p + 1)).find? (fun z => decide (farI ts.length (Edge r ts) s z = (m : Int))) = some j) := by
                      show _ = _
                      have h1 := Hst.out
                      rw [if_neg (by rw [Hfz.out]; simpa using he), Hfnd.out] at h1
                      exact h1.symm
                    clear Hst Hfnd
                    go_quiet (fail)
                    go_wp2_with fail
                    go_roundw
                    case rel => exact ⟨p + 1, rfl, by go_num, by omega, Hfn2, (Hb8.out.trans (below_drewN _ _ _)), T.below (below_drewN _ _ _)⟩
                    case measure => simp [intOf]; omega
                · exfalso
                  have h1 := Hfnd.out
                  rw [List.drop_eq_nil_of_le (by omega)] at h1
                  cases h1
  · have Hw : Hid (Mem w w2 [.sl rLnk none []]) := (T2.del 0).call (Below.refl _ _) _ Sl.nil (fun k e => by cases e)
    clear T2
    go_wp2_with fail
    exact bodyPost_ret (results_two rfl rfl rfl) rfl ⟨none, 0, [], F, rfl, .inl ⟨fun h => hE (HF.out.symm.trans h), HF.out.symm, rfl⟩, Hw.out⟩
end Go.Proofs.YtfdcgedcfafmcaaGreatDoor
