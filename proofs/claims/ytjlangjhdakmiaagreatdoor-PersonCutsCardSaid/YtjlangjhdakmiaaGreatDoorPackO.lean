/- Several texts in one: CutsR, CutsJ, Cuts. -/
import Derived.Test.YtjlangjhdakmiaaGreatDoorPackF
import Derived.Test.YtjlangjhdakmiaaGreatDoorPackN
import Derived.Test.YtjlangjhdakmiaaGreatDoorPackW
/- handref2.CutsOf: the ids without which a person would be several. -/
namespace Go.Proofs.YtjlangjhdakmiaaGreatDoor
open Go Go.RowKit
theorem filt_snoc {α : Type} {l : List α} {k : Nat} {x : α} (f : α → Bool) (h : l[k]? = some x) : (l.take (k + 1)).filter f = (l.take k).filter f ++ (if f x = true then [x] else []) := by
  rw [take_snoc h, List.filter_append, List.filter_cons, List.filter_nil]
theorem any_snoc {α : Type} {l : List α} {k : Nat} {x : α} (f : α → Bool) (h : l[k]? = some x) : (l.take (k + 1)).any f = ((l.take k).any f || f x) := by
  rw [take_snoc h, List.any_append, List.any_cons, List.any_nil, Bool.or_false]
theorem psns_lens {r : Rul} {ts : List Tch} {P : List Psn} (hP : IsPsns r ts P) : P.length ≤ ts.length ∧ ∀ p ∈ P, p.tch.length ≤ ts.length := by
  obtain ⟨c, _, rfl⟩ := hP
  unfold psns
  refine ⟨?_, fun p hp => ?_⟩
  · rw [List.length_map]
    exact heads_len c ts.length
  · obtain ⟨i, _, rfl⟩ := List.mem_map.1 hp
    show ((partAt c ts.length i).map (noAt ts)).length ≤ _
    rw [List.length_map]
    exact part_len c ts.length i
abbrev Rul.weaker (r : Rul) (x : IdV) : Rul := ⟨r.kinds, r.most, r.weak ++ [x], r.surv⟩
theorem weaker_edge (r : Rul) (ts : List Tch) (x : IdV) : Edge (r.weaker x) ts = EdgeX r ts (some x) := edge_weak r ts x (r.weaker x) rfl (fun y => by show y ∈ r.weak ++ [x] ↔ _; rw [List.mem_append, List.mem_singleton]) rfl
theorem weaker_on {r : Rul} {ts : List Tch} (h : RtOk r ts) (hw : r.weak.length ≤ 1000) (x : IdV) : RtOn (r.weaker x) ts :=
  ⟨by show (r.weak ++ [x]).length ≤ _; rw [List.length_append, List.length_singleton]; omega, h.kl, h.tl, h.up, h.il, h.ne, h.tb, h.ib⟩
set_option maxHeartbeats 8000000 in
set_option maxRecDepth 100000 in
theorem refCuts_any (r : Rul) (K W S A : Option Addr) (ck cw cs c : Nat) (ts : List Tch) (x : IdV) (w : World) (hR : RulIn (fun _ => False) w r K W S) (hT : Sl rTch (fun _ => False) w A ts) (ho : RtOk r ts) (hw : r.weak.length ≤ 1000) (hu : NoUp ts) :
    Calls Tryz.prog 24 #[.agg (ruCs r K ck W cw S cs), .slice A ts.length c, .agg #[.int .i64 x.k, .string x.t]] w (GivesCutsR r ts x w) := by
  obtain ⟨Y, hY⟩ : ∃ Y, Y = w.heap.size := ⟨_, rfl⟩
  have T0 := (Mem.start w).newAt (ruCs r K ck W cw S cs) 29 Y hY
  have T : Mem w _ [.loc Y (ruCs r K ck W cw S cs) 29, .loc (Y + 1) #[.int .i64 x.k, .string x.t] 43] := T0.newAt #[.int .i64 x.k, .string x.t] 43 (Y + 1) (by rw [hY, World.size_alloc])
  have HR := Lib.hid (fun w' (h : Below w.heap.size w w') => hR.keepB h)
  have HT := Lib.hid (fun w' (h : Below w.heap.size w w') => hT.keepB h)
  have Ho := Lib.hid ho
  have Hw := Lib.hid hw
  have Hu := Lib.hid hu
  clear T0 hR hT ho hw hu
  go_enter Tryz.func24, Tryz.ntmps24
  go_upto_region 1 with fail
  rw [← hY]
  clear hY
  generalize (w.alloc (.cells (ruCs r K ck W cw S cs) 29)).alloc (.cells #[.int .i64 x.k, .string x.t] 43) = w1 at *
  obtain ⟨X, hX⟩ : ∃ X, X = Y + 1 := ⟨_, rfl⟩
  rw [← hX] at T ⊢
  clear hX
  have l0 := (T.lv 0 rfl).all
  have l1 := (T.lv 1 rfl).all
  have Hp := Lib.hid (refPersonOf_any (fun _ => False) r K W S A ck cw cs c ts x w1 (HR.out w1 T.b) (HT.out w1 T.b) Ho.out.on)
  go_wp2_with fail
  ((with_reducible refine (Hp.out).mono ?_); rintro e w2 ⟨P, zs, b, rfl, hP, hb2, hI⟩)
  obtain ⟨cc, hcc, rfl⟩ := hP
  obtain ⟨k7, t7, A7, n7, a7, B7, m7, c7, rfl⟩ := hI.form
  obtain ⟨Z, hZ⟩ : ∃ Z, Z = w2.heap.size := ⟨_, rfl⟩
  have T3 : Mem w (w2.alloc (.cells #[.int .i64 k7, .string t7, .slice A7 n7 a7, .slice B7 m7 c7] 47)) [.loc Y (ruCs r K ck W cw S cs) 29, .loc X #[.int .i64 x.k, .string x.t] 43, .loc Z #[.int .i64 k7, .string t7, .slice A7 n7 a7, .slice B7 m7 c7] 47] := (T.below hb2).newAt #[.int .i64 k7, .string t7, .slice A7 n7 a7, .slice B7 m7 c7] 47 Z hZ
  have hI3 := hI.keep (SKN.ofBelow (N := fun _ => False) ((Below.refl w2.heap.size w2).alloc (Nat.le_refl _) (.cells #[.int .i64 k7, .string t7, .slice A7 n7 a7, .slice B7 m7 c7] 47)))
  have Hcc := Lib.hid hcc
  clear T hb2 hI Hp l0 l1 hcc
  go_upto_region 2 with fail
  rw [← hZ]
  clear hZ
  generalize w2.alloc (.cells #[.int .i64 k7, .string t7, .slice A7 n7 a7, .slice B7 m7 c7] 47) = w3 at *
  rcases hI3 with ⟨hn, rfl, _⟩ | ⟨p, A2, a2, B2, b2, hk, rfl, hz, s1, s2⟩
  · have Hn := Lib.hid hn
    have HT3 := Lib.hid T3
    clear hn T3
    go_wp2_with fail
    exact bodyPost_ret (results_two rfl rfl rfl) rfl ⟨none, 0, [], 8, cc, rfl, ((Mem.start w).below HT3.out.b).call (Below.refl _ _) _ Sl.nil (fun k e => by cases e), Hcc.out, .inl ⟨Hn.out, rfl, rfl⟩⟩
  · obtain ⟨hd, hhd, rfl⟩ := kf_head hk
    have hz2 := congrArg Array.toList hz
    simp only [List.cons.injEq, Value.int.injEq, Value.string.injEq, Value.slice.injEq, and_true, true_and] at hz2
    obtain ⟨rfl, rfl, ⟨rfl, rfl, rfl⟩, rfl, rfl, rfl⟩ := hz2
    obtain ⟨q, hq⟩ : ∃ q, psnAt r ts cc hd = q := ⟨_, rfl⟩
    obtain ⟨M, hM⟩ : ∃ M, q.ids = M := ⟨_, rfl⟩
    rw [hq] at T3 hk s1 s2 ⊢
    have hMl : M.length ≤ 1000000 := by
      rw [← hM, ← hq]
      have h2 := flat_len (m := 10) (f := idsAt ts) (partAt cc ts.length hd) (idsAt_len Ho.out)
      have h3 := sub_len (srtId_up ((partAt cc ts.length hd).flatMap (idsAt ts))).nodup (fun y hy => (srtId_mem _ y).1 hy)
      have h4 := part_len cc ts.length hd
      have h5 := Ho.out.tb
      show (srtId ((partAt cc ts.length hd).flatMap (idsAt ts))).length ≤ _
      omega
    have hql : q.tch.length ≤ 1000000 := by
      rw [← hq]
      have h4 := part_len cc ts.length hd
      have h5 := Ho.out.tb
      show ((partAt cc ts.length hd).map (noAt ts)).length ≤ _
      rw [List.length_map]
      omega
    rw [hM] at T3 s2 ⊢
    have HMh : Hid (∀ y ∈ M, hav ts y ≠ []) := fun y hy => by
      rw [← hM, ← hq] at hy
      have h1 : y ∈ (partAt cc ts.length hd).flatMap (idsAt ts) := (srtId_mem _ y).1 hy
      obtain ⟨i, _, h2⟩ := List.mem_flatMap.1 h1
      intro e
      have := mem_idsAt.1 h2
      rw [e] at this
      cases this
    obtain ⟨cb, hcb⟩ : ∃ cb, cutB r ts (partAt cc ts.length hd) hd = cb := ⟨_, rfl⟩
    have Hno : Hid (∀ y, joinsP r ts y = false → cb y = false) := fun y h => by rw [← hcb]; exact cutB_no h
    have Hyes : Hid (∀ y P, joinsP r ts y = true → IsPsns (r.weaker y) ts P → cb y = !(P.any (fun p => decide (p.tch = q.tch)))) := fun y P h1 h2 => by
      rw [← hcb, ← hq]
      exact whole_any Hu.out Hcc.out hhd (weaker_edge r ts y) h2 h1
    have Hend : Hid (∀ l, l = M.filter cb → ∃ hd ∈ heads cc ts.length, kfP (psns r ts cc) x = some (psnAt r ts cc hd) ∧ (0 : Int) = 0 ∧ l = cutsL r ts cc hd) := fun l h => ⟨hd, hhd, by rw [hq]; exact hk, rfl, by rw [h, ← hcb, ← hM, ← hq]; rfl⟩
    have HlY := Lib.hid (T3.lv 0 rfl)
    have HlZ := Lib.hid (T3.lv 2 rfl)
    have Hb3 := Lib.hid T3.b
    have HS1 := Lib.hid (fun w' (h : Below w3.heap.size w3 w') => s1.keepB h)
    have HS2 := Lib.hid (fun w' (h : Below w3.heap.size w3 w') => s2.keepB h)
    have HR3 := Lib.hid (fun w' (h : Below w3.heap.size w3 w') => HR.out w' (Hb3.out.trans (h.mono Hb3.out.size)))
    have HT4 := Lib.hid (fun w' (h : Below w3.heap.size w3 w') => HT.out w' (Hb3.out.trans (h.mono Hb3.out.size)))
    have Hcc2 := Lib.hid Hcc.out
    clear hk hz s1 s2 hhd hq hM hcb T3 HR HT Hcc
    have Hj := Lib.hid (refJoinsN_any (fun _ => False) r K W S A ck cw cs c ts w3 (HR3.out w3 (Below.refl _ _)) (HT4.out w3 (Below.refl _ _)) Ho.out.on)
    have y0 := HlY.out.all
    have z0 := HlZ.out.all
    go_wp2_with fail
    ((with_reducible refine (Hj.out).mono ?_); rintro e w4 ⟨X3, L3, rfl, hL3, T4⟩)
    have HL3 := Lib.hid hL3
    obtain ⟨Bk, hBk⟩ : ∃ Bk, Bk = w3.heap.size := ⟨_, rfl⟩
    have TA : Mem w3 w4 [.mapG keyId X3 L3, .own rId Bk 43 (.slice none 0 0) []] := T4.nil rId Bk 43
    have z0 := (LV.kb3 HlZ.out T4.b HlZ.out.lt).all
    have Hb := Lib.hid hBk
    clear y0 T4 Hj hL3 hBk
    go_wp2_with fail
    go_loopw [11, 33] (fun v i wr => ∃ k : Nat, k ≤ M.length ∧ i = .int .i64 k ∧ Mem w3 wr [.mapG keyId X3 L3, .own rId Bk 43 v ((M.take k).filter cb)]) (fun _ i _ => M.length - (intOf i).toNat)
    case atStart => exact ⟨0, Nat.zero_le _, rfl, by rw [List.take_zero]; exact TA⟩
    case round =>
      clear TA z0
      obtain ⟨k, hk, rfl, TA⟩ := hrel
      by_cases hlt : k < M.length
      · obtain ⟨y, hy⟩ : ∃ y, M[k]? = some y := ⟨_, List.getElem?_eq_getElem hlt⟩
        obtain ⟨b5, o5, rfl, hb5, d0, d1⟩ := (HS2.out wr TA.b).idv k y hy
        have Hsn := Lib.hid (filt_snoc cb hy)
        have hym : hav ts y ≠ [] := HMh.out y (List.mem_of_getElem? hy)
        have hlk : (getG y L3).getD (.bool false) = .bool (joinsP r ts y) := by rw [HL3.out y, if_neg hym]; rfl
        obtain ⟨jv, hjv⟩ : ∃ jv, joinsP r ts y = jv := ⟨_, rfl⟩
        rw [hjv] at hlk
        have Hjv := Lib.hid hjv
        have hxl : ((M.take k).filter cb).length ≤ 100000000 := by
          have h1 := List.length_filter_le cb (M.take k)
          rw [List.length_take] at h1
          omega
        obtain ⟨zs, hzs⟩ : ∃ zs, (M.take k).filter cb = zs := ⟨_, rfl⟩
        rw [hzs] at TA Hsn hxl
        clear hy hym hjv hzs
        obtain ⟨V, hV⟩ : ∃ V, V = wr.heap.size := ⟨_, rfl⟩
        have T2 : Mem w3 (wr.alloc (.cells #[.int .i64 y.k, .string y.t] 43)) [.mapG keyId X3 L3, .own rId Bk 43 u11 zs, .loc V #[.int .i64 y.k, .string y.t] 43] := TA.newAt #[.int .i64 y.k, .string y.t] 43 V hV
        go_upto_region 9 with fail
        rw [← hV]
        clear hV TA d0 d1
        generalize wr.alloc (.cells #[.int .i64 y.k, .string y.t] 43) = w5 at *
        have v0 := (T2.lv 2 rfl).all
        cases jv
        · have hf : cb y = false := Hno.out y Hjv.out
          have Hs2 : Hid ((M.take (k + 1)).filter cb = zs) := by show _ = _; rw [Hsn.out, if_neg (by rw [hf]; decide), List.append_nil]
          clear hf Hsn
          go_wp2_with (at_lookup; refine T2.lookG 0 rfl (T := 95) (E := 4) (by kernel_rfl) (z := .bool false) (fun _ => rfl) rfl _ _ false rfl rfl y rfl ?_; rw [if_neg (by decide), hlk])
          go_roundw
          case rel => exact ⟨k + 1, by omega, by go_num, by rw [Hs2.out]; exact T2.del 2⟩
          case measure => simp [intOf]; omega
        · have y0 := (LV.kb3 HlY.out T2.b HlY.out.lt).all
          obtain ⟨Q, hQ⟩ : ∃ Q, Q = w5.heap.size := ⟨_, rfl⟩
          have T3 : Mem w3 (w5.alloc (.cells (ruCs r K ck W cw S cs) 29)) [.mapG keyId X3 L3, .own rId Bk 43 u11 zs, .loc V #[.int .i64 y.k, .string y.t] 43, .loc Q (ruCs r K ck W cw S cs) 29] := T2.newAt (ruCs r K ck W cw S cs) 29 Q hQ
          go_upto_region 11 with (at_lookup; refine T2.lookG 0 rfl (T := 95) (E := 4) (by kernel_rfl) (z := .bool false) (fun _ => rfl) rfl _ _ false rfl rfl y rfl ?_; rw [if_neg (by decide), hlk])
          rw [← hQ]
          clear hQ T2 y0 v0 hlk
          generalize w5.alloc (.cells (ruCs r K ck W cw S cs) 29) = w6 at *
          go_cut [47] (fun _ wx => ∃ (W2 : Option Addr) (c2 : Nat), Mem w3 wx [.mapG keyId X3 L3, .own rId Bk 43 u11 zs, .loc V #[.int .i64 y.k, .string y.t] 43, .loc Q (ruCs (r.weaker y) K ck W2 c2 S cs) 29, .sl rId W2 (r.weak ++ [y])])
          case first =>
            refine wp_region_mixT [] (fun wx => LV wx Y (ruCs r K ck W cw S cs) 29 ∧ LV wx V #[.int .i64 y.k, .string y.t] 43) (.p 0 (.q 1 (.q 3 (.e2 2 (.e 4 (.e 5 (.p 6 (.e 7 .z)))) 4 (.e 2 (.e 5 (.p 6 (.e 7 .z)))))))) (by kernel_rfl) (by kernel_rfl) (fun _ hd => ⟨LV.kb3 HlY.out (T3.below (hd.below _)).b HlY.out.lt, (T3.below (hd.below _)).lv 2 rfl⟩) (fun KK hKK wd hd => ?_)
            have T := T3.below (hd.below _)
            clear hd T3
            repeat ((first | refine mixT_pp rfl (fun K hK => ?_) | refine mixT_p rfl (fun K hK => ?_)); go_simp; (try go_bits); (try simp (disch := omega) only [if_pos]); (try simp (disch := omega) only [if_neg]); (try simp (disch := omega) only [dif_pos]); (try simp (disch := omega) only [dif_neg]); (try go_simp); (refine hK _ ?_; clear hK K))
            refine mixT_loadR (.slice W r.weak.length cw) rfl rfl rfl rfl (fun w' h => loadC rfl (h.1.cell 2 _ rfl)) ?_
            refine mixT_loadR (.agg #[.int .i64 y.k, .string y.t]) rfl rfl rfl rfl (fun w' h => loadAtI (h.2.cell 0 _ rfl) (h.2.cell 1 _ rfl)) ?_
            (try go_simp)
            refine mixT_2 (mixT_one rfl rfl (fun K9 hK9 => ?_)) (mixT_one rfl rfl (fun K9 hK9 => ?_))
            · have Hcl := Lib.hid (cloneI_any W r.weak cw _ (HR3.out _ T.b).wk Hw.out)
              go_wp2_with fail
              ((with_reducible refine (Hcl.out).mono ?_); rintro e wa ⟨A5, c5, rfl, TC⟩)
              obtain ⟨B5, hB5⟩ : ∃ B5, B5 = (wd).heap.size := ⟨_, rfl⟩
              have hB5l : B5 ≤ wa.heap.size := by rw [hB5]; exact TC.b.size
              rw [← hB5] at TC
              replace T : Mem w3 wa [.mapG keyId X3 L3, .own rId Bk 43 u11 zs, .loc V #[.int .i64 y.k, .string y.t] 43, .loc Q (ruCs r K ck W cw S cs) 29, .own rId B5 43 (.slice A5 r.weak.length c5) r.weak] := T.join TC
              have hC := (⟨LV.kb3 HlY.out T.b HlY.out.lt, T.lv 2 rfl⟩ : LV wa Y (ruCs r K ck W cw S cs) 29 ∧ LV wa V #[.int .i64 y.k, .string y.t] 43)
              clear TC hB5 Hcl
              go_wp2_with fail
              refine ⟨hC, ?_⟩
              clear hC
              refine mixT_l rfl rfl (fun K9 hK9 => ?_)
              go_wp2_with fail
              obtain ⟨N9, hN9⟩ : ∃ N9, N9 = (wa).heap.size := ⟨_, rfl⟩
              replace T : Mem w3 _ [.mapG keyId X3 L3, .own rId Bk 43 u11 zs, .loc V #[.int .i64 y.k, .string y.t] 43, .loc Q (ruCs r K ck W cw S cs) 29, .own rId B5 43 (.slice A5 r.weak.length c5) r.weak, .loc N9 #[.int .i64 y.k, .string y.t] 43] := T.newAt #[.int .i64 y.k, .string y.t] 43 N9 hN9
              (try have hB5l : B5 ≤ ((wa).alloc (.cells #[.int .i64 y.k, .string y.t] 43)).heap.size := Nat.le_trans hB5l (by simp))
              rw [← hN9]
              clear hN9
              generalize (wa).alloc (.cells #[.int .i64 y.k, .string y.t] 43) = wb at *
              refine ⟨⟨LV.kb3 HlY.out T.b HlY.out.lt, T.lv 2 rfl⟩, ?_⟩
              refine mixT_l rfl rfl (fun K9 hK9 => ?_)
              have hcs : ∀ (p : Nat) (u : Value), ([y].map IdV.cells).flatten[p]? = some u → World.cell? _ ((⟨N9, 0, none⟩ : Addr).add p) = some u := fun p u hu => by
                have h0 := (T.lv 5 rfl).cell 0 _ rfl
                have h1 := (T.lv 5 rfl).cell 1 _ rfl
                match p with
                | 0 => simp [IdV.cells] at hu; subst hu; exact h0
                | 1 => simp [IdV.cells] at hu; subst hu; exact h1
                | p + 2 => simp [IdV.cells] at hu
              refine T.appN flatId 4 rfl tyIdP rfl _ _ rfl [y] 1 1 rfl rfl ⟨N9, 0, none⟩ rfl hcs (fun y _ => oneIdP y) (fun _ => rfl) hB5l (by have := Hw.out; simp only [List.length_singleton]; omega) (by decide) ?_
              intro v5 w9 T5
              obtain ⟨W2, c2, e2, T6⟩ := T5.frz 4 rfl
              subst e2
              have hC := (⟨LV.kb3 HlY.out T6.b HlY.out.lt, T6.lv 2 rfl⟩ : LV w9 Y (ruCs r K ck W cw S cs) 29 ∧ LV w9 V #[.int .i64 y.k, .string y.t] 43)
              clear hcs T T5
              go_wp2_with fail
              refine ⟨hC, ?_⟩
              clear hC
              repeat ((first | refine mixT_pp rfl (fun K hK => ?_) | refine mixT_p rfl (fun K hK => ?_)); go_simp; (try go_bits); (try simp (disch := omega) only [if_pos]); (try simp (disch := omega) only [if_neg]); (try simp (disch := omega) only [dif_pos]); (try simp (disch := omega) only [dif_neg]); (try go_simp); (refine hK _ ?_; clear hK K))
              have q0 := (T6.lv 3 rfl).all
              have T9 := T6.set 3 2 (.slice W2 (r.weak ++ [y]).length c2) rfl
              rw [show (r.weak ++ [y]).length = r.weak.length + 1 by simp] at T9
              have T10 : Mem w3 _ [.mapG keyId X3 L3, .own rId Bk 43 u11 zs, .loc V #[.int .i64 y.k, .string y.t] 43, .loc Q #[.slice K r.kinds.length ck, .int .i64 r.most, .slice W2 (r.weak.length + 1) c2, .slice S r.surv.length cs] 29, .sl rId W2 (r.weak ++ [y])] := T9.del 5
              refine mixT_l rfl rfl (fun K9 hK9 => ?_)
              go_wp2_with fail
              refine ⟨⟨LV.kb3 HlY.out T10.b HlY.out.lt, T10.lv 2 rfl⟩, ?_⟩
              refine mixT_nil ?_
              simp only [Exit.then]
              refine hKK _ _ ?_
              clear hKK KK
              go_wp2_with fail
              go_meet
              refine ⟨W2, c2, ?_⟩
              rw [show (ruCs (r.weaker y) K ck W2 c2 S cs) = #[.slice K r.kinds.length ck, .int .i64 r.most, .slice W2 (r.weak.length + 1) c2, .slice S r.surv.length cs] by simp]
              exact T10
            · go_wp2_with fail
              obtain ⟨N9, hN9⟩ : ∃ N9, N9 = (wd).heap.size := ⟨_, rfl⟩
              replace T : Mem w3 _ [.mapG keyId X3 L3, .own rId Bk 43 u11 zs, .loc V #[.int .i64 y.k, .string y.t] 43, .loc Q (ruCs r K ck W cw S cs) 29, .loc N9 #[.int .i64 y.k, .string y.t] 43] := T.newAt #[.int .i64 y.k, .string y.t] 43 N9 hN9
              (try have hB5l : B5 ≤ ((wd).alloc (.cells #[.int .i64 y.k, .string y.t] 43)).heap.size := Nat.le_trans hB5l (by simp))
              rw [← hN9]
              clear hN9
              generalize (wd).alloc (.cells #[.int .i64 y.k, .string y.t] 43) = wb at *
              refine ⟨⟨LV.kb3 HlY.out T.b HlY.out.lt, T.lv 2 rfl⟩, ?_⟩
              refine mixT_l rfl rfl (fun K9 hK9 => ?_)
              have Hcl := Lib.hid (cloneI_any W r.weak cw _ (HR3.out _ T.b).wk Hw.out)
              go_wp2_with fail
              ((with_reducible refine (Hcl.out).mono ?_); rintro e wa ⟨A5, c5, rfl, TC⟩)
              obtain ⟨B5, hB5⟩ : ∃ B5, B5 = (wb).heap.size := ⟨_, rfl⟩
              have hB5l : B5 ≤ wa.heap.size := by rw [hB5]; exact TC.b.size
              rw [← hB5] at TC
              replace T : Mem w3 wa [.mapG keyId X3 L3, .own rId Bk 43 u11 zs, .loc V #[.int .i64 y.k, .string y.t] 43, .loc Q (ruCs r K ck W cw S cs) 29, .loc N9 #[.int .i64 y.k, .string y.t] 43, .own rId B5 43 (.slice A5 r.weak.length c5) r.weak] := T.join TC
              have hC := (⟨LV.kb3 HlY.out T.b HlY.out.lt, T.lv 2 rfl⟩ : LV wa Y (ruCs r K ck W cw S cs) 29 ∧ LV wa V #[.int .i64 y.k, .string y.t] 43)
              clear TC hB5 Hcl
              go_wp2_with fail
              refine ⟨hC, ?_⟩
              clear hC
              replace T : Mem w3 _ [.mapG keyId X3 L3, .own rId Bk 43 u11 zs, .loc V #[.int .i64 y.k, .string y.t] 43, .loc Q (ruCs r K ck W cw S cs) 29, .own rId B5 43 (.slice A5 r.weak.length c5) r.weak, .loc N9 #[.int .i64 y.k, .string y.t] 43] := T.perm (.cons _ (.cons _ (.cons _ (.cons _ (List.Perm.swap _ _ _)))))
              refine mixT_l rfl rfl (fun K9 hK9 => ?_)
              have hcs : ∀ (p : Nat) (u : Value), ([y].map IdV.cells).flatten[p]? = some u → World.cell? _ ((⟨N9, 0, none⟩ : Addr).add p) = some u := fun p u hu => by
                have h0 := (T.lv 5 rfl).cell 0 _ rfl
                have h1 := (T.lv 5 rfl).cell 1 _ rfl
                match p with
                | 0 => simp [IdV.cells] at hu; subst hu; exact h0
                | 1 => simp [IdV.cells] at hu; subst hu; exact h1
                | p + 2 => simp [IdV.cells] at hu
              refine T.appN flatId 4 rfl tyIdP rfl _ _ rfl [y] 1 1 rfl rfl ⟨N9, 0, none⟩ rfl hcs (fun y _ => oneIdP y) (fun _ => rfl) hB5l (by have := Hw.out; simp only [List.length_singleton]; omega) (by decide) ?_
              intro v5 w9 T5
              obtain ⟨W2, c2, e2, T6⟩ := T5.frz 4 rfl
              subst e2
              have hC := (⟨LV.kb3 HlY.out T6.b HlY.out.lt, T6.lv 2 rfl⟩ : LV w9 Y (ruCs r K ck W cw S cs) 29 ∧ LV w9 V #[.int .i64 y.k, .string y.t] 43)
              clear hcs T T5
              go_wp2_with fail
              refine ⟨hC, ?_⟩
              clear hC
              repeat ((first | refine mixT_pp rfl (fun K hK => ?_) | refine mixT_p rfl (fun K hK => ?_)); go_simp; (try go_bits); (try simp (disch := omega) only [if_pos]); (try simp (disch := omega) only [if_neg]); (try simp (disch := omega) only [dif_pos]); (try simp (disch := omega) only [dif_neg]); (try go_simp); (refine hK _ ?_; clear hK K))
              have q0 := (T6.lv 3 rfl).all
              have T9 := T6.set 3 2 (.slice W2 (r.weak ++ [y]).length c2) rfl
              rw [show (r.weak ++ [y]).length = r.weak.length + 1 by simp] at T9
              have T10 : Mem w3 _ [.mapG keyId X3 L3, .own rId Bk 43 u11 zs, .loc V #[.int .i64 y.k, .string y.t] 43, .loc Q #[.slice K r.kinds.length ck, .int .i64 r.most, .slice W2 (r.weak.length + 1) c2, .slice S r.surv.length cs] 29, .sl rId W2 (r.weak ++ [y])] := T9.del 5
              refine mixT_l rfl rfl (fun K9 hK9 => ?_)
              go_wp2_with fail
              refine ⟨⟨LV.kb3 HlY.out T10.b HlY.out.lt, T10.lv 2 rfl⟩, ?_⟩
              refine mixT_nil ?_
              simp only [Exit.then]
              refine hKK _ _ ?_
              clear hKK KK
              go_wp2_with fail
              go_meet
              refine ⟨W2, c2, ?_⟩
              rw [show (ruCs (r.weaker y) K ck W2 c2 S cs) = #[.slice K r.kinds.length ck, .int .i64 r.most, .slice W2 (r.weak.length + 1) c2, .slice S r.surv.length cs] by simp]
              exact T10
          case rest =>
            clear T3
            obtain ⟨W2, c2, T4⟩ := hcut
            generalize wc = w7 at *
            have Hp2 := Lib.hid (refPersonsN_any (fun _ => False) (r.weaker y) K W2 S A ck c2 cs c ts w7 ⟨(HR3.out w7 T4.b).kd, (T4.slc 4 rfl).mono (fun _ _ h => h.elim), (HR3.out w7 T4.b).sv⟩ (HT4.out w7 T4.b) (weaker_on Ho.out Hw.out y))
            rw [show (ruCs (r.weaker y) K ck W2 c2 S cs) = #[.slice K r.kinds.length ck, .int .i64 r.most, .slice W2 (r.weak.length + 1) c2, .slice S r.surv.length cs] by simp] at Hp2
            have s0 := (T4.lv 3 rfl).all
            go_wp2_with fail
            ((with_reducible refine (Hp2.out).mono ?_); rintro e w8 ⟨A9, c9, P2, rfl, hP2, TP⟩)
            have T5 : Mem w3 w8 [.mapG keyId X3 L3, .own rId Bk 43 u11 zs, .loc V #[.int .i64 y.k, .string y.t] 43, .sl rPsn A9 P2] := ((T4.join TP).del 4).del 3
            obtain ⟨pw, hpw⟩ : ∃ pw : Psn → Bool, (fun p : Psn => decide (p.tch = q.tch)) = pw := ⟨_, rfl⟩
            have Hcy := Lib.hid (Hyes.out y P2 Hjv.out hP2)
            rw [hpw] at Hcy
            have Hpw : Hid (∀ p : Psn, decide (p.tch = q.tch) = pw p) := fun p => by rw [← hpw]
            have hP2l : P2.length ≤ 1000000 := by have := (psns_lens hP2).1; have := Ho.out.tl; omega
            have HP2t : Hid (∀ p ∈ P2, p.tch.length ≤ 1000000) := fun p hp => by have := (psns_lens hP2).2 p hp; have := Ho.out.tl; omega
            clear T4 TP hP2 s0 Hp2 hpw
            go_wp2_with fail
            go_loopw [15, 53] (fun s i wr => ∃ (m : Nat) (bo : Bool), m ≤ P2.length ∧ i = .int .i64 m ∧ s = .bool bo ∧ Hid (bo = (P2.take m).any pw) ∧ Mem w3 wr [.mapG keyId X3 L3, .own rId Bk 43 u11 zs, .loc V #[.int .i64 y.k, .string y.t] 43, .sl rPsn A9 P2]) (fun _ i _ => P2.length - (intOf i).toNat)
            case atStart => exact ⟨0, false, Nat.zero_le _, rfl, rfl, (by show _ = _; rw [List.take_zero]; rfl), T5⟩
            case round =>
              clear T5
              obtain ⟨m, bo, hm, rfl, rfl, Hbo, T5⟩ := hrel
              by_cases hlm : m < P2.length
              · obtain ⟨p2, hp2⟩ : ∃ p2, P2[m]? = some p2 := ⟨_, List.getElem?_eq_getElem hlm⟩
                obtain ⟨b6, o6, At, at', Ai, ai, rfl, hb6, c0, c1, c2', c3, s1, s2⟩ := (T5.slc 3 rfl).psn m p2 hp2
                have Has := Lib.hid (any_snoc pw hp2)
                have hpt := HP2t.out p2 (List.mem_of_getElem? hp2)
                have Hs1 := Lib.hid (fun w' (h : Below wr.heap.size wr w') => (s1.mono (M := fun _ => False) (fun _ _ h => h.elim)).keepB h)
                clear hp2 s1 s2
                obtain ⟨U, hU⟩ : ∃ U, U = wr.heap.size := ⟨_, rfl⟩
                have T6 : Mem w3 (wr.alloc (.cells (psCs p2 At at' Ai ai) 47)) [.mapG keyId X3 L3, .own rId Bk 43 u11 zs, .loc V #[.int .i64 y.k, .string y.t] 43, .sl rPsn (some ⟨b6, o6, none⟩) P2, .loc U (psCs p2 At at' Ai ai) 47] := T5.newAt (psCs p2 At at' Ai ai) 47 U hU
                have Hs2 := Lib.hid (Hs1.out _ ((Below.refl wr.heap.size wr).alloc (Nat.le_refl _) (.cells (psCs p2 At at' Ai ai) 47)))
                go_upto_region 16 with fail
                rw [← hU]
                clear hU T5 c0 c1 c2' c3 Hs1
                generalize wr.alloc (.cells (psCs p2 At at' Ai ai) 47) = w9 at *
                have u0 := (T6.lv 4 rfl).all
                have z0 := (LV.kb3 HlZ.out T6.b HlZ.out.lt).all
                cases bo
                · have Heq := Lib.hid (eqInts_any (fun _ => False) At A7 p2.tch q.tch at' a7 w9 Hs2.out (HS1.out w9 T6.b) (by omega) (by omega))
                  rw [Hpw.out p2] at Heq
                  have Hb3b : Hid (pw p2 = (P2.take (m + 1)).any pw) := by show _ = _; rw [Has.out, ← Hbo.out, Bool.false_or]
                  obtain ⟨bq, hbq⟩ : ∃ bq, pw p2 = bq := ⟨_, rfl⟩
                  rw [hbq] at Heq Hb3b
                  clear hbq Has Hbo
                  go_wp2_with fail
                  ((with_reducible refine (Heq.out).mono ?_); rintro e w10 ⟨rfl, hl10⟩)
                  have T7 := (T6.below hl10).del 4
                  clear T6 hl10 u0 z0 Heq
                  go_wp2_with fail
                  go_roundw
                  case rel => exact ⟨m + 1, bq, by omega, by go_num, rfl, Hb3b.out, T7⟩
                  case measure => simp [intOf]; omega
                · have Hb3b : Hid (true = (P2.take (m + 1)).any pw) := by show _ = _; rw [Has.out, ← Hbo.out, Bool.true_or]
                  have T7 := T6.del 4
                  clear T6 Has Hbo u0 z0
                  go_wp2_with fail
                  go_roundw
                  case rel => exact ⟨m + 1, true, by omega, by go_num, rfl, Hb3b.out, T7⟩
                  case measure => simp [intOf]; omega
              · obtain rfl : m = P2.length := by omega
                have Hcb : Hid (cb y = !bo) := by show _ = _; rw [Hcy.out, Hbo.out, List.take_length]
                clear Hbo Hcy
                have v0 := (T5.lv 2 rfl).all
                have hsz : Bk ≤ wr.heap.size := by rw [Hb.out]; exact T5.b.size
                cases bo
                · have Hs2 : Hid ((M.take (k + 1)).filter cb = zs ++ [y]) := by show _ = _; rw [Hsn.out, Hcb.out]; rfl
                  have HT5 := Lib.hid T5
                  clear T5
                  go_wp2_with (at_builtin; go_loud (refine HT5.out.app 1 rfl tyIdP rfl _ _ rfl y 1 rfl rfl rfl (oneIdP y) hsz hxl (by decide) ?_); intro v' w10 T7)
                  go_roundw
                  case rel => exact ⟨k + 1, by omega, by go_num, by rw [Hs2.out]; exact (T7.del 3).del 2⟩
                  case measure => simp [intOf]; omega
                · have Hs2 : Hid ((M.take (k + 1)).filter cb = zs) := by show _ = _; rw [Hsn.out, Hcb.out]; simp
                  go_wp2_with fail
                  go_roundw
                  case rel => exact ⟨k + 1, by omega, by go_num, by rw [Hs2.out]; exact (T5.del 3).del 2⟩
                  case measure => simp [intOf]; omega
      · obtain rfl : k = M.length := by omega
        rw [List.take_length] at TA
        obtain ⟨A8, c8, e8, T8⟩ := TA.frz 1 rfl
        have HT8 := Lib.hid (T8.del 0)
        have He := Lib.hid (Hend.out _ rfl)
        subst e8
        clear TA T8
        go_wp2_with fail
        exact bodyPost_ret (results_two rfl rfl rfl) rfl ⟨A8, c8, M.filter cb, 0, cc, rfl, ((Mem.start w).below Hb3.out).join HT8.out, Hcc2.out, .inr (by obtain ⟨hd, h1, h2, _, h4⟩ := He.out; exact ⟨hd, h1, h2, rfl, h4⟩)⟩
end Go.Proofs.YtjlangjhdakmiaaGreatDoor

/- The two answers on the cuts of a person are one; numbers that rise. -/
namespace Go.Proofs.YtjlangjhdakmiaaGreatDoor
open Go Go.RowKit
theorem tchFault_gt {t : Tch} {last : Int} (h : tchFault t last = 0) : last < t.no := by
  rcases Int.lt_or_le last t.no with h1 | h1
  · exact h1
  · exfalso
    unfold tchFault tchE at h
    rw [decide_eq_true h1] at h
    split at h
    · omega
    · rw [if_pos rfl] at h; omega
theorem tchsGo_up : ∀ {l : List Tch} {last : Int}, tchsGo last l = 0 → (∀ t ∈ l, last < t.no) ∧ l.Pairwise (fun a b => a.no < b.no)
  | [], _, _ => ⟨fun _ h => (by cases h), .nil⟩
  | t :: r, last, h => by
    rw [tchsGo] at h
    by_cases h1 : tchFault t last = 0
    · rw [if_neg (by simpa using h1)] at h
      obtain ⟨h2, h3⟩ := tchsGo_up h
      have h4 := tchFault_gt h1
      refine ⟨fun u hu => ?_, List.pairwise_cons.2 ⟨h2, h3⟩⟩
      rcases List.mem_cons.1 hu with rfl | hu
      · exact h4
      · have := h2 u hu; omega
    · rw [if_pos h1] at h
      exact absurd h h1
theorem noUp_of {ts : List Tch} (h : tchsFault ts = 0) : NoUp ts := fun i j hij hj => by
  have h1 := (tchsGo_up (tchsFault_go h)).2
  have h2 := List.pairwise_iff_getElem.1 h1 i j (by omega) hj hij
  rw [noAt_is (List.getElem?_eq_getElem (show i < ts.length by omega)), noAt_is (List.getElem?_eq_getElem hj)]
  exact h2
def CutAns (r : Rul) (ts : List Tch) (x : IdV) (cc : Nat → Nat) (F : Int) (l : List IdV) : Prop :=
  (kfP (psns r ts cc) x = none ∧ F = 8 ∧ l = []) ∨ ∃ hd ∈ heads cc ts.length, kfP (psns r ts cc) x = some (psnAt r ts cc hd) ∧ F = 0 ∧ l = cutsL r ts cc hd
theorem cut_same {r : Rul} {ts : List Tch} {x : IdV} {c d : Nat → Nat} {F F2 : Int} {l l2 : List IdV} (hu : NoUp ts) (hc : IsPart ts.length (Edge r ts) c) (hd : IsPart ts.length (Edge r ts) d) (h1 : CutAns r ts x c F l) (h2 : CutAns r ts x d F2 l2) : F = F2 ∧ l = l2 := by
  have hp : psns r ts c = psns r ts d := IsPsns.uniq ⟨c, hc, rfl⟩ ⟨d, hd, rfl⟩
  unfold CutAns at h2
  rw [← hp] at h2
  rcases h1 with ⟨a1, rfl, rfl⟩ | ⟨i, hi, a1, rfl, rfl⟩
  · rcases h2 with ⟨_, rfl, rfl⟩ | ⟨j, _, b1, _⟩
    · exact ⟨rfl, rfl⟩
    · rw [a1] at b1; cases b1
  · rcases h2 with ⟨b1, _⟩ | ⟨j, hj, b1, rfl, rfl⟩
    · rw [a1] at b1; cases b1
    · refine ⟨rfl, ?_⟩
      rw [a1] at b1
      have e := congrArg Psn.tch (Option.some.inj b1)
      have e1 : partAt c ts.length i = partAt d ts.length j := parts_same hu e
      have g1 := (PartOf.mk' hc (heads_mem.1 hi)).head
      have g2 := (PartOf.mk' hd (heads_mem.1 hj)).head
      rw [e1, g2] at g1
      obtain rfl := Option.some.inj g1
      unfold cutsL
      rw [e1]
theorem cut_len {r : Rul} {ts : List Tch} {x : IdV} {c : Nat → Nat} {F : Int} {l : List IdV} (ho : RtOk r ts) (h : CutAns r ts x c F l) : l.length ≤ 1000000 := by
  rcases h with ⟨_, _, rfl⟩ | ⟨i, _, _, _, rfl⟩
  · simp
  · unfold cutsL
    have h1 := List.length_filter_le (cutB r ts (partAt c ts.length i) i) (srtId ((partAt c ts.length i).flatMap (idsAt ts)))
    have h2 := flat_len (m := 10) (f := idsAt ts) (partAt c ts.length i) (idsAt_len ho)
    have h3 := sub_len (srtId_up ((partAt c ts.length i).flatMap (idsAt ts))).nodup (fun y hy => (srtId_mem _ y).1 hy)
    have h4 := part_len c ts.length i
    have h5 := ho.tb
    omega
theorem cut_law {r : Rul} {ts : List Tch} {x : IdV} {F : Int} {l : List IdV}
    (h : (bothF r ts ≠ 0 ∧ F = bothF r ts ∧ l = []) ∨ (bothF r ts = 0 ∧ L.idFault x.k x.t ≠ 0 ∧ F = L.idFault x.k x.t ∧ l = []) ∨
      (bothF r ts = 0 ∧ L.idFault x.k x.t = 0 ∧ ∃ cc, IsPart ts.length (Edge r ts) cc ∧ CutAns r ts x cc F l)) :
    (firstErr [bothF r ts, L.idFault x.k x.t] ≠ 0 ∧ F = firstErr [bothF r ts, L.idFault x.k x.t] ∧ l = []) ∨
      (firstErr [bothF r ts, L.idFault x.k x.t] = 0 ∧ bothF r ts = 0 ∧ ∃ cc, IsPart ts.length (Edge r ts) cc ∧ CutAns r ts x cc F l) := by
  rcases h with ⟨h1, h2, h3⟩ | ⟨h1, h2, h3, h4⟩ | ⟨h1, h2, h3⟩
  · have e : firstErr [bothF r ts, L.idFault x.k x.t] = bothF r ts := by simp [firstErr, h1]
    rw [e]
    exact .inl ⟨h1, h2, h3⟩
  · have e : firstErr [bothF r ts, L.idFault x.k x.t] = L.idFault x.k x.t := by simp [firstErr, h1, h2]
    rw [e]
    exact .inl ⟨h2, h3, h4⟩
  · have e : firstErr [bothF r ts, L.idFault x.k x.t] = 0 := by simp [firstErr, h1, h2]
    rw [e]
    exact .inr ⟨rfl, h1, h3⟩
theorem St.slK {α : Type} {r : Rep α} {A : Option Addr} {xs : List α} {b m : Nat} {w0 w w' : World} {cs : List Chunk} (S : St b m w0 w cs) (i : Nat) (hi : cs[i]? = some (.sl r A xs)) (hk : SK b w w') : Sl r (fun _ => False) w' A xs :=
  (((S.slc i hi).mono (M := Off b) (fun k _ e => by unfold Off at e; subst e; exact .inl S.b0)).keep hk.n).mono (fun _ _ h => h.elim)
end Go.Proofs.YtjlangjhdakmiaaGreatDoor

/- person.Cuts: the ids without which a person would be several. -/
namespace Go.Proofs.YtjlangjhdakmiaaGreatDoor
open Go Go.RowKit
set_option maxHeartbeats 8000000 in
set_option maxRecDepth 100000 in
theorem cuts_any (r : Rul) (K W Sv A : Option Addr) (ck cw cs c : Nat) (ts : List Tch) (x : IdV) (w : World) (hR : RulIn (fun _ => False) w r K W Sv) (hT : Sl rTch (fun _ => False) w A ts) (hr : RulOk r) (ht : TchsOk ts) (hx : x.t.size ≤ 1000000) (hU : Tabs w) (hM : MaxL w) :
    Calls Tryz.prog 23 #[.agg (ruCs r K ck W cw Sv cs), .slice A ts.length c, .agg #[.int .i64 x.k, .string x.t]] w (GivesCutsP r ts x w) := by
  obtain ⟨Y, hY⟩ : ∃ Y, Y = w.heap.size := ⟨_, rfl⟩
  have T0 := (Mem.start w).newAt (ruCs r K ck W cw Sv cs) 29 Y hY
  have T : Mem w _ [.loc Y (ruCs r K ck W cw Sv cs) 29, .loc (Y + 1) #[.int .i64 x.k, .string x.t] 43] := T0.newAt #[.int .i64 x.k, .string x.t] 43 (Y + 1) (by rw [hY, World.size_alloc])
  have HK := Lib.hid (fun w' (h : Below w.heap.size w w') => keyed_any r K W Sv A ck cw cs c ts x w' (hR.keepB h) (hT.keepB h) hr ht hx (Utf8Tabs_below hU h) (hM.below h))
  have HR := Lib.hid (fun w' (h : Below w.heap.size w w') => hR.keepB h)
  have HT := Lib.hid hT
  have Hr := Lib.hid hr
  clear hR hT hr ht T0
  go_enter Tryz.func23, Tryz.ntmps23
  go_upto_region 1 with fail
  rw [← hY]
  clear hY
  generalize (w.alloc (.cells (ruCs r K ck W cw Sv cs) 29)).alloc (.cells #[.int .i64 x.k, .string x.t] 43) = w1 at *
  obtain ⟨X, hX⟩ : ∃ X, X = Y + 1 := ⟨_, rfl⟩
  rw [← hX] at T ⊢
  clear hX
  have l0 := (T.lv 0 rfl).all
  have l1 := (T.lv 1 rfl).all
  have Hk := Lib.hid (HK.out w1 T.b)
  go_wp2_with fail
  ((with_reducible refine (Hk.out).mono ?_); rintro e w2 ⟨g0, zs, F, rfl, hl2, hc⟩)
  have T2 := T.below hl2
  have hzs : ∃ a b A1 n1 c1 A2 n2 c2 A3 n3 c3, zs = #[.int .i64 a, .string b, .slice A1 n1 c1, .slice A2 n2 c2, .slice A3 n3 c3] := by
    rcases hc with ⟨_, _, rfl, _⟩ | ⟨_, _, _, rfl, _⟩ | ⟨_, _, cc, ms, _, _, ⟨_, rfl, _⟩ | ⟨_, G, Xg, qs, j, q, _, _, _, rfl, _⟩⟩
    all_goals exact ⟨_, _, _, _, _, _, _, _, _, _, _, rfl⟩
  obtain ⟨a9, b9, A1, n1, c1, A2, n2, c2, A3, n3, c3, rfl⟩ := hzs
  obtain ⟨Z, hZ⟩ : ∃ Z, Z = w2.heap.size := ⟨_, rfl⟩
  have T3 : Mem w (w2.alloc (.cells #[.int .i64 a9, .string b9, .slice A1 n1 c1, .slice A2 n2 c2, .slice A3 n3 c3] 118)) [.loc Y (ruCs r K ck W cw Sv cs) 29, .loc X #[.int .i64 x.k, .string x.t] 43, .loc Z #[.int .i64 a9, .string b9, .slice A1 n1 c1, .slice A2 n2 c2, .slice A3 n3 c3] 118] := T2.newAt _ 118 Z hZ
  have hb3 : Below w2.heap.size w2 (w2.alloc (.cells #[.int .i64 a9, .string b9, .slice A1 n1 c1, .slice A2 n2 c2, .slice A3 n3 c3] 118)) := (Below.refl _ _).alloc (Nat.le_refl _) _
  have Hb3 := Lib.hid hb3
  have Hc := Lib.hid hc
  clear T T2 hl2 hc hb3 Hk l0 l1 HK
  go_upto_region 2 with fail
  rw [← hZ]
  clear hZ
  generalize w2.alloc (.cells #[.int .i64 a9, .string b9, .slice A1 n1 c1, .slice A2 n2 c2, .slice A3 n3 c3] 118) = w3 at *
  by_cases hF : F = 0
  · obtain ⟨hb0, hi0, cc, ms, hp, hm, hc⟩ : bothF r ts = 0 ∧ L.idFault x.k x.t = 0 ∧ ∃ cc ms, IsPart ts.length (Edge r ts) cc ∧ IsMembs r ts cc ms ∧ ∃ G X qs j q, g0 = .pointer (some ⟨G, 0, none⟩) ∧ Grp (fun _ => False) w2 G X r K W Sv A ck cw cs c ts qs ∧ FirstK ms x j q ∧ #[.int .i64 a9, .string b9, .slice A1 n1 c1, .slice A2 n2 c2, .slice A3 n3 c3] = mqCs q ∧ Sl rInt (fun _ => False) w2 q.A q.tch ∧ Sl rId (fun _ => False) w2 q.B q.ids ∧ Sl rInt (fun _ => False) w2 q.C (iL q.at') := by
      rcases Hc.out with ⟨h1, h2, _⟩ | ⟨_, h1, h2, _⟩ | ⟨h1, h2, cc, ms, h3, h4, ⟨h5, _⟩ | ⟨_, h5⟩⟩
      · exact absurd (h2.symm.trans hF) h1
      · exact absurd (h2.symm.trans hF) h1
      · rw [hF] at h5; cases h5
      · exact ⟨h1, h2, cc, ms, h3, h4, h5⟩
    subst hF
    obtain ⟨G, Xg, qs, j, q, rfl, hG, hfk, hz, s1, s2, s3⟩ := hc
    obtain ⟨hd, hhd, hps, hat⟩ := memb_at hm hfk.1
    have hkf := kf_first hm hfk
    rw [hps] at hkf
    have hids : q.ids = srtId ((partAt cc ts.length hd).flatMap (idsAt ts)) := congrArg Psn.ids hps
    have hz2 := congrArg Array.toList hz
    simp only [List.cons.injEq, Value.int.injEq, Value.string.injEq, Value.slice.injEq, and_true, true_and] at hz2
    obtain ⟨rfl, rfl, ⟨rfl, rfl, rfl⟩, ⟨rfl, rfl, rfl⟩, rfl, rfl, rfl⟩ := hz2
    obtain ⟨AT, hAT⟩ : ∃ AT, q.at' = AT := ⟨_, rfl⟩
    obtain ⟨M, hMq⟩ : ∃ M, q.ids = M := ⟨_, rfl⟩
    obtain ⟨QB, hQB⟩ : ∃ QB, q.B = QB := ⟨_, rfl⟩
    obtain ⟨QC, hQC⟩ : ∃ QC, q.C = QC := ⟨_, rfl⟩
    obtain ⟨n, hn⟩ : ∃ n, AT.length = n := ⟨_, rfl⟩
    rw [hAT] at T3 s3 hat
    rw [hMq] at T3 s2 hids
    rw [hQB] at T3 s2
    rw [hQC] at T3 s3
    rw [hn] at T3
    have Ho : Hid (RtOk r ts) := RtOk.both hb0 Hr.out
    have Hw : Hid (r.weak.length ≤ 1000) := by
      have h5 := (rul_right (both_zero hb0).1).2
      show r.weak.length ≤ 1000
      omega
    have hMl : M.length ≤ 30000 := by
      have h2 := flat_len (m := 10) (f := idsAt ts) (partAt cc ts.length hd) (idsAt_len Ho.out)
      have h3 := sub_len (srtId_up ((partAt cc ts.length hd).flatMap (idsAt ts))).nodup (fun y hy => (srtId_mem _ y).1 hy)
      have h4 := part_len cc ts.length hd
      have h5 := Ho.out.tb
      rw [hids]
      omega
    have hnl : n ≤ 2000 := by
      have h4 := part_len cc ts.length hd
      have h5 := Ho.out.tb
      rw [← hn, hat]
      omega
    have HPt : Hid (PartOf r ts cc hd AT) := by
      show PartOf r ts cc hd AT
      rw [hat]
      exact PartOf.mk' hp (heads_mem.1 hhd)
    have HMi : Hid (∀ y ∈ M, ∃ i ∈ AT, y ∈ idsAt ts i) := fun y hy => by
      rw [hids, srtId_mem] at hy
      obtain ⟨i, hi, h⟩ := List.mem_flatMap.1 hy
      exact ⟨i, by rw [hat]; exact hi, h⟩
    obtain ⟨cb, hcb⟩ : ∃ cb, cutB r ts AT hd = cb := ⟨_, rfl⟩
    have Hlaw : Hid (∀ own r', OwnOf ts AT own → InRules r ts AT own r' → ∀ y ∈ M, (joinsP r' own y = false → cb y = false) ∧ ((hav own y).length < 2 → cb y = false) ∧ ∀ d, joinsP r' own y = true → IsPart own.length (EdgeX r' own (some y)) d → cb y = decide (0 < Lib.maxOf (iL (rowC own.length d)))) := fun own r' h1 h2 y hy => by
      rw [← hcb]
      exact ⟨cut_nj h2 (HMi.out y hy), cut_one h1 HPt.out, fun d hj hd' => cut_max h1 h2 HPt.out (HMi.out y hy) hj hd'⟩
    obtain ⟨pm, hpm⟩ : ∃ pm : IdV → Bool, (fun y => decide (r.most < ((hav ts y).length : Int))) = pm := ⟨_, rfl⟩
    have Hpm : Hid (∀ y, decide (r.most < ((hav ts y).length : Int)) = pm y) := fun y => by rw [← hpm]
    have Hir : Hid (∀ own ws mo, ws.Perm (r.weak ++ M.filter pm) → (own.length : Int) ≤ mo → InRules r ts AT own ⟨r.kinds, mo, ws, r.surv⟩) := fun own ws mo h1 h2 => by
      rw [hat]
      exact in_rules hids (by rw [hpm]; exact h1) h2
    have Hfin : Hid (∀ wx A' c' l, l = M.filter cb → Mem w wx [.sl rId A' l] → GivesCutsP r ts x w (.returned (.tuple #[.slice A' l.length c', .int .i64 0])) wx) := fun wx A' c' l h1 h2 =>
      ⟨A', c', l, 0, rfl, h2, .inr (.inr ⟨hb0, hi0, cc, hp, .inr ⟨hd, hhd, hkf, rfl, by rw [h1, hids, ← hcb, hat]; rfl⟩⟩)⟩
    have HlY := Lib.hid (T3.lv 0 rfl)
    have HlZ := Lib.hid (T3.lv 2 rfl)
    have Hbw := Lib.hid T3.b
    have HG := Lib.hid (fun w' (h : Below w3.heap.size w3 w') => hG.keepB (Hb3.out.trans (h.mono Hb3.out.size)))
    have HS2 := Lib.hid (fun w' (h : Below w3.heap.size w3 w') => s2.keepB (Hb3.out.trans (h.mono Hb3.out.size)))
    have HS3 := Lib.hid (fun w' (h : Below w3.heap.size w3 w') => s3.keepB (Hb3.out.trans (h.mono Hb3.out.size)))
    have HR3 := Lib.hid (fun w' (h : Below w3.heap.size w3 w') => HR.out w' (Hbw.out.trans (h.mono Hbw.out.size)))
    have HT4 := Lib.hid (fun w' (h : Below w3.heap.size w3 w') => HT.out.keepB (Hbw.out.trans (h.mono Hbw.out.size)))
    have Hn := Lib.hid hn
    clear T3 hG s1 s2 s3 hz hfk hp hm hhd hkf hids hps hat hcb hpm hb0 hi0 Hc HR HT hn
    have hmk := makeT n (by omega) w3
    have z0 := HlZ.out.all
    obtain ⟨Zc, hZc⟩ : ∃ Zc, ((List.replicate n zTQ).map TQ.cells).flatten.toArray = Zc := ⟨_, rfl⟩
    rw [hZc] at hmk
    obtain ⟨g, hg⟩ : ∃ g, g = w3.heap.size := ⟨_, rfl⟩
    have S0 := (Mem.start w3).newAt Zc 64 g hg
    have S : Mem w3 (w3.alloc (.cells Zc 64)) [.own rTQ g 64 (.slice (some ⟨g, 0, none⟩) n n) (List.replicate n zTQ)] := S0.asOwn flatTQ 0 rfl (List.replicate n zTQ) (by rw [← hZc]) (by rw [← hZc, List.size_toArray, List.map_replicate, rep_len rfl, List.length_replicate]; rfl) (by rw [List.length_replicate]; omega) hg n (by rw [List.length_replicate])
    go_upto_region 5 with fail
    rw [← hg]
    clear hmk hg S0 hZc z0
    generalize w3.alloc (.cells Zc 64) = w4 at *
    have z0 := (LV.kb3 HlZ.out S.b HlZ.out.lt).all
    go_wp2_with fail
    clear z0
    go_loopw [38] (fun i wr => ∃ (k : Nat) (ys : List TQ), k ≤ n ∧ i = .int .i64 k ∧ Hid (ys.length = n) ∧ Hid (∀ a j, a < k → AT[a]? = some j → ∃ y, ys[a]? = some y ∧ ts[j]? = some y.t) ∧ Hid (∀ y ∈ ys, Sl rId (fun _ => False) w3 y.A y.t.ids ∧ Sl rFld (fun _ => False) w3 y.B y.t.flds) ∧ Mem w3 wr [.own rTQ g 64 (.slice (some ⟨g, 0, none⟩) n n) ys]) (fun i _ => n - (intOf i).toNat)
    case atStart => exact ⟨0, List.replicate n zTQ, Nat.zero_le _, rfl, List.length_replicate, (fun a j h _ => absurd h (Nat.not_lt_zero _)), (fun y hy => by obtain ⟨_, rfl⟩ := List.mem_replicate.1 hy; exact ⟨Sl.nil, Sl.nil⟩), S⟩
    case round =>
      clear S
      obtain ⟨k, ys, hk, rfl, Hyl, Hya, Hyd, S⟩ := hrel
      by_cases hlt : k < n
      · obtain ⟨j, hj⟩ : ∃ j, AT[k]? = some j := ⟨_, List.getElem?_eq_getElem (by rw [Hn.out]; exact hlt)⟩
        have hjl : j < ts.length := ((HPt.out.mem j).1 (List.mem_of_getElem? hj)).1
        obtain ⟨t, ht⟩ : ∃ t, ts[j]? = some t := ⟨_, List.getElem?_eq_getElem hjl⟩
        obtain ⟨pb, po, rfl, hpb, p0⟩ := (HS3.out wr S.b).int k _ (iL_at hj)
        obtain ⟨tb, to', Ai, ci, Af, cf, rfl, htb, d0, d1, d2, d3, d4, hi, hf⟩ := (HT4.out w3 (Below.refl _ _)).tch j t ht
        have e0 := (S.b.cell (p := ⟨tb, to' + j * 5, none⟩) htb).trans d0
        have e1 := (S.b.cell (p := ⟨tb, to' + j * 5 + 1, none⟩) htb).trans d1
        have e2 := (S.b.cell (p := ⟨tb, to' + j * 5 + 2, none⟩) htb).trans d2
        have e3 := (S.b.cell (p := ⟨tb, to' + j * 5 + 3, none⟩) htb).trans d3
        have e4 := (S.b.cell (p := ⟨tb, to' + j * 5 + 4, none⟩) htb).trans d4
        have htb2 := Nat.lt_of_lt_of_le htb S.b.size
        obtain ⟨z, hz⟩ : ∃ z, ys[k]? = some z := ⟨_, List.getElem?_eq_getElem (by rw [Hyl.out]; exact hlt)⟩
        obtain ⟨⟨g0, g1, g2, g3, g4⟩, ff⟩ := (S.ow 0 rfl).tqAt Hyl.out.symm k z hz
        have f0 : wr.frozen? ⟨g, k * 5, none⟩ = false := ff 0 (by omega)
        have f1 := ff 1 (by omega)
        have f2 := ff 2 (by omega)
        have f3 := ff 3 (by omega)
        have f4 := ff 4 (by omega)
        have S1 := S.putTQ 0 rfl Hyl.out.symm k z (⟨t, Ai, ci, Af, cf⟩ : TQ) hz
        simp only [List.set_cons_zero] at S1
        have HS1 := Lib.hid S1
        have Hya2 : Hid (∀ a j, a < k + 1 → AT[a]? = some j → ∃ y, (ys.set k (⟨t, Ai, ci, Af, cf⟩ : TQ))[a]? = some y ∧ ts[j]? = some y.t) := fun a j' ha hj' => by
          by_cases hak : a = k
          · subst hak
            rw [hj] at hj'
            obtain rfl := Option.some.inj hj'
            exact ⟨_, List.getElem?_set_self (lt_of_get hz), ht⟩
          · obtain ⟨y, h1, h2⟩ := Hya.out a j' (by omega) hj'
            exact ⟨y, by rw [List.getElem?_set_ne (fun e => hak e.symm)]; exact h1, h2⟩
        have Hyd2 : Hid (∀ y ∈ ys.set k (⟨t, Ai, ci, Af, cf⟩ : TQ), Sl rId (fun _ => False) w3 y.A y.t.ids ∧ Sl rFld (fun _ => False) w3 y.B y.t.flds) := fun y hy => by
          rcases List.mem_or_eq_of_mem_set hy with hy | rfl
          · exact Hyd.out y hy
          · exact ⟨hi, hf⟩
        have Hyl2 : Hid ((ys.set k (⟨t, Ai, ci, Af, cf⟩ : TQ)).length = n) := by show _ = _; rw [List.length_set]; exact Hyl.out
        clear hz ff S S1 hi hf d0 d1 d2 d3 d4 hj ht htb Hya Hyd Hyl
        go_wp2_with fail
        go_roundw
        case rel => exact ⟨k + 1, _, by omega, by go_num, Hyl2, Hya2, Hyd2, HS1.out⟩
        case measure => simp [intOf]; omega
      · obtain rfl : k = n := by omega
        obtain ⟨own, hown⟩ : ∃ own, ys.map TQ.t = own := ⟨_, rfl⟩
        have hol : own.length = k := by rw [← hown, List.length_map]; exact Hyl.out
        have Hof : Hid (OwnOf ts AT own) := by
          refine ⟨by rw [hol]; exact Hn.out.symm, fun a i ha => ?_⟩
          obtain ⟨y, h1, h2⟩ := Hya.out a i (by rw [← Hn.out]; exact lt_of_get ha) ha
          rw [← hown, List.getElem?_map, h1, h2]; rfl
        have Hom : Hid (∀ t ∈ own, t ∈ ts) := fun t ht => by
          obtain ⟨a, ha⟩ := List.mem_iff_getElem?.1 ht
          have h1 := lt_of_get ha
          have h2 : AT[a]? = some (AT[a]'(by rw [Hn.out, ← hol]; exact h1)) := List.getElem?_eq_getElem _
          rw [Hof.out.get a _ h2] at ha
          exact List.mem_of_getElem? ha
        have HOs : Hid (∀ w' A', Below w3.heap.size w3 w' → Sl rTQ (fun _ => False) w' A' ys → Sl rTch (fun _ => False) w' A' own) := fun w' A' h1 h2 => by
          rw [← hown]
          exact slTch h2 (fun y hy => ⟨(Hyd.out y hy).1.keepB h1, (Hyd.out y hy).2.keepB h1⟩)
        have hpos : 0 < own.length := by rw [hol, ← Hn.out]; exact lt_of_get HPt.out.head
        obtain ⟨A2, c2, e2, S2⟩ := S.frz 0 rfl
        simp only [Value.slice.injEq] at e2
        have hA2 := e2.1
        clear e2
        subst hA2
        have S3 : Mem w3 wr [.sl rTQ (some ⟨g, 0, none⟩) ys] := S2
        have Hng := Lib.hid (newGroup_any (fun _ => False) r K W Sv (some ⟨g, 0, none⟩) ck cw cs k own wr (HOs.out wr _ S3.b ((S3.slc 0 rfl).mono (fun _ _ h => h.elim))) (by omega) (fun t h => (Ho.out.up t (Hom.out t h)).nodup) (fun t h => Ho.out.il t (Hom.out t h)))
        rw [hol] at Hng
        have y0 := (LV.kb3 HlY.out S3.b HlY.out.lt).all
        clear S S2 Hya Hyd Hyl hown
        go_wp2_with fail
        ((with_reducible refine (Hng.out).mono ?_); rintro e w5 ⟨G2, X2, qs2, rfl, T4, hH⟩)
        obtain ⟨B2, hB2⟩ : ∃ B2, wr.heap.size = B2 := ⟨_, rfl⟩
        rw [hB2] at T4
        obtain ⟨gs, hgs⟩ : ∃ gs, gs = havC B2 X2 qs2 := ⟨_, rfl⟩
        rw [← hgs] at T4
        have S5 : Mem w3 w5 (.loc G2 (grCs r K ck W cw Sv cs (some ⟨g, 0, none⟩) own.length k X2) 84 :: .sl rTQ (some ⟨g, 0, none⟩) ys :: gs) := (S3.join T4).perm (List.Perm.swap _ _ _)
        have HH := Lib.hid hH
        have Hgs := Lib.hid hgs
        clear y0 T4 hH hB2 hgs S3 Hng
        have z0 := (S5.lv 0 rfl).all
        obtain ⟨mo, hmo⟩ : ∃ mo, max (k : Int) 2 = mo := ⟨_, rfl⟩
        have S6 : Mem w3 (w5.setCell ⟨G2, 1, none⟩ (.int .i64 (max (k : Int) 2))) (.loc G2 #[.slice K r.kinds.length ck, .int .i64 (max (k : Int) 2), .slice W r.weak.length cw, .slice Sv r.surv.length cs, .slice (some ⟨g, 0, none⟩) own.length k, .map (some X2)] 84 :: .sl rTQ (some ⟨g, 0, none⟩) ys :: gs) := S5.set 0 1 (.int .i64 (max (k : Int) 2)) rfl
        have Hmo : Hid ((own.length : Int) ≤ mo) := by show _ ≤ _; omega
        rw [hmo] at S6
        go_upto_region 12 with fail
        (try rw [hmo])
        clear hmo z0 S5
        generalize w5.setCell ⟨G2, 1, none⟩ (.int .i64 mo) = w6 at *
        have y0 := (LV.kb3 HlY.out S6.b HlY.out.lt).all
        have z0 := (S6.lv 0 rfl).all
        have Hcl := Lib.hid (cloneI_any W r.weak cw w6 (HR3.out _ S6.b).wk Hw.out)
        clear z0
        go_wp2_with fail
        ((with_reducible refine (Hcl.out).mono ?_); rintro e w7 ⟨A5, c5, rfl, TC⟩)
        obtain ⟨B5, hB5⟩ : ∃ B5, B5 = w3.heap.size := ⟨_, rfl⟩
        have Hb := Lib.hid hB5
        have S7 : Mem w3 w7 (.own rId B5 43 (.slice A5 r.weak.length c5) r.weak :: .loc G2 #[.slice K r.kinds.length ck, .int .i64 mo, .slice W r.weak.length cw, .slice Sv r.surv.length cs, .slice (some ⟨g, 0, none⟩) own.length k, .map (some X2)] 84 :: .sl rTQ (some ⟨g, 0, none⟩) ys :: gs) := Mem.ownBase flatId (S6.join TC).front 0 rfl (by rw [hB5]; exact S6.b.size)
        clear hB5 TC y0 S6 Hcl
        have z0 := (S7.lv 1 rfl).all
        have S8 : Mem w3 (w7.setCell ⟨G2, 2, none⟩ (.slice A5 r.weak.length c5)) (.own rId B5 43 (.slice A5 r.weak.length c5) r.weak :: .loc G2 #[.slice K r.kinds.length ck, .int .i64 mo, .slice A5 r.weak.length c5, .slice Sv r.surv.length cs, .slice (some ⟨g, 0, none⟩) own.length k, .map (some X2)] 84 :: .sl rTQ (some ⟨g, 0, none⟩) ys :: gs) := S7.set 1 2 (.slice A5 r.weak.length c5) rfl
        go_upto_region 13 with fail
        clear z0 S7
        generalize w7.setCell ⟨G2, 2, none⟩ (.slice A5 r.weak.length c5) = w8 at *
        have z0 := (LV.kb3 HlZ.out S8.b HlZ.out.lt).all
        go_wp2_with fail
        clear z0
        go_loopw [72] (fun i wr => ∃ (m : Nat) (wk : List IdV) (A6 : Option Addr) (c6 : Nat), m ≤ M.length ∧ i = .int .i64 m ∧ Hid (wk = r.weak ++ (M.take m).filter pm) ∧ Mem w3 wr (.own rId B5 43 (.slice A6 wk.length c6) wk :: .loc G2 #[.slice K r.kinds.length ck, .int .i64 mo, .slice A6 wk.length c6, .slice Sv r.surv.length cs, .slice (some ⟨g, 0, none⟩) own.length k, .map (some X2)] 84 :: .sl rTQ (some ⟨g, 0, none⟩) ys :: gs)) (fun i _ => M.length - (intOf i).toNat)
        case atStart => exact ⟨0, r.weak, A5, c5, Nat.zero_le _, rfl, by show _ = _; simp, S8⟩
        case round =>
          clear S8
          obtain ⟨m, wk, A6, c6, hm, rfl, Hwk, S8⟩ := hrel
          by_cases hlm : m < M.length
          · obtain ⟨y, hy⟩ : ∃ y, M[m]? = some y := ⟨_, List.getElem?_eq_getElem hlm⟩
            obtain ⟨b5, o5, rfl, hb5, d0, d1⟩ := (HS2.out wr S8.b).idv m y hy
            have Hsn := Lib.hid (filt_snoc pm hy)
            have hwl : wk.length ≤ 100000 := by
              have h1 := List.length_filter_le pm (M.take m)
              rw [List.length_take] at h1
              have h2 := Hw.out
              rw [Hwk.out, List.length_append]
              omega
            obtain ⟨V, hV⟩ : ∃ V, V = wr.heap.size := ⟨_, rfl⟩
            have S9 : Mem w3 (wr.alloc (.cells #[.int .i64 y.k, .string y.t] 43)) (.loc V #[.int .i64 y.k, .string y.t] 43 :: .own rId B5 43 (.slice A6 wk.length c6) wk :: .loc G2 #[.slice K r.kinds.length ck, .int .i64 mo, .slice A6 wk.length c6, .slice Sv r.surv.length cs, .slice (some ⟨g, 0, none⟩) own.length k, .map (some X2)] 84 :: .sl rTQ (some ⟨g, 0, none⟩) ys :: gs) := (S8.newAt #[.int .i64 y.k, .string y.t] 43 V hV).front
            go_upto_region 16 with fail
            rw [← hV]
            clear hV S8 d0 d1
            generalize wr.alloc (.cells #[.int .i64 y.k, .string y.t] 43) = w9 at *
            have hb9 := S9.b
            have Hb9 := Lib.hid hb9
            obtain ⟨A7, c7, hlk0, _⟩ := (HG.out w3 (Below.refl _ _)).h.look y
            obtain ⟨hl, hhl⟩ : ∃ hl, (hav ts y).length = hl := ⟨_, rfl⟩
            rw [hhl] at hlk0
            obtain ⟨pv, hpv⟩ : ∃ pv, pm y = pv := ⟨_, rfl⟩
            have Hpv : Hid (decide (r.most < (hl : Int)) = pv) := by show _ = _; rw [← hhl, Hpm.out, hpv]
            rw [hpv] at Hsn
            have Hlk : Hid (∀ w', Below w9.heap.size w9 w' → (Instr.lookup 82 (.map (some Xg)) (.agg #[.int .i64 y.k, .string y.t]) false).run Tryz.prog w' = .ok (.slice A7 hl c7) w') := fun w' h => by
              have h1 := look_g (K := keyId) (T := 82) (E := 22) (HG.out w' (Hb9.out.trans (h.mono Hb9.out.size))).m (by kernel_rfl) (zeroInts w') y false
              rw [if_neg (by decide), hlk0] at h1
              exact h1
            have HG9 : Hid (∀ w', Below w9.heap.size w9 w' → LV w' G (grCs r K ck W cw Sv cs A ts.length c Xg) 84) := fun w' h => (HG.out w' (Hb9.out.trans (h.mono Hb9.out.size))).g
            have HY9 : Hid (∀ w', Below w9.heap.size w9 w' → LV w' Y (ruCs r K ck W cw Sv cs) 29) := fun w' h => LV.kb3 HlY.out (Hb9.out.trans (h.mono Hb9.out.size)) HlY.out.lt
            have HlV := Lib.hid (S9.lv 0 rfl)
            have HV9 : Hid (∀ w', Below w9.heap.size w9 w' → LV w' V #[.int .i64 y.k, .string y.t] 43) := fun w' h => LV.kb3 HlV.out h HlV.out.lt
            clear hb9 hlk0 hhl hpv hy
            clear Hlaw Hfin HMi Hir
            refine wp_region_mixT [] (fun w' => Below w9.heap.size w9 w') (.p 0 (.p 1 (.p 2 (.q 3 (.q 4 (.p 7 (.q 8 (.e 5 (.q 6 (.p 9 .z)))))))))) (by kernel_rfl) (by kernel_rfl) (fun w' hd => hd.below _) (fun KK hKK wd hd_wd => ?_)
            have hC := hd_wd.below w9.heap.size
            have S10 := S9.below hC
            clear hd_wd S9
            repeat ((first | refine mixT_pp rfl (fun K hK => ?_) | refine mixT_p rfl (fun K hK => ?_)); go_simp; (try go_bits); (try simp (disch := omega) only [if_pos]); (try simp (disch := omega) only [if_neg]); (try simp (disch := omega) only [dif_pos]); (try simp (disch := omega) only [dif_neg]); (try go_simp); (refine hK _ ?_; clear hK K))
            refine mixT_loadR (.map (some Xg)) rfl rfl rfl rfl (fun w' h => loadC rfl ((HG9.out w' h).cell 5 _ rfl)) ?_
            refine mixT_loadR (.agg #[.int .i64 y.k, .string y.t]) rfl rfl rfl rfl (fun w' h => loadAtI ((HV9.out w' h).cell 0 _ rfl) ((HV9.out w' h).cell 1 _ rfl)) ?_
            repeat ((first | refine mixT_pp rfl (fun K hK => ?_) | refine mixT_p rfl (fun K hK => ?_)); go_simp; (try go_bits); (try simp (disch := omega) only [if_pos]); (try simp (disch := omega) only [if_neg]); (try simp (disch := omega) only [dif_pos]); (try simp (disch := omega) only [dif_neg]); (try go_simp); (refine hK _ ?_; clear hK K))
            refine mixT_loadR (.int .i64 r.most) rfl rfl rfl rfl (fun w' h => loadC rfl ((HY9.out w' h).cell 1 _ rfl)) ?_
            refine mixT_l rfl rfl (fun K9 hK9 => ?_)
            have hlk := Hlk.out wd hC
            go_wp2_with fail
            refine ⟨hC, ?_⟩
            clear hlk
            repeat ((first | refine mixT_pp rfl (fun K hK => ?_) | refine mixT_p rfl (fun K hK => ?_)); go_simp; (try go_bits); (try simp (disch := omega) only [if_pos]); (try simp (disch := omega) only [if_neg]); (try simp (disch := omega) only [dif_pos]); (try simp (disch := omega) only [dif_neg]); (try go_simp); (refine hK _ ?_; clear hK K))
            refine mixT_nil ?_
            simp only [Exit.then]
            refine hKK _ _ ?_
            clear hKK KK hC Hlk HG9 HY9 HV9 Hb9 HlV
            cases pv
            · have hc : ¬ r.most < (hl : Int) := of_decide_eq_false Hpv.out
              have Hs2 : Hid (wk = r.weak ++ (M.take (m + 1)).filter pm) := by
                have h1 := Hsn.out
                rw [if_neg (by decide), List.append_nil] at h1
                show _ = _
                rw [h1]; exact Hwk.out
              clear Hsn Hwk
              go_wp2_with fail
              go_roundw
              case rel => exact ⟨m + 1, wk, A6, c6, by omega, by go_num, Hs2, S10.del 0⟩
              case measure => simp [intOf]; omega
            · have hc : r.most < (hl : Int) := of_decide_eq_true Hpv.out
              have Hs2 : Hid (wk ++ [y] = r.weak ++ (M.take (m + 1)).filter pm) := by
                have h1 := Hsn.out
                rw [if_pos rfl] at h1
                show _ = _
                rw [h1, Hwk.out, List.append_assoc]
              clear Hsn Hwk
              go_wp2_with fail
              refine wp_region_mixT [12] (fun wx => LV wx G2 #[.slice K r.kinds.length ck, .int .i64 mo, .slice A6 wk.length c6, .slice Sv r.surv.length cs, .slice (some ⟨g, 0, none⟩) own.length k, .map (some X2)] 84 ∧ LV wx V #[.int .i64 y.k, .string y.t] 43) (.p 0 (.p 1 (.p 2 (.p 3 (.p 4 (.q 5 (.q 6 (.e 7 (.e 8 (.p 9 (.p 10 (.p 11 (.b 12 .z))))))))))))) (by kernel_rfl) (by kernel_rfl) (fun _ hd => ⟨(S10.below (hd.below _)).lv 2 rfl, (S10.below (hd.below _)).lv 0 rfl⟩) (fun KK hKK we hd => ?_)
              have T := S10.below (hd.below _)
              clear hd S10
              repeat ((first | refine mixT_pp rfl (fun K hK => ?_) | refine mixT_p rfl (fun K hK => ?_)); go_simp; (try go_bits); (try simp (disch := omega) only [if_pos]); (try simp (disch := omega) only [if_neg]); (try simp (disch := omega) only [dif_pos]); (try simp (disch := omega) only [dif_neg]); (try go_simp); (refine hK _ ?_; clear hK K))
              refine mixT_loadR (.slice A6 wk.length c6) rfl rfl rfl rfl (fun w' h => loadC rfl (h.1.cell 2 _ rfl)) ?_
              refine mixT_loadR (.agg #[.int .i64 y.k, .string y.t]) rfl rfl rfl rfl (fun w' h => loadAtI (h.2.cell 0 _ rfl) (h.2.cell 1 _ rfl)) ?_
              refine mixT_l rfl rfl (fun K9 hK9 => ?_)
              go_wp2_with fail
              obtain ⟨N9, hN9⟩ : ∃ N9, N9 = we.heap.size := ⟨_, rfl⟩
              have T1 : Mem w3 (we.alloc (.cells #[.int .i64 y.k, .string y.t] 43)) (.loc N9 #[.int .i64 y.k, .string y.t] 43 :: .loc V #[.int .i64 y.k, .string y.t] 43 :: .own rId B5 43 (.slice A6 wk.length c6) wk :: .loc G2 #[.slice K r.kinds.length ck, .int .i64 mo, .slice A6 wk.length c6, .slice Sv r.surv.length cs, .slice (some ⟨g, 0, none⟩) own.length k, .map (some X2)] 84 :: .sl rTQ (some ⟨g, 0, none⟩) ys :: gs) := (T.newAt #[.int .i64 y.k, .string y.t] 43 N9 hN9).front
              rw [← hN9]
              clear hN9 T
              generalize we.alloc (.cells #[.int .i64 y.k, .string y.t] 43) = wb at *
              refine ⟨⟨T1.lv 3 rfl, T1.lv 1 rfl⟩, ?_⟩
              refine mixT_l rfl rfl (fun K9 hK9 => ?_)
              have hcs : ∀ (p : Nat) (u : Value), ([y].map IdV.cells).flatten[p]? = some u → wb.cell? ((⟨N9, 0, none⟩ : Addr).add p) = some u := fun p u hu => by
                have h0 := (T1.lv 0 rfl).cell 0 _ rfl
                have h1 := (T1.lv 0 rfl).cell 1 _ rfl
                match p with
                | 0 => simp [IdV.cells] at hu; subst hu; exact h0
                | 1 => simp [IdV.cells] at hu; subst hu; exact h1
                | p + 2 => simp [IdV.cells] at hu
              refine T1.appN flatId 2 rfl tyIdP rfl _ _ rfl [y] 1 1 rfl rfl ⟨N9, 0, none⟩ rfl hcs (fun y _ => oneIdP y) (fun _ => rfl) (by rw [Hb.out]; exact T1.b.size) (by simp only [List.length_singleton]; omega) (by decide) ?_
              intro v5 w10 T5
              obtain ⟨A8, c8, e8⟩ := (T5.ow 2 rfl).len
              subst e8
              have hC := (⟨T5.lv 3 rfl, T5.lv 1 rfl⟩ : LV w10 G2 #[.slice K r.kinds.length ck, .int .i64 mo, .slice A6 wk.length c6, .slice Sv r.surv.length cs, .slice (some ⟨g, 0, none⟩) own.length k, .map (some X2)] 84 ∧ LV w10 V #[.int .i64 y.k, .string y.t] 43)
              clear hcs T1
              go_wp2_with fail
              refine ⟨hC, ?_⟩
              clear hC
              repeat ((first | refine mixT_pp rfl (fun K hK => ?_) | refine mixT_p rfl (fun K hK => ?_)); go_simp; (try go_bits); (try simp (disch := omega) only [if_pos]); (try simp (disch := omega) only [if_neg]); (try simp (disch := omega) only [dif_pos]); (try simp (disch := omega) only [dif_neg]); (try go_simp); (refine hK _ ?_; clear hK K))
              have z0 := (T5.lv 3 rfl).all
              have T6 : Mem w3 (w10.setCell ⟨G2, 2, none⟩ (.slice A8 (wk ++ [y]).length c8)) (.own rId B5 43 (.slice A8 (wk ++ [y]).length c8) (wk ++ [y]) :: .loc G2 #[.slice K r.kinds.length ck, .int .i64 mo, .slice A8 (wk ++ [y]).length c8, .slice Sv r.surv.length cs, .slice (some ⟨g, 0, none⟩) own.length k, .map (some X2)] 84 :: .sl rTQ (some ⟨g, 0, none⟩) ys :: gs) := (((T5.set 3 2 (.slice A8 (wk ++ [y]).length c8) rfl).del 0).del 0)
              have HT6 := Lib.hid T6
              clear T5 T6
              refine mixT_b rfl rfl (fun K9 hK9 => ?_)
              go_wp2_with fail
              refine ⟨trivial, ?_⟩
              clear z0
              refine mixT_nil ?_
              simp only [Exit.then]
              refine hKK _ _ ?_
              clear hKK KK
              go_wp2_with fail
              go_roundw
              case rel => exact ⟨m + 1, wk ++ [y], A8, c8, by omega, by go_num, Hs2, by first | exact HT6.out | simpa using HT6.out⟩
              case measure => simp [intOf]; omega
          · obtain rfl : m = M.length := by omega
            have hwl : wk.length ≤ 100000 := by
              have h1 := List.length_filter_le pm (M.take M.length)
              rw [List.length_take] at h1
              have h2 := Hw.out
              rw [Hwk.out, List.length_append]
              omega
            have Hsrt := Lib.hid (sortIdP_any S8 0 rfl (by omega))
            have z0 := (S8.lv 1 rfl).all
            clear S8
            go_wp2_with fail
            ((with_reducible refine (Hsrt.out).mono ?_); rintro e w9 ⟨rfl, ws, hpe, hso, T9⟩)
            have hwe : wk.length = ws.length := hpe.length_eq.symm
            rw [hwe] at T9
            have S9 : Mem w3 w9 (.own rId B5 43 (.slice A6 ws.length c6) ws :: .loc G2 #[.slice K r.kinds.length ck, .int .i64 mo, .slice A6 ws.length c6, .slice Sv r.surv.length cs, .slice (some ⟨g, 0, none⟩) own.length k, .map (some X2)] 84 :: .sl rTQ (some ⟨g, 0, none⟩) ys :: gs) := T9
            have hpe2 : ws.Perm (r.weak ++ M.filter pm) := by
              have h1 := Hwk.out
              rw [List.take_length] at h1
              rw [← h1]; exact hpe
            obtain ⟨r2, hr2⟩ : ∃ r2 : Rul, (⟨r.kinds, mo, ws, r.surv⟩ : Rul) = r2 := ⟨_, rfl⟩
            have Hin : Hid (InRules r ts AT own r2) := by
              show InRules r ts AT own r2
              rw [← hr2]
              exact Hir.out own ws mo hpe2 Hmo.out
            have Ho2 : Hid (RtOk r2 own) := by
              show RtOk r2 own
              rw [← hr2]
              exact ⟨hso, by show ws.length ≤ _; omega, Ho.out.kl, by omega, fun t h => Ho.out.up t (Hom.out t h), fun t h => Ho.out.il t (Hom.out t h), fun t h => Ho.out.ne t (Hom.out t h), by omega, fun t h => Ho.out.ib t (Hom.out t h)⟩
            have HG2 : Hid (Grp (fun _ => False) w9 G2 X2 r2 K A6 Sv (some ⟨g, 0, none⟩) ck c6 cs k own qs2) := by
              show Grp _ w9 G2 X2 r2 K A6 Sv (some ⟨g, 0, none⟩) ck c6 cs k own qs2
              obtain ⟨A8, c8, e8, T10⟩ := S9.frz 0 rfl
              simp only [Value.slice.injEq] at e8
              have e9 := e8.1
              subst e9
              have hr9 := HR3.out w9 S9.b
              have T11 : Mem w3 w9 (.loc G2 (grCs r2 K ck A6 c6 Sv cs (some ⟨g, 0, none⟩) own.length k X2) 84 :: havC B2 X2 qs2) := by
                rw [← hr2, ← Hgs.out]
                exact (T10.del 0).del 1
              refine grp_now ?_ (HOs.out w9 _ S9.b ((S9.slc 2 rfl).mono (fun _ _ h => h.elim))) T11 HH.out
              rw [← hr2]
              exact ⟨hr9.kd, (T10.slc 0 rfl).mono (fun _ _ h => h.elim), hr9.sv⟩
            have Hl2 : Hid (∀ y ∈ M, (joinsP r2 own y = false → cb y = false) ∧ ((hav own y).length < 2 → cb y = false) ∧ ∀ d, joinsP r2 own y = true → IsPart own.length (EdgeX r2 own (some y)) d → cb y = decide (0 < Lib.maxOf (iL (rowC own.length d)))) := Hlaw.out own r2 Hof.out Hin.out
            have Hb9 := Lib.hid S9.b
            clear hwe hpe hpe2 hso hr2 T9 S9 z0 Hsrt Hwk hwl
            obtain ⟨B9, hB9⟩ : ∃ B9, B9 = w9.heap.size := ⟨_, rfl⟩
            have TA : Mem w9 w9 [.own rId B9 43 (.slice none 0 0) []] := (Mem.start w9).nil rId B9 43
            have Hb10 := Lib.hid hB9
            clear hB9
            have z0 := (LV.kb3 HlZ.out Hb9.out HlZ.out.lt).all
            go_wp2_with fail
            clear z0
            go_loopw [17, 109] (fun v i wr => ∃ m : Nat, m ≤ M.length ∧ i = .int .i64 m ∧ Mem w9 wr [.own rId B9 43 v ((M.take m).filter cb)]) (fun _ i _ => M.length - (intOf i).toNat)
            case atStart => exact ⟨0, Nat.zero_le _, rfl, by rw [List.take_zero]; exact TA⟩
            case round =>
              clear TA
              obtain ⟨m, hm2, rfl, TA⟩ := hrel
              by_cases hlm : m < M.length
              · obtain ⟨y, hy⟩ : ∃ y, M[m]? = some y := ⟨_, List.getElem?_eq_getElem hlm⟩
                obtain ⟨b5, o5, rfl, hb5, d0, d1⟩ := (HS2.out wr (Hb9.out.trans (TA.b.mono Hb9.out.size))).idv m y hy
                have Hsn := Lib.hid (filt_snoc cb hy)
                obtain ⟨hl1, hl2, hl3⟩ := Hl2.out y (List.mem_of_getElem? hy)
                have Hl31 := Lib.hid hl1
                have Hl32 := Lib.hid hl2
                have Hl33 := Lib.hid hl3
                have hxl : ((M.take m).filter cb).length ≤ 100000000 := by
                  have h1 := List.length_filter_le cb (M.take m)
                  rw [List.length_take] at h1
                  omega
                obtain ⟨zs, hzs⟩ : ∃ zs, (M.take m).filter cb = zs := ⟨_, rfl⟩
                rw [hzs] at TA Hsn hxl
                clear hy hzs hl1 hl2 hl3
                obtain ⟨V, hV⟩ : ∃ V, V = wr.heap.size := ⟨_, rfl⟩
                have T2 : Mem w9 (wr.alloc (.cells #[.int .i64 y.k, .string y.t] 43)) [.loc V #[.int .i64 y.k, .string y.t] 43, .own rId B9 43 u17 zs] := (TA.newAt #[.int .i64 y.k, .string y.t] 43 V hV).front
                go_upto_region 24 with fail
                rw [← hV]
                clear hV TA d0 d1
                generalize wr.alloc (.cells #[.int .i64 y.k, .string y.t] 43) = w10 at *
                obtain ⟨A7, c7, hlk0, _⟩ := HG2.out.h.look y
                obtain ⟨hl, hhl⟩ : ∃ hl, (hav own y).length = hl := ⟨_, rfl⟩
                rw [hhl] at hlk0 Hl32
                obtain ⟨jv, hjv⟩ : ∃ jv, joinsP r2 own y = jv := ⟨_, rfl⟩
                have Hb11 := Lib.hid T2.b
                have HG10 : Hid (∀ w', Below w10.heap.size w10 w' → Grp (fun _ => False) w' G2 X2 r2 K A6 Sv (some ⟨g, 0, none⟩) ck c6 cs k own qs2) := fun w' h => HG2.out.keepB (Hb11.out.trans (h.mono Hb11.out.size))
                have Hj := Lib.hid (fun w' (h : Below w10.heap.size w10 w') => joinsG_any (fun _ => False) G2 X2 r2 K A6 Sv (some ⟨g, 0, none⟩) ck c6 cs k own qs2 y w' (HG10.out w' h) Ho2.out)
                rw [hjv] at Hj Hl31 Hl33
                have Hlk : Hid (∀ w', Below w10.heap.size w10 w' → (Instr.lookup 82 (.map (some X2)) (.agg #[.int .i64 y.k, .string y.t]) false).run Tryz.prog w' = .ok (.slice A7 hl c7) w') := fun w' h => by
                  have h1 := look_g (K := keyId) (T := 82) (E := 22) (HG10.out w' h).m (by kernel_rfl) (zeroInts w') y false
                  rw [if_neg (by decide), hlk0] at h1
                  exact h1
                have HlV := Lib.hid (T2.lv 0 rfl)
                have HV9 : Hid (∀ w', Below w10.heap.size w10 w' → LV w' V #[.int .i64 y.k, .string y.t] 43) := fun w' h => LV.kb3 HlV.out h HlV.out.lt
                have Hjv := Lib.hid hjv
                clear hlk0 hhl hjv
                go_cut [126] (fun b wx => b = .bool (!jv || decide ((hl : Int) < 2)) ∧ Mem w9 wx [.loc V #[.int .i64 y.k, .string y.t] 43, .own rId B9 43 u17 zs])
                case first =>
                  cases jv
                  · refine wp_region_mix (fun w' => Below w10.heap.size w10 w') [(true, 0), (true, 1), (false, 2), (true, 3), (true, 4), (true, 5), (true, 6), (true, 7), (true, 8), (true, 9), (false, 10), (true, 11), (true, 12), (true, 13)] (by kernel_rfl) (by kernel_rfl) (fun w' hd => hd.below _) (fun KK hKK wd hd_wd => ?_)
                    have hC := hd_wd.below w10.heap.size
                    clear hd_wd
                    repeat (refine mix_p rfl (fun K hK => ?_); go_simp; (try go_bits); (try simp (disch := omega) only [if_pos]); (try simp (disch := omega) only [if_neg]); (try simp (disch := omega) only [dif_pos]); (try simp (disch := omega) only [dif_neg]); (try go_simp); (refine hK _ ?_; clear hK K))
                    refine mix_loadG (.agg #[.int .i64 y.k, .string y.t]) rfl (by first | (simp [Region.wanted, go_sem]; done) | simp [Region.wanted, yielded, go_sem]) rfl rfl (fun w' h => loadAtI ((HV9.out w' h).cell 0 _ rfl) ((HV9.out w' h).cell 1 _ rfl)) ?_
                    refine mix_l rfl (fun K hK => ?_) hC
                    have Hjo := Lib.hid (Hj.out wd hC)
                    go_wp2_with fail
                    ((with_reducible refine (Hjo.out).mono ?_); rintro e w11 ⟨rfl, hl11⟩)
                    have hC2 := hC.trans (hl11.mono hC.size)
                    clear Hjo hl11 hC
                    go_wp2_with fail
                    refine ⟨hC2, ?_⟩
                    repeat (refine mix_p rfl (fun K hK => ?_); go_simp; (try go_bits); (try simp (disch := omega) only [if_pos]); (try simp (disch := omega) only [if_neg]); (try simp (disch := omega) only [dif_pos]); (try simp (disch := omega) only [dif_neg]); (try go_simp); (refine hK _ ?_; clear hK K))
                    refine mix_l rfl (fun K hK => ?_) hC2
                    go_wp2_with fail
                    refine ⟨hC2, ?_⟩
                    repeat (refine mix_p rfl (fun K hK => ?_); go_simp; (try go_bits); (try simp (disch := omega) only [if_pos]); (try simp (disch := omega) only [if_neg]); (try simp (disch := omega) only [dif_pos]); (try simp (disch := omega) only [dif_neg]); (try go_simp); (refine hK _ ?_; clear hK K))
                    refine mix_nil ?_
                    simp only [Exit.then]
                    refine hKK _ _ ?_
                    clear hKK KK
                    have T3 := T2.below hC2
                    go_wp2_with fail
                    go_meet
                    exact ⟨rfl, T3⟩
                  · refine wp_region_mix (fun w' => Below w10.heap.size w10 w') [(true, 0), (true, 1), (false, 2), (true, 3), (true, 4), (true, 5), (true, 6), (true, 7), (true, 8), (true, 9), (false, 10), (true, 11), (true, 12), (true, 13)] (by kernel_rfl) (by kernel_rfl) (fun w' hd => hd.below _) (fun KK hKK wd hd_wd => ?_)
                    have hC := hd_wd.below w10.heap.size
                    clear hd_wd
                    repeat (refine mix_p rfl (fun K hK => ?_); go_simp; (try go_bits); (try simp (disch := omega) only [if_pos]); (try simp (disch := omega) only [if_neg]); (try simp (disch := omega) only [dif_pos]); (try simp (disch := omega) only [dif_neg]); (try go_simp); (refine hK _ ?_; clear hK K))
                    refine mix_loadG (.agg #[.int .i64 y.k, .string y.t]) rfl (by first | (simp [Region.wanted, go_sem]; done) | simp [Region.wanted, yielded, go_sem]) rfl rfl (fun w' h => loadAtI ((HV9.out w' h).cell 0 _ rfl) ((HV9.out w' h).cell 1 _ rfl)) ?_
                    refine mix_l rfl (fun K hK => ?_) hC
                    have Hjo := Lib.hid (Hj.out wd hC)
                    go_wp2_with fail
                    ((with_reducible refine (Hjo.out).mono ?_); rintro e w11 ⟨rfl, hl11⟩)
                    have hC2 := hC.trans (hl11.mono hC.size)
                    clear Hjo hl11 hC
                    go_wp2_with fail
                    refine ⟨hC2, ?_⟩
                    repeat (refine mix_p rfl (fun K hK => ?_); go_simp; (try go_bits); (try simp (disch := omega) only [if_pos]); (try simp (disch := omega) only [if_neg]); (try simp (disch := omega) only [dif_pos]); (try simp (disch := omega) only [dif_neg]); (try go_simp); (refine hK _ ?_; clear hK K))
                    refine mix_loadG (.map (some X2)) rfl (by first | (simp [Region.wanted, go_sem]; done) | simp [Region.wanted, yielded, go_sem]) rfl rfl (fun w' h => loadC rfl ((HG10.out w' h).g.cell 5 _ rfl)) ?_
                    refine mix_loadG (.agg #[.int .i64 y.k, .string y.t]) rfl (by first | (simp [Region.wanted, go_sem]; done) | simp [Region.wanted, yielded, go_sem]) rfl rfl (fun w' h => loadAtI ((HV9.out w' h).cell 0 _ rfl) ((HV9.out w' h).cell 1 _ rfl)) ?_
                    refine mix_l rfl (fun K hK => ?_) hC2
                    have hlk := Hlk.out w11 hC2
                    go_wp2_with fail
                    refine ⟨hC2, ?_⟩
                    clear hlk
                    repeat (refine mix_p rfl (fun K hK => ?_); go_simp; (try go_bits); (try simp (disch := omega) only [if_pos]); (try simp (disch := omega) only [if_neg]); (try simp (disch := omega) only [dif_pos]); (try simp (disch := omega) only [dif_neg]); (try go_simp); (refine hK _ ?_; clear hK K))
                    refine mix_nil ?_
                    simp only [Exit.then]
                    refine hKK _ _ ?_
                    clear hKK KK
                    have T3 := T2.below hC2
                    go_wp2_with fail
                    go_meet
                    exact ⟨rfl, T3⟩
                case rest =>
                  clear T2 Hj Hlk HlV HV9 HG10 Hb11
                  obtain ⟨rfl, T3⟩ := hcut
                  generalize wc = w11 at *
                  obtain ⟨bb, hbb⟩ : ∃ bb, (!jv || decide ((hl : Int) < 2)) = bb := ⟨_, rfl⟩
                  rw [hbb]
                  cases bb
                  · have hjv2 : jv = true := by cases jv <;> simp_all
                    subst hjv2
                    have HG11 : Hid (Grp (fun _ => False) w11 G2 X2 r2 K A6 Sv (some ⟨g, 0, none⟩) ck c6 cs k own qs2) := HG2.out.keepB T3.b
                    have Hpa := Lib.hid (parts_any (fun _ => False) G2 X2 r2 K A6 Sv (some ⟨g, 0, none⟩) ck c6 cs k own qs2 (some y) (.pointer (some ⟨V, 0, none⟩)) w11 HG11.out Ho2.out ⟨V, 0, rfl, (T3.lv 0 rfl).lt, (T3.lv 0 rfl).cell 0 _ rfl, (T3.lv 0 rfl).cell 1 _ rfl⟩)
                    clear hbb
                    go_wp2_with fail
                    ((with_reducible refine (Hpa.out).mono ?_); rintro e w12 ⟨Ap, cp, d, rfl, hd2, T4⟩)
                    obtain ⟨A9, c9, e9, T5⟩ := T4.frz 0 rfl
                    have e8 := e9
                    simp only [Value.slice.injEq] at e8
                    have e7 := e8.1
                    subst e7
                    have Hmx := Lib.hid (maxI_any (fun _ => False) Ap (iL (rowC own.length d)) k cp w12 ((T5.slc 0 rfl).mono (fun _ _ h => h.elim)) (by rw [iL_len, rowC_len, hol]) (by omega) (by omega))
                    have T6 := T3.below T4.b
                    have Hcb := Lib.hid (Hl33.out d (by first | trivial | rfl) hd2)
                    obtain ⟨mx, hmx⟩ : ∃ mx, Lib.maxOf (iL (rowC own.length d)) = mx := ⟨_, rfl⟩
                    rw [hmx] at Hmx Hcb
                    clear T4 T5 T3 e8 e9 hmx Hpa hd2
                    go_wp2_with fail
                    ((with_reducible refine (Hmx.out).mono ?_); rintro e w13 ⟨rfl, rfl⟩)
                    clear Hmx
                    by_cases hc : 0 < mx
                    · have Hs2 : Hid ((M.take (m + 1)).filter cb = zs ++ [y]) := by show _ = _; rw [Hsn.out, Hcb.out, decide_eq_true hc]; rfl
                      have hsz : B9 ≤ w13.heap.size := by rw [Hb10.out]; exact T6.b.size
                      have v0 := (T6.lv 0 rfl).all
                      have HT6 := Lib.hid T6
                      clear T6
                      go_wp2_with (at_builtin; go_loud (refine HT6.out.app 1 rfl tyIdP rfl _ _ rfl y 1 rfl rfl rfl (oneIdP y) hsz hxl (by decide) ?_); intro v' w14 T7)
                      go_roundw
                      case rel => exact ⟨m + 1, by omega, by go_num, by rw [Hs2.out]; exact T7.del 0⟩
                      case measure => simp [intOf]; omega
                    · have Hs2 : Hid ((M.take (m + 1)).filter cb = zs) := by show _ = _; rw [Hsn.out, Hcb.out, if_neg (by rw [decide_eq_false hc]; decide), List.append_nil]
                      go_wp2_with fail
                      go_roundw
                      case rel => exact ⟨m + 1, by omega, by go_num, by rw [Hs2.out]; exact T6.del 0⟩
                      case measure => simp [intOf]; omega
                  · have hf : cb y = false := by
                      cases jv with
                      | false => exact Hl31.out (by first | trivial | rfl)
                      | true =>
                        have h2 : (hl : Int) < 2 := by simpa using hbb
                        exact Hl32.out (by omega)
                    have Hs2 : Hid ((M.take (m + 1)).filter cb = zs) := by show _ = _; rw [Hsn.out, if_neg (by rw [hf]; decide), List.append_nil]
                    clear hf hbb
                    go_wp2_with fail
                    go_roundw
                    case rel => exact ⟨m + 1, by omega, by go_num, by rw [Hs2.out]; exact T3.del 0⟩
                    case measure => simp [intOf]; omega
              · obtain rfl : m = M.length := by omega
                rw [List.take_length] at TA
                obtain ⟨A8, c8, e8, T8⟩ := TA.frz 0 rfl
                have e7 := e8
                subst e7
                have HT8 := Lib.hid T8
                clear TA T8
                go_wp2_with fail
                exact bodyPost_ret (results_two rfl rfl rfl) rfl (Hfin.out _ _ _ _ rfl ((((Mem.start w).below (Hbw.out.trans (Hb9.out.mono Hbw.out.size))).join HT8.out)))
  · have h1 : (F != 0) = true := by simpa using hF
    have Hf : Hid (∀ wx, Mem w wx [.sl rId none []] → GivesCutsP r ts x w (.returned (.tuple #[.slice none 0 0, .int .i64 F])) wx) := fun wx hx => by
      refine ⟨none, 0, [], F, rfl, hx, ?_⟩
      rcases Hc.out with ⟨h1, h2, _⟩ | ⟨h0, h1, h2, _⟩ | ⟨h1, h2, cc, ms, h3, h4, ⟨h5, _, _, h6⟩ | ⟨h5, _⟩⟩
      · exact .inl ⟨h1, h2, rfl⟩
      · exact .inr (.inl ⟨h0, h1, h2, rfl⟩)
      · exact .inr (.inr ⟨h1, h2, cc, h3, .inl ⟨kf_none h4 h6, h5, rfl⟩⟩)
      · exact absurd h5 hF
    have HT3 := Lib.hid T3
    clear T3
    go_wp2_with fail
    exact bodyPost_ret (results_two rfl rfl rfl) rfl (Hf.out _ (((Mem.start w).below HT3.out.b).call (Below.refl _ _) _ Sl.nil (fun k e => by cases e)))
end Go.Proofs.YtjlangjhdakmiaaGreatDoor
