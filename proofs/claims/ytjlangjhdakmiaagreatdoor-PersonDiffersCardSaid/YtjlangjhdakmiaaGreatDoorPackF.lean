/- Several texts in one: DifRef, DelT, DifTn, DifMut. -/
import Derived.Test.YtjlangjhdakmiaaGreatDoorPackD
import Derived.Test.YtjlangjhdakmiaaGreatDoorPackE
import Derived.Test.YtjlangjhdakmiaaGreatDoorPackU
import Derived.Test.YtjlangjhdakmiaaGreatDoorPackL
import Derived.Test.YtjlangjhdakmiaaGreatDoorPackK
import Derived.Test.YtjlangjhdakmiaaGreatDoorPackQ
import Derived.Test.YtjlangjhdakmiaaGreatDoorPackN
import Derived.Test.YtjlangjhdakmiaaGreatDoorPackY
/- What handref2.DifferOf returns. -/
namespace Go.Proofs.YtjlangjhdakmiaaGreatDoor
open Go Go.RowKit
theorem difF_first (P Q : List Psn) : firstErr [psnsF P, psnsF Q] = difF P Q := by
  unfold difF
  by_cases h : psnsF P = 0
  · by_cases h2 : psnsF Q = 0 <;> simp [firstErr, h, h2]
  · simp [firstErr, h]
theorem difF_zero {P Q : List Psn} (h : difF P Q = 0) : psnsF P = 0 ∧ psnsF Q = 0 := by
  unfold difF at h
  split at h
  · rename_i h2; exact absurd h h2
  · rename_i h2; exact ⟨Decidable.not_not.1 h2, h⟩
theorem psnsGo_ne : ∀ {P : List Psn} {S : List Int}, psnsGo S P = 0 → ∀ p ∈ P, p.tch ≠ []
  | [], _, _, p, hp => by cases hp
  | q :: r, S, h, p, hp => by
    rw [psnsGo] at h
    split at h
    · exact absurd h (by assumption)
    · rename_i h0
      rcases List.mem_cons.1 hp with rfl | hp
      · intro e
        apply h0
        unfold psnF
        split
        · assumption
        · rw [if_pos (by rw [e]; rfl)]; decide
      · exact psnsGo_ne h p hp
theorem cells_int {N : Nat → Prop} {w : World} {a : Addr} {xs : List Int} (h : Sl rInt N w (some a) xs) : ∀ j u, (xs.map (fun z => [Value.int .i64 z])).flatten[j]? = some u → w.cell? (a.add j) = some u := fun j u hu => by
  obtain ⟨k, x, r, h1, h2, rfl⟩ := flat_at (f := fun z : Int => [Value.int .i64 z]) (n := 1) (fun _ => rfl) xs j u hu
  obtain ⟨blk, off, e, _, hc⟩ := h.int k x h1
  obtain rfl : a = ⟨blk, off, none⟩ := Option.some.inj e
  cases r with
  | zero =>
    simp at h2
    subst h2
    rw [Addr.add_lit]
    simpa using hc
  | succ r => simp at h2
theorem df1_any (P : List Psn) (A : Option Addr) (c X : Nat) (w : World) (hX : LV w X #[.slice A P.length c] 37) (hS : Sl rPsn (fun _ => False) w A P) (hP : PsnSm P) (hM : MaxL w) :
    Calls Tryz.prog 80 #[.pointer (some ⟨X, 0, none⟩)] w fun e w' => e = .returned (.int .i64 (psnsF P)) ∧ Below w.heap.size w w' := by
  have Hc := Lib.hid (refPsns_any _ P A c w hS hP.len (fun p hp => ⟨hP.tch p hp, hP.key p hp⟩) hM)
  have c0 := hX.all
  clear hS hP hM hX
  go_enter Tryz.func80, Tryz.ntmps80
  go_wp2_with fail
  ((with_reducible refine (Hc.out).mono ?_); rintro e w2 ⟨rfl, hl2⟩)
  go_wp2_with fail
  go_ret
  exact ⟨rfl, hl2⟩
theorem df2_any (P : List Psn) (A : Option Addr) (c X : Nat) (w : World) (hX : LV w X #[.slice A P.length c] 37) (hS : Sl rPsn (fun _ => False) w A P) (hP : PsnSm P) (hM : MaxL w) :
    Calls Tryz.prog 82 #[.pointer (some ⟨X, 0, none⟩)] w fun e w' => e = .returned (.int .i64 (psnsF P)) ∧ Below w.heap.size w w' := by
  have Hc := Lib.hid (refPsns_any _ P A c w hS hP.len (fun p hp => ⟨hP.tch p hp, hP.key p hp⟩) hM)
  have c0 := hX.all
  clear hS hP hM hX
  go_enter Tryz.func82, Tryz.ntmps82
  go_wp2_with fail
  ((with_reducible refine (Hc.out).mono ?_); rintro e w2 ⟨rfl, hl2⟩)
  go_wp2_with fail
  go_ret
  exact ⟨rfl, hl2⟩
abbrev zsCs : Array Value := #[.int .i64 0, .int .i64 0, .string ⟨#[]⟩, .int .i64 0, .string ⟨#[]⟩]
set_option maxHeartbeats 8000000 in
set_option maxRecDepth 100000 in
theorem refDiffer_any (P Q : List Psn) (A B : Option Addr) (ca cb : Nat) (w : World) (hA : Sl rPsn (fun _ => False) w A P) (hB : Sl rPsn (fun _ => False) w B Q) (hP : PsnSm P) (hQ : PsnSm Q) (hl1 : P.length ≤ 1000) (hl2 : Q.length ≤ 1000) (hM : MaxL w) :
    Calls Tryz.prog 35 #[.slice A P.length ca, .slice B Q.length cb] w (GivesShfE P Q w) := by
  have HA := Lib.hid (fun w' (h : Below w.heap.size w w') => hA.keepB h)
  have HB := Lib.hid (fun w' (h : Below w.heap.size w w') => hB.keepB h)
  have HM := Lib.hid (fun w' (h : Below w.heap.size w w') => hM.below h)
  have HP := Lib.hid hP
  have HQ := Lib.hid hQ
  have Hl1 := Lib.hid hl1
  have Hl2 := Lib.hid hl2
  clear hA hB hM hP hQ hl1 hl2
  obtain ⟨Y, hY⟩ : ∃ Y, Y = w.heap.size := ⟨_, rfl⟩
  have S1 := (Mem.start w).newAt #[.slice A P.length ca] 37 Y hY
  have S : Mem w _ [.loc Y #[.slice A P.length ca] 37, .loc (Y + 1) #[.slice B Q.length cb] 37] := S1.newAt #[.slice B Q.length cb] 37 (Y + 1) (by rw [hY, World.size_alloc])
  clear S1
  obtain ⟨F, HF⟩ : ∃ F, Hid (difF P Q = F) := ⟨_, Lib.hid rfl⟩
  go_enter Tryz.func35, Tryz.ntmps35
  go_upto_region 1 with fail
  rw [← hY]
  clear hY
  generalize (w.alloc (.cells #[.slice A P.length ca] 37)).alloc (.cells #[.slice B Q.length cb] 37) = w1 at *
  obtain ⟨Z, hZ⟩ : ∃ Z, Z = Y + 1 := ⟨_, rfl⟩
  rw [← hZ] at S ⊢
  clear hZ
  have HlY := Lib.hid (S.lv 0 rfl)
  have HlZ := Lib.hid (S.lv 1 rfl)
  have Hb1 := Lib.hid S.b
  have hbU : Below w1.heap.size w1 (w1.alloc (.cells #[.func (.func 80) #[] #[.pointer (some ⟨Y, 0, none⟩)], .func (.func 82) #[] #[.pointer (some ⟨Z, 0, none⟩)]] 135)) := (Below.refl _ _).alloc (Nat.le_refl _) _
  have hBU := Lib.hid hbU
  have Hf := Lib.hid (first_any w1.heap.size 2 [⟨80, #[.pointer (some ⟨Y, 0, none⟩)], psnsF P⟩, ⟨82, #[.pointer (some ⟨Z, 0, none⟩)], psnsF Q⟩] _ rfl (LV.new w1 w1.heap.size #[.func (.func 80) #[] #[.pointer (some ⟨Y, 0, none⟩)], .func (.func 82) #[] #[.pointer (some ⟨Z, 0, none⟩)]] 135 rfl) (by simp)
    (fun c hc => by
      rcases List.mem_cons.1 hc with rfl | hc
      · exact enters_of Tryz.func80 (by kernel_rfl) rfl
      · rw [List.mem_singleton.1 hc]; exact enters_of Tryz.func82 (by kernel_rfl) rfl)
    (fun c' hc w' hw => by
      have hB1 : Below w1.heap.size w1 w' := hBU.out.trans (hw.mono hBU.out.size)
      have hBw : Below w.heap.size w w' := Hb1.out.trans (hB1.mono Hb1.out.size)
      rcases List.mem_cons.1 hc with rfl | hc
      · exact df1_any P A ca Y w' (LV.kb3 HlY.out hB1 HlY.out.lt) (HA.out w' hBw) HP.out (HM.out w' hBw)
      · rw [List.mem_singleton.1 hc]; exact df2_any Q B cb Z w' (LV.kb3 HlZ.out hB1 HlZ.out.lt) (HB.out w' hBw) HQ.out (HM.out w' hBw)))
  rw [show List.map Clo.err [⟨80, #[.pointer (some ⟨Y, 0, none⟩)], psnsF P⟩, ⟨82, #[.pointer (some ⟨Z, 0, none⟩)], psnsF Q⟩] = [psnsF P, psnsF Q] from rfl, difF_first, HF.out] at Hf
  clear hbU S
  go_wp2_with fail
  ((with_reducible refine (Hf.out).mono ?_); rintro e w2 ⟨rfl, hl2⟩)
  have Hb2 : Hid (Below w1.heap.size w1 w2) := hBU.out.trans (hl2.mono hBU.out.size)
  clear hl2 Hf hBU
  by_cases hF : F = 0
  · subst hF
    have hz := difF_zero HF.out
    have HaP := Lib.hid (psnsF_zero hz.1)
    have HaQ := Lib.hid (psnsF_zero hz.2)
    have HnP := Lib.hid (psnsGo_ne hz.1)
    have HnQ := Lib.hid (psnsGo_ne hz.2)
    have Hw2 : Hid (Below w.heap.size w w2) := Hb1.out.trans (Hb2.out.mono Hb1.out.size)
    have HlY2 := Lib.hid (LV.kb3 HlY.out Hb2.out HlY.out.lt)
    have HlZ2 := Lib.hid (LV.kb3 HlZ.out Hb2.out HlZ.out.lt)
    have y0 := HlY2.out.all
    have z0 := HlZ2.out.all
    clear hz HlY HlZ Hb1 Hb2
    have hbV : Below w2.heap.size w2 (w2.alloc (.cells #[.slice A P.length ca, .slice B Q.length cb] 37)) := (Below.refl _ _).alloc (Nat.le_refl _) _
    have Hcc := Lib.hid (concatPsn_any w2.heap.size A B P Q ca cb _ (LV.new w2 w2.heap.size #[.slice A P.length ca, .slice B Q.length cb] 37 rfl) (HA.out _ (Hw2.out.trans (hbV.mono Hw2.out.size))) (HB.out _ (Hw2.out.trans (hbV.mono Hw2.out.size))) Hl1.out Hl2.out)
    have HbV := Lib.hid hbV
    clear hbV
    go_wp2_with fail
    ((with_reducible refine (Hcc.out).mono ?_); rintro e wc ⟨C, cc, rfl, hC, hlc⟩)
    have Hb2c : Hid (Below w2.heap.size w2 wc) := HbV.out.trans (hlc.mono HbV.out.size)
    have Hwc : Hid (Below w.heap.size w wc) := Hw2.out.trans (Hb2c.out.mono Hw2.out.size)
    have HYZ : Hid (∀ w', Below wc.heap.size wc w' → LV w' Y #[.slice A P.length ca] 37 ∧ LV w' Z #[.slice B Q.length cb] 37) := fun w' h => by
      have h2 := Hb2c.out.trans (h.mono Hb2c.out.size)
      exact ⟨LV.kb3 HlY2.out h2 HlY2.out.lt, LV.kb3 HlZ2.out h2 HlZ2.out.lt⟩
    have HC := Lib.hid hC
    obtain ⟨R, hR⟩ : ∃ R, P ++ Q = R := ⟨_, rfl⟩
    rw [hR] at HC ⊢
    have HR := Lib.hid hR
    have hRl : R.length ≤ 2000 := by rw [← hR, List.length_append]; have := Hl1.out; have := Hl2.out; omega
    have Hall : Hid ((R.flatMap Psn.tch).length ≤ 800000) := by
      show _ ≤ _
      rw [← hR, List.flatMap_append, List.length_append]
      have := HP.out.all
      have := HQ.out.all
      omega
    have Hne : Hid (∀ p ∈ R, p.tch ≠ []) := fun p hp => by
      rw [← hR] at hp
      rcases List.mem_append.1 hp with hp | hp
      · exact HnP.out p hp
      · exact HnQ.out p hp
    clear y0 z0 hlc hC hR Hcc HbV Hb2c HnP HnQ HlY2 HlZ2 Hw2
    obtain ⟨Bk, hBk⟩ : ∃ Bk, Bk = wc.heap.size := ⟨_, rfl⟩
    have Hb := Lib.hid hBk
    have S0 : Mem wc wc [.own rInt Bk 3 (.slice none 0 0) []] := (Mem.start wc).nil rInt Bk 3
    clear hBk
    go_wp2_with fail
    go_loopw [8, 27] (fun v i wr => ∃ j : Nat, j ≤ R.length ∧ i = .int .i64 j ∧ Mem wc wr [.own rInt Bk 3 v ((R.take j).flatMap Psn.tch)]) (fun _ i _ => R.length - (intOf i).toNat)
    case atStart => exact ⟨0, Nat.zero_le _, rfl, by rw [List.take_zero]; exact S0⟩
    case round =>
      clear S0
      obtain ⟨j, hj, rfl, S⟩ := hrel
      by_cases hlt : j < R.length
      · obtain ⟨p, hp⟩ : ∃ p, R[j]? = some p := ⟨_, List.getElem?_eq_getElem hlt⟩
        obtain ⟨b1, o1, At, at', Ai, ai, rfl, hb1, c0, c1, c2, c3, s1, s2⟩ := (HC.out.keepB S.b).psn j p hp
        have hpn := Hne.out p (List.mem_of_getElem? hp)
        obtain ⟨ad, rfl⟩ : ∃ ad, At = some ad := by
          cases At with
          | some ad => exact ⟨ad, rfl⟩
          | none =>
            exfalso
            cases ht : p.tch with
            | nil => exact hpn ht
            | cons n r =>
              obtain ⟨_, _, e, _⟩ := s1.int 0 n (by rw [ht]; rfl)
              cases e
        have hsn : (R.take (j + 1)).flatMap Psn.tch = (R.take j).flatMap Psn.tch ++ p.tch := by rw [take_snoc hp, List.flatMap_append]; simp
        have hll : ((R.take j).flatMap Psn.tch).length + p.tch.length ≤ 100000000 := by
          have h1 := congrArg List.length hsn
          rw [List.length_append] at h1
          have h2 : ((R.take (j + 1)).flatMap Psn.tch).length ≤ (R.flatMap Psn.tch).length := by
            conv => rhs; rw [← List.take_append_drop (j + 1) R]
            rw [List.flatMap_append, List.length_append]
            omega
          have := Hall.out
          omega
        have Hsn := Lib.hid hsn
        have Hll := Lib.hid hll
        have Hs1 := Lib.hid (fun w' (h : Below wr.heap.size wr w') => s1.keepB h)
        clear hp s1 s2 hpn hsn hll
        obtain ⟨U, hU⟩ : ∃ U, U = wr.heap.size := ⟨_, rfl⟩
        have S2 : Mem wc _ (.loc U (psCs p (some ad) at' Ai ai) 47 :: [.own rInt Bk 3 _ ((R.take j).flatMap Psn.tch)]) := (S.newAt (psCs p (some ad) at' Ai ai) 47 U hU).front
        have hb2 : Below wr.heap.size wr (wr.alloc (.cells (psCs p (some ad) at' Ai ai) 47)) := (Below.refl _ _).alloc (Nat.le_refl _) _
        go_upto_region 9 with fail
        rw [← hU]
        clear hU S c0 c1 c2 c3
        generalize wr.alloc (.cells (psCs p (some ad) at' Ai ai) 47) = w11 at *
        have v0 := (S2.lv 0 rfl).all
        have Hcl := Lib.hid (cells_int (Hs1.out _ hb2))
        have hsz : Bk ≤ w11.heap.size := by rw [Hb.out]; exact S2.b.size
        have HS2 := Lib.hid S2
        clear S2 hb2
        go_wp2_with (at_builtin; refine HS2.out.appN flatInt 1 rfl tyIntP rfl _ _ rfl p.tch p.tch.length at' rfl rfl ad rfl Hcl.out (fun y _ => oneJ y) (fun _ => rfl) hsz Hll.out (by decide) ?_; intro v5 w5 S5)
        go_roundw
        case rel => exact ⟨j + 1, by omega, by go_num, by rw [Hsn.out]; exact S5.del 0⟩
        case measure => simp [intOf]; omega
      · obtain rfl : j = R.length := by omega
        rw [List.take_length] at S
        have Hso := Lib.hid (sortOwnI S 0 rfl (by have := Hall.out; omega))
        clear S
        go_wp2_with fail
        ((with_reducible refine (Hso.out).mono ?_); rintro e w12 ⟨rfl, S⟩)
        have Hco := Lib.hid (compOwnI S 0 rfl (by rw [srtI_len]; have := Hall.out; omega))
        clear S Hso
        go_wp2_with fail
        ((with_reducible refine (Hco.out).mono ?_); rintro e w13 ⟨v13, rfl, S⟩)
        obtain ⟨ns, hns⟩ : ∃ ns, Lib.compact (srtI (R.flatMap Psn.tch)) = ns := ⟨_, rfl⟩
        have hup := srtU_is (R.flatMap Psn.tch)
        have hnl := compact_len (srtI (R.flatMap Psn.tch))
        rw [srtI_len] at hnl
        rw [hns] at S hup hnl
        have hnl2 : ns.length ≤ 800000 := by have := Hall.out; omega
        have HI : Hid (IsShf P Q (ns.filterMap (shfOf P Q))) := shf_ref hup.1 (fun n => by
          rw [hup.2, ← HR.out, List.flatMap_append, List.mem_append]
          unfold inT
          rw [List.mem_flatMap, List.mem_flatMap])
        obtain ⟨A9, c9, rfl, S9⟩ := S.frz 0 rfl
        have S10 : Mem wc w13 [.own rShf Bk 76 (.slice none 0 0) [], .sl rInt A9 ns] := (S9.nil rShf Bk 76).front
        clear S S9 hns hup hnl Hco
        go_wp2_with fail
        go_loopw [11, 41] (fun v i wr => ∃ k : Nat, k ≤ ns.length ∧ i = .int .i64 k ∧ Mem wc wr [.own rShf Bk 76 v ((ns.take k).filterMap (shfOf P Q)), .sl rInt A9 ns]) (fun _ i _ => ns.length - (intOf i).toNat)
        case atStart => exact ⟨0, Nat.zero_le _, rfl, by rw [List.take_zero]; exact S10⟩
        case round =>
          clear S10
          obtain ⟨k, hk, rfl, S⟩ := hrel
          by_cases hlt2 : k < ns.length
          · obtain ⟨n, hn⟩ : ∃ n, ns[k]? = some n := ⟨_, List.getElem?_eq_getElem hlt2⟩
            obtain ⟨b5, o5, rfl, hb5, d0⟩ := (S.slc 1 rfl).int k n hn
            obtain ⟨ka, hka⟩ : ∃ ka, keyIn P n = ka := ⟨_, rfl⟩
            obtain ⟨kb, hkb⟩ : ∃ kb, keyIn Q n = kb := ⟨_, rfl⟩
            have Hsn : Hid ((ns.take (k + 1)).filterMap (shfOf P Q) = (ns.take k).filterMap (shfOf P Q) ++ (if ka ≠ kb then some (⟨n, ka, kb⟩ : Shf) else none).toList) := by
              show _ = _
              rw [take_snoc hn, List.filterMap_append, List.filterMap_cons]
              unfold shfOf
              rw [hka, hkb]
              by_cases e : ka = kb <;> simp [e]
            have hxl : ((ns.take k).filterMap (shfOf P Q)).length ≤ 100000000 := by
              have h1 := List.length_filterMap_le (shfOf P Q) (ns.take k)
              rw [List.length_take] at h1
              omega
            have HK1 := Lib.hid (fun w' (h : Below wc.heap.size wc w') => keyIn_any (fun _ => False) P A ca n w' (HA.out w' (Hwc.out.trans (h.mono Hwc.out.size))) HP.out)
            have HK2 := Lib.hid (fun w' (h : Below wc.heap.size wc w') => keyIn_any (fun _ => False) Q B cb n w' (HB.out w' (Hwc.out.trans (h.mono Hwc.out.size))) HQ.out)
            rw [hka] at HK1
            rw [hkb] at HK2
            obtain ⟨xs, hxs⟩ : ∃ xs, (ns.take k).filterMap (shfOf P Q) = xs := ⟨_, rfl⟩
            rw [hxs] at S Hsn hxl
            clear hn hka hkb hxs
            go_upto_region 16 with fail
            clear d0
            go_cut [14] (fun s14 wx => ∃ V : Nat, s14 = .pointer (some ⟨V, 0, none⟩) ∧ Mem wc wx [.loc V (shCs ⟨n, ka, kb⟩) 76, .own rShf Bk 76 u11 xs, .sl rInt (some ⟨b5, o5, none⟩) ns])
            case first =>
              refine wp_region_mixT [] (fun wx => LV wx Y #[.slice A P.length ca] 37 ∧ LV wx Z #[.slice B Q.length cb] 37) (.p 0 (.p 1 (.q 2 (.p 3 (.p 5 (.q 6 (.p 7 (.e2 4 (.e2 8 (.p 9 (.e 10 (.e 11 .z))) 10 (.e 8 (.p 9 (.e 11 .z)))) 10 (.e 4 (.e 8 (.p 9 (.e 11 .z)))))))))))) (by kernel_rfl) (by kernel_rfl) (fun _ hd => HYZ.out _ (S.below (hd.below _)).b) (fun KK hKK wd hd => ?_)
              have T := S.below (hd.below _)
              clear hd S
              repeat ((first | refine mixT_pp rfl (fun K hK => ?_) | refine mixT_p rfl (fun K hK => ?_)); go_simp; (try go_bits); (try simp (disch := omega) only [if_pos]); (try simp (disch := omega) only [if_neg]); (try simp (disch := omega) only [dif_pos]); (try simp (disch := omega) only [dif_neg]); (try go_simp); (refine hK _ ?_; clear hK K))
              refine mixT_loadR (.slice A P.length ca) rfl rfl rfl rfl (fun w' h => loadC rfl (h.1.cell 0 _ rfl)) ?_
              repeat ((first | refine mixT_pp rfl (fun K hK => ?_) | refine mixT_p rfl (fun K hK => ?_)); go_simp; (try go_bits); (try simp (disch := omega) only [if_pos]); (try simp (disch := omega) only [if_neg]); (try simp (disch := omega) only [dif_pos]); (try simp (disch := omega) only [dif_neg]); (try go_simp); (refine hK _ ?_; clear hK K))
              refine mixT_loadR (.slice B Q.length cb) rfl rfl rfl rfl (fun w' h => loadC rfl (h.2.cell 0 _ rfl)) ?_
              repeat ((first | refine mixT_pp rfl (fun K hK => ?_) | refine mixT_p rfl (fun K hK => ?_)); go_simp; (try go_bits); (try simp (disch := omega) only [if_pos]); (try simp (disch := omega) only [if_neg]); (try simp (disch := omega) only [dif_pos]); (try simp (disch := omega) only [dif_neg]); (try go_simp); (refine hK _ ?_; clear hK K))
              refine mixT_2 (mixT_one rfl rfl (fun K9 hK9 => ?_)) (mixT_one rfl rfl (fun K9 hK9 => ?_))
              · go_wp2_with fail
                ((with_reducible refine (HK1.out _ T.b).mono ?_); rintro e wa ⟨rfl, hba⟩)
                replace T := T.below hba
                have hC := HYZ.out _ T.b
                clear hba
                go_wp2_with fail
                refine ⟨hC, ?_⟩
                clear hC
                refine mixT_2 (mixT_one rfl rfl (fun K9 hK9 => ?_)) (mixT_one rfl rfl (fun K9 hK9 => ?_))
                · go_wp2_with fail
                  ((with_reducible refine (HK2.out _ T.b).mono ?_); rintro e wb ⟨rfl, hbb⟩)
                  replace T := T.below hbb
                  have hC := HYZ.out _ T.b
                  clear hbb
                  go_wp2_with fail
                  refine ⟨hC, ?_⟩
                  clear hC
                  repeat ((first | refine mixT_pp rfl (fun K hK => ?_) | refine mixT_p rfl (fun K hK => ?_)); go_simp; (try go_bits); (try simp (disch := omega) only [if_pos]); (try simp (disch := omega) only [if_neg]); (try simp (disch := omega) only [dif_pos]); (try simp (disch := omega) only [dif_neg]); (try go_simp); (refine hK _ ?_; clear hK K))
                  refine mixT_l rfl rfl (fun K9 hK9 => ?_)
                  go_wp2_with fail
                  obtain ⟨V, hV⟩ : ∃ V, V = (wb).heap.size := ⟨_, rfl⟩
                  replace T : Mem wc _ [.loc V zsCs 76, .own rShf Bk 76 u11 xs, .sl rInt (some ⟨b5, o5, none⟩) ns] := (T.newAt zsCs 76 V hV).front
                  rw [← hV]
                  clear hV
                  generalize (wb).alloc (.cells zsCs 76) = we at *
                  refine ⟨HYZ.out _ T.b, ?_⟩
                  refine mixT_l rfl rfl (fun K9 hK9 => ?_)
                  have l0 := (T.lv 0 rfl).all
                  have S9 : Mem wc _ [.loc V (shCs ⟨n, ka, kb⟩) 76, .own rShf Bk 76 u11 xs, .sl rInt (some ⟨b5, o5, none⟩) ns] := ((((T.set 0 0 (.int .i64 n) rfl).set 0 1 (.int .i64 ka.k) rfl).set 0 2 (.string ka.t) rfl).set 0 3 (.int .i64 kb.k) rfl).set 0 4 (.string kb.t) rfl
                  go_wp2_with fail
                  refine ⟨HYZ.out _ S9.b, ?_⟩
                  refine mixT_nil ?_
                  simp only [Exit.then]
                  refine hKK _ _ ?_
                  clear hKK KK
                  go_wp2_with fail
                  go_meet
                  exact ⟨V, rfl, S9⟩
                · go_wp2_with fail
                  obtain ⟨V, hV⟩ : ∃ V, V = (wa).heap.size := ⟨_, rfl⟩
                  replace T : Mem wc _ [.loc V zsCs 76, .own rShf Bk 76 u11 xs, .sl rInt (some ⟨b5, o5, none⟩) ns] := (T.newAt zsCs 76 V hV).front
                  rw [← hV]
                  clear hV
                  generalize (wa).alloc (.cells zsCs 76) = we at *
                  refine ⟨HYZ.out _ T.b, ?_⟩
                  refine mixT_l rfl rfl (fun K9 hK9 => ?_)
                  go_wp2_with fail
                  ((with_reducible refine (HK2.out _ T.b).mono ?_); rintro e wb ⟨rfl, hbb⟩)
                  replace T := T.below hbb
                  have hC := HYZ.out _ T.b
                  clear hbb
                  go_wp2_with fail
                  refine ⟨hC, ?_⟩
                  clear hC
                  repeat ((first | refine mixT_pp rfl (fun K hK => ?_) | refine mixT_p rfl (fun K hK => ?_)); go_simp; (try go_bits); (try simp (disch := omega) only [if_pos]); (try simp (disch := omega) only [if_neg]); (try simp (disch := omega) only [dif_pos]); (try simp (disch := omega) only [dif_neg]); (try go_simp); (refine hK _ ?_; clear hK K))
                  refine mixT_l rfl rfl (fun K9 hK9 => ?_)
                  have l0 := (T.lv 0 rfl).all
                  have S9 : Mem wc _ [.loc V (shCs ⟨n, ka, kb⟩) 76, .own rShf Bk 76 u11 xs, .sl rInt (some ⟨b5, o5, none⟩) ns] := ((((T.set 0 0 (.int .i64 n) rfl).set 0 1 (.int .i64 ka.k) rfl).set 0 2 (.string ka.t) rfl).set 0 3 (.int .i64 kb.k) rfl).set 0 4 (.string kb.t) rfl
                  go_wp2_with fail
                  refine ⟨HYZ.out _ S9.b, ?_⟩
                  refine mixT_nil ?_
                  simp only [Exit.then]
                  refine hKK _ _ ?_
                  clear hKK KK
                  go_wp2_with fail
                  go_meet
                  exact ⟨V, rfl, S9⟩
              · go_wp2_with fail
                obtain ⟨V, hV⟩ : ∃ V, V = (wd).heap.size := ⟨_, rfl⟩
                replace T : Mem wc _ [.loc V zsCs 76, .own rShf Bk 76 u11 xs, .sl rInt (some ⟨b5, o5, none⟩) ns] := (T.newAt zsCs 76 V hV).front
                rw [← hV]
                clear hV
                generalize (wd).alloc (.cells zsCs 76) = we at *
                refine ⟨HYZ.out _ T.b, ?_⟩
                refine mixT_l rfl rfl (fun K9 hK9 => ?_)
                go_wp2_with fail
                ((with_reducible refine (HK1.out _ T.b).mono ?_); rintro e wa ⟨rfl, hba⟩)
                replace T := T.below hba
                have hC := HYZ.out _ T.b
                clear hba
                go_wp2_with fail
                refine ⟨hC, ?_⟩
                clear hC
                refine mixT_l rfl rfl (fun K9 hK9 => ?_)
                go_wp2_with fail
                ((with_reducible refine (HK2.out _ T.b).mono ?_); rintro e wb ⟨rfl, hbb⟩)
                replace T := T.below hbb
                have hC := HYZ.out _ T.b
                clear hbb
                go_wp2_with fail
                refine ⟨hC, ?_⟩
                clear hC
                repeat ((first | refine mixT_pp rfl (fun K hK => ?_) | refine mixT_p rfl (fun K hK => ?_)); go_simp; (try go_bits); (try simp (disch := omega) only [if_pos]); (try simp (disch := omega) only [if_neg]); (try simp (disch := omega) only [dif_pos]); (try simp (disch := omega) only [dif_neg]); (try go_simp); (refine hK _ ?_; clear hK K))
                refine mixT_l rfl rfl (fun K9 hK9 => ?_)
                have l0 := (T.lv 0 rfl).all
                have S9 : Mem wc _ [.loc V (shCs ⟨n, ka, kb⟩) 76, .own rShf Bk 76 u11 xs, .sl rInt (some ⟨b5, o5, none⟩) ns] := ((((T.set 0 0 (.int .i64 n) rfl).set 0 1 (.int .i64 ka.k) rfl).set 0 2 (.string ka.t) rfl).set 0 3 (.int .i64 kb.k) rfl).set 0 4 (.string kb.t) rfl
                go_wp2_with fail
                refine ⟨HYZ.out _ S9.b, ?_⟩
                refine mixT_nil ?_
                simp only [Exit.then]
                refine hKK _ _ ?_
                clear hKK KK
                go_wp2_with fail
                go_meet
                exact ⟨V, rfl, S9⟩
            case rest =>
              obtain ⟨V, rfl, S6⟩ := hcut
              have y0 := (S6.lv 0 rfl).all
              have hsB : Bk ≤ wc.heap.size := by rw [Hb.out]; exact S6.b.size
              clear S HYZ HK1 HK2
              by_cases hke : ka = kb
              · have h1 : (ka.k == kb.k) = true := by rw [hke]; exact beq_self_eq_true _
                have h2 : (ka.t.toList == kb.t.toList) = true := by rw [hke]; exact beq_self_eq_true _
                have Hs2 : Hid (xs = (ns.take (k + 1)).filterMap (shfOf P Q)) := by show _ = _; rw [Hsn.out, if_neg (fun h => h hke)]; simp
                clear Hsn hke
                go_wp2_with fail
                go_roundw
                case rel => exact ⟨k + 1, by omega, by go_num, by rw [← Hs2.out]; exact S6.del 0⟩
                case measure => simp [intOf]; omega
              · have Hs2 : Hid (xs ++ [(⟨n, ka, kb⟩ : Shf)] = (ns.take (k + 1)).filterMap (shfOf P Q)) := by show _ = _; rw [Hsn.out, if_pos hke]; rfl
                clear Hsn
                by_cases h1 : ka.k = kb.k
                · have h1' : (ka.k == kb.k) = true := by simpa using h1
                  have h2 : (ka.t.toList == kb.t.toList) = false := by
                    cases h3 : (ka.t.toList == kb.t.toList) with
                    | false => rfl
                    | true => exact absurd (idv_eq h1 h3) hke
                  clear hke h1
                  go_wp2_with (at_builtin; go_loud (refine S6.app 1 rfl tyShf rfl _ _ rfl (⟨n, ka, kb⟩ : Shf) 1 rfl rfl rfl (oneShf ⟨n, ka, kb⟩) hsB hxl (by decide) ?_); intro v' w7 S7)
                  go_roundw
                  case rel => exact ⟨k + 1, by omega, by go_num, by rw [← Hs2.out]; exact S7.del 0⟩
                  case measure => simp [intOf]; omega
                · have h1' : (ka.k == kb.k) = false := by simpa using h1
                  clear hke h1
                  go_wp2_with (at_builtin; go_loud (refine S6.app 1 rfl tyShf rfl _ _ rfl (⟨n, ka, kb⟩ : Shf) 1 rfl rfl rfl (oneShf ⟨n, ka, kb⟩) hsB hxl (by decide) ?_); intro v' w7 S7)
                  go_roundw
                  case rel => exact ⟨k + 1, by omega, by go_num, by rw [← Hs2.out]; exact S7.del 0⟩
                  case measure => simp [intOf]; omega
          · obtain rfl : k = ns.length := by omega
            rw [List.take_length] at S
            obtain ⟨A8, c8, e8, S8⟩ := S.frz 0 rfl
            have HS8 := Lib.hid (S8.del 1)
            subst e8
            clear S S8
            go_wp2_with fail
            exact bodyPost_ret (results_two rfl rfl rfl) rfl ⟨A8, c8, ns.filterMap (shfOf P Q), by rw [HF.out]; rfl, fun h => absurd HF.out h, fun _ => HI.out, (Mem.start w).below Hwc.out |>.join HS8.out⟩
  · have h0 : (F != 0) = true := by simpa using hF
    have Hf0 := Lib.hid hF
    have HwF : Hid (Mem w w2 [.sl rShf none []]) := ((Mem.start w).below (Hb1.out.trans (Hb2.out.mono Hb1.out.size))).call (Below.refl _ _) _ Sl.nil (fun k e => by cases e)
    clear hF
    go_wp2_with fail
    exact bodyPost_ret (results_two rfl rfl rfl) rfl ⟨none, 0, [], by rw [HF.out]; rfl, fun _ => rfl, fun h => absurd (HF.out.symm.trans h) Hf0.out, HwF.out⟩
end Go.Proofs.YtjlangjhdakmiaaGreatDoor

/- What slices.Clone makes of touches, and slices.DeleteFunc with a condition that draws. -/
namespace Go.Proofs.YtjlangjhdakmiaaGreatDoor
open Go Go.RowKit
set_option maxHeartbeats 4000000 in
set_option maxRecDepth 100000 in
theorem cloneT_any (A : Option Addr) (l : List TQ) (c : Nat) (w : World) (hL : Sl rTQ (fun _ => False) w A l) (hl : l.length ≤ 1000) :
    Calls Tryz.prog 28 #[.slice A l.length c] w fun e w' => ∃ A' c', e = .returned (.slice A' l.length c') ∧ Mem w w' [.own rTQ w.heap.size 64 (.slice A' l.length c') l] := by
  have he : ∀ (a : Option Addr) (n c : Nat) (w : World), (binOp .eql 30 (.slice a n c) (.slice none 0 0)).run Tryz.prog w = .ok (.bool a.isNone) w := fun a n c w => Lib.run_eql_slice_nil w _ _ a n c 0 0 tyTch.under
  cases A with
  | none =>
    obtain rfl := Sl.nilOf hL
    have S : Mem w w [.own rTQ w.heap.size 64 (.slice none 0 0) []] := (Mem.start w).nil rTQ w.heap.size 64
    go_enter Tryz.func28, Tryz.ntmps28
    go_wp2_with fail
    go_ret
    exact ⟨none, 0, rfl, S⟩
  | some ad =>
    have S := (Mem.start w).newAt #[] 64 w.heap.size rfl
    have S1 : Mem w (w.alloc (.cells #[] 64)) [.own rTQ w.heap.size 64 (.slice (some ⟨w.heap.size, 0, none⟩) 0 0) []] := S.room (r := rTQ) 0 rfl rfl (by decide) rfl
    have Hc := Lib.hid (Sl.flatCells flatTQ (fun _ => rfl) (hL.keepB S1.b))
    have hsz := S1.b.size
    have HS := Lib.hid S1
    have Hl := Lib.hid hl
    clear S S1 hL hl
    go_enter Tryz.func28, Tryz.ntmps28
    go_wp2_with (at_builtin; refine HS.out.appN flatTQ 0 rfl tyTch rfl _ _ rfl l l.length c rfl rfl ad rfl Hc.out (fun y _ => oneTQ y) (fun _ => rfl) hsz (by simp only [List.length_nil]; have := Hl.out; omega) (by decide) ?_; intro v5 w5 S5)
    obtain ⟨A5, c5, e5⟩ := (S5.ow 0 rfl).len
    subst e5
    go_ret
    exact ⟨A5, c5, rfl, S5⟩
abbrev ptB (b : Nat) : Array Value := #[.pointer (some ⟨b, 0, none⟩)]
theorem flip4_any (b m V0 : Nat) (q : TQ) (w : World) (hs : Strm b m w) (hm : m ≤ 1000000000) (hV : LV w V0 (ptB b) 23) :
    Calls Tryz.prog 29 #[.agg (tcCs q.t q.A q.c q.B q.d), .pointer (some ⟨V0, 0, none⟩)] w (DrawsBool b (m + 1) w) := by
  have hk : SK b w (w.alloc (.cells (tcCs q.t q.A q.c q.B q.d) 64)) := (SK.refl b w).alloc _
  have hs2 := hs.alloc (.cells (tcCs q.t q.A q.c q.B q.d) 64)
  have hV2 := hV.alloc (.cells (tcCs q.t q.A q.c q.B q.d) 64)
  have hb := hs.lt
  have c0 := hV2.all
  have Hf := Lib.hid (flip_any b m 4 _ hs2 (by omega) (by omega) (by omega))
  have Hk := Lib.hid hk
  clear hs hV hs2 hV2 hk
  go_enter Tryz.func29, Tryz.ntmps29
  go_upto_region 1 with fail
  generalize w.alloc (.cells (tcCs q.t q.A q.c q.B q.d) 64) = w1 at *
  go_wp2_with fail
  ((with_reducible refine (Hf.out).mono ?_); rintro e w2 ⟨bo, rfl, hk2, hs2⟩)
  go_wp2_with fail
  go_ret
  exact ⟨bo, rfl, Hk.out.trans hk2, hs2⟩
def GivesIdxT (b m n : Nat) (w0 : World) (cs : List Chunk) (e : Ending) (w' : World) : Prop :=
  ∃ i : Int, e = .returned (.int .i64 i) ∧ St b (m + n) w0 w' cs ∧ (i = -1 ∨ ∃ j : Nat, i = j ∧ j < n)
set_option maxHeartbeats 4000000 in
set_option maxRecDepth 100000 in
theorem idxT_own {b m V0 : Nat} {w0 w : World} {cs : List Chunk} {B g n cap : Nat} {xs : List TQ} (S : St b m w0 w (.own rTQ B 64 (.slice (some ⟨g, 0, none⟩) n cap) xs :: .loc V0 (ptB b) 23 :: cs)) (hn : n = xs.length) (hl : n ≤ 1000) (hm : m ≤ 1000000) :
    Calls Tryz.prog 72 #[.slice (some ⟨g, 0, none⟩) n cap, .func (.func 29) #[] #[.pointer (some ⟨V0, 0, none⟩)]] w (GivesIdxT b m n w0 (.own rTQ B 64 (.slice (some ⟨g, 0, none⟩) n cap) xs :: .loc V0 (ptB b) 23 :: cs)) := by
  have Hn := Lib.hid hn
  clear hn
  go_enter Tryz.func72, Tryz.ntmps72
  go_wp2_with fail
  go_loopw [8] (fun i wr => ∃ j : Nat, j ≤ n ∧ i = .int .i64 j ∧ St b (m + j) w0 wr (.own rTQ B 64 (.slice (some ⟨g, 0, none⟩) n cap) xs :: .loc V0 (ptB b) 23 :: cs)) (fun i _ => n - (intOf i).toNat)
  case atStart => exact ⟨0, Nat.zero_le _, rfl, S⟩
  case round =>
    clear S
    obtain ⟨j, hj, rfl, S⟩ := hrel
    by_cases hlt : j < n
    · obtain ⟨x, hx⟩ : ∃ x, xs[j]? = some x := ⟨_, List.getElem?_eq_getElem (by have := Hn.out; omega)⟩
      obtain ⟨⟨d0, d1, d2, d3, d4⟩, _⟩ := (S.ow 0 rfl).tqAt Hn.out j x hx
      have Hc := Lib.hid (flip4_any b (m + j) V0 x wr S.g.s (by omega) (S.lv 1 rfl))
      have HS := Lib.hid S
      clear hx S
      go_wp2_with fail
      ((with_reducible refine (Hc.out).mono ?_); rintro e w2 ⟨bo, rfl, hk2, hs2⟩)
      have S2 := HS.out.step hk2 hs2
      clear d0 d1 d2 d3 d4 hk2 hs2 HS Hc
      cases bo
      · go_wp2_with fail
        go_roundw
        case rel => exact ⟨j + 1, by omega, by go_num, S2⟩
        case measure => simp [intOf]; omega
      · go_wp2_with fail
        go_ret
        exact ⟨j, rfl, S2.mono (by omega), .inr ⟨j, rfl, hlt⟩⟩
    · go_wp2_with fail
      go_ret
      exact ⟨-1, rfl, S.mono (by omega), .inl rfl⟩
theorem zeroTchS (w : World) : (zeroValue 64).run Tryz.prog w = .ok (.agg #[.int .i64 0, .int .i64 0, .string ⟨#[]⟩, .slice none 0 0, .slice none 0 0]) w := by kernel_rfl
theorem oneZT (j : Nat) (h : j < rTQ.size) : (((Value.agg #[.int .i64 0, .int .i64 0, .string ⟨#[]⟩, .slice none 0 0, .slice none 0 0]).cells)[j]!).oneCell' = true := by
  obtain rfl | rfl | rfl | rfl | rfl : j = 0 ∨ j = 1 ∨ j = 2 ∨ j = 3 ∨ j = 4 := by
    have : j < 5 := h
    omega
  all_goals rfl
def GivesDelT (b m : Nat) (xs : List TQ) (B V0 : Nat) (w0 : World) (cs : List Chunk) (e : Ending) (w' : World) : Prop :=
  ∃ (v : Value) (ys : List TQ), e = .returned v ∧ ys.length ≤ xs.length ∧ (∀ y ∈ ys, y ∈ xs) ∧ St b (m + xs.length + xs.length) w0 w' (.own rTQ B 64 v ys :: .loc V0 (ptB b) 23 :: cs)
theorem mem_set_of {α : Type} {ys xs : List α} {i : Nat} {x : α} (h : ∀ y ∈ ys, y ∈ xs) (hx : x ∈ xs) : ∀ y ∈ ys.set i x, y ∈ xs := fun y hy => by
  rcases List.mem_or_eq_of_mem_set hy with hy | rfl
  · exact h y hy
  · exact hx
set_option maxHeartbeats 8000000 in
set_option maxRecDepth 100000 in
theorem delT_own {b m V0 : Nat} {w0 w : World} {cs : List Chunk} {B g n cap : Nat} {xs : List TQ} (S : St b m w0 w (.own rTQ B 64 (.slice (some ⟨g, 0, none⟩) n cap) xs :: .loc V0 (ptB b) 23 :: cs)) (hn : n = xs.length) (hl : n ≤ 1000) (hm : m ≤ 100000) (hcap : n ≤ cap) :
    Calls Tryz.prog 27 #[.slice (some ⟨g, 0, none⟩) n cap, .func (.func 29) #[] #[.pointer (some ⟨V0, 0, none⟩)]] w (GivesDelT b m xs B V0 w0 cs) := by
  have Hix := Lib.hid (idxT_own S hn hl (by omega))
  have Hn := Lib.hid hn
  clear hn S
  go_enter Tryz.func27, Tryz.ntmps27
  go_wp2_with fail
  ((with_reducible refine (Hix.out).mono ?_); rintro e w2 ⟨i, rfl, S, hc⟩)
  clear Hix
  rcases hc with rfl | ⟨j0, rfl, hj0⟩
  · have HS : Hid (St b (m + xs.length + xs.length) w0 w2 (.own rTQ B 64 (.slice (some ⟨g, 0, none⟩) n cap) xs :: .loc V0 (ptB b) 23 :: cs)) := S.mono (by have := Hn.out; omega)
    go_wp2_with fail
    go_ret
    exact ⟨_, xs, rfl, Nat.le_refl _, fun _ h => h, HS.out⟩
  · go_wp2_with fail
    go_loopw [5, 6] (fun s5 s6 wr => ∃ (i j : Nat) (ys : List TQ), s5 = .int .i64 i ∧ s6 = .int .i64 j ∧ i < j ∧ j ≤ n ∧ Hid (ys.length = n) ∧ Hid (∀ y ∈ ys, y ∈ xs) ∧ St b (m + n + j) w0 wr (.own rTQ B 64 (.slice (some ⟨g, 0, none⟩) n cap) ys :: .loc V0 (ptB b) 23 :: cs)) (fun _ s6 _ => n - (intOf s6).toNat)
    case atStart => exact ⟨j0, j0 + 1, xs, rfl, by go_num, by omega, by omega, Hn.out.symm, (fun _ h => h), S.mono (by omega)⟩
    case round =>
      clear S
      obtain ⟨i, j, ys, rfl, rfl, hij, hj, Hyl, Hy, S⟩ := hrel
      by_cases hlt : j < n
      · obtain ⟨x, hx⟩ : ∃ x, ys[j]? = some x := ⟨_, List.getElem?_eq_getElem (by have := Hyl.out; omega)⟩
        obtain ⟨⟨d0, d1, d2, d3, d4⟩, _⟩ := (S.ow 0 rfl).tqAt Hyl.out.symm j x hx
        have Hx : Hid (x ∈ xs) := Hy.out x (List.mem_of_getElem? hx)
        clear hx
        go_upto_region 8 with fail
        clear d0 d1 d2 d3 d4
        obtain ⟨Y, hY⟩ : ∃ Y, Y = wr.heap.size := ⟨_, rfl⟩
        have S2 : St b (m + n + j) w0 _ (.own rTQ B 64 (.slice (some ⟨g, 0, none⟩) n cap) ys :: .loc V0 (ptB b) 23 :: (cs ++ [.loc Y (tcCs x.t x.A x.c x.B x.d) 64])) := S.newAt (tcCs x.t x.A x.c x.B x.d) 64 Y hY
        rw [← hY]
        clear hY S
        generalize wr.alloc (.cells (tcCs x.t x.A x.c x.B x.d) 64) = w3 at *
        have hYc : (.own rTQ B 64 (.slice (some ⟨g, 0, none⟩) n cap) ys :: .loc V0 (ptB b) 23 :: (cs ++ [.loc Y (tcCs x.t x.A x.c x.B x.d) 64]) : List Chunk)[cs.length + 2]? = some (.loc Y (tcCs x.t x.A x.c x.B x.d) 64) := by simp
        have c0 := (S2.lv (cs.length + 2) hYc).all
        have Hc := Lib.hid (flip4_any b (m + n + j) V0 x w3 S2.g.s (by omega) (S2.lv 1 rfl))
        have HS := Lib.hid S2
        clear S2
        go_wp2_with fail
        ((with_reducible refine (Hc.out).mono ?_); rintro e w4 ⟨bo, rfl, hk2, hs2⟩)
        have S4 := HS.out.step hk2 hs2
        have c1 := (S4.lv (cs.length + 2) hYc).all
        have S5 := S4.del (cs.length + 2)
        rw [show (.own rTQ B 64 (.slice (some ⟨g, 0, none⟩) n cap) ys :: .loc V0 (ptB b) 23 :: (cs ++ [.loc Y (tcCs x.t x.A x.c x.B x.d) 64]) : List Chunk).eraseIdx (cs.length + 2) = .own rTQ B 64 (.slice (some ⟨g, 0, none⟩) n cap) ys :: .loc V0 (ptB b) 23 :: cs by simp [List.eraseIdx_append_of_length_le]] at S5
        clear c0 hk2 hs2 HS Hc S4 hYc
        cases bo
        · obtain ⟨z, hz⟩ : ∃ z, ys[i]? = some z := ⟨_, List.getElem?_eq_getElem (by have := Hyl.out; omega)⟩
          obtain ⟨⟨e0, e1, e2, e3, e4⟩, ff⟩ := (S5.ow 0 rfl).tqAt Hyl.out.symm i z hz
          have f0 : w4.frozen? ⟨g, i * 5, none⟩ = false := ff 0 (by omega)
          have f1 := ff 1 (by omega)
          have f2 := ff 2 (by omega)
          have f3 := ff 3 (by omega)
          have f4 := ff 4 (by omega)
          have S1 := S5.putTQ 0 rfl Hyl.out.symm i z x hz
          simp only [List.set_cons_zero] at S1
          have HS1 := Lib.hid S1
          clear hz ff S5 S1
          go_wp2_with fail
          go_roundw
          case rel => exact ⟨_, _, _, _, _, _, _, _, _, _, _, _, _, _, _, _, _, _, _, _, _, _, _, ⟨i + 1, j + 1, ys.set i x, by go_num, by go_num, by omega, by omega, by show _ = _; rw [List.length_set]; exact Hyl.out, mem_set_of Hy.out Hx.out, HS1.out⟩, rfl⟩
          case measure => simp [intOf]; omega
        · go_wp2_with fail
          go_roundw
          case rel => exact ⟨_, _, _, _, _, _, _, _, _, _, _, _, _, _, _, _, _, _, _, _, _, _, _, ⟨i, j + 1, ys, rfl, by go_num, by omega, by omega, Hyl.out, Hy.out, S5⟩, rfl⟩
          case measure => simp [intOf]; omega
      · have Hsub : Hid (∀ y ∈ ys.take i, y ∈ xs) := fun y hy => Hy.out y (List.mem_of_mem_take hy)
        have Hle : Hid ((ys.take i).length ≤ xs.length) := by show _ ≤ _; rw [List.length_take]; have := Hn.out; omega
        have Hmn : Hid (m + n + j ≤ m + xs.length + xs.length) := by show _ ≤ _; have := Hn.out; omega
        obtain ⟨wb, hwb, M, back⟩ := S.viaMem
        have HB := Lib.hid back
        clear back hwb S
        go_wp2_with (refine M.clearTail 0 rfl Hyl.out.symm tyTch zeroTchS oneZT i (cap - i) (by omega) rfl _ rfl (i * 5) (n - i) rfl rfl rfl ?_; intro w5 M5)
        go_ret
        refine ⟨_, ys.take i, rfl, Hle.out, Hsub.out, ?_⟩
        exact (HB.out _ _ M5).mono Hmn.out
theorem idxT_nil (v : Value) (w : World) :
    Calls Tryz.prog 72 #[.slice none 0 0, .func (.func 29) #[] #[v]] w fun e w' => e = .returned (.int .i64 (-1)) ∧ w = w' := by
  go_enter Tryz.func72, Tryz.ntmps72
  go_wp2_with fail
  go_loopw [8] (fun i wr => i = .int .i64 0 ∧ w = wr) (fun _ _ => 0)
  case atStart => exact ⟨rfl, rfl⟩
  case round =>
    obtain ⟨rfl, rfl⟩ := hrel
    go_wp2_with fail
    go_ret
    exact ⟨rfl, rfl⟩
theorem delT_any {b m V0 : Nat} {w0 w : World} {cs : List Chunk} {B : Nat} {v : Value} {xs : List TQ} (S : St b m w0 w (.own rTQ B 64 v xs :: .loc V0 (ptB b) 23 :: cs)) (hl : xs.length ≤ 1000) (hm : m ≤ 100000) :
    Calls Tryz.prog 27 #[v, .func (.func 29) #[] #[.pointer (some ⟨V0, 0, none⟩)]] w (GivesDelT b m xs B V0 w0 cs) := by
  rcases (S.ow 0 rfl).shape2 with ⟨rfl, rfl⟩ | ⟨g, cap, rfl, hc⟩
  · go_enter Tryz.func27, Tryz.ntmps27
    go_wp2_with fail
    ((with_reducible refine (idxT_nil _ w).mono ?_); rintro e _ ⟨rfl, rfl⟩)
    go_wp2_with fail
    go_ret
    exact ⟨_, [], rfl, Nat.le_refl _, fun _ h => h, S⟩
  · exact delT_own S rfl hl hm hc
end Go.Proofs.YtjlangjhdakmiaaGreatDoor

/- What the law PersonDiffers draws and compares: how small its persons are, clones of numbers, equal lists of shifted touches. -/
namespace Go.Proofs.YtjlangjhdakmiaaGreatDoor
open Go Go.RowKit
set_option maxHeartbeats 4000000 in
set_option maxRecDepth 100000 in
theorem cloneN_any (A : Option Addr) (l : List Int) (c : Nat) (w : World) (hL : Sl rInt (fun _ => False) w A l) (hl : l.length ≤ 1000) :
    Calls Tryz.prog 33 #[.slice A l.length c] w fun e w' => ∃ A' c', e = .returned (.slice A' l.length c') ∧ Mem w w' [.own rInt w.heap.size 3 (.slice A' l.length c') l] := by
  have he : ∀ (a : Option Addr) (n c : Nat) (w : World), (binOp .eql 22 (.slice a n c) (.slice none 0 0)).run Tryz.prog w = .ok (.bool a.isNone) w := fun a n c w => Lib.run_eql_slice_nil w _ _ a n c 0 0 tyIntP.under
  cases A with
  | none =>
    obtain rfl := Sl.nilOf hL
    have S : Mem w w [.own rInt w.heap.size 3 (.slice none 0 0) []] := (Mem.start w).nil rInt w.heap.size 3
    go_enter Tryz.func33, Tryz.ntmps33
    go_wp2_with fail
    go_ret
    exact ⟨none, 0, rfl, S⟩
  | some ad =>
    have S := (Mem.start w).newAt #[] 3 w.heap.size rfl
    have S1 : Mem w (w.alloc (.cells #[] 3)) [.own rInt w.heap.size 3 (.slice (some ⟨w.heap.size, 0, none⟩) 0 0) []] := S.room (r := rInt) 0 rfl rfl (by decide) rfl
    have Hc := Lib.hid (Sl.flatCells flatInt (fun _ => rfl) (hL.keepB S1.b))
    have hsz := S1.b.size
    have HS := Lib.hid S1
    have Hl := Lib.hid hl
    clear S S1 hL hl
    go_enter Tryz.func33, Tryz.ntmps33
    go_wp2_with (at_builtin; refine HS.out.appN flatInt 0 rfl tyIntP rfl _ _ rfl l l.length c rfl rfl ad rfl Hc.out (fun y _ => oneJ y) (fun _ => rfl) hsz (by simp only [List.length_nil]; have := Hl.out; omega) (by decide) ?_; intro v5 w5 S5)
    obtain ⟨A5, c5, e5⟩ := (S5.ow 0 rfl).len
    subst e5
    go_ret
    exact ⟨A5, c5, rfl, S5⟩

/-- persons of few touches -/
def PsnTn (P : List Psn) : Prop := P.length ≤ 20 ∧ ∀ p ∈ P, p.tch.length ≤ 20 ∧ p.key.t.size ≤ 10000
theorem flat_le {P : List Psn} {k : Nat} : (∀ p ∈ P, p.tch.length ≤ k) → (P.flatMap Psn.tch).length ≤ k * P.length := by
  induction P with
  | nil => intro _; simp
  | cons p r ih =>
    intro h
    have h1 := ih (fun q hq => h q (List.mem_cons_of_mem _ hq))
    have h2 := h p (List.mem_cons_self ..)
    rw [List.flatMap_cons, List.length_append, List.length_cons, Nat.mul_succ]
    omega
theorem PsnTn.sm {P : List Psn} (h : PsnTn P) : PsnSm P :=
  ⟨Nat.le_trans h.1 (by decide), fun p hp => Nat.le_trans (h.2 p hp).1 (by decide), fun p hp => Nat.le_trans (h.2 p hp).2 (by decide), by
    have := flat_le (fun p hp => (h.2 p hp).1)
    have := h.1
    omega⟩
theorem psns_tiny {r : Rul} {ts : List Tch} {P : List Psn} (hP : IsPsns r ts P) (hl : ts.length ≤ 8) (ht : ∀ t ∈ ts, ∀ x ∈ t.ids, x.t.size ≤ 10000) : P.length ≤ 8 ∧ ∀ p ∈ P, p.tch.length ≤ 8 ∧ p.key.t.size ≤ 10000 := by
  obtain ⟨c, _, rfl⟩ := hP
  unfold psns
  refine ⟨?_, fun p hp => ?_⟩
  · rw [List.length_map]
    have := heads_len c ts.length
    omega
  · obtain ⟨i, _, rfl⟩ := List.mem_map.1 hp
    refine ⟨?_, ?_⟩
    · show ((partAt c ts.length i).map (noAt ts)).length ≤ _
      rw [List.length_map]
      have := part_len c ts.length i
      omega
    · unfold psnAt
      cases hi : ts[i]? with
      | none => exact Nat.zero_le 10000
      | some t =>
        have htm := ht t (List.mem_of_getElem? hi)
        show (keyP r ts t).t.size ≤ _
        unfold keyP
        cases hf : t.ids.find? (joinsP r ts) with
        | some x => exact htm x (List.mem_of_find?_eq_some hf)
        | none =>
          cases hd : t.ids with
          | nil => exact Nat.zero_le 10000
          | cons x l => exact htm x (by rw [hd]; exact List.mem_cons_self ..)
theorem Sl.shf {N : Nat → Prop} {w : World} {A : Option Addr} {xs : List Shf} (h : Sl rShf N w A xs) (k : Nat) (s : Shf) (hk : xs[k]? = some s) : ∃ blk off, A = some ⟨blk, off, none⟩ ∧ blk < w.heap.size ∧
    w.cell? ⟨blk, off + k * 5, none⟩ = some (.int .i64 s.no) ∧ w.cell? ⟨blk, off + k * 5 + 1, none⟩ = some (.int .i64 s.a.k) ∧ w.cell? ⟨blk, off + k * 5 + 2, none⟩ = some (.string s.a.t) ∧ w.cell? ⟨blk, off + k * 5 + 3, none⟩ = some (.int .i64 s.b.k) ∧ w.cell? ⟨blk, off + k * 5 + 4, none⟩ = some (.string s.b.t) := by
  obtain ⟨blk, off, l, e1, h1, _, h3, h4⟩ := h k s hk
  obtain rfl : l = Shf.cells s := h3
  exact ⟨blk, off, e1, h1, h4 0 _ rfl, h4 1 _ rfl, h4 2 _ rfl, h4 3 _ rfl, h4 4 _ rfl⟩
set_option maxHeartbeats 4000000 in
set_option maxRecDepth 100000 in
theorem eqShf_any (N : Nat → Prop) (A A2 : Option Addr) (xs : List Shf) (c c2 : Nat) (w : World) (h1 : Sl rShf N w A xs) (h2 : Sl rShf N w A2 xs) (hl : xs.length ≤ 1000000000) :
    Calls Tryz.prog 36 #[.slice A xs.length c, .slice A2 xs.length c2] w fun e w' => e = .returned (.bool true) ∧ Below w.heap.size w w' := by
  have H1 := Lib.hid h1
  have H2 := Lib.hid h2
  clear h1 h2
  go_enter Tryz.func36, Tryz.ntmps36
  go_wp2_with fail
  go_loopw [13] (fun i wr => ∃ j : Nat, j ≤ xs.length ∧ i = .int .i64 j ∧ Below w.heap.size w wr) (fun i _ => xs.length - (intOf i).toNat)
  case atStart => exact ⟨0, Nat.zero_le _, rfl, Below.refl _ _⟩
  case round =>
    obtain ⟨j, hj, rfl, hb⟩ := hrel
    by_cases hlt : j < xs.length
    · obtain ⟨e, hf⟩ : ∃ e, xs[j]? = some e := ⟨_, List.getElem?_eq_getElem hlt⟩
      obtain ⟨b1, o1, rfl, _, c0, c1, c2, c3, c4⟩ := (H1.out.keepB hb).shf j e hf
      obtain ⟨b2, o2, rfl, _, d0, d1, d2, d3, d4⟩ := (H2.out.keepB hb).shf j e hf
      clear hf
      go_wp2_with fail
      go_quiet (fail)
      go_wp2_with fail
      go_roundw
      case rel => exact ⟨j + 1, by omega, by go_num, hb.trans (below_drewN _ _ _)⟩
      case measure => simp [intOf]; omega
    · go_wp2_with fail
      go_ret
      exact ⟨rfl, hb⟩
/-- both sides give the same list -/
theorem shf_same {P Q : List Psn} {l m : List Shf} (h1 : difF P Q ≠ 0 → l = []) (h2 : difF P Q = 0 → IsShf P Q l) (g1 : difF P Q ≠ 0 → m = []) (g2 : difF P Q = 0 → IsShf P Q m) : m = l := by
  by_cases h : difF P Q = 0
  · exact (g2 h).uniq (h2 h)
  · rw [h1 h, g1 h]
theorem shf_len {P Q : List Psn} (hP : PsnTn P) (hQ : PsnTn Q) {l : List Shf} (h1 : difF P Q ≠ 0 → l = []) (h2 : difF P Q = 0 → IsShf P Q l) : l.length ≤ 1000 := by
  by_cases h : difF P Q = 0
  · have hI := h2 h
    have hn : (l.map Shf.no).Nodup := by
      refine List.pairwise_map.2 (hI.1.imp (fun {a b} h e => ?_))
      omega
    have h3 := sub_len (m := P.flatMap Psn.tch ++ Q.flatMap Psn.tch) hn (fun n hn => by
      obtain ⟨s, hs, rfl⟩ := List.mem_map.1 hn
      rcases ((hI.2 s).1 hs).1 with ⟨p, hp, hm⟩ | ⟨p, hp, hm⟩
      · exact List.mem_append_left _ (List.mem_flatMap.2 ⟨p, hp, hm⟩)
      · exact List.mem_append_right _ (List.mem_flatMap.2 ⟨p, hp, hm⟩))
    rw [List.length_map, List.length_append] at h3
    have a1 := flat_le (fun p hp => (hP.2 p hp).1)
    have a2 := flat_le (fun p hp => (hQ.2 p hp).1)
    have := hP.1
    have := hQ.1
    omega
  · rw [h1 h]; simp
end Go.Proofs.YtjlangjhdakmiaaGreatDoor

/- A person of a list of the call's own is turned: its key, its touches; one stands twice. -/
namespace Go.Proofs.YtjlangjhdakmiaaGreatDoor
open Go Go.RowKit
theorem Own.pqAt {M : Nat → Prop} {B E g n cap : Nat} {w : World} {xs : List PsQ} (h : Own rPsQ M B E w (.slice (some ⟨g, 0, none⟩) n cap) xs) (hn : n = xs.length) (k : Nat) (x : PsQ) (hk : xs[k]? = some x) :
    (w.cell? ⟨g, k * 4, none⟩ = some (.int .i64 x.p.key.k) ∧ w.cell? ⟨g, k * 4 + 1, none⟩ = some (.string x.p.key.t) ∧ w.cell? ⟨g, k * 4 + 2, none⟩ = some (.slice x.A x.p.tch.length x.a) ∧ w.cell? ⟨g, k * 4 + 3, none⟩ = some (.slice x.B x.p.ids.length x.b)) ∧
    ∀ j, j < 4 → w.frozen? ⟨g, k * 4 + j, none⟩ = false :=
  ⟨⟨(h.cellP flatPsQ hn k x hk 0 _ rfl).1, (h.cellP flatPsQ hn k x hk 1 _ rfl).1, (h.cellP flatPsQ hn k x hk 2 _ rfl).1, (h.cellP flatPsQ hn k x hk 3 _ rfl).1⟩, fun j hj => by
    obtain ⟨u, hu⟩ : ∃ u, (PsQ.cells x)[j]? = some u := ⟨_, List.getElem?_eq_getElem hj⟩
    exact (h.cellP flatPsQ hn k x hk j u hu).2⟩
/-- persons of at most eight touches -/
def Tn8 (P : List Psn) : Prop := P.length ≤ 8 ∧ ∀ p ∈ P, p.tch.length ≤ 8 ∧ p.key.t.size ≤ 10000
theorem Tn8.tn {P : List Psn} (h : Tn8 P) : PsnTn P := ⟨Nat.le_trans h.1 (by decide), fun p hp => ⟨Nat.le_trans (h.2 p hp).1 (by decide), (h.2 p hp).2⟩⟩
theorem Tn8.at' {ps : List PsQ} (h : Tn8 (ps.map PsQ.p)) {i : Nat} {q : PsQ} (hq : ps[i]? = some q) : q.p.tch.length ≤ 8 ∧ q.p.key.t.size ≤ 10000 := h.2 q.p (List.mem_map_of_mem (List.mem_of_getElem? hq))
theorem Tn8.set {ps : List PsQ} (h : Tn8 (ps.map PsQ.p)) (i : Nat) (q : PsQ) (h1 : q.p.tch.length ≤ 20) (h2 : q.p.key.t.size ≤ 10000) : PsnTn ((ps.set i q).map PsQ.p) := by
  refine ⟨?_, fun p hp => ?_⟩
  · have := h.1
    rw [List.length_map] at this
    rw [List.length_map, List.length_set]
    omega
  · obtain ⟨x, hx, rfl⟩ := List.mem_map.1 hp
    rcases List.mem_or_eq_of_mem_set hx with hx | rfl
    · exact h.tn.2 _ (List.mem_map_of_mem hx)
    · exact ⟨h1, h2⟩
theorem Tn8.app {ps : List PsQ} (h : Tn8 (ps.map PsQ.p)) {i : Nat} {q : PsQ} (hq : ps[i]? = some q) : PsnTn ((ps ++ [q]).map PsQ.p) := by
  have hq2 := h.at' hq
  refine ⟨?_, fun p hp => ?_⟩
  · have := h.1
    rw [List.length_map] at this
    rw [List.length_map, List.length_append, List.length_singleton]
    omega
  · obtain ⟨x, hx, rfl⟩ := List.mem_map.1 hp
    rcases List.mem_append.1 hx with hx | hx
    · exact h.tn.2 _ (List.mem_map_of_mem hx)
    · rw [List.mem_singleton.1 hx]; exact ⟨by omega, hq2.2⟩
section
variable {b m : Nat} {w0 w : World} {c0 c1 : Chunk} {tl : List Chunk} {B E g n cap : Nat} {ps : List PsQ} {v : Value}
theorem St.psnTurn (S : St b m w0 w (c0 :: c1 :: .own rPsQ B E v ps :: .pdat ps :: tl)) (i : Nat) (q : PsQ)
    (hA : Sl rInt (Mut w0.heap.size (c0 :: c1 :: .own rPsQ B E v ps :: .pdat ps :: tl)) w q.A q.p.tch) (hB : Sl rId (Mut w0.heap.size (c0 :: c1 :: .own rPsQ B E v ps :: .pdat ps :: tl)) w q.B q.p.ids) :
    St b m w0 w (c0 :: c1 :: .own rPsQ B E v ps :: .pdat (ps.set i q) :: tl) :=
  S.turn 3 rfl (.pdat (ps.set i q)) rfl (fun x hx => by
    rcases List.mem_or_eq_of_mem_set hx with hx | rfl
    · have h : PdOk _ w ps := S.ok (.pdat ps) (.tail _ (.tail _ (.tail _ (.head _))))
      exact h x hx
    · exact ⟨hA, hB⟩)
theorem St.psnKey (S : St b m w0 w (c0 :: c1 :: .own rPsQ B E (.slice (some ⟨g, 0, none⟩) n cap) ps :: .pdat ps :: tl)) (hn : n = ps.length) {i : Nat} {q : PsQ} (hq : ps[i]? = some q) (k : Int) (t : ByteArray) :
    St b m w0 ((w.setCell ⟨g, i * 4, none⟩ (.int .i64 k)).setCell ⟨g, i * 4 + 1, none⟩ (.string t)) (c0 :: c1 :: .own rPsQ B E (.slice (some ⟨g, 0, none⟩) n cap) (ps.set i ⟨⟨⟨k, t⟩, q.p.tch, q.p.ids⟩, q.A, q.a, q.B, q.b⟩) :: .pdat (ps.set i ⟨⟨⟨k, t⟩, q.p.tch, q.p.ids⟩, q.A, q.a, q.B, q.b⟩) :: tl) := by
  have hi := lt_of_get hq
  have hd : PdOk _ w ps := S.ok (.pdat ps) (.tail _ (.tail _ (.tail _ (.head _))))
  have hdq := hd q (List.mem_of_getElem? hq)
  have S1 := S.psnTurn i ⟨⟨⟨k, t⟩, q.p.tch, q.p.ids⟩, q.A, q.a, q.B, q.b⟩ hdq.1 hdq.2
  have S2 := S1.put flatPsQ 2 rfl hn i q (⟨⟨⟨k, q.p.key.t⟩, q.p.tch, q.p.ids⟩, q.A, q.a, q.B, q.b⟩ : PsQ) hq 0 (by decide) (.int .i64 k) rfl
  have S3 := S2.put flatPsQ 2 rfl (by rw [List.length_set]; exact hn) i (⟨⟨⟨k, q.p.key.t⟩, q.p.tch, q.p.ids⟩, q.A, q.a, q.B, q.b⟩ : PsQ) (⟨⟨⟨k, t⟩, q.p.tch, q.p.ids⟩, q.A, q.a, q.B, q.b⟩ : PsQ) (List.getElem?_set_self hi) 1 (by decide) (.string t) rfl
  rw [show (ps.set i (⟨⟨⟨k, q.p.key.t⟩, q.p.tch, q.p.ids⟩, q.A, q.a, q.B, q.b⟩ : PsQ)).set i (⟨⟨⟨k, t⟩, q.p.tch, q.p.ids⟩, q.A, q.a, q.B, q.b⟩ : PsQ) = ps.set i (⟨⟨⟨k, t⟩, q.p.tch, q.p.ids⟩, q.A, q.a, q.B, q.b⟩ : PsQ) from List.set_set ..] at S3
  exact S3
theorem St.psnTch (S : St b m w0 w (c0 :: c1 :: .own rPsQ B E (.slice (some ⟨g, 0, none⟩) n cap) ps :: .pdat ps :: tl)) (hn : n = ps.length) {i : Nat} {q : PsQ} (hq : ps[i]? = some q) (A : Option Addr) (a : Nat) (zs : List Int)
    (hA : Sl rInt (Mut w0.heap.size (c0 :: c1 :: .own rPsQ B E (.slice (some ⟨g, 0, none⟩) n cap) ps :: .pdat ps :: tl)) w A zs) :
    St b m w0 (w.setCell ⟨g, i * 4 + 2, none⟩ (.slice A zs.length a)) (c0 :: c1 :: .own rPsQ B E (.slice (some ⟨g, 0, none⟩) n cap) (ps.set i ⟨⟨q.p.key, zs, q.p.ids⟩, A, a, q.B, q.b⟩) :: .pdat (ps.set i ⟨⟨q.p.key, zs, q.p.ids⟩, A, a, q.B, q.b⟩) :: tl) := by
  have hd : PdOk _ w ps := S.ok (.pdat ps) (.tail _ (.tail _ (.tail _ (.head _))))
  have hdq := hd q (List.mem_of_getElem? hq)
  have S1 := S.psnTurn i ⟨⟨q.p.key, zs, q.p.ids⟩, A, a, q.B, q.b⟩ hA hdq.2
  exact S1.put flatPsQ 2 rfl hn i q (⟨⟨q.p.key, zs, q.p.ids⟩, A, a, q.B, q.b⟩ : PsQ) hq 2 (by decide) (.slice A zs.length a) rfl
theorem St.psnTwice {q : PsQ} (S : St b m w0 w (c0 :: c1 :: .own rPsQ B E v (ps ++ [q]) :: .pdat ps :: tl)) (hq : q ∈ ps) : St b m w0 w (c0 :: c1 :: .own rPsQ B E v (ps ++ [q]) :: .pdat (ps ++ [q]) :: tl) :=
  S.turn 3 rfl (.pdat (ps ++ [q])) rfl (fun x hx => by
    have h : PdOk _ w ps := S.ok (.pdat ps) (.tail _ (.tail _ (.tail _ (.head _))))
    rcases List.mem_append.1 hx with hx | hx
    · exact h x hx
    · rw [List.mem_singleton.1 hx]; exact h q hq)
/-- rows and what hangs on them, once they stay, are persons -/
theorem St.psnsFrz (S : St b m w0 w (c0 :: c1 :: .own rPsQ B E v ps :: .pdat ps :: tl)) : ∃ A c, v = .slice A (ps.map PsQ.p).length c ∧ St b m w0 w (c0 :: c1 :: .sl rPsn A (ps.map PsQ.p) :: tl) := by
  obtain ⟨A, c, e, S2⟩ := S.frz 2 rfl
  have S3 := S2.turn 2 rfl (.sl rPsn A (ps.map PsQ.p)) rfl (slPsn (S2.slc 2 rfl) (S2.ok (.pdat ps) (.tail _ (.tail _ (.tail _ (.head _))))))
  exact ⟨A, c, by rw [List.length_map]; exact e, S3.del 3⟩
end
end Go.Proofs.YtjlangjhdakmiaaGreatDoor
