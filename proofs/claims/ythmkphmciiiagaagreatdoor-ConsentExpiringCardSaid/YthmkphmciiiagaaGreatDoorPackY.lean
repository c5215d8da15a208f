/- Several texts in one: PerRef, NextRef, ExpRef, LawAsk, GenWin, LawExp. -/
import Derived.Test.YthmkphmciiiagaaGreatDoorPackX
import Derived.Test.YthmkphmciiiagaaGreatDoorAsked
import Derived.Test.YthmkphmciiiagaaGreatDoorPackW
import Derived.Test.YthmkphmciiiagaaGreatDoorPackT
import Derived.Test.YthmkphmciiiagaaGreatDoorPackA
/- What handref2.PeriodsOf and NextOf return; slices.Equal of the same periods. -/
namespace Go.Proofs.YthmkphmciiiagaaGreatDoor
open Go Go.RowKit
theorem Sl.per {N : Nat → Prop} {w : World} {A : Option Addr} {xs : List Per} (h : Sl rPer N w A xs) (k : Nat) (e : Per) (hk : xs[k]? = some e) : ∃ blk off, A = some ⟨blk, off, none⟩ ∧ blk < w.heap.size ∧
    w.cell? ⟨blk, off + k * 5, none⟩ = some (.int .i64 e.from') ∧ w.cell? ⟨blk, off + k * 5 + 1, none⟩ = some (.int .i64 e.to') ∧ w.cell? ⟨blk, off + k * 5 + 2, none⟩ = some (.bool e.a.1) ∧ w.cell? ⟨blk, off + k * 5 + 3, none⟩ = some (.int .i64 e.a.2.1) ∧ w.cell? ⟨blk, off + k * 5 + 4, none⟩ = some (.int .i64 e.a.2.2) := by
  obtain ⟨blk, off, l, e1, h1, _, h3, h4⟩ := h k e hk
  obtain rfl : l = Per.cells e := h3
  exact ⟨blk, off, e1, h1, h4 0 _ rfl, h4 1 _ rfl, h4 2 _ rfl, h4 3 _ rfl, h4 4 _ rfl⟩
set_option maxHeartbeats 16000000 in
set_option maxRecDepth 100000 in
theorem refPeriods_any (A Al : Option Addr) (p : List Purp) (l : List Stm) (c cl : Nat) (k : Int) (t pu rg : ByteArray) (ch at' : Int) (w : World) (hS : Sl rPurp (fun _ => False) w A p) (hg : GoodPol p) (hL : Sl rStm (fun _ => False) w Al l) (hgl : GoodL p l) (hl : l.length ≤ 1000) :
    Calls Tryz.prog 119 #[.slice A p.length c, .slice Al l.length cl, .agg (qqCs k t pu rg ch at')] w fun e w' => ∃ A2 c2, e = .returned (.slice A2 (perA p l k t pu rg ch).length c2) ∧ Sl rPer (Lt w.heap.size) w' A2 (perA p l k t pu rg ch) ∧ Below w.heap.size w w' := by
  have Htu := Lib.hid (fun at' w' (h : Below w.heap.size w w') => turns_any A Al p l c cl k t pu rg ch at' w' (hS.keepB h) hg (hL.keepB h) hl (fun s hs => hgl.at' s hs))
  have Ha := Lib.hid (fun at' (hat : 0 ≤ at' ∧ at' ≤ 4321439) w' (h : Below w.heap.size w w') => refAsked_any (fun _ => False) A Al p l c cl k t pu rg ch at' w' (hS.keepB h) hg (hL.keepB h) hgl (by omega) hat)
  have Hmo := moms_r (k := k) (t := t) (pu := pu) (rg := rg) (ch := ch) hg hgl
  have Hhd : ∃ r, refL p l k t pu rg ch = 0 :: r := rawR_head _ _ _ _ _ (fun m hm => Hmo.lo m hm)
  have Hrg : Hid (∀ m ∈ refL p l k t pu rg ch, 0 ≤ m ∧ m ≤ 4321439) := fun m hm => ⟨Hmo.lo m hm, by have := Hmo.hi m hm; omega⟩
  have HLl : Hid ((refL p l k t pu rg ch).length ≤ 3001) := by
    have h1 := momL_len (rawR ((termAt p pu rg ch).getD tZero) k t ch l)
    have h2 := flatMap_len (turnS ((termAt p pu rg ch).getD tZero) k t ch) 3 (turnS_len _ k t ch) l
    show _ ≤ _
    unfold rawR at h1
    rw [List.length_cons] at h1
    unfold refL rawR
    omega
  obtain ⟨Rs, HRs⟩ : ∃ Rs, Hid (perA p l k t pu rg ch = Rs) := ⟨_, Lib.hid rfl⟩
  rw [HRs.out]
  unfold perA at HRs
  clear hS hg hL hgl Hmo
  generalize refL p l k t pu rg ch = L at *
  obtain ⟨f, hf⟩ : ∃ f : Int → Ans, ansF p l k t pu rg ch = f := ⟨_, rfl⟩
  have Ha2 : Hid (∀ (at' : Int) (hat : 0 ≤ at' ∧ at' ≤ 4321439) w' (h : Below w.heap.size w w'), Calls Tryz.prog 65 #[.slice A p.length c, .slice Al l.length cl, .agg (qqCs k t pu rg ch at')] w' (GivesAns (f at') w')) := fun at' hat w' h => hf ▸ Ha.out at' hat w' h
  rw [hf] at HRs
  clear Ha hf
  obtain ⟨a0, Ha0⟩ : ∃ a0, Hid (f 0 = a0) := ⟨_, Lib.hid rfl⟩
  have HR0 := HRs.out
  rw [perAns, Ha0.out] at HR0
  obtain ⟨Tot, hTot⟩ : ∃ Tot, steps f a0 L = Tot := ⟨_, rfl⟩
  rw [hTot] at HR0
  replace HR0 := Lib.hid HR0
  have HTl : Hid (Tot.length ≤ 3001) := by show _ ≤ _; rw [← hTot]; exact Nat.le_trans (steps_len f _ _) HLl.out
  have HL1 : Hid (1 ≤ L.length ∧ L[0]? = some 0 ∧ [] ++ steps f (lastS (0, a0) []).2 (L.drop 1) = Tot) := by
    obtain ⟨r, hr⟩ := Hhd
    subst hr
    refine ⟨by simp, rfl, ?_⟩
    rw [← hTot, steps, Ha0.out, if_pos rfl]
    rfl
  clear HRs hTot Hhd
  have S := ((Mem.start w).new' (qqCs k t pu rg ch at') 31).nil rPer w.heap.size 171
  replace S : Mem w (w.alloc (.cells (qqCs k t pu rg ch at') 31)) [.loc w.heap.size (qqCs k t pu rg ch at') 31, .own rPer w.heap.size 171 (.slice none 0 0) []] := S
  go_enter Tryz.func119, Tryz.ntmps119
  go_upto_region 2 with fail
  generalize w.alloc (.cells (qqCs k t pu rg ch at') 31) = w1 at *
  have c0 := (S.lv 0 rfl).all
  go_wp2_with fail
  ((with_reducible refine (Htu.out at' w1 S.b).mono ?_); rintro e w2 ⟨At, ct, rfl, hSt, hl2⟩)
  replace S := S.call hl2 (.sl rInt At L) hSt (fun k e => by cases e)
  replace S : Mem w w2 [.loc w.heap.size (qqCs k t pu rg ch at') 31, .own rPer w.heap.size 171 (.slice none 0 0) [], .sl rInt At L] := S
  clear hl2 hSt Htu c0
  go_wp2_with fail
  go_loopw [7, 17] (fun v i wr => ∃ (j : Nat) (out : List Per) (q : Int), j ≤ L.length ∧ i = .int .i64 j ∧ Hid ((j = 0 ∧ out = [] ∧ v = .slice none 0 0) ∨ ∃ T, out = pers (0, a0) T ∧ T ++ steps f (lastS (0, a0) T).2 (L.drop j) = Tot) ∧ Mem w wr [.loc w.heap.size (qqCs k t pu rg ch q) 31, .own rPer w.heap.size 171 v out, .sl rInt At L]) (fun _ i _ => L.length - (intOf i).toNat)
  case atStart => exact ⟨0, [], at', Nat.zero_le _, rfl, .inl ⟨rfl, rfl, rfl⟩, S⟩
  case round =>
    clear S
    obtain ⟨j, out, q, hj, rfl, HO, S⟩ := hrel
    have hLl := HLl.out
    by_cases hlt : j < L.length
    · obtain ⟨m, hm⟩ : ∃ m, L[j]? = some m := ⟨_, List.getElem?_eq_getElem hlt⟩
      obtain ⟨blk, off, rfl, d0⟩ := (S.slc 2 rfl).oneAt j m hm
      have hmr := Hrg.out m (List.mem_of_getElem? hm)
      have Hm := Lib.hid hm
      clear hm
      obtain ⟨am, Ham⟩ : ∃ am, Hid (f m = am) := ⟨_, Lib.hid rfl⟩
      have Hdm := Lib.hid (Ha2.out m hmr)
      rw [Ham.out] at Hdm
      have c0 := (S.lv 0 rfl).all
      go_upto_region 6 with fail
      clear c0 d0
      replace S : Mem w (wr.setCell ⟨w.heap.size, 5, none⟩ (.int .i64 m)) [.loc w.heap.size (qqCs k t pu rg ch m) 31, .own rPer w.heap.size 171 u7 out, .sl rInt (some ⟨blk, off, none⟩) L] := S.set 0 5 (.int .i64 m) rfl
      generalize wr.setCell ⟨w.heap.size, 5, none⟩ (.int .i64 m) = w3 at *
      have c0 := (S.lv 0 rfl).all
      go_wp2_with fail
      ((with_reducible refine (Hdm.out w3 S.b).mono ?_); rintro e w4 ⟨rfl, hl4⟩)
      rw [show aVal am = Value.agg #[.bool am.1, .int .i64 am.2.1, .int .i64 am.2.2] from rfl]
      replace S := S.below hl4
      clear hl4 Hdm c0
      go_upto_region 7 with fail
      obtain ⟨Y, hY⟩ : ∃ Y, Y = w4.heap.size := ⟨_, rfl⟩
      replace S := S.newAt (aCs am.1 am.2.1 am.2.2) 105 Y hY
      rw [← hY]
      clear hY
      generalize w4.alloc (.cells (aCs am.1 am.2.1 am.2.2) 105) = w10 at *
      rcases HO.out with ⟨hj0, ho, hv⟩ | ⟨T, ho, hT⟩
      · clear HO
        subst hj0 ho hv
        obtain rfl : m = 0 := by have := Hm.out; rw [HL1.out.2.1] at this; cases this; rfl
        obtain rfl : am = a0 := by rw [← Ham.out, Ha0.out]
        have c6 := (S.lv 3 rfl).all
        go_wp2_with fail
        go_quiet (fail)
        replace S := S.below (below_drewN _ w10 nq)
        clear c6
        generalize w10.drewN nq = wq at *
        have c6 := (S.lv 3 rfl).all
        have hsz := S.b.size
        go_wp2_with (at_builtin; refine S.app 1 rfl tyPer rfl _ _ rfl (⟨0, 4321440, am⟩ : Per) 1 rfl rfl rfl (onePer ⟨0, 4321440, am⟩) hsz (by simp) (by decide) ?_; intro v' w12 S6)
        go_roundw
        case rel => exact ⟨1, _, 0, by omega, by go_num, .inr ⟨[], rfl, HL1.out.2.2⟩, S6.del 3⟩
        case measure => simp [intOf]; omega
      · subst ho
        have HT := Lib.hid hT
        clear HO hT
        have hTl : T.length ≤ 3001 := by
          have h1 := congrArg List.length HT.out
          rw [List.length_append] at h1
          have := HTl.out
          omega
        obtain ⟨g, cap, hv⟩ : ∃ g cap, u7 = .slice (some ⟨g, 0, none⟩) (pers (0, a0) T).length cap := by
          rcases (S.ow 1 rfl).shape with ⟨_, e⟩ | h
          · have := pers_len T (0, a0); rw [e] at this; cases this
          · exact h
        rw [pers_len] at hv
        subst hv
        have HT2 := HT.out
        rw [steps_at Hm.out, Ham.out] at HT2
        have HT3 := Lib.hid HT2
        obtain ⟨la, hla⟩ : ∃ la, (lastS (0, a0) T).2 = la := ⟨_, rfl⟩
        rw [hla] at HT3
        clear HT2 HT
        have c6 := (S.lv 3 rfl).all
        have hPl := pers_last T (0, a0)
        have hc2 := ((S.ow 1 rfl).cellP flatPer (by rw [pers_len]) T.length _ hPl 2 _ rfl).1
        have hc3 := ((S.ow 1 rfl).cellP flatPer (by rw [pers_len]) T.length _ hPl 3 _ rfl).1
        have hc4 := ((S.ow 1 rfl).cellP flatPer (by rw [pers_len]) T.length _ hPl 4 _ rfl).1
        rw [show rPer.size = 5 from rfl] at hc2 hc3 hc4
        dsimp only at hc2 hc3 hc4
        rw [hla] at hc2 hc3 hc4
        clear hPl
        by_cases hne : am = la
        · have HT4 : Hid (T ++ steps f la (L.drop (j + 1)) = Tot) := by show _ = _; rw [← HT3.out, if_pos hne]
          subst hne
          clear HT3
          go_wp2_with fail
          go_quiet (fail)
          go_wp2_with fail
          go_roundw
          case rel => exact ⟨j + 1, _, m, by omega, by go_num, .inr ⟨T, rfl, (by rw [hla]; exact HT4)⟩, (S.del 3).below (below_drewN _ _ _)⟩
          case measure => simp [intOf]; omega
        · have HT4 : Hid ((T ++ [(m, am)]) ++ steps f (lastS (0, a0) (T ++ [(m, am)])).2 (L.drop (j + 1)) = Tot) := by
            show _ = _
            rw [← HT3.out, if_neg hne, lastS_snoc, List.append_assoc]
            rfl
          clear HT3 hla
          rcases ans_ne (fun e => hne e.symm) with h1 | ⟨h1, h2⟩ | ⟨h1, h2, h3⟩
          · clear hne
            go_wp2_with fail
            go_quiet (fail)
            replace S := S.below (below_drewN _ w10 nq)
            clear hc2 hc3 hc4 c6
            generalize w10.drewN nq = wq at *
            have hPl := pers_last T (0, a0)
            have hc1 := ((S.ow 1 rfl).cellP flatPer (by rw [pers_len]) T.length _ hPl 1 _ rfl)
            rw [show rPer.size = 5 from rfl] at hc1
            dsimp only at hc1
            replace S := S.put flatPer 1 rfl (by rw [pers_len]) T.length _ (⟨(lastS (0, a0) T).1, m, (lastS (0, a0) T).2⟩ : Per) hPl 1 (by decide) (.int .i64 m) rfl
            rw [show rPer.size = 5 from rfl] at S
            clear hPl
            go_upto_region 11 with fail
            clear hc1
            generalize World.setCell wq _ _ = w11 at *
            have c6 := (S.lv 3 rfl).all
            have hsz := S.b.size
            have HPl := Lib.hid (pers_len T (0, a0))
            have HPs := Lib.hid (pers_snoc T (0, a0) (m, am))
            have HS0 := Lib.hid S
            clear S
            generalize pers (0, a0) T = pT at *
            generalize hpS : pT.set T.length _ = pS at *
            generalize Value.slice (some ⟨g, 0, none⟩) (T.length + 1) cap = vv at *
            go_wp2_with (at_builtin; refine HS0.out.app 1 rfl tyPer rfl _ _ rfl (⟨m, 4321440, am⟩ : Per) 1 rfl rfl rfl (onePer ⟨m, 4321440, am⟩) hsz (by rw [← hpS, List.length_set, HPl.out]; omega) (by decide) ?_; intro v' w12 S6)
            go_roundw
            case rel => exact ⟨j + 1, _, m, by omega, by go_num, .inr ⟨T ++ [(m, am)], HPs.out.symm, HT4⟩, S6.del 3⟩
            case measure => simp [intOf]; omega
          · clear hne
            go_wp2_with fail
            go_quiet (fail)
            replace S := S.below (below_drewN _ w10 nq)
            clear hc2 hc3 hc4 c6
            generalize w10.drewN nq = wq at *
            have hPl := pers_last T (0, a0)
            have hc1 := ((S.ow 1 rfl).cellP flatPer (by rw [pers_len]) T.length _ hPl 1 _ rfl)
            rw [show rPer.size = 5 from rfl] at hc1
            dsimp only at hc1
            replace S := S.put flatPer 1 rfl (by rw [pers_len]) T.length _ (⟨(lastS (0, a0) T).1, m, (lastS (0, a0) T).2⟩ : Per) hPl 1 (by decide) (.int .i64 m) rfl
            rw [show rPer.size = 5 from rfl] at S
            clear hPl
            go_upto_region 11 with fail
            clear hc1
            generalize World.setCell wq _ _ = w11 at *
            have c6 := (S.lv 3 rfl).all
            have hsz := S.b.size
            have HPl := Lib.hid (pers_len T (0, a0))
            have HPs := Lib.hid (pers_snoc T (0, a0) (m, am))
            have HS0 := Lib.hid S
            clear S
            generalize pers (0, a0) T = pT at *
            generalize hpS : pT.set T.length _ = pS at *
            generalize Value.slice (some ⟨g, 0, none⟩) (T.length + 1) cap = vv at *
            go_wp2_with (at_builtin; refine HS0.out.app 1 rfl tyPer rfl _ _ rfl (⟨m, 4321440, am⟩ : Per) 1 rfl rfl rfl (onePer ⟨m, 4321440, am⟩) hsz (by rw [← hpS, List.length_set, HPl.out]; omega) (by decide) ?_; intro v' w12 S6)
            go_roundw
            case rel => exact ⟨j + 1, _, m, by omega, by go_num, .inr ⟨T ++ [(m, am)], HPs.out.symm, HT4⟩, S6.del 3⟩
            case measure => simp [intOf]; omega
          · clear hne
            go_wp2_with fail
            go_quiet (fail)
            replace S := S.below (below_drewN _ w10 nq)
            clear hc2 hc3 hc4 c6
            generalize w10.drewN nq = wq at *
            have hPl := pers_last T (0, a0)
            have hc1 := ((S.ow 1 rfl).cellP flatPer (by rw [pers_len]) T.length _ hPl 1 _ rfl)
            rw [show rPer.size = 5 from rfl] at hc1
            dsimp only at hc1
            replace S := S.put flatPer 1 rfl (by rw [pers_len]) T.length _ (⟨(lastS (0, a0) T).1, m, (lastS (0, a0) T).2⟩ : Per) hPl 1 (by decide) (.int .i64 m) rfl
            rw [show rPer.size = 5 from rfl] at S
            clear hPl
            go_upto_region 11 with fail
            clear hc1
            generalize World.setCell wq _ _ = w11 at *
            have c6 := (S.lv 3 rfl).all
            have hsz := S.b.size
            have HPl := Lib.hid (pers_len T (0, a0))
            have HPs := Lib.hid (pers_snoc T (0, a0) (m, am))
            have HS0 := Lib.hid S
            clear S
            generalize pers (0, a0) T = pT at *
            generalize hpS : pT.set T.length _ = pS at *
            generalize Value.slice (some ⟨g, 0, none⟩) (T.length + 1) cap = vv at *
            go_wp2_with (at_builtin; refine HS0.out.app 1 rfl tyPer rfl _ _ rfl (⟨m, 4321440, am⟩ : Per) 1 rfl rfl rfl (onePer ⟨m, 4321440, am⟩) hsz (by rw [← hpS, List.length_set, HPl.out]; omega) (by decide) ?_; intro v' w12 S6)
            go_roundw
            case rel => exact ⟨j + 1, _, m, by omega, by go_num, .inr ⟨T ++ [(m, am)], HPs.out.symm, HT4⟩, S6.del 3⟩
            case measure => simp [intOf]; omega
    · have hj1 : j = L.length := by omega
      rcases HO.out with ⟨hj0, ho, hv⟩ | ⟨T, ho, hT⟩
      · have := HL1.out.1; omega
      · have HTe : T = Tot := by
          rw [List.drop_eq_nil_of_le (by omega), steps, List.append_nil] at hT
          exact hT
        obtain rfl : out = Rs := by rw [ho, HTe]; exact HR0.out
        clear HO ho hT HTe HR0
        obtain ⟨A2, c2, e2, hS⟩ := ((S.ow 1 rfl).flatM flatPer (M' := Lt w.heap.size)).toSlC (fun k h1 h2 => by unfold Lt at h2; omega)
        have He := Lib.hid e2
        have HS2 := Lib.hid hS.2
        clear hS e2
        go_wp2_with fail
        go_ret
        exact ⟨A2, c2, congrArg Ending.returned He.out, HS2.out, S.b⟩
end Go.Proofs.YthmkphmciiiagaaGreatDoor

/- What handref2.NextOf returns. -/
namespace Go.Proofs.YthmkphmciiiagaaGreatDoor
open Go Go.RowKit
theorem steps_mem {f : Int → Ans} : ∀ {L : List Int} {cur : Ans} {y : Int × Ans}, y ∈ steps f cur L → y.1 ∈ L
  | [], _, _, h => by cases h
  | m :: r, cur, y, h => by
    unfold steps at h
    split at h
    · exact List.mem_cons_of_mem _ (steps_mem h)
    · rcases List.mem_cons.1 h with rfl | h
      · exact List.mem_cons_self ..
      · exact List.mem_cons_of_mem _ (steps_mem h)
theorem pers_to {P : Int → Prop} (he : P 4321440) : ∀ {T : List (Int × Ans)} {x : Int × Ans}, (∀ y ∈ T, P y.1) → ∀ e ∈ pers x T, P e.to'
  | [], x, _, e, h => by
    rw [pers, List.mem_singleton] at h
    rw [h]; exact he
  | y :: r, x, hy, e, h => by
    rw [pers] at h
    rcases List.mem_cons.1 h with rfl | h
    · exact hy y (List.mem_cons_self ..)
    · exact pers_to he (fun z hz => hy z (List.mem_cons_of_mem _ hz)) e h
theorem nextR_at {at' : Int} {P : List Per} {j : Nat} {x : Per} (h : P[j]? = some x) : nextR at' (P.drop j) = if x.from' ≤ at' ∧ at' ≤ x.to' - 1 then x.to' else nextR at' (P.drop (j + 1)) := by
  obtain ⟨hk, rfl⟩ := List.getElem?_eq_some_iff.1 h
  rw [List.drop_eq_getElem_cons hk, nextR]
theorem perA_len {p : List Purp} {l : List Stm} {k : Int} {t pu rg : ByteArray} {ch : Int} (hl : l.length ≤ 1000) : (perA p l k t pu rg ch).length ≤ 3002 := by
  have h1 := momL_len (rawR ((termAt p pu rg ch).getD tZero) k t ch l)
  have h2 := flatMap_len (turnS ((termAt p pu rg ch).getD tZero) k t ch) 3 (turnS_len _ k t ch) l
  unfold rawR at h1
  rw [List.length_cons] at h1
  unfold perA perAns
  rw [pers_len]
  have h3 := steps_len (ansF p l k t pu rg ch) (refL p l k t pu rg ch) (ansF p l k t pu rg ch 0)
  unfold refL rawR at h3 ⊢
  omega
end Go.Proofs.YthmkphmciiiagaaGreatDoor

/- What handref2.ExpiringOf returns. -/
namespace Go.Proofs.YthmkphmciiiagaaGreatDoor
open Go Go.RowKit
theorem refGo_at {E : Stm → List Int} {out : List Xpy} {l : List Stm} {j : Nat} {s : Stm} (h : l[j]? = some s) : refGo E out (l.drop j) = if (s.purpose.toList == []) = true then refGo E out (l.drop (j + 1)) else refGo E (((E s).map (mkX s)).foldl addX out) (l.drop (j + 1)) := by
  obtain ⟨hk, rfl⟩ := List.getElem?_eq_some_iff.1 h
  rw [List.drop_eq_getElem_cons hk, refGo]
theorem refIn_at {s : Stm} {lo hi last : Int} {out : List Xpy} {P : List Per} {j : Nat} {x : Per} (h : P[j]? = some x) : refIn s lo hi last out (P.drop j) = refIn s lo hi x.a.2.1 (if last = 2 ∧ x.a.2.1 = 7 ∧ lo ≤ x.from' ∧ x.from' ≤ hi - 1 ∧ mkX s x.from' ∉ out then out ++ [mkX s x.from'] else out) (P.drop (j + 1)) := by
  obtain ⟨hk, rfl⟩ := List.getElem?_eq_some_iff.1 h
  rw [List.drop_eq_getElem_cons hk, refIn]
set_option maxHeartbeats 16000000 in
set_option maxRecDepth 100000 in
theorem refExpiring_any (A Al : Option Addr) (p : List Purp) (l : List Stm) (c cl : Nat) (rg : ByteArray) (lo hi : Int) (w : World) (hS : Sl rPurp (fun _ => False) w A p) (hg : GoodPol p) (hL : Sl rStm (fun _ => False) w Al l) (hgl : GoodL p l) (hl : l.length ≤ 19) (hch : ∀ s ∈ l, 0 ≤ s.channel ∧ s.channel ≤ 100) (hw : 0 ≤ lo ∧ lo ≤ hi ∧ hi ≤ 4321440) :
    Calls Tryz.prog 50 #[.slice A p.length c, .slice Al l.length cl, .string rg, .agg #[.int .i64 lo, .int .i64 hi]] w fun e w' => ∃ A2 c2 zs, e = .returned (.slice A2 zs.length c2) ∧ zs.Perm (refGo (expE p l rg lo hi) [] l) ∧ zs.Pairwise (fun a b => xordP a b ≤ 0) ∧ Sl rXpy (Lt w.heap.size) w' A2 zs ∧ Below w.heap.size w w' := by
  have HLs := Lib.hid (fun w' (h : Below w.heap.size w w') => hL.keepB h)
  have Hpe := Lib.hid (fun k t pu ch w' (h : Below w.heap.size w w') => refPeriods_any A Al p l c cl k t pu rg ch 0 w' (hS.keepB h) hg (hL.keepB h) hgl (by omega))
  have HPl := Lib.hid (fun k t pu ch => perA_len (p := p) (l := l) (k := k) (t := t) (pu := pu) (rg := rg) (ch := ch) (by omega))
  have Hch := Lib.hid hch
  have Hl := Lib.hid hl
  obtain ⟨Rs, HRs⟩ : ∃ Rs, Hid (refGo (expE p l rg lo hi) [] l = Rs) := ⟨_, Lib.hid rfl⟩
  rw [HRs.out]
  have hwm : IntKind.i64.wrap (hi - 1) = hi - 1 := IntWalk.i64_in _ (by omega)
  obtain ⟨hw1, hw2, hw3⟩ := hw
  clear hS hg hL hgl hl hch
  have S := ((Mem.start w).nil rXpy w.heap.size 87).new' #[.int .i64 lo, .int .i64 hi] 78
  replace S : Mem w (w.alloc (.cells #[.int .i64 lo, .int .i64 hi] 78)) [.own rXpy w.heap.size 87 (.slice none 0 0) [], .loc w.heap.size #[.int .i64 lo, .int .i64 hi] 78] := S
  go_enter Tryz.func50, Tryz.ntmps50
  go_upto_region 2 with fail
  generalize w.alloc (.cells #[.int .i64 lo, .int .i64 hi] 78) = w1 at *
  go_wp2_with fail
  go_loopw [9, 19] (fun v i wr => ∃ (j : Nat) (out : List Xpy), j ≤ l.length ∧ i = .int .i64 j ∧ Hid (out.length ≤ j * 5000) ∧ Hid (∀ x ∈ out, XpyB x) ∧ Hid (refGo (expE p l rg lo hi) out (l.drop j) = Rs) ∧ Mem w wr [.own rXpy w.heap.size 87 v out, .loc w.heap.size #[.int .i64 lo, .int .i64 hi] 78]) (fun _ i _ => l.length - (intOf i).toNat)
  case atStart => exact ⟨0, [], Nat.zero_le _, rfl, Nat.zero_le _, Lib.hid (fun x hx => by simp at hx), HRs, S⟩
  case round =>
    clear S HRs
    obtain ⟨j, out, hj, rfl, HO, HB, HR, S⟩ := hrel
    obtain ⟨Ao, co, rfl⟩ := (S.ow 0 rfl).len
    have hll := Hl.out
    by_cases hlt : j < l.length
    · obtain ⟨s, hs⟩ : ∃ s, l[j]? = some s := ⟨_, List.getElem?_eq_getElem hlt⟩
      obtain ⟨blk, off, rfl, _, d0, d1, d2, d3, d4, d5, d6, d7⟩ := (HLs.out wr S.b).stm j s hs
      have hc := Hch.out s (List.mem_of_getElem? hs)
      have HR2 : Hid ((if (s.purpose.toList == []) = true then refGo (expE p l rg lo hi) out (l.drop (j + 1)) else refGo (expE p l rg lo hi) (((expE p l rg lo hi s).map (mkX s)).foldl addX out) (l.drop (j + 1))) = Rs) := by show _ = _; rw [← HR.out, refGo_at hs]
      clear hs HR
      go_upto_region 5 with fail
      clear d0 d1 d2 d3 d4 d5 d6 d7
      obtain ⟨Y, hY⟩ : ∃ Y, Y = wr.heap.size := ⟨_, rfl⟩
      replace S := S.newAt (stmCs s) 38 Y hY
      rw [← hY]
      clear hY
      generalize wr.alloc (.cells (stmCs s) 38) = w4 at *
      have c3 := (S.lv 2 rfl).all
      cases hp : (s.purpose.toList == []) with
      | true =>
        have HR3 : Hid (refGo (expE p l rg lo hi) out (l.drop (j + 1)) = Rs) := by show _ = _; rw [← HR2.out, if_pos hp]
        have ho := HO.out
        clear HR2
        go_wp2_with fail
        go_roundw
        case rel => exact ⟨j + 1, out, by omega, by go_num, by show _ ≤ _; omega, HB, HR3, S.del 2⟩
        case measure => simp [intOf]; omega
      | false =>
        have HR3 : Hid (refGo (expE p l rg lo hi) (((expE p l rg lo hi s).map (mkX s)).foldl addX out) (l.drop (j + 1)) = Rs) := by show _ = _; rw [← HR2.out, if_neg (by rw [hp]; simp)]
        have ho := HO.out
        clear HR2
        go_upto_region 7 with fail
        obtain ⟨Q, hQ⟩ : ∃ Q, Q = w4.heap.size := ⟨_, rfl⟩
        replace S := S.newAt (qqCs s.kind s.text s.purpose rg s.channel 0) 31 Q hQ
        rw [← hQ]
        clear hQ c3
        generalize w4.alloc (.cells (qqCs s.kind s.text s.purpose rg s.channel 0) 31) = w5 at *
        have c4 := (S.lv 3 rfl).all
        have Hp1 := Lib.hid (Hpe.out s.kind s.text s.purpose s.channel)
        have HPl1 := Lib.hid (HPl.out s.kind s.text s.purpose s.channel)
        obtain ⟨Mid, HMid⟩ : ∃ Mid, Hid (refIn s lo hi 0 out (perA p l s.kind s.text s.purpose rg s.channel) = Mid) := ⟨_, Lib.hid rfl⟩
        have HR4 : Hid (refGo (expE p l rg lo hi) Mid (l.drop (j + 1)) = Rs) := by
          show _ = _
          rw [← HMid.out, refIn_is]
          exact HR3.out
        clear HR3
        generalize perA p l s.kind s.text s.purpose rg s.channel = P at *
        go_wp2_with fail
        ((with_reducible refine (Hp1.out w5 S.b).mono ?_); rintro e w6 ⟨Ap, cp, rfl, hSp, hl6⟩)
        replace S := S.call hl6 (.sl rPer Ap P) hSp (fun k e => by cases e)
        clear hl6 hSp Hp1 c4
        replace S : Mem w w6 [.own rXpy w.heap.size 87 (.slice Ao out.length co) out, .loc w.heap.size #[.int .i64 lo, .int .i64 hi] 78, .loc Y (stmCs s) 38, .loc Q (qqCs s.kind s.text s.purpose rg s.channel 0) 31, .sl rPer Ap P] := S
        go_wp2_with fail
        go_loopw [9, 13, 39] (fun v la i wr => ∃ (n : Nat) (o : List Xpy) (last : Int), n ≤ P.length ∧ i = .int .i64 n ∧ la = .int .i64 last ∧ Hid (o.length ≤ j * 5000 + n) ∧ Hid (∀ x ∈ o, XpyB x) ∧ Hid (refIn s lo hi last o (P.drop n) = Mid) ∧ Mem w wr [.own rXpy w.heap.size 87 v o, .loc w.heap.size #[.int .i64 lo, .int .i64 hi] 78, .loc Y (stmCs s) 38, .loc Q (qqCs s.kind s.text s.purpose rg s.channel 0) 31, .sl rPer Ap P]) (fun _ _ i _ => P.length - (intOf i).toNat)
        case atStart => exact ⟨0, out, 0, Nat.zero_le _, rfl, rfl, by show _ ≤ _; omega, HB, HMid, S⟩
        case round =>
          clear S HMid
          obtain ⟨n, o, last, hn, rfl, rfl, HO2, HB2, HM2, S⟩ := hrel
          obtain ⟨Ao2, co2, rfl⟩ := (S.ow 0 rfl).len
          have hPl := HPl1.out
          by_cases hnl : n < P.length
          · skip
            obtain ⟨x, hx⟩ : ∃ x, P[n]? = some x := ⟨_, List.getElem?_eq_getElem hnl⟩
            obtain ⟨blk2, off2, rfl, _, e0, e1, e2, e3, e4⟩ := (S.slc 4 rfl).per n x hx
            have Hx := Lib.hid hx
            clear hx
            go_upto_region 11 with fail
            clear e0 e1 e2 e3 e4
            obtain ⟨V, hV⟩ : ∃ V, V = wr.heap.size := ⟨_, rfl⟩
            replace S := S.newAt #[.int .i64 x.from', .int .i64 x.to', .bool x.a.1, .int .i64 x.a.2.1, .int .i64 x.a.2.2] 171 V hV
            rw [← hV]
            clear hV
            generalize wr.alloc (.cells #[.int .i64 x.from', .int .i64 x.to', .bool x.a.1, .int .i64 x.a.2.1, .int .i64 x.a.2.2] 171) = w7 at *
            have c2 := (S.lv 2 rfl).all
            have c5 := (S.lv 5 rfl).all
            go_upto_region 12 with fail
            obtain ⟨Z, hZ⟩ : ∃ Z, Z = w7.heap.size := ⟨_, rfl⟩
            replace S := S.newAt (xCs (mkX s x.from')) 87 Z hZ
            rw [← hZ]
            clear hZ c2 c5
            replace S : Mem w (w7.alloc (.cells (xCs (mkX s x.from')) 87)) [.own rXpy w.heap.size 87 (.slice Ao2 o.length co2) o, .loc w.heap.size #[.int .i64 lo, .int .i64 hi] 78, .loc Y (stmCs s) 38, .loc Q (qqCs s.kind s.text s.purpose rg s.channel 0) 31, .sl rPer (some ⟨blk2, off2, none⟩) P, .loc V #[.int .i64 x.from', .int .i64 x.to', .bool x.a.1, .int .i64 x.a.2.1, .int .i64 x.a.2.2] 171, .loc Z (xCs (mkX s x.from')) 87] := S
            generalize w7.alloc (.cells (xCs (mkX s x.from')) 87) = w8 at *
            have c1 := (S.lv 1 rfl).all
            have c5 := (S.lv 5 rfl).all
            have c6 := (S.lv 6 rfl).all
            by_cases p1 : last = 2
            · have b1 : (last == 2) = true := by simpa using p1
              have P1 := Lib.hid p1
              clear p1
              by_cases p2 : x.a.2.1 = 7
              · have b2 : (x.a.2.1 == 7) = true := by simpa using p2
                have P2 := Lib.hid p2
                clear p2
                go_wp2_with fail
                ((with_reducible refine (in_any _ _ _ _).mono ?_); rintro e _ ⟨rfl, rfl⟩)
                by_cases p3 : lo ≤ x.from' ∧ x.from' ≤ hi - 1
                · have b3 : decide (lo ≤ x.from' ∧ x.from' ≤ hi - 1) = true := decide_eq_true p3
                  have P3 := Lib.hid p3
                  have hct := Lib.hid (containsXpy_any S (mkX s x.from') (by have := HO2.out; omega))
                  rw [b3]
                  clear p3 b3
                  by_cases p4 : mkX s x.from' ∈ o
                  · rw [decide_eq_true p4] at hct
                    have HM4 : Hid (refIn s lo hi x.a.2.1 o (P.drop (n + 1)) = Mid) := by
                      show _ = _
                      rw [← HM2.out, refIn_at Hx.out, if_neg (fun h => ?_)]
                      exact h.2.2.2.2 p4
                    have ho2 := HO2.out
                    clear p4 HM2
                    go_wp2_with fail
                    ((with_reducible refine (hct.out).mono ?_); rintro e w9 ⟨rfl, hl9⟩)
                    replace S := S.below hl9
                    clear hl9 hct c1 c5 c6
                    have c5 := (S.lv 5 rfl).all
                    go_wp2_with fail
                    go_roundw
                    case rel => exact ⟨n + 1, o, x.a.2.1, by omega, by go_num, rfl, by show _ ≤ _; omega, HB2, HM4, (S.del 6).del 5⟩
                    case measure => simp [intOf]; omega
                  · rw [decide_eq_false p4] at hct
                    have HM4 : Hid (refIn s lo hi x.a.2.1 (o ++ [mkX s x.from']) (P.drop (n + 1)) = Mid) := by
                      show _ = _
                      rw [← HM2.out, refIn_at Hx.out, if_pos ⟨P1.out, P2.out, P3.out.1, P3.out.2, p4⟩]
                    have HB3 : Hid (∀ y ∈ o ++ [mkX s x.from'], XpyB y) := fun y hy => by
                      rcases List.mem_append.1 hy with hy | hy
                      · exact HB2.out y hy
                      · rw [List.mem_singleton.1 hy]
                        exact ⟨⟨by have := P3.out.1; show (0 : Int) ≤ x.from'; omega, by have := P3.out.2; show x.from' ≤ 4321439; omega⟩, hc⟩
                    have ho2 := HO2.out
                    clear p4 HM2
                    go_wp2_with fail
                    ((with_reducible refine (hct.out).mono ?_); rintro e w9 ⟨rfl, hl9⟩)
                    replace S := S.below hl9
                    clear hl9 hct c1 c5 c6
                    have c6 := (S.lv 6 rfl).all
                    have hsz := S.b.size
                    go_upto_region 14 with (at_builtin; refine S.app 0 rfl tyXpy rfl _ _ rfl (mkX s x.from') 1 rfl rfl rfl (oneXpy (mkX s x.from')) hsz (by omega) (by decide) ?_; intro v' w12 S4)
                    have c5 := (S4.lv 5 rfl).all
                    go_wp2_with fail
                    go_roundw
                    case rel => exact ⟨n + 1, o ++ [mkX s x.from'], x.a.2.1, by omega, by go_num, rfl, by show _ ≤ _; rw [List.length_append, List.length_singleton]; omega, HB3, HM4, (S4.del 6).del 5⟩
                    case measure => simp [intOf]; omega
                · have b3 : decide (lo ≤ x.from' ∧ x.from' ≤ hi - 1) = false := decide_eq_false p3
                  rw [b3]
                  have HM4 : Hid (refIn s lo hi x.a.2.1 o (P.drop (n + 1)) = Mid) := by
                    show _ = _
                    rw [← HM2.out, refIn_at Hx.out, if_neg (fun h => ?_)]
                    exact p3 ⟨h.2.2.1, h.2.2.2.1⟩
                  have ho2 := HO2.out
                  clear p3 b3 HM2
                  go_wp2_with fail
                  go_roundw
                  case rel => exact ⟨n + 1, o, x.a.2.1, by omega, by go_num, rfl, by show _ ≤ _; omega, HB2, HM4, (S.del 6).del 5⟩
                  case measure => simp [intOf]; omega
              · have b2 : (x.a.2.1 == 7) = false := by simpa using p2
                have HM4 : Hid (refIn s lo hi x.a.2.1 o (P.drop (n + 1)) = Mid) := by
                  show _ = _
                  rw [← HM2.out, refIn_at Hx.out, if_neg (fun h => ?_)]
                  exact p2 h.2.1
                have ho2 := HO2.out
                clear p2 HM2
                go_wp2_with fail
                go_roundw
                case rel => exact ⟨n + 1, o, x.a.2.1, by omega, by go_num, rfl, by show _ ≤ _; omega, HB2, HM4, (S.del 6).del 5⟩
                case measure => simp [intOf]; omega
            · have b1 : (last == 2) = false := by simpa using p1
              have HM4 : Hid (refIn s lo hi x.a.2.1 o (P.drop (n + 1)) = Mid) := by
                show _ = _
                rw [← HM2.out, refIn_at Hx.out, if_neg (fun h => ?_)]
                exact p1 h.1
              have ho2 := HO2.out
              clear p1 HM2
              go_wp2_with fail
              go_roundw
              case rel => exact ⟨n + 1, o, x.a.2.1, by omega, by go_num, rfl, by show _ ≤ _; omega, HB2, HM4, (S.del 6).del 5⟩
              case measure => simp [intOf]; omega
          · obtain rfl : o = Mid := by
              rw [← HM2.out, List.drop_eq_nil_of_le (by omega)]
              rfl
            clear HM2
            have ho2 := HO2.out
            go_wp2_with fail
            go_roundw
            case rel => exact ⟨j + 1, o, by omega, by go_num, by show _ ≤ _; omega, HB2, HR4, ((S.del 4).del 3).del 2⟩
            case measure => simp [intOf]; omega
    · obtain rfl : out = Rs := by
        rw [← HR.out, List.drop_eq_nil_of_le (by omega)]
        rfl
      clear HR
      have ho := HO.out
      have Hso := Lib.hid (sortXR_any S 0 rfl HB.out (by omega))
      clear S
      go_wp2_with fail
      ((with_reducible refine (Hso.out).mono ?_); rintro e w6 ⟨rfl, ys, hp, hs, S⟩)
      replace S : Mem w w6 [.own rXpy w.heap.size 87 (.slice Ao out.length co) ys, .loc w.heap.size #[.int .i64 lo, .int .i64 hi] 78] := S
      obtain ⟨A2, c2, e2, S⟩ := S.frz 0 rfl
      have HFs := Lib.hid (S.outSl 0 rfl)
      have He := Lib.hid e2
      have Hp := Lib.hid hp
      clear hp e2
      go_wp2_with fail
      go_ret
      exact ⟨A2, c2, ys, by rw [He.out]; rfl, Hp.out, hs, HFs.out, S.b⟩
end Go.Proofs.YthmkphmciiiagaaGreatDoor

/- The law ConsentAsks walked: it returns true, and nothing that was there has turned. -/
namespace Go.Proofs.YthmkphmciiiagaaGreatDoor
open Go Go.RowKit
theorem loadIdQ {w : World} {X : Nat} {k : Int} {t pu rg : ByteArray} {ch at' : Int} (h : LV w X (qqCs k t pu rg ch at') 31) : (Instr.loadAt 29 (.pointer (some ⟨X, 0, none⟩))).run Tryz.prog w = .ok (.agg #[.int .i64 k, .string t]) w := by
  have c := h.all
  go_simp
theorem loadQQ {w : World} {X : Nat} {k : Int} {t pu rg : ByteArray} {ch at' : Int} (h : LV w X (qqCs k t pu rg ch at') 31) : (Instr.loadAt 31 (.pointer (some ⟨X, 0, none⟩))).run Tryz.prog w = .ok (.agg (qqCs k t pu rg ch at')) w := by
  have c := h.all
  go_simp
theorem loadAA {w : World} {X : Nat} {m : Bool} {a b : Int} (h : LV w X (aCs m a b) 105) : (Instr.loadAt 105 (.pointer (some ⟨X, 0, none⟩))).run Tryz.prog w = .ok (.agg (aCs m a b)) w := by
  have c := h.all
  go_simp
set_option maxHeartbeats 4000000 in
set_option maxRecDepth 100000 in
theorem questionOr_any (N : Nat → Prop) (A : Option Addr) (p : List Purp) (c : Nat) (fault k : Int) (t pu rg : ByteArray) (ch at' : Int) (w : World) (hS : Sl rPurp N w A p) (hl : p.length ≤ 1000000) (ht : t.size ≤ 1000000) (hrg : rg.size ≤ 1000000000) (hM : MaxL w) :
    Calls Tryz.prog 13 #[.int .i64 fault, .slice A p.length c, .agg (qqCs k t pu rg ch at')] w fun e w' => e = .returned (.int .i64 (first3 fault (L.idFault k t) (qErr p pu rg ch at'))) ∧ Below w.heap.size w w' := by
  have S := (Mem.start w).new' (qqCs k t pu rg ch at') 31
  have H1 := Lib.hid (fun w' (h : Below w.heap.size w w') => refId_any k t w' ht (hM.below h))
  have H2 := Lib.hid (fun w' (h : Below w.heap.size w w') => questionFault_any N A p c k t pu rg ch at' w' (hS.keepB h) hl hrg)
  generalize L.idFault k t = F2 at *
  generalize qErr p pu rg ch at' = F3 at *
  have HR : Hid (first3 fault F2 F3 = firstErr [fault, F2, F3]) := by
    show _ = _
    simp only [first3, firstErr]
    split
    · rfl
    · split
      · rfl
      · split
        · rfl
        · rename_i h; exact Decidable.not_not.1 h
  generalize first3 fault F2 F3 = R at *
  clear hS hM
  go_enter Tryz.func13, Tryz.ntmps13
  go_wp2_with fail
  replace S : Mem w (w.alloc (.cells (qqCs k t pu rg ch at') 31)) [.loc w.heap.size (qqCs k t pu rg ch at') 31] := S
  generalize w.alloc (.cells (qqCs k t pu rg ch at') 31) = w1 at *
  refine wp_region_mix (fun w' => LV w' w.heap.size (qqCs k t pu rg ch at') 31) [(true, 0), (true, 1), (true, 2), (true, 4), (true, 5), (false, 3), (false, 6), (false, 7), (false, 8), (true, 9)] (by kernel_rfl) (by kernel_rfl) (fun w' hd => (S.below (hd.below _)).lv 0 rfl) (fun KK hKK wd hd => ?_)
  replace S := S.below (hd.below _)
  clear hd
  repeat (refine mix_p rfl (fun K hK => ?_); go_simp; (try go_bits); (try simp (disch := omega) only [if_pos]); (try simp (disch := omega) only [if_neg]); (try simp (disch := omega) only [dif_pos]); (try simp (disch := omega) only [dif_neg]); (try go_simp); (refine hK _ ?_; clear hK K))
  refine mix_loadR (.agg #[.int .i64 k, .string t]) rfl rfl rfl rfl (fun w' h => loadIdQ h) ?_
  repeat (refine mix_p rfl (fun K hK => ?_); go_simp; (try go_bits); (try simp (disch := omega) only [if_pos]); (try simp (disch := omega) only [if_neg]); (try simp (disch := omega) only [dif_pos]); (try simp (disch := omega) only [dif_neg]); (try go_simp); (refine hK _ ?_; clear hK K))
  refine mix_loadR (.agg (qqCs k t pu rg ch at')) rfl rfl rfl rfl (fun w' h => loadQQ h) ?_
  refine mix_l rfl (fun K hK => ?_) (S.lv 0 rfl)
  go_wp2_with fail
  ((with_reducible refine (H1.out wd S.b).mono ?_); rintro e w3 ⟨rfl, hl3⟩)
  replace S := S.below hl3
  clear hl3 H1
  have hC := S.lv 0 rfl
  go_wp2_with fail
  refine ⟨hC, ?_⟩
  clear hC
  refine mix_l rfl (fun K hK => ?_) (S.lv 0 rfl)
  go_wp2_with fail
  ((with_reducible refine (H2.out w3 S.b).mono ?_); rintro e w4 ⟨rfl, hl4⟩)
  replace S := S.below hl4
  clear hl4 H2
  have hC := S.lv 0 rfl
  go_wp2_with fail
  refine ⟨hC, ?_⟩
  clear hC
  refine mix_l rfl (fun K hK => ?_) (S.lv 0 rfl)
  have S5 := S.alloc (.cells #[.int .i64 fault, .int .i64 F2, .int .i64 F3] 32)
  have hC := S5.lv 0 rfl
  have HW := Lib.hid (wrongOr_any w4.heap.size [fault, F2, F3] (w4.alloc (.cells #[.int .i64 fault, .int .i64 F2, .int .i64 F3] 32)) (LV.new w4 w4.heap.size #[.int .i64 fault, .int .i64 F2, .int .i64 F3] 32 rfl) (by simp))
  rw [← HR.out] at HW
  simp only [List.length_cons, List.length_nil, Nat.zero_add, Nat.reduceAdd] at HW
  go_wp2_with fail
  refine ⟨hC, ?_⟩
  refine mix_l rfl (fun K hK => ?_) hC
  go_wp2_with fail
  ((with_reducible refine (HW.out).mono ?_); rintro e _ ⟨rfl, rfl⟩)
  go_wp2_with fail
  refine ⟨hC, ?_⟩
  repeat (refine mix_p rfl (fun K hK => ?_); go_simp; (try go_bits); (try simp (disch := omega) only [if_pos]); (try simp (disch := omega) only [if_neg]); (try simp (disch := omega) only [dif_pos]); (try simp (disch := omega) only [dif_neg]); (try go_simp); (refine hK _ ?_; clear hK K))
  refine mix_nil ?_
  simp only [Exit.then]
  refine hKK _ _ ?_
  go_wp2_with fail
  go_ret
  exact ⟨rfl, S5.b⟩
theorem DrawsAsked.mem {b m : Nat} {w w' : World} {B B2 : Nat} {A : Option Addr} {c : Nat} {q : List PQ} {v2 : Value} {l : List Stm} (hB : w.heap.size ≤ B) (S : St b m w w' (.own rStm B2 38 v2 l :: polC B (.slice A q.length c) q)) :
    Sl rPurp (fun _ => False) w' A (q.map PQ.purp) ∧ ∃ Al cl, v2 = .slice Al l.length cl ∧ Sl rStm (fun _ => False) w' Al l := by
  obtain ⟨A', c', e', hS⟩ := S.polFalse hB (List.mem_cons_of_mem _ (List.mem_cons_self ..)) (fun e he => List.mem_cons_of_mem _ (List.mem_cons_of_mem _ (List.mem_map.2 ⟨e, he, rfl⟩)))
  simp only [Value.slice.injEq] at e'
  obtain ⟨rfl, _, rfl⟩ := e'
  obtain ⟨Al, cl, e2, hL⟩ := ((S.ow 0 rfl).flatM flatStm (M' := fun _ => False)).toSlC (fun _ _ h => h)
  exact ⟨hS.mono (fun _ _ h => h.elim), Al, cl, e2, hL.2⟩
end Go.Proofs.YthmkphmciiiagaaGreatDoor

/- Windows: what the generator makes, what the reference says of them; the fault of one name; slices.Equal of expiries. -/
namespace Go.Proofs.YthmkphmciiiagaaGreatDoor
open Go Go.RowKit
theorem Sl.xpy {N : Nat → Prop} {w : World} {A : Option Addr} {xs : List Xpy} (h : Sl rXpy N w A xs) (k : Nat) (e : Xpy) (hk : xs[k]? = some e) : ∃ blk off, A = some ⟨blk, off, none⟩ ∧ blk < w.heap.size ∧
    w.cell? ⟨blk, off + k * 5, none⟩ = some (.int .i64 e.at') ∧ w.cell? ⟨blk, off + k * 5 + 1, none⟩ = some (.int .i64 e.kind) ∧ w.cell? ⟨blk, off + k * 5 + 2, none⟩ = some (.string e.text) ∧ w.cell? ⟨blk, off + k * 5 + 3, none⟩ = some (.string e.purpose) ∧ w.cell? ⟨blk, off + k * 5 + 4, none⟩ = some (.int .i64 e.channel) := by
  obtain ⟨blk, off, l, e1, h1, _, h3, h4⟩ := h k e hk
  obtain rfl : l = Xpy.cells e := h3
  exact ⟨blk, off, e1, h1, h4 0 _ rfl, h4 1 _ rfl, h4 2 _ rfl, h4 3 _ rfl, h4 4 _ rfl⟩
set_option maxHeartbeats 4000000 in
set_option maxRecDepth 100000 in
theorem eqXpy_any (N : Nat → Prop) (A A2 : Option Addr) (xs : List Xpy) (c c2 : Nat) (w : World) (h1 : Sl rXpy N w A xs) (h2 : Sl rXpy N w A2 xs) (hl : xs.length ≤ 1000000000) :
    Calls Tryz.prog 49 #[.slice A xs.length c, .slice A2 xs.length c2] w fun e w' => e = .returned (.bool true) ∧ Below w.heap.size w w' := by
  have H1 := Lib.hid h1
  have H2 := Lib.hid h2
  clear h1 h2
  go_enter Tryz.func49, Tryz.ntmps49
  go_wp2_with fail
  go_loopw [13] (fun i wr => ∃ j : Nat, j ≤ xs.length ∧ i = .int .i64 j ∧ Below w.heap.size w wr) (fun i _ => xs.length - (intOf i).toNat)
  case atStart => exact ⟨0, Nat.zero_le _, rfl, Below.refl _ _⟩
  case round =>
    obtain ⟨j, hj, rfl, hb⟩ := hrel
    by_cases hlt : j < xs.length
    · obtain ⟨e, hf⟩ : ∃ e, xs[j]? = some e := ⟨_, List.getElem?_eq_getElem hlt⟩
      obtain ⟨b1, o1, rfl, _, d0, d1, d2, d3, d4⟩ := (H1.out.keepB hb).xpy j e hf
      obtain ⟨b2, o2, rfl, _, f0, f1, f2, f3, f4⟩ := (H2.out.keepB hb).xpy j e hf
      clear hf
      go_wp2_with fail
      go_quiet (fail)
      go_wp2_with fail
      go_roundw
      case rel => exact ⟨j + 1, by omega, by go_num, hb.trans (below_drewN _ _ _)⟩
      case measure => simp [intOf]; omega
    · go_wp2_with fail
      go_ret
      exact ⟨rfl, hb⟩
theorem xpy_uniq : ∀ (l m : List Xpy), l.Perm m → l.Pairwise (fun a b => xordP a b ≤ 0) → m.Pairwise (fun a b => xordP a b ≤ 0) → l = m
  | [], m, h, _, _ => (List.Perm.eq_nil (h.symm)).symm
  | x :: r, [], h, _, _ => absurd h.length_eq (by simp)
  | x :: r, y :: s, h, h1, h2 => by
    have h1' := List.pairwise_cons.1 h1
    have h2' := List.pairwise_cons.1 h2
    have hxy : x = y := by
      rcases List.mem_cons.1 (h.mem_iff.1 (List.mem_cons_self ..)) with e | hx
      · exact e
      · rcases List.mem_cons.1 (h.mem_iff.2 (List.mem_cons_self ..)) with e | hy
        · exact e.symm
        · have e1 := h2'.1 x hx
          have e2 := h1'.1 y hy
          have e3 := xordP_ok.anti x y
          have e4 := xordP_ok.anti y x
          exact xordP_eq (by omega)
    subst hxy
    rw [xpy_uniq r s (List.Perm.cons_inv h) h1'.2 h2'.2]
theorem expE_ord {p : List Purp} {l : List Stm} {rg : ByteArray} {lo hi : Int} (hg : GoodPol p) (hgl : GoodL p l) (s : Stm) : (expE p l rg lo hi s).Pairwise (· < ·) := by
  have h := (moms_r (k := s.kind) (t := s.text) (pu := s.purpose) (rg := rg) (ch := s.channel) hg hgl)
  rw [expE, perA, h.expR]
  exact ((h.ord.filter _).filter _).filter _
theorem exp_eq {p : List Purp} {l : List Stm} {rg : ByteArray} {lo hi : Int} (hg : GoodPol p) (hgl : GoodL p l) : refGo (expE p l rg lo hi) [] l = expAll p l rg lo hi := by
  rw [exp_go (expE p l rg lo hi) (fun s d h => ?_) (expE_ord hg hgl) l [] [] (fun y hy => by cases hy) (fun s hs => by cases hs)]
  · rfl
  · simp only [mkX, Xpy.mk.injEq] at h
    unfold expE
    rw [h.2.1, h.2.2.1, h.2.2.2.1, h.2.2.2.2]
set_option maxHeartbeats 4000000 in
theorem windowFault_any (lo hi : Int) (w : World) :
    Calls Tryz.prog 48 #[.agg #[.int .i64 lo, .int .i64 hi]] w fun e w' => e = .returned (.int .i64 (winErr lo hi)) ∧ Below w.heap.size w w' := by
  have S := (Mem.start w).new' #[.int .i64 lo, .int .i64 hi] 78
  replace S : Mem w (w.alloc (.cells #[.int .i64 lo, .int .i64 hi] 78)) [.loc w.heap.size #[.int .i64 lo, .int .i64 hi] 78] := S
  obtain ⟨R, HR⟩ : ∃ R, Hid (winErr lo hi = R) := ⟨_, Lib.hid rfl⟩
  rw [HR.out]
  go_enter Tryz.func48, Tryz.ntmps48
  go_upto_region 1 with fail
  generalize w.alloc (.cells #[.int .i64 lo, .int .i64 hi] 78) = w1 at *
  have c0 := (S.lv 0 rfl).all
  go_wp2_with fail
  ((with_reducible refine (in_any _ _ _ _).mono ?_); rintro e _ ⟨rfl, rfl⟩)
  by_cases h1 : 0 ≤ lo ∧ lo ≤ hi
  · rw [decide_eq_true h1]
    by_cases h2 : 4321440 < hi
    · obtain rfl : 1 = R := by rw [← HR.out, winErr, if_pos (by omega)]
      clear HR h1
      go_wp2_with fail
      go_ret
      exact ⟨rfl, S.b⟩
    · obtain rfl : 0 = R := by rw [← HR.out, winErr, if_neg (by omega)]
      clear HR h1
      go_wp2_with fail
      go_ret
      exact ⟨rfl, S.b⟩
  · rw [decide_eq_false h1]
    obtain rfl : 1 = R := by rw [← HR.out, winErr, if_pos (by omega)]
    clear HR h1
    go_wp2_with fail
    go_ret
    exact ⟨rfl, S.b⟩
set_option maxHeartbeats 4000000 in
theorem nameFault_any (rg : ByteArray) (blk : Nat) (w : World) (hrg : rg.size ≤ 1000000000) (h : LV w blk #[.string rg] 9) :
    Calls Tryz.prog 47 #[.slice (some ⟨blk, 0, none⟩) 1 1] w fun e w' => e = .returned (.int .i64 (keyErr rg)) ∧ Below w.heap.size w w' := by
  have HK : Hid (∀ w, Calls Tryz.prog 95 #[.string rg] w fun e w' => e = .returned (.bool (L.isKey rg)) ∧ Below w.heap.size w w') := fun w => Key_any rg w hrg
  obtain ⟨R, HR⟩ : ∃ R, Hid (keyErr rg = R) := ⟨_, Lib.hid rfl⟩
  rw [HR.out]
  unfold keyErr at HR
  generalize L.isKey rg = KB at *
  have HL := Lib.hid (fun w' (k : Below w.heap.size w w') => LV.kb3 h k h.lt)
  clear h
  go_enter Tryz.func47, Tryz.ntmps47
  go_wp2_with fail
  go_loopw [7] (fun i wr => ∃ j : Nat, (j = 0 ∨ (j = 1 ∧ KB = true)) ∧ i = .int .i64 j ∧ Below w.heap.size w wr) (fun i _ => 1 - (intOf i).toNat)
  case atStart => exact ⟨0, .inl rfl, rfl, Below.refl _ _⟩
  case round =>
    obtain ⟨j, hj, rfl, hb⟩ := hrel
    rcases hj with rfl | ⟨rfl, hk⟩
    · have c0 := (HL.out wr hb).all
      go_wp2_with fail
      ((with_reducible refine (HK.out wr).mono ?_); rintro e w2 ⟨rfl, hl2⟩)
      have hb2 := hb.trans (hl2.mono hb.size)
      cases KB with
      | false =>
        obtain rfl : 5 = R := by rw [← HR.out]; rfl
        go_wp2_with fail
        go_ret
        exact ⟨rfl, hb2⟩
      | true =>
        go_wp2_with fail
        go_roundw
        case rel => exact ⟨1, .inr ⟨rfl, by simp⟩, by go_num, hb2⟩
        case measure => simp [intOf]
    · obtain rfl : 0 = R := by rw [← HR.out, hk]; rfl
      clear HR hk
      go_wp2_with fail
      go_ret
      exact ⟨rfl, hb⟩
theorem loadW {w : World} {X : Nat} {a b : Value} (h : LV w X #[a, b] 78) : (loadVar 78 ⟨X, 0, none⟩).run Tryz.prog w = .ok (.agg #[a, b]) w := by
  have c0 := h.cell 0 _ rfl
  have c1 := h.cell 1 _ rfl
  have f0 := h.all
  go_simp
def DrawsWin (b m : Nat) (w : World) (e : Ending) (w' : World) : Prop := ∃ lo hi : Int, e = .returned (.agg #[.int .i64 lo, .int .i64 hi]) ∧ SK b w w' ∧ Strm b m w'
set_option maxHeartbeats 4000000 in
set_option maxRecDepth 100000 in
theorem window_any (b m : Nat) (w : World) (hs : Strm b m w) (hm : m ≤ 100000000) :
    Calls Tryz.prog 45 #[.pointer (some ⟨b, 0, none⟩)] w (DrawsWin b (m + 10) w) := by
  have S := (St.start hs).new' #[.int .i64 0, .int .i64 0] 78
  replace S : St b m w (w.alloc (.cells #[.int .i64 0, .int .i64 0] 78)) [.loc w.heap.size #[.int .i64 0, .int .i64 0] 78] := S
  clear hs
  go_enter Tryz.func45, Tryz.ntmps45
  go_upto_region 1 with fail
  generalize w.alloc (.cells #[.int .i64 0, .int .i64 0] 78) = w1 at *
  go_wp2_with fail
  ((with_reducible refine (pick_le b _ _ _ (0) (1000) S.g.s (by first | rfl | simp) (by first | rfl | simp) (intsIn_of (by decide)) (by simp) (by simp) (by omega)).mono ?_); rintro e w2 ⟨f, f_lo, f_hi, rfl, hk_w2, hs_w2⟩)
  replace S := S.step hk_w2 hs_w2
  clear hk_w2 hs_w2
  go_upto_region 2 with fail
  obtain ⟨Y, hY⟩ : ∃ Y, Y = w2.heap.size := ⟨_, rfl⟩
  replace S := S.newAt #[.int .i64 f, .int .i64 0] 78 Y hY
  rw [← hY]
  clear hY
  generalize w2.alloc (.cells #[.int .i64 f, .int .i64 0] 78) = w3 at *
  refine wp_region_mixG 8 (fun w' => ∃ u, LV w' Y #[.int .i64 f, u] 78) [.q 0, .q 1, .q 2, .e 3, .e 4, .q 5, .q 6, .e 7] (by kernel_rfl) (by kernel_rfl) (fun w' hd => ⟨_, (S.below (hd.below _)).lv 1 rfl⟩) (fun KK hKK wd hd => ?_)
  replace S := S.below (hd.below _)
  clear hd
  have hC : ∃ u, LV wd Y #[.int .i64 f, u] 78 := ⟨_, S.lv 1 rfl⟩
  repeat (refine mixG_p rfl (fun K hK => ?_); go_simp; (try go_bits); (try simp (disch := omega) only [if_pos]); (try simp (disch := omega) only [if_neg]); (try simp (disch := omega) only [dif_pos]); (try simp (disch := omega) only [dif_neg]); (try go_simp); (refine hK _ ?_; clear hK K))
  refine mixG_load (.int .i64 f) rfl rfl rfl rfl (fun _ => rfl) (fun w' h => h.elim fun _ h => h.cell 0 _ rfl) ?_
  repeat (refine mixG_p rfl (fun K hK => ?_); go_simp; (try go_bits); (try simp (disch := omega) only [if_pos]); (try simp (disch := omega) only [if_neg]); (try simp (disch := omega) only [dif_pos]); (try simp (disch := omega) only [dif_neg]); (try go_simp); (refine hK _ ?_; clear hK K))
  refine mixG_l rfl rfl (fun K hK => ?_)
  go_wp2_with fail
  refine ⟨fun _ => ⟨_, (S.alloc _).lv 1 rfl⟩, ?_⟩
  refine mixG_l rfl rfl (fun K hK => ?_)
  go_wp2_with fail
  ((with_reducible refine (pick_le b _ _ _ (0) (10000) S.g.s (by first | rfl | simp) (by first | rfl | simp) (intsIn_of (by decide)) (by simp) (by simp) (by omega)).mono ?_); rintro e w4 ⟨t, t_lo, t_hi, rfl, hk_w4, hs_w4⟩)
  replace S := S.step hk_w4 hs_w4
  clear hk_w4 hs_w4
  go_wp2_with fail
  refine ⟨fun _ => ⟨_, S.lv 1 rfl⟩, ?_⟩
  have hwt : IntKind.i64.wrap (f + t) = f + t := IntWalk.i64_in _ (by omega)
  repeat (refine mixG_p rfl (fun K hK => ?_); go_simp; (try go_bits); (try simp (disch := omega) only [if_pos]); (try simp (disch := omega) only [if_neg]); (try simp (disch := omega) only [dif_pos]); (try simp (disch := omega) only [dif_neg]); (try go_simp); (refine hK _ ?_; clear hK K))
  refine mixG_l rfl rfl (fun K hK => ?_)
  have c1 := (S.lv 1 rfl).all
  go_wp2_with fail
  replace S : St b (m + 1 + 1) w (w4.setCell ⟨Y, 1, none⟩ (.int .i64 (f + t))) [.loc w.heap.size #[.int .i64 0, .int .i64 0] 78, .loc Y #[.int .i64 f, .int .i64 (f + t)] 78] := S.set 1 1 (.int .i64 (f + t)) rfl
  refine ⟨fun _ => ⟨_, S.lv 1 rfl⟩, ?_⟩
  clear c1 hC
  generalize w4.setCell ⟨Y, 1, none⟩ (.int .i64 (f + t)) = w5 at *
  refine mixG_nil ?_
  simp only [Exit.then]
  refine hKK _ _ ?_
  go_wp2_with fail
  ((with_reducible refine (flip_any b _ _ _ S.g.s (by omega) (by omega) (by omega)).mono ?_); rintro e w6 ⟨r, rfl, hk_w6, hs_w6⟩)
  replace S := S.step hk_w6 hs_w6
  clear hk_w6 hs_w6
  cases r with
  | false =>
    have c0 := (S.lv 0 rfl).all
    have c1 := (S.lv 1 rfl).all
    go_wp2_with fail
    have S2 := (S.set 0 0 (.int .i64 f) rfl).set 0 1 (.int .i64 (f + t)) rfl
    exact bodyPost_ret (results_cell1 rfl rfl (loadW (S2.lv 0 rfl))) rfl ⟨f, f + t, rfl, S2.g.k, S2.g.s.mono (by omega)⟩
  | true =>
    go_wp2_with fail
    ((with_reducible refine (pick_le b _ _ _ ((-1)) (5) S.g.s (by first | rfl | simp) (by first | rfl | simp) (intsIn_of (by decide)) (by simp) (by simp) (by omega)).mono ?_); rintro e w7 ⟨x, x_lo, x_hi, rfl, hk_w7, hs_w7⟩)
    replace S := S.step hk_w7 hs_w7
    clear hk_w7 hs_w7
    go_wp2_with fail
    ((with_reducible refine (pick_le b _ _ _ (4) (4321441) S.g.s (by first | rfl | simp) (by first | rfl | simp) (intsIn_of (by decide)) (by simp) (by simp) (by omega)).mono ?_); rintro e w8 ⟨y, y_lo, y_hi, rfl, hk_w8, hs_w8⟩)
    replace S := S.step hk_w8 hs_w8
    clear hk_w8 hs_w8
    have c0 := (S.lv 0 rfl).all
    have c1 := (S.lv 1 rfl).all
    go_upto_region 5 with fail
    replace S : St b (m + 1 + 1 + 1 + 1 + 1) w ((w8.setCell ⟨Y, 0, none⟩ (.int .i64 x)).setCell ⟨Y, 1, none⟩ (.int .i64 y)) [.loc w.heap.size #[.int .i64 0, .int .i64 0] 78, .loc Y #[.int .i64 x, .int .i64 y] 78] := (S.set 1 0 (.int .i64 x) rfl).set 1 1 (.int .i64 y) rfl
    generalize (w8.setCell ⟨Y, 0, none⟩ (.int .i64 x)).setCell ⟨Y, 1, none⟩ (.int .i64 y) = w9 at *
    clear c0 c1
    have c0 := (S.lv 0 rfl).all
    have c1 := (S.lv 1 rfl).all
    go_wp2_with fail
    have S2 := (S.set 0 0 (.int .i64 x) rfl).set 0 1 (.int .i64 y) rfl
    exact bodyPost_ret (results_cell1 rfl rfl (loadW (S2.lv 0 rfl))) rfl ⟨x, y, rfl, S2.g.k, S2.g.s.mono (by omega)⟩
end Go.Proofs.YthmkphmciiiagaaGreatDoor

/- The law ConsentExpiring walked: it returns true, and nothing that was there has turned. -/
namespace Go.Proofs.YthmkphmciiiagaaGreatDoor
open Go Go.RowKit
def TwoL (X Y : Nat) (a b : Array Value) (w : World) : Prop := LV w X a 31 ∧ LV w Y b 78
theorem TwoL.below {X Y : Nat} {a b : Array Value} {w w' : World} (h : TwoL X Y a b w) (k : Below w.heap.size w w') : TwoL X Y a b w' := ⟨LV.kb3 h.1 k h.1.lt, LV.kb3 h.2 k h.2.lt⟩
theorem loadWL {w : World} {X : Nat} {a b : Value} (h : LV w X #[a, b] 78) : (Instr.loadAt 78 (.pointer (some ⟨X, 0, none⟩))).run Tryz.prog w = .ok (.agg #[a, b]) w := by
  have c := h.all
  go_simp
theorem firstErr3 (a b c : Int) : firstErr [a, b, c] = first3 a b c := by
  rw [firstErr, firstErr, firstErr1]
  rfl
theorem expR_len (lo hi : Int) : ∀ (P : List Per) (last : Int), (expR lo hi last P).length ≤ P.length
  | [], _ => Nat.le_refl _
  | x :: r, last => by
    have h := expR_len lo hi r x.a.2.1
    rw [expR]
    split
    · rw [List.length_cons, List.length_cons]; omega
    · rw [List.length_cons]; omega
theorem expGo_len (E : Stm → List Int) (K : Nat) (hK : ∀ s, (E s).length ≤ K) : ∀ (l : List Stm) (done : List Xpy), (expGo E done l).length ≤ l.length * K
  | [], _ => by simp [expGo]
  | s :: r, done => by
    rw [expGo, List.length_cons, Nat.succ_mul]
    split
    · exact Nat.le_trans (expGo_len E K hK r done) (Nat.le_add_right _ _)
    · rw [List.length_append, List.length_map]
      have h1 := expGo_len E K hK r (done ++ [mkX s 0])
      have h2 := hK s
      omega
set_option maxHeartbeats 16000000 in
set_option maxRecDepth 100000 in
theorem consentExpiring_any (v : Value) (w : World) (hv : IntsIn v w) (hP : Pool w) (hM : MaxL w) :
    Calls Tryz.prog 7 #[v] w fun e w' => e = .returned (.bool true) ∧ Below w.heap.size w w' := by
  obtain ⟨va, vn, vc, rfl⟩ : ∃ a n c, v = .slice a n c := by
    rcases hv with ⟨a, c, rfl⟩ | ⟨k, off, len, cap, rfl, _⟩
    · exact ⟨_, _, _, rfl⟩
    · exact ⟨_, _, _, rfl⟩
  have g0 := G.start (Strm.start hv)
  clear hv
  have hPn : 0 ≠ w.heap.size := Nat.ne_of_lt hP.lt
  have hMl : 2 < w.heap.size := by
    obtain ⟨m, h⟩ := hM
    exact World.block_lt_of_cell? w _ h
  have hMn : 2 ≠ w.heap.size := Nat.ne_of_lt hMl
  have hk0 := (SK.refl w.heap.size w).alloc (.cells #[.slice va vn vc, .int .i64 0] 25)
  have HA := Lib.hid (asked_any w.heap.size 0 _ g0.s (by omega) (hP.keep hk0 hPn) hPn (hM.sk hk0 hMn) hMn)
  have HM := Lib.hid hM
  have G0 := Lib.hid g0
  clear hP hM hk0 hMl g0
  go_enter Tryz.func7, Tryz.ntmps7
  go_wp2_with fail
  ((with_reducible refine (HA.out).mono ?_); rintro e w1 ⟨B, B2, A, c, q, v2, l, k, t, pu, rg, ch, at', rfl, hq, hl, hls, hqs, hB, hB2, S1⟩)
  go_upto_region 3 with fail
  obtain ⟨Q, hQ⟩ : ∃ Q, Q = w1.heap.size := ⟨_, rfl⟩
  have S2 := (S1.newAt (qqCs k t pu rg ch at') 31 Q hQ).perm List.perm_append_comm
  rw [← hQ]
  clear hQ S1
  generalize w1.alloc (.cells (qqCs k t pu rg ch at') 31) = w2 at *
  go_wp2_with fail
  ((with_reducible refine (window_any w.heap.size _ _ S2.g.s (by omega)).mono ?_); rintro e w3 ⟨lo, hi, rfl, hk3, hs3⟩)
  replace S2 := S2.step hk3 hs3
  have HQl : Hid (LV w3 Q (qqCs k t pu rg ch at') 31) := S2.lv 0 rfl
  obtain ⟨hSp, Al, cl, rfl, hSl⟩ := DrawsAsked.mem hB (S2.del 0)
  have Hb1 := Lib.hid (Gg.toBelow (G0.out.step S2.g.k S2.g.s))
  have HM1 := Lib.hid (HM.out.below Hb1.out)
  have Hok := Lib.hid hq.polOk
  have hlen : (q.map PQ.purp).length = q.length := by simp
  have Hlo := Lib.hid (StmSm.ok hls (by omega))
  have hrg : rg.size ≤ 1000000000 := Nat.le_trans hqs.2.2 (by decide)
  have hll : l.length ≤ 19 := by omega
  rw [← hlen]
  clear HA S2 G0 hq hls hB hB2 hlen hqs hk3 hs3 hl
  generalize q.map PQ.purp = xs at *
  have HSp := Lib.hid hSp
  have HSl := Lib.hid hSl
  clear hSp hSl
  go_upto_region 4 with fail
  have S := (Mem.start w3).new' #[.int .i64 lo, .int .i64 hi] 78
  replace S : Mem w3 (w3.alloc (.cells #[.int .i64 lo, .int .i64 hi] 78)) [.loc w3.heap.size #[.int .i64 lo, .int .i64 hi] 78] := S
  have HQ2 := Lib.hid (fun w' (h : Below w3.heap.size w3 w') => LV.kb3 HQl.out h HQl.out.lt)
  clear HQl
  generalize w3.alloc (.cells #[.int .i64 lo, .int .i64 hi] 78) = w4 at *
  have Hex := Lib.hid (fun w' (h : Below w3.heap.size w3 w') => expiring_any A Al xs l c cl rg lo hi w' (HSp.out.keepB h) Hok.out (HSl.out.keepB h) Hlo.out hll hrg (HM1.out.below h))
  have Hrf := Lib.hid (fun (hF : expErr xs l rg lo hi = 0) w' (h : Below w3.heap.size w3 w') =>
    (exp_eq (rg := rg) (lo := lo) (hi := hi) (policy_good (stms_good (first3_zero hF).1).1) (stms_good (first3_zero hF).1).2) ▸ refExpiring_any A Al xs l c cl rg lo hi w' (HSp.out.keepB h) (policy_good (stms_good (first3_zero hF).1).1) (HSl.out.keepB h) (stms_good (first3_zero hF).1).2 hll (fun s hs => ⟨(stms_B (first3_zero hF).1 s hs).ch.1, by have := (stms_B (first3_zero hF).1 s hs).ch.2; omega⟩) (by
      have h3 := (first3_zero hF).2.2
      unfold winErr at h3
      split at h3
      · cases h3
      · omega))
  have HC := Lib.hid (fun w' (h : Below w3.heap.size w3 w') => consents_any w' (HM1.out.below h))
  have HEx : Hid (expErr xs l rg lo hi = firstErr [stmsFault xs l, keyErr rg, winErr lo hi]) := by show _ = _; rw [firstErr3]; rfl
  rw [HEx.out] at Hex Hrf
  have HXl : Hid ((expAll xs l rg lo hi).length ≤ 19 * 3002) := Nat.le_trans (expGo_len (expE xs l rg lo hi) 3002 (fun s => Nat.le_trans (expR_len lo hi _ 0) (perA_len (by omega))) l []) (Nat.mul_le_mul_right _ hll)
  generalize stmsFault xs l = F0 at *
  generalize expAll xs l rg lo hi = Xs at *
  obtain ⟨E, HE⟩ : ∃ E, Hid (firstErr [F0, keyErr rg, winErr lo hi] = E) := ⟨_, Lib.hid rfl⟩
  rw [HE.out] at Hex Hrf
  clear HSp HSl Hok Hlo HEx HM1
  have c0 := (S.lv 0 rfl).all
  have c1 := (HQ2.out w4 S.b).all
  go_wp2_with fail
  ((with_reducible refine (Hex.out w4 S.b).mono ?_); rintro e w5 ⟨Ac, cc, zs, rfl, hp, hs, hSc, hl5⟩)
  replace S := S.call hl5 (.sl rXpy Ac zs) hSc (fun k e => by cases e)
  have Hp := Lib.hid hp
  have Hs := Lib.hid hs
  clear hl5 hSc hp hs Hex c0 c1
  go_upto_region 5 with fail
  have hC0 : TwoL Q w3.heap.size (qqCs k t pu rg ch at') #[.int .i64 lo, .int .i64 hi] w5 := ⟨HQ2.out w5 S.b, S.lv 0 rfl⟩
  refine wp_region_mixG 10 (TwoL Q w3.heap.size (qqCs k t pu rg ch at') #[.int .i64 lo, .int .i64 hi]) [.q 0, .q 1, .q 2, .q 5, .e 3, .e 4, .e 6, .e 7, .e 8, .q 9] (by kernel_rfl) (by kernel_rfl) (fun w' hd => hC0.below (hd.below _)) (fun KK hKK wd hd => ?_)
  have hC := hC0.below (hd.below _)
  replace S := S.below (hd.below _)
  clear hd hC0
  repeat (refine mixG_p rfl (fun K hK => ?_); go_simp; (try go_bits); (try simp (disch := omega) only [if_pos]); (try simp (disch := omega) only [if_neg]); (try simp (disch := omega) only [dif_pos]); (try simp (disch := omega) only [dif_neg]); (try go_simp); (refine hK _ ?_; clear hK K))
  refine mixG_load (.string rg) rfl rfl rfl rfl (fun _ => rfl) (fun w' h => h.1.cell 3 _ rfl) ?_
  repeat (refine mixG_p rfl (fun K hK => ?_); go_simp; (try go_bits); (try simp (disch := omega) only [if_pos]); (try simp (disch := omega) only [if_neg]); (try simp (disch := omega) only [dif_pos]); (try simp (disch := omega) only [dif_neg]); (try go_simp); (refine hK _ ?_; clear hK K))
  refine mixG_loadR (.agg #[.int .i64 lo, .int .i64 hi]) rfl rfl rfl rfl (fun w' h => loadWL h.2) ?_
  refine mixG_l rfl rfl (fun K hK => ?_)
  go_wp2_with fail
  obtain ⟨Y1, hY1⟩ : ∃ Y1, Y1 = wd.heap.size := ⟨_, rfl⟩
  replace S := S.newAt #[.string rg] 9 Y1 hY1
  replace hC := hC.below ((Below.refl _ _).alloc (Nat.le_refl _) (.cells #[.string rg] 9))
  rw [← hY1]
  clear hY1
  generalize wd.alloc (.cells #[.string rg] 9) = w6 at *
  refine ⟨fun _ => hC, ?_⟩
  refine mixG_l rfl rfl (fun K hK => ?_)
  go_wp2_with fail
  ((with_reducible refine (nameFault_any rg Y1 w6 hrg (S.lv 2 rfl)).mono ?_); rintro e w7 ⟨rfl, hl7⟩)
  replace S := S.below hl7
  replace hC := hC.below hl7
  clear hl7
  go_wp2_with fail
  refine ⟨fun _ => hC, ?_⟩
  refine mixG_l rfl rfl (fun K hK => ?_)
  go_wp2_with fail
  ((with_reducible refine (windowFault_any lo hi w7).mono ?_); rintro e w8 ⟨rfl, hl8⟩)
  replace S := S.below hl8
  replace hC := hC.below hl8
  clear hl8
  go_wp2_with fail
  refine ⟨fun _ => hC, ?_⟩
  refine mixG_l rfl rfl (fun K hK => ?_)
  go_wp2_with fail
  obtain ⟨Y2, hY2⟩ : ∃ Y2, Y2 = w8.heap.size := ⟨_, rfl⟩
  replace S := S.newAt #[.int .i64 F0, .int .i64 (keyErr rg), .int .i64 (winErr lo hi)] 32 Y2 hY2
  replace hC := hC.below ((Below.refl _ _).alloc (Nat.le_refl _) (.cells #[.int .i64 F0, .int .i64 (keyErr rg), .int .i64 (winErr lo hi)] 32))
  rw [← hY2]
  clear hY2
  generalize w8.alloc (.cells #[.int .i64 F0, .int .i64 (keyErr rg), .int .i64 (winErr lo hi)] 32) = w9 at *
  refine ⟨fun _ => hC, ?_⟩
  have Hwr := Lib.hid (wrongOr_any Y2 [F0, keyErr rg, winErr lo hi] w9 (S.lv 3 rfl) (by simp))
  rw [HE.out] at Hwr
  simp only [List.length_cons, List.length_nil, Nat.zero_add, Nat.reduceAdd] at Hwr
  refine mixG_l rfl rfl (fun K hK => ?_)
  go_wp2_with fail
  ((with_reducible refine (Hwr.out).mono ?_); rintro e _ ⟨rfl, rfl⟩)
  go_wp2_with fail
  refine ⟨fun _ => hC, ?_⟩
  repeat (refine mixG_p rfl (fun K hK => ?_); go_simp; (try go_bits); (try simp (disch := omega) only [if_pos]); (try simp (disch := omega) only [if_neg]); (try simp (disch := omega) only [dif_pos]); (try simp (disch := omega) only [dif_neg]); (try go_simp); (refine hK _ ?_; clear hK K))
  refine mixG_nil ?_
  simp only [Exit.then]
  refine hKK _ _ ?_
  clear hC Hwr HE
  have c0 := (S.lv 0 rfl).all
  have c1 := (HQ2.out w9 S.b).all
  by_cases hE : E = 0
  · have HR := Lib.hid (Hrf.out hE)
    have Hp2 : Hid (zs.Perm Xs) := by have h := Hp.out; rw [if_pos hE] at h; exact h
    subst hE
    clear Hrf Hp
    go_wp2_with fail
    ((with_reducible refine (HR.out w9 S.b).mono ?_); rintro e w10 ⟨A3, c3, ys, rfl, hp3, hs3, hS3, hl10⟩)
    obtain rfl : zs = ys := xpy_uniq zs ys (Hp2.out.trans hp3.symm) Hs.out hs3
    replace S := S.below hl10
    have HEq := Lib.hid (fun h => eqXpy_any (fun _ => False) Ac A3 zs cc c3 w10 ((S.slc 1 rfl).mono (fun _ _ h => h.elim)) (hS3.mono (fun _ _ h => h.elim)) h)
    have hzl : zs.length ≤ 1000000000 := by have h1 := HXl.out; have h2 := Hp2.out.length_eq; omega
    have HEq2 := Lib.hid (HEq.out hzl)
    clear hl10 HR hS3 HEq c0 c1 hp3 hs3 hzl
    go_wp2_with fail
    ((with_reducible refine (HEq2.out).mono ?_); rintro e w11 ⟨rfl, hl11⟩)
    replace S := S.below hl11
    clear hl11 HEq2
    go_wp2_with fail
    ((with_reducible refine (HC.out w11 S.b).mono ?_); rintro e w12 ⟨rfl, hl12⟩)
    replace S := S.below hl12
    go_wp2_with fail
    go_ret
    exact ⟨rfl, Hb1.out.trans (S.b.mono Hb1.out.size)⟩
  · have hE' : (E != 0) = true := by simpa using hE
    obtain rfl : zs = [] := by have h := Hp.out; rw [if_neg hE] at h; exact h.eq_nil
    clear Hrf Hp
    simp only [List.length_nil]
    go_wp2_with fail
    ((with_reducible refine (HC.out w9 S.b).mono ?_); rintro e w12 ⟨rfl, hl12⟩)
    replace S := S.below hl12
    go_wp2_with fail
    go_ret
    exact ⟨rfl, Hb1.out.trans (S.b.mono Hb1.out.size)⟩
end Go.Proofs.YthmkphmciiiagaaGreatDoor
