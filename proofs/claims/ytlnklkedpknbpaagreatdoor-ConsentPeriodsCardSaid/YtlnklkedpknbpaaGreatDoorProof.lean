/- What consent.Proof returns. -/
import Derived.Test.YtlnklkedpknbpaaGreatDoorMayTop
import Derived.Test.YtlnklkedpknbpaaGreatDoorPrfLaw
import Derived.Test.YtlnklkedpknbpaaGreatDoorSortInt
namespace Go.Proofs.YtlnklkedpknbpaaGreatDoor
open Go Go.RowKit
theorem tyIntP : STy 22 3 rInt.size 8 (.int .i64 0) := ⟨Tryz.underlying22, by kernel_rfl, rfl, by decide⟩
def GivesNos (xs : List Int) (F : Int) (w : World) (e : Ending) (w' : World) : Prop := ∃ A c, e = .returned (.tuple #[.slice A xs.length c, .int .i64 F]) ∧ Sl rInt (Lt w.heap.size) w' A xs ∧ Below w.heap.size w w'
set_option maxHeartbeats 8000000 in
set_option maxRecDepth 100000 in
theorem proof_any (A Al : Option Addr) (p : List Purp) (l : List Stm) (c cl : Nat) (k : Int) (t pu rg : ByteArray) (ch at' : Int) (w : World) (hS : Sl rPurp (fun _ => False) w A p) (hok : PolOk p) (hL : Sl rStm (fun _ => False) w Al l) (hlo : StmOk l) (hl : l.length ≤ 19) (hrg : rg.size ≤ 1000000000) (ht : t.size ≤ 1000000) (hM : MaxL w) :
    Calls Tryz.prog 50 #[.slice A p.length c, .slice Al l.length cl, .agg #[.int .i64 k, .string t], .string pu, .string rg, .int .i64 ch, .int .i64 at'] w (GivesNos (if mayErr p l k t pu rg ch at' = 0 then prfAns (termAt p pu rg ch) k t ch at' pu l else []) (mayErr p l k t pu rg ch at') w) := by
  have Hall := Lib.hid (fun X w' (h : Below w.heap.size w w') (hX : LV w' X (idCs k t) 29) => checkAll1_any (fun _ => False) A Al p l c cl pu rg ch at' X k t w' (hS.keepB h) hok (hL.keepB h) hlo hrg ht (hM.below h) hX)
  have Hgood : Hid (mayErr p l k t pu rg ch at' = 0 → GoodPol p ∧ GoodL p l ∧ (0 ≤ at' ∧ at' ≤ 4321439)) := fun h => by
    obtain ⟨h1, _, h3⟩ := first3_zero h
    obtain ⟨h4, h5⟩ := stms_good h1
    exact ⟨policy_good h4, h5, qErr_at h3⟩
  have Hask := Lib.hid (fun (hg : GoodPol p) (hn : l.Pairwise (fun a b => a.no < b.no)) w' (h : Below w.heap.size w w') => ask_any (fun _ => False) A Al p l c cl pu rg ch at' k t w' (hS.keepB h) hg (hL.keepB h) hl hn)
  have Hans := Lib.hid (fun (hg : GoodPol p) (hgl : GoodL p l) (U : List Stm) (hU : IsOf k t ch l U) (N : Nat → Prop) Au cu at' (hat : 0 ≤ at' ∧ at' ≤ 4321439) w' (hS : Sl rStm N w' Au U) hc => answerAt_any (pu := pu) (rg := rg) hg hgl hU hat (by omega) N Au cu w' hS hc)
  obtain ⟨F, HF⟩ : ∃ F, Hid (mayErr p l k t pu rg ch at' = F) := ⟨_, Lib.hid rfl⟩
  have Hall2 : Hid (∀ X w' (h : Below w.heap.size w w') (hX : LV w' X (idCs k t) 29), Calls Tryz.prog 78 #[.agg (qCs A p.length c pu rg ch at'), .slice Al l.length cl, .int .i64 1, .slice (some ⟨X, 0, none⟩) 1 1] w' fun e w'' => e = .returned (.int .i64 F) ∧ Below w'.heap.size w' w'') := fun X w' h hX => HF.out ▸ Hall.out X w' h hX
  rw [HF.out] at Hgood ⊢
  obtain ⟨Rs, HRs⟩ : ∃ Rs, Hid ((if F = 0 then prfAns (termAt p pu rg ch) k t ch at' pu l else []) = Rs) := ⟨_, Lib.hid rfl⟩
  rw [HRs.out]
  clear Hall HF
  clear hS hok hL hlo hM
  have S := ((Mem.start w).new' (idCs k t) 29).new' (qCs A p.length c pu rg ch at') 118
  replace S : Mem w ((w.alloc (.cells (idCs k t) 29)).alloc (.cells (qCs A p.length c pu rg ch at') 118)) [.loc w.heap.size (idCs k t) 29, .loc (w.heap.size + 1) (qCs A p.length c pu rg ch at') 118] := by simpa using S
  go_enter Tryz.func50, Tryz.ntmps50
  go_upto_region 2 with fail
  generalize (w.alloc (.cells (idCs k t) 29)).alloc (.cells (qCs A p.length c pu rg ch at') 118) = w1 at *
  have c0 := (S.lv 0 rfl).all
  have c1 := (S.lv 1 rfl).all
  have Hc := Lib.hid (Hall2.out w1.heap.size (w1.alloc (.cells (idCs k t) 29)) (S.alloc _).b (LV.new w1 w1.heap.size (idCs k t) 29 rfl))
  replace S := S.alloc (.cells (idCs k t) 29)
  clear Hall2
  go_wp2_with fail
  ((with_reducible refine (Hc.out).mono ?_); rintro e w3 ⟨rfl, hl3⟩)
  replace S := S.below hl3
  clear hl3 Hc c0 c1
  by_cases hF : F = 0
  · obtain rfl : prfAns (termAt p pu rg ch) k t ch at' pu l = Rs := by rw [← HRs.out, if_pos hF]
    clear HRs
    obtain ⟨hg, hgl, hat⟩ := Hgood.out hF
    have Ha := Lib.hid (Hask.out hg hgl.no)
    have Hb := Lib.hid (Hans.out hg hgl)
    subst hF
    clear Hask Hans Hgood
    have c0 := (S.lv 0 rfl).all
    have c1 := (S.lv 1 rfl).all
    go_wp2_with fail
    ((with_reducible refine (Ha.out w3 S.b).mono ?_); rintro e w4 ⟨Au, U, cu, rfl, hU, hc, hSU, hl4⟩)
    replace S := S.call hl4 (.sl rStm Au U) hSU (fun k e => by cases e)
    have Hd := Lib.hid (fun (at' : Int) (hat : 0 ≤ at' ∧ at' ≤ 4321439) (N : Nat → Prop) w' (hS : Sl rStm N w' Au U) => Hb.out U hU N Au cu at' hat w' hS hc)
    have HU := Lib.hid hU
    have Hcu := Lib.hid hc
    clear hl4 Ha Hb hU hc hSU c0 c1
    go_upto_region 6 with fail
    obtain ⟨K, hK⟩ : ∃ K, K = w4.heap.size := ⟨_, rfl⟩
    replace S := S.newAt (askCs ((termAt p pu rg ch).getD tZero) (termAt p pu rg ch).isSome pu Au U.length cu) 122 K hK
    rw [← hK]
    clear hK
    generalize w4.alloc (.cells (askCs ((termAt p pu rg ch).getD tZero) (termAt p pu rg ch).isSome pu Au U.length cu) 122) = w5 at *
    have c3 := (S.lv 3 rfl).all
    go_wp2_with fail
    ((with_reducible refine (Hd.out at' hat _ w5 (S.slc 2 rfl)).mono ?_); rintro e w6 ⟨rfl, hl6⟩)
    replace S := S.below hl6
    obtain ⟨⟨m0, y0, n0⟩, Han⟩ : ∃ q, Hid (mayAns p l k t pu rg ch at' = q) := ⟨_, Lib.hid rfl⟩
    rw [Han.out]
    clear hl6 c3
    go_upto_region 7 with fail
    obtain ⟨Y, hY⟩ : ∃ Y, Y = w6.heap.size := ⟨_, rfl⟩
    replace S := S.newAt (aCs m0 y0 n0) 48 Y hY
    rw [← hY]
    clear hY
    generalize w6.alloc (.cells (aCs m0 y0 n0) 48) = w7 at *
    have c4 := (S.lv 4 rfl).all
    by_cases hn : n0 = 0
    · have HR : Hid (prfAns (termAt p pu rg ch) k t ch at' pu l = []) := by
        show _ = _
        rw [prfAns, if_pos (by rw [show askR (termAt p pu rg ch) k t ch at' pu l = (m0, y0, n0) from Han.out]; exact hn)]
      subst hn
      clear Han
      generalize prfAns (termAt p pu rg ch) k t ch at' pu l = Rs at *
      obtain rfl : Rs = [] := HR.out
      go_wp2_with fail
      exact bodyPost_ret (results_tt rfl rfl rfl) rfl ⟨none, 0, rfl, Sl.nil, S.b⟩
    · have hn' : (n0 == 0) = false := by simpa using hn
      have hgw : 0 ≤ ((termAt p pu rg ch).getD tZero).wait ∧ ((termAt p pu rg ch).getD tZero).wait ≤ 100000 := by
        cases h : termAt p pu rg ch with
        | none => exact ⟨by decide, by decide⟩
        | some tm => exact (termAt_good hg h).2
      have HR := Lib.hid (prfAns_is (HU.out.said at') hgl.no hgl.at' hgw.1 Han.out hn)
      have Hat : Hid (∀ s ∈ upS at' U, 0 ≤ s.at' ∧ s.at' ≤ 4321439) := fun s hs => hgl.at' s ((HU.out.mem s).1 (List.mem_filter.1 hs).1).1
      have Hup := Lib.hid (fun (N : Nat → Prop) w' (h : Sl rStm N w' Au U) => upTo_any N Au U cu at' w' h (Nat.le_trans HU.out.len (by omega)) HU.out.ord Hcu.out (by omega))
      obtain ⟨nV, hV⟩ := upS_pre HU.out.ord at'
      have hUl : U.length ≤ 1000000 := Nat.le_trans HU.out.len (by omega)
      have hVl2 : (upS at' U).length ≤ 19 := by have := HU.out.len; rw [← hV, List.length_take]; omega
      have hVl : (upS at' U).length ≤ 1000000 := by omega
      have HV := Lib.hid hV
      clear hV hg hgl Hd Han HU Hcu hn
      generalize prfAns (termAt p pu rg ch) k t ch at' pu l = Rs at *
      generalize (termAt p pu rg ch).getD tZero = tm at *
      generalize (termAt p pu rg ch).isSome = is at *
      generalize upS at' U = V at *
      have c3 := (S.lv 3 rfl).all
      go_upto_region 10 with fail
      obtain ⟨Z, hZ⟩ : ∃ Z, Z = w7.heap.size := ⟨_, rfl⟩
      replace S := (S.newAt #[.int .i64 n0] 3 Z hZ).asOwn flatInt 5 rfl [n0] rfl rfl (by simp) rfl 1 rfl
      rw [← hZ]
      clear hZ c3 c4
      generalize w7.alloc (.cells #[.int .i64 n0] 3) = w8 at *
      have c3 := (S.lv 3 rfl).all
      have c4 := (S.lv 4 rfl).all
      by_cases hy : y0 = 2 ∧ tm.wait ≠ 0
      · have HR2 : Hid (srtI (n0 :: prfNos tm.wait n0 pu V V) = Rs) := by show _ = _; rw [HR.out, if_pos hy]; rfl
        obtain ⟨rfl, hwt⟩ := hy
        have hwt' : (tm.wait == 0) = false := by simpa using hwt
        clear HR hwt
        go_wp2_with fail
        ((with_reducible refine (Hup.out _ w8 (S.slc 2 rfl)).mono ?_); rintro e w9 ⟨rfl, _, hl9⟩)
        replace S := (S.below hl9).slTake 2 rfl nV
        rw [HV.out] at S
        clear hl9 Hup c3 c4
        go_wp2_with fail
        go_loopw [20, 69] (fun v i wr => ∃ (j : Nat) (out : List Int), j ≤ V.length ∧ i = .int .i64 j ∧ Hid (n0 :: prfNos tm.wait n0 pu V (V.take j) = out) ∧ Mem w wr [.loc w.heap.size (idCs k t) 29, .loc (w.heap.size + 1) (qCs A p.length c pu rg ch at') 118, .sl rStm Au V, .loc K (askCs tm is pu Au U.length cu) 122, .loc Y (aCs m0 2 n0) 48, .own rInt w.heap.size 3 v out]) (fun _ i _ => V.length - (intOf i).toNat)
        case atStart => exact ⟨0, [n0], Nat.zero_le _, rfl, Lib.hid rfl, S⟩
        case round =>
          clear S
          obtain ⟨j, out, hj, rfl, HO, S⟩ := hrel
          have hol : out.length ≤ 1 + V.length := by
            rw [← HO.out, List.length_cons]
            have h1 := prfNos_len tm.wait n0 pu V (V.take j)
            rw [List.length_take] at h1
            omega
          by_cases hlt : j < V.length
          · obtain ⟨s, hf⟩ : ∃ s, V[j]? = some s := ⟨_, List.getElem?_eq_getElem hlt⟩
            obtain ⟨blk, off, rfl, hblk, d0, d1, d2, d3, d4, d5, d6, d7⟩ := (S.slc 2 rfl).stm j s hf
            have hsat := Hat.out s (List.mem_of_getElem? hf)
            have HO2 := Lib.hid (prfNos_snoc (wait := tm.wait) (n := n0) (pu := pu) (U := V) hf)
            obtain ⟨Ao, co, rfl⟩ := (S.ow 5 rfl).len
            clear hf
            go_upto_region 16 with fail
            clear d0 d1 d2 d3 d4 d5 d6 d7
            obtain ⟨Q, hQ⟩ : ∃ Q, Q = wr.heap.size := ⟨_, rfl⟩
            replace S := S.newAt (stmCs s) 84 Q hQ
            rw [← hQ]
            clear hQ
            generalize wr.alloc (.cells (stmCs s) 84) = w10 at *
            have c4 := (S.lv 4 rfl).all
            have c6 := (S.lv 6 rfl).all
            by_cases hno : s.no = n0
            · have hno' : (s.no == n0) = true := by simpa using hno
              have hwr : IntKind.i64.wrap (s.at' + tm.wait) = s.at' + tm.wait := IntWalk.i64_in _ (by omega)
              have HO3 : Hid (n0 :: prfNos tm.wait n0 pu V (V.take (j + 1)) = out ++ [noOf (confP pu s.at' (s.at' + tm.wait) V)]) := by show _ = _; rw [HO2.out, if_pos hno, ← HO.out]; rfl
              have c3 := (S.lv 3 rfl).all
              clear hno HO HO2
              go_wp2_with fail
              ((with_reducible refine (confirmation_any _ (some ⟨blk, off, none⟩) V cu pu s.at' (s.at' + tm.wait) w10 (S.slc 2 rfl) hVl).mono ?_); rintro e w11 ⟨rfl, hl11⟩)
              replace S := S.below hl11
              clear hl11 c3 c4 c6
              rw [noOf] at HO3
              generalize (confP pu s.at' (s.at' + tm.wait) V).isSome = ic at *
              generalize (confP pu s.at' (s.at' + tm.wait) V).getD stmZ = cf at *
              go_upto_region 18 with fail
              obtain ⟨Q2, hQ⟩ : ∃ Q, Q = w11.heap.size := ⟨_, rfl⟩
              replace S := S.newAt (stmCs cf) 84 Q2 hQ
              rw [← hQ]
              clear hQ
              generalize w11.alloc (.cells (stmCs cf) 84) = w12 at *
              have c7 := (S.lv 7 rfl).all
              have hsz := S.b.size
              go_wp2_with (at_builtin; refine S.app 5 rfl tyIntP rfl _ _ rfl cf.no 1 rfl rfl rfl (fun u hu => by simp at hu; subst hu; rfl) hsz (by omega) (by decide) ?_; intro v' w13 S6)
              go_roundw
              case rel => exact ⟨j + 1, out ++ [cf.no], by omega, by go_num, HO3, (S6.del 7).del 6⟩
              case measure => simp [intOf]; omega
            · have hno' : (s.no == n0) = false := by simpa using hno
              have HO3 : Hid (n0 :: prfNos tm.wait n0 pu V (V.take (j + 1)) = out) := by show _ = _; rw [HO2.out, if_neg hno, ← HO.out]
              clear hno HO HO2
              go_wp2_with fail
              go_roundw
              case rel => exact ⟨j + 1, out, by omega, by go_num, HO3, S.del 6⟩
              case measure => simp [intOf]; omega
          · have HO2 : Hid (n0 :: prfNos tm.wait n0 pu V V = out) := by show _ = _; rw [← HO.out, List.take_of_length_le (by omega)]
            obtain ⟨g, cap, e1, _⟩ := (S.ow 5 rfl).form (by rw [← HO2.out]; simp)
            subst e1
            have Hs := Lib.hid (S.sortI 5 rfl rfl (by omega))
            clear HO
            go_wp2_with fail
            ((with_reducible refine (Hs.out).mono ?_); rintro e w10 ⟨rfl, S2⟩)
            obtain rfl : srtI out = Rs := by rw [← HR2.out, HO2.out]
            obtain ⟨A2, c2, e2, hS⟩ := ((S2.ow 5 rfl).flatM flatInt (M' := Lt w.heap.size)).toSlC (fun k h1 h2 => by unfold Lt at h2; omega)
            have He := Lib.hid e2
            have HS2 := Lib.hid hS.2
            clear hS e2 Hs
            go_wp2_with fail
            exact bodyPost_ret (results_tt rfl rfl rfl) rfl ⟨A2, c2, congrArg (fun x => Ending.returned (.tuple #[x, .int .i64 0])) He.out, HS2.out, S2.b⟩
      · obtain rfl : Rs = [n0] := by rw [HR.out, if_neg hy]
        obtain ⟨A2, c2, e2, hS⟩ := ((S.ow 5 rfl).flatM flatInt (M' := Lt w.heap.size)).toSlC (fun k h1 h2 => by unfold Lt at h2; omega)
        have He := Lib.hid e2
        have HS2 := Lib.hid hS.2
        clear hS e2 HR
        by_cases h2 : y0 = 2
        · have hwt : (tm.wait == 0) = true := by simpa using fun e => hy ⟨h2, e⟩
          subst h2
          clear hy
          go_wp2_with fail
          exact bodyPost_ret (results_tt rfl rfl rfl) rfl ⟨A2, c2, congrArg (fun x => Ending.returned (.tuple #[x, .int .i64 0])) He.out, HS2.out, S.b⟩
        · have h2' : (y0 != 2) = true := by simpa using h2
          clear hy h2
          go_wp2_with fail
          exact bodyPost_ret (results_tt rfl rfl rfl) rfl ⟨A2, c2, congrArg (fun x => Ending.returned (.tuple #[x, .int .i64 0])) He.out, HS2.out, S.b⟩
  · obtain rfl : [] = Rs := by rw [← HRs.out, if_neg hF]
    have hF' : (F != 0) = true := by simpa using hF
    clear hF Hask Hans Hgood HRs
    go_wp2_with fail
    exact bodyPost_ret (results_tt rfl rfl rfl) rfl ⟨none, 0, rfl, Sl.nil, S.b⟩
end Go.Proofs.YtlnklkedpknbpaaGreatDoor
