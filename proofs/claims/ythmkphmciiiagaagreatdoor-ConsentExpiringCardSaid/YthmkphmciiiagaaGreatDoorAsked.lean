/- What handref2.Asked returns. -/
import Derived.Test.YthmkphmciiiagaaGreatDoorAskedLaw
import Derived.Test.YthmkphmciiiagaaGreatDoorMap
namespace Go.Proofs.YthmkphmciiiagaaGreatDoor
open Go Go.RowKit
theorem zeroSl (w : World) : (zeroValue 27).run Tryz.prog w = .ok (.slice none 0 0) w := by kernel_rfl
theorem getD_same (n : Int) (v z : Value) (L : List (Int × Value)) : (getI n (updI n v L)).getD z = v := by
  rw [getI_upd, if_pos rfl]
  rfl
theorem getD_other {n m : Int} (h : n ≠ m) {v z x : Value} {L : List (Int × Value)} (e : (getI n L).getD z = x) : (getI n (updI m v L)).getD z = x := by
  rw [getI_upd, if_neg h]
  exact e
set_option maxHeartbeats 16000000 in
set_option maxRecDepth 100000 in
theorem refAsked_any (N : Nat → Prop) (A Al : Option Addr) (p : List Purp) (l : List Stm) (c cl : Nat) (k : Int) (t pu rg : ByteArray) (ch at' : Int) (w : World) (hS : Sl rPurp N w A p) (hg : GoodPol p) (hL : Sl rStm N w Al l) (hgl : GoodL p l) (hl : l.length ≤ 100000) (hat : 0 ≤ at' ∧ at' ≤ 4321439) :
    Calls Tryz.prog 65 #[.slice A p.length c, .slice Al l.length cl, .agg (qqCs k t pu rg ch at')] w (GivesAns (mayAns p l k t pu rg ch at') w) := by
  have S := ((Mem.start w).new' (qqCs k t pu rg ch at') 31).new' (aCs false 0 0) 105
  replace S : Mem w ((w.alloc (.cells (qqCs k t pu rg ch at') 31)).alloc (.cells (aCs false 0 0) 105)) [.loc w.heap.size (qqCs k t pu rg ch at') 31, .loc (w.heap.size + 1) (aCs false 0 0) 105] := by simpa using S
  have Ht := Lib.hid (fun w' (h : Below w.heap.size w w') => refTermIn_any N A p pu rg ch c w' (hS.keepB h) hg)
  have hll : ∀ what q, (saidR k t ch at' what q l).length ≤ 100000 := fun what q => Nat.le_trans (List.length_filter_le ..) hl
  have Hs := Lib.hid (fun what q w' (h : Below w.heap.size w w') => refSaid_any N Al l cl k t pu rg ch at' what q w' (hL.keepB h) (by omega))
  have HT : ∀ what q a n, lat (saidR k t ch at' what q l) = (a, n) → Hid (∀ (N : Nat → Prop) A c w', Sl rStm N w' A (saidR k t ch at' what q l) → Calls Tryz.prog 141 #[.slice A (saidR k t ch at' what q l).length c] w' fun e w'' => e = .returned (.tuple #[.int .i64 a, .int .i64 n]) ∧ Below w'.heap.size w' w'') := fun what q a n h N A c w' hS => by
    have := latest_any N A (saidR k t ch at' what q l) c w' hS (by have := hll what q; omega)
    rw [h] at this
    exact this
  obtain ⟨⟨a4, n4⟩, H4⟩ : ∃ x, Hid (lat (saidR k t ch at' 4 ⟨#[]⟩ l) = x) := ⟨_, Lib.hid rfl⟩
  obtain ⟨⟨a5, n5⟩, H5⟩ : ∃ x, Hid (lat (saidR k t ch at' 5 ⟨#[]⟩ l) = x) := ⟨_, Lib.hid rfl⟩
  obtain ⟨⟨a3, n3⟩, H3⟩ : ∃ x, Hid (lat (saidR k t ch at' 3 pu l) = x) := ⟨_, Lib.hid rfl⟩
  obtain ⟨⟨a1, n1⟩, H1⟩ : ∃ x, Hid (lat (saidR k t ch at' 1 pu l) = x) := ⟨_, Lib.hid rfl⟩
  have L4 := HT _ _ _ _ H4.out
  have L5 := HT _ _ _ _ H5.out
  have L3 := HT _ _ _ _ H3.out
  have L1 := HT _ _ _ _ H1.out
  clear HT
  have HCs : Hid ((saidR k t ch at' 2 pu l).length ≤ 100000) := hll 2 pu
  have HGl : Hid ((saidR k t ch at' 1 pu l).length ≤ 100000) := hll 1 pu
  have HGa : Hid (∀ s ∈ saidR k t ch at' 1 pu l, 0 ≤ s.at' ∧ s.at' ≤ 4321439) := fun s hs => hgl.at' s (List.mem_filter.1 hs).1
  have Htm : Hid (∀ tm, termAt p pu rg ch = some tm → (0 ≤ tm.days ∧ tm.days ≤ 2000) ∧ (0 ≤ tm.wait ∧ tm.wait ≤ 100000)) := fun tm h => termAt_good hg h
  have HR0 : Hid (mayAns p l k t pu rg ch at' = match termAt p pu rg ch with
    | none => (false, 3, 0)
    | some tm => if 0 ≤ a4 ∧ a5 ≤ a4 then (false, 6, n4) else if 0 ≤ a3 ∧ a1 ≤ a3 then (false, 5, n3) else if tm.free = true then (true, 1, 0) else pickR (stR tm (saidR k t ch at' 2 pu l) at') (liveR a3 (saidR k t ch at' 1 pu l))) := by
    show _ = _
    unfold mayAns askR
    rw [H4.out, H5.out, H3.out, H1.out]
    cases termAt p pu rg ch <;> rfl
  have HsG := Lib.hid (Hs.out 1 pu)
  have HsC := Lib.hid (Hs.out 2 pu)
  generalize saidR k t ch at' 1 pu l = G at *
  generalize saidR k t ch at' 2 pu l = Cs at *
  generalize mayAns p l k t pu rg ch at' = R at *
  generalize termAt p pu rg ch = o at *
  clear hS hg hL hgl H4 H5 H3 H1 hll
  go_enter Tryz.func65, Tryz.ntmps65
  go_upto_region 1 with fail
  generalize (w.alloc (.cells (qqCs k t pu rg ch at') 31)).alloc (.cells (aCs false 0 0) 105) = w1 at *
  have c0 := (S.lv 0 rfl).all
  go_wp2_with fail
  ((with_reducible refine (Ht.out w1 S.b).mono ?_); rintro e w2 ⟨rfl, hl2⟩)
  replace S := S.below hl2
  clear hl2 Ht c0
  obtain ⟨is, his⟩ : ∃ is, o.isSome = is := ⟨_, rfl⟩
  obtain ⟨tm, htm⟩ : ∃ tm, o.getD tZero = tm := ⟨_, rfl⟩
  have His := Lib.hid his
  have Htm1 := Lib.hid htm
  rw [his, htm]
  clear his htm
  go_upto_region 2 with fail
  obtain ⟨Y, hY⟩ : ∃ Y, Y = w2.heap.size := ⟨_, rfl⟩
  replace S := S.newAt (tCs tm) 99 Y hY
  rw [← hY]
  clear hY
  generalize w2.alloc (.cells (tCs tm) 99) = w3 at *
  cases o with
  | none =>
    obtain rfl : false = is := His.out
    obtain rfl : R = (false, 3, 0) := HR0.out
    clear HR0 His Htm1 L4 L5 L3 L1 Hs HCs HGl HGa Htm
    have c1 := (S.lv 1 rfl).all
    go_wp2_with fail
    have S2 := S.fillAns 1 rfl false 3 0
    exact bodyPost_ret (results_cell1 rfl rfl (loadA (S2.lv 1 rfl))) rfl ⟨rfl, S2.b⟩
  | some tm' =>
    obtain rfl : true = is := His.out
    obtain rfl : tm' = tm := Htm1.out
    have hd := Htm.out tm' rfl
    have HR1 : Hid (R = if 0 ≤ a4 ∧ a5 ≤ a4 then (false, 6, n4) else if 0 ≤ a3 ∧ a1 ≤ a3 then (false, 5, n3) else if tm'.free = true then (true, 1, 0) else pickR (stR tm' Cs at') (liveR a3 G)) := HR0.out
    clear HR0 His Htm1 Htm
    have c0 := (S.lv 0 rfl).all
    go_wp2_with fail
    ((with_reducible refine (Hs.out 4 ⟨#[]⟩ _ S.b).mono ?_); rintro e wa ⟨Aa, ca, rfl, hSa, hla⟩)
    replace S := S.below hla
    have Hb := Lib.hid (L4.out _ Aa ca wa hSa)
    clear hla hSa
    go_wp2_with fail
    ((with_reducible refine (Hb.out).mono ?_); rintro e wb ⟨rfl, hlb⟩)
    replace S := S.below hlb
    clear hlb Hb
    clear c0
    have c0 := (S.lv 0 rfl).all
    go_wp2_with fail
    ((with_reducible refine (Hs.out 5 ⟨#[]⟩ _ S.b).mono ?_); rintro e wa ⟨Aa, ca, rfl, hSa, hla⟩)
    replace S := S.below hla
    have Hb := Lib.hid (L5.out _ Aa ca wa hSa)
    clear hla hSa
    go_wp2_with fail
    ((with_reducible refine (Hb.out).mono ?_); rintro e wb ⟨rfl, hlb⟩)
    replace S := S.below hlb
    clear hlb Hb
    clear c0
    by_cases hq1 : 0 ≤ a4 ∧ a5 ≤ a4
    · obtain rfl : R = (false, 6, n4) := by rw [HR1.out, if_pos hq1]
      obtain ⟨hq2, hq3⟩ := hq1
      clear HR1 L4 L5 L3 L1 Hs HCs HGl HGa
      have c1 := (S.lv 1 rfl).all
      go_wp2_with fail
      have S2 := S.fillAns 1 rfl false 6 n4
      exact bodyPost_ret (results_cell1 rfl rfl (loadA (S2.lv 1 rfl))) rfl ⟨rfl, S2.b⟩
    · have HR2 : Hid (R = if 0 ≤ a3 ∧ a1 ≤ a3 then (false, 5, n3) else if tm'.free = true then (true, 1, 0) else pickR (stR tm' Cs at') (liveR a3 G)) := by show _ = _; rw [HR1.out, if_neg hq1]
      clear HR1
      go_upto_region 6 with fail
      go_cut [62] (fun s62 wx => s62 = .bool false ∧ wb = wx)
      case first =>
        clear HR2
        by_cases hq2 : 0 ≤ a4
        · have hq3 : ¬ a5 ≤ a4 := fun h => hq1 ⟨hq2, h⟩
          clear hq1
          go_wp2_with fail
          go_meet
          exact ⟨by first | rfl | (simp; omega), rfl⟩
        · clear hq1
          go_wp2_with fail
          go_meet
          exact ⟨rfl, rfl⟩
      case rest =>
        obtain ⟨rfl, rfl⟩ := hcut
        clear hq1
        have c0 := (S.lv 0 rfl).all
        go_wp2_with fail
        ((with_reducible refine (HsG.out _ S.b).mono ?_); rintro e wc ⟨Ag, cg, rfl, hSg, hlg⟩)
        replace S := S.call hlg (.sl rStm Ag G) hSg (fun k e => by cases e)
        clear hlg hSg HsG c0
        have hGl := HGl.out
        have Hb := Lib.hid (L1.out _ Ag cg wc (S.slc 3 rfl))
        clear L1 L4 L5
        go_wp2_with fail
        ((with_reducible refine (Hb.out).mono ?_); rintro e wd ⟨rfl, hld⟩)
        replace S := S.below hld
        clear hld Hb
        have c0 := (S.lv 0 rfl).all
        go_wp2_with fail
        ((with_reducible refine (Hs.out 3 pu _ S.b).mono ?_); rintro e wa ⟨Aa, ca, rfl, hSa, hla⟩)
        replace S := S.below hla
        have Hb := Lib.hid (L3.out _ Aa ca wa hSa)
        clear hla hSa
        go_wp2_with fail
        ((with_reducible refine (Hb.out).mono ?_); rintro e wb ⟨rfl, hlb⟩)
        replace S := S.below hlb
        clear hlb Hb
        clear c0 L3
        by_cases hq1 : 0 ≤ a3 ∧ a1 ≤ a3
        · obtain rfl : R = (false, 5, n3) := by rw [HR2.out, if_pos hq1]
          obtain ⟨hq2, hq3⟩ := hq1
          clear HR2 Hs HCs HGl HGa HsC
          have c1 := (S.lv 1 rfl).all
          go_wp2_with fail
          have S2 := S.fillAns 1 rfl false 5 n3
          exact bodyPost_ret (results_cell1 rfl rfl (loadA (S2.lv 1 rfl))) rfl ⟨rfl, S2.b⟩
        · have HR3 : Hid (R = if tm'.free = true then (true, 1, 0) else pickR (stR tm' Cs at') (liveR a3 G)) := by show _ = _; rw [HR2.out, if_neg hq1]
          clear HR2
          go_upto_region 11 with fail
          go_cut [90] (fun s90 wx => s90 = .bool false ∧ wb = wx)
          case first =>
            clear HR3
            by_cases hq2 : 0 ≤ a3
            · have hq3 : ¬ a1 ≤ a3 := fun h => hq1 ⟨hq2, h⟩
              clear hq1
              go_wp2_with fail
              go_meet
              exact ⟨by first | rfl | (simp; omega), rfl⟩
            · clear hq1
              go_wp2_with fail
              go_meet
              exact ⟨rfl, rfl⟩
          case rest =>
            obtain ⟨rfl, rfl⟩ := hcut
            clear hq1
            have c2 := (S.lv 2 rfl).all
            cases hf : tm'.free with
            | true =>
              obtain rfl : R = (true, 1, 0) := by rw [HR3.out, if_pos hf]
              clear HR3 Hs HCs HGl HGa HsC
              have c1 := (S.lv 1 rfl).all
              go_wp2_with fail
              have S2 := S.fillAns 1 rfl true 1 0
              exact bodyPost_ret (results_cell1 rfl rfl (loadA (S2.lv 1 rfl))) rfl ⟨rfl, S2.b⟩
            | false =>
              have HR4 : Hid (R = pickL (fun v => ofSt (stR tm' Cs at') a3 v G) [2, 8, 9, 7]) := by show _ = _; rw [HR3.out, if_neg (by simp [hf]), pickL_is]; rfl
              clear HR3
              have hmm := @run_makeMap Tryz.prog
              go_upto_region 16 with fail
              clear hmm c2 hf
              obtain ⟨X, hX⟩ : ∃ X, X = wb.heap.size := ⟨_, rfl⟩
              replace S := ((((S.newMap X hX).nil rStm w.heap.size 38).nil rStm w.heap.size 38).nil rStm w.heap.size 38).nil rStm w.heap.size 38
              rw [← hX]
              clear hX
              generalize wb.alloc (.map #[] 0) = we at *
              obtain ⟨st, Hst⟩ : ∃ st, Hid (stR tm' Cs at' = st) := ⟨_, Lib.hid rfl⟩
              rw [Hst.out] at HR4
              go_wp2_with fail
              go_loopw [99] (fun i wr => ∃ (j : Nat) (L : List (Int × Value)) (v2 v8 v9 v7 : Value), j ≤ G.length ∧ i = .int .i64 j ∧ ((getI 2 L).getD (.slice none 0 0) = v2 ∧ (getI 8 L).getD (.slice none 0 0) = v8 ∧ (getI 9 L).getD (.slice none 0 0) = v9 ∧ (getI 7 L).getD (.slice none 0 0) = v7) ∧ Mem w wr [.loc w.heap.size (qqCs k t pu rg ch at') 31, .loc (w.heap.size + 1) (aCs false 0 0) 105, .loc Y (tCs tm') 99, .sl rStm Ag G, .mapI X L, .own rStm w.heap.size 38 v2 (ofSt st a3 2 (G.take j)), .own rStm w.heap.size 38 v8 (ofSt st a3 8 (G.take j)), .own rStm w.heap.size 38 v9 (ofSt st a3 9 (G.take j)), .own rStm w.heap.size 38 v7 (ofSt st a3 7 (G.take j))]) (fun i _ => G.length - (intOf i).toNat)
              case atStart => exact ⟨0, [], _, _, _, _, Nat.zero_le _, rfl, ⟨rfl, rfl, rfl, rfl⟩, S⟩
              case round =>
                clear S
                obtain ⟨j, L, v2, v8, v9, v7, hj, rfl, hG4, S⟩ := hrel
                obtain ⟨A2, c2, rfl⟩ := (S.ow 5 rfl).len
                obtain ⟨A8, c8, rfl⟩ := (S.ow 6 rfl).len
                obtain ⟨A9, c9, rfl⟩ := (S.ow 7 rfl).len
                obtain ⟨A7, c7, rfl⟩ := (S.ow 8 rfl).len
                have HG4 := Lib.hid hG4
                have HG5 := Lib.hid hG4
                clear hG4
                have hF : ∀ v, (ofSt st a3 v (G.take j)).length ≤ 100000 := fun v => Nat.le_trans (List.length_filter_le ..) (Nat.le_trans (List.length_filter_le ..) (by rw [List.length_take]; omega))
                have hF2 := hF 2
                have hF8 := hF 8
                have hF9 := hF 9
                have hF7 := hF 7
                clear hF
                by_cases hlt : j < G.length
                · obtain ⟨s, hf⟩ : ∃ s, G[j]? = some s := ⟨_, List.getElem?_eq_getElem hlt⟩
                  obtain ⟨blk, off, rfl, hblk, d0, d1, d2, d3, d4, d5, d6, d7⟩ := (S.slc 3 rfl).stm j s hf
                  have Hf := Lib.hid hf
                  have hsa := HGa.out s (List.mem_of_getElem? hf)
                  clear hf
                  go_upto_region 19 with fail
                  clear d0 d1 d2 d3 d4 d5 d6 d7
                  obtain ⟨Z, hZ⟩ : ∃ Z, Z = wr.heap.size := ⟨_, rfl⟩
                  replace S := S.newAt (stmCs s) 38 Z hZ
                  rw [← hZ]
                  clear hZ
                  generalize wr.alloc (.cells (stmCs s) 38) = wf at *
                  have k9 := (S.lv 9 rfl).all
                  by_cases hgo : s.at' ≤ a3
                  · go_wp2_with fail
                    go_roundw
                    case rel =>
                      have e : ∀ v, ofSt st a3 v (G.take (j + 1)) = ofSt st a3 v (G.take j) := fun v => by rw [ofSt_snoc st a3 v G j s Hf.out, if_pos hgo]
                      exact ⟨j + 1, L, _, _, _, _, by omega, by go_num, HG4.out, by rw [e 2, e 8, e 9, e 7]; exact S.del 9⟩
                    case measure => simp [intOf]; omega
                  · have k0 := (S.lv 0 rfl).all
                    have k2 := (S.lv 2 rfl).all
                    go_wp2_with fail
                    ((with_reducible refine (HsC.out _ S.b).mono ?_); rintro e wg ⟨Ac, cc, rfl, hSc, hlc⟩)
                    replace S := S.call hlc (.sl rStm Ac Cs) hSc (fun k e => by cases e)
                    clear hlc hSc k0 k2 k9
                    have hCl := HCs.out
                    have hwr : IntKind.i64.wrap (s.at' + tm'.wait) = s.at' + tm'.wait := IntWalk.i64_in _ (by have := hd.2; omega)
                    go_wp2_with fail
                    go_loopw [20, 116] (fun b i wr => ∃ (m : Nat) (q : Bool), m ≤ Cs.length ∧ i = .int .i64 m ∧ b = .bool q ∧ Hid (((tm'.wait == 0) || (Cs.take m).any (fun c => decide (s.at' ≤ c.at' ∧ c.at' ≤ s.at' + tm'.wait))) = q) ∧ Mem w wr [.loc w.heap.size (qqCs k t pu rg ch at') 31, .loc (w.heap.size + 1) (aCs false 0 0) 105, .loc Y (tCs tm') 99, .sl rStm (some ⟨blk, off, none⟩) G, .mapI X L, .own rStm w.heap.size 38 (.slice A2 (ofSt st a3 2 (G.take j)).length c2) (ofSt st a3 2 (G.take j)), .own rStm w.heap.size 38 (.slice A8 (ofSt st a3 8 (G.take j)).length c8) (ofSt st a3 8 (G.take j)), .own rStm w.heap.size 38 (.slice A9 (ofSt st a3 9 (G.take j)).length c9) (ofSt st a3 9 (G.take j)), .own rStm w.heap.size 38 (.slice A7 (ofSt st a3 7 (G.take j)).length c7) (ofSt st a3 7 (G.take j)), .loc Z (stmCs s) 38, .sl rStm Ac Cs]) (fun _ i _ => Cs.length - (intOf i).toNat)
                    case atStart => exact ⟨0, _, Nat.zero_le _, rfl, rfl, (by show _ = _; simp), S⟩
                    case round =>
                      clear S
                      obtain ⟨m, q, hm, rfl, rfl, HK, S⟩ := hrel
                      by_cases hmt : m < Cs.length
                      · obtain ⟨s', hf⟩ : ∃ s', Cs[m]? = some s' := ⟨_, List.getElem?_eq_getElem hmt⟩
                        obtain ⟨blk', off', rfl, hblk', d0, d1, d2, d3, d4, d5, d6, d7⟩ := (S.slc 10 rfl).stm m s' hf
                        have HK2 : Hid (((tm'.wait == 0) || (Cs.take (m + 1)).any (fun c => decide (s.at' ≤ c.at' ∧ c.at' ≤ s.at' + tm'.wait))) = (q || decide (s.at' ≤ s'.at' ∧ s'.at' ≤ s.at' + tm'.wait))) := by
                          show _ = _
                          rw [take_snoc hf, List.any_append, ← Bool.or_assoc, HK.out]
                          simp
                        clear hf HK
                        go_upto_region 24 with fail
                        clear d0 d1 d2 d3 d4 d5 d6 d7
                        obtain ⟨Z', hZ⟩ : ∃ Z', Z' = wr.heap.size := ⟨_, rfl⟩
                        replace S := S.newAt (stmCs s') 38 Z' hZ
                        rw [← hZ]
                        clear hZ
                        generalize wr.alloc (.cells (stmCs s') 38) = wh at *
                        cases q with
                        | true =>
                          go_wp2_with fail
                          go_roundw
                          case rel => exact ⟨m + 1, true, by omega, by go_num, rfl, HK2, S.del 11⟩
                          case measure => simp [intOf]; omega
                        | false =>
                          obtain ⟨D, HD⟩ : ∃ D, Hid (decide (s.at' ≤ s'.at' ∧ s'.at' ≤ s.at' + tm'.wait) = D) := ⟨_, Lib.hid rfl⟩
                          have C3 : Hid (∀ w, Calls Tryz.prog 74 #[.int .i64 s'.at', .int .i64 s.at', .int .i64 (s.at' + tm'.wait)] w fun e w' => e = .returned (.bool D) ∧ w = w') := fun w => HD.out ▸ in_any s'.at' s.at' (s.at' + tm'.wait) w
                          rw [HD.out, Bool.false_or] at HK2
                          clear HD
                          have k2 := (S.lv 2 rfl).all
                          have k9 := (S.lv 9 rfl).all
                          have k11 := (S.lv 11 rfl).all
                          go_wp2_with fail
                          ((with_reducible refine (C3.out _).mono ?_); rintro e _ ⟨rfl, rfl⟩)
                          go_wp2_with fail
                          go_roundw
                          case rel => exact ⟨m + 1, D, by omega, by go_num, rfl, HK2, S.del 11⟩
                          case measure => simp [intOf]; omega
                      · have HK2 : Hid (((tm'.wait == 0) || Cs.any (fun c => decide (s.at' ≤ c.at' ∧ c.at' ≤ s.at' + tm'.wait))) = q) := by show _ = _; rw [← HK.out, List.take_of_length_le (by omega)]
                        have HQ0 : Hid (st s = if 0 < tm'.days ∧ tm'.days * 1440 ≤ at' - s.at' then 7 else if q = true then 2 else if at' - s.at' ≤ tm'.wait then 8 else 9) := by
                          show _ = _
                          rw [← Hst.out, stR, ← HK2.out]
                          congr 1
                          simp
                        clear HK HK2
                        have hsu : IntKind.i64.wrap (at' - s.at') = at' - s.at' := IntWalk.i64_in _ (by omega)
                        have hmu : IntKind.i64.wrap (tm'.days * 1440) = tm'.days * 1440 := IntWalk.i64_in _ (by have := hd.1; omega)
                        have k0 := (S.lv 0 rfl).all
                        have k2 := (S.lv 2 rfl).all
                        have k9 := (S.lv 9 rfl).all
                        by_cases h7 : 0 < tm'.days ∧ tm'.days * 1440 ≤ at' - s.at'
                        · obtain ⟨h7a, h7b⟩ := h7
                          have HQ2 : Hid (st s = 7) := (by show _ = _; rw [HQ0.out, if_pos ⟨h7a, h7b⟩])
                          have HF2 := Lib.hid (fun v => ofSt_snoc st a3 v G j s Hf.out)
                          have hsz := S.b.size
                          obtain ⟨g2, g8, g9, g7⟩ := HG4.out
                          have hg1 := g7
                          clear g2 g8 g9 g7 HG4
                          go_wp2_with (first | (at_lookup; refine S.look 4 rfl Tryz.underlying193 Tryz.underlying3 zeroSl rfl _ _ rfl rfl 7 rfl ?_; rw [hg1]) | (at_builtin; refine S.app 8 rfl tyStmS rfl _ _ rfl s 1 rfl rfl rfl (oneStmS s) hsz (by omega) (by decide) ?_; intro v' w10 S6) | (at_mapUpdate; refine S6.mput 4 rfl Tryz.underlying193 Tryz.underlying3 rfl _ _ _ rfl rfl 7 rfl v' rfl ?_; intro w11 S7))
                          go_roundw
                          case rel =>
                            have e : ∀ v, ofSt st a3 v (G.take (j + 1)) = if 7 = v then ofSt st a3 v (G.take j) ++ [s] else ofSt st a3 v (G.take j) := fun v => by rw [HF2.out v, if_neg (by omega), HQ2.out]
                            exact ⟨j + 1, updI 7 v' L, .slice A2 (ofSt st a3 2 (G.take j)).length c2, .slice A8 (ofSt st a3 8 (G.take j)).length c8, .slice A9 (ofSt st a3 9 (G.take j)).length c9, v', by omega, by go_num, (by
                              obtain ⟨g2, g8, g9, g7⟩ := HG5.out
                              refine ⟨?_, ?_, ?_, ?_⟩ <;> first | exact getD_same .. | exact getD_other (by decide) (by assumption)), (by
                              have E2 := e 2
                              have E8 := e 8
                              have E9 := e 9
                              have E7 := e 7
                              first | rw [if_pos rfl] at E2 | rw [if_neg (by decide)] at E2
                              first | rw [if_pos rfl] at E8 | rw [if_neg (by decide)] at E8
                              first | rw [if_pos rfl] at E9 | rw [if_neg (by decide)] at E9
                              first | rw [if_pos rfl] at E7 | rw [if_neg (by decide)] at E7
                              rw [E2, E8, E9, E7]
                              exact (S7.del 10).del 9)⟩
                          case measure => simp [intOf]; omega
                        · go_upto_region 27 with fail
                          go_cut [134] (fun s134 wx => s134 = .bool false ∧ wr = wx)
                          case first =>
                            clear HQ0 HR4
                            by_cases h7a : 0 < tm'.days
                            · have h7b : ¬ tm'.days * 1440 ≤ at' - s.at' := fun h => h7 ⟨h7a, h⟩
                              clear h7
                              go_wp2_with fail
                              go_meet
                              exact ⟨by first | rfl | (simp; omega), rfl⟩
                            · clear h7
                              go_wp2_with fail
                              go_meet
                              exact ⟨rfl, rfl⟩
                          case rest =>
                            obtain ⟨rfl, rfl⟩ := hcut
                            have HQ1 : Hid (st s = if q = true then 2 else if at' - s.at' ≤ tm'.wait then 8 else 9) := by show _ = _; rw [HQ0.out, if_neg h7]
                            clear HQ0 h7
                            cases q with
                            | true =>
                              have HQ2 : Hid (st s = 2) := HQ1
                              have HF2 := Lib.hid (fun v => ofSt_snoc st a3 v G j s Hf.out)
                              have hsz := S.b.size
                              obtain ⟨g2, g8, g9, g7⟩ := HG4.out
                              have hg1 := g2
                              clear g2 g8 g9 g7 HG4
                              go_wp2_with (first | (at_lookup; refine S.look 4 rfl Tryz.underlying193 Tryz.underlying3 zeroSl rfl _ _ rfl rfl 2 rfl ?_; rw [hg1]) | (at_builtin; refine S.app 5 rfl tyStmS rfl _ _ rfl s 1 rfl rfl rfl (oneStmS s) hsz (by omega) (by decide) ?_; intro v' w10 S6) | (at_mapUpdate; refine S6.mput 4 rfl Tryz.underlying193 Tryz.underlying3 rfl _ _ _ rfl rfl 2 rfl v' rfl ?_; intro w11 S7))
                              go_roundw
                              case rel =>
                                have e : ∀ v, ofSt st a3 v (G.take (j + 1)) = if 2 = v then ofSt st a3 v (G.take j) ++ [s] else ofSt st a3 v (G.take j) := fun v => by rw [HF2.out v, if_neg (by omega), HQ2.out]
                                exact ⟨j + 1, updI 2 v' L, v', .slice A8 (ofSt st a3 8 (G.take j)).length c8, .slice A9 (ofSt st a3 9 (G.take j)).length c9, .slice A7 (ofSt st a3 7 (G.take j)).length c7, by omega, by go_num, (by
                                  obtain ⟨g2, g8, g9, g7⟩ := HG5.out
                                  refine ⟨?_, ?_, ?_, ?_⟩ <;> first | exact getD_same .. | exact getD_other (by decide) (by assumption)), (by
                                  have E2 := e 2
                                  have E8 := e 8
                                  have E9 := e 9
                                  have E7 := e 7
                                  first | rw [if_pos rfl] at E2 | rw [if_neg (by decide)] at E2
                                  first | rw [if_pos rfl] at E8 | rw [if_neg (by decide)] at E8
                                  first | rw [if_pos rfl] at E9 | rw [if_neg (by decide)] at E9
                                  first | rw [if_pos rfl] at E7 | rw [if_neg (by decide)] at E7
                                  rw [E2, E8, E9, E7]
                                  exact (S7.del 10).del 9)⟩
                              case measure => simp [intOf]; omega
                            | false =>
                              by_cases h8 : at' - s.at' ≤ tm'.wait
                              · have HQ2 : Hid (st s = 8) := (by show _ = _; rw [HQ1.out]; simp [h8])
                                have HF2 := Lib.hid (fun v => ofSt_snoc st a3 v G j s Hf.out)
                                have hsz := S.b.size
                                obtain ⟨g2, g8, g9, g7⟩ := HG4.out
                                have hg1 := g8
                                clear g2 g8 g9 g7 HG4
                                go_wp2_with (first | (at_lookup; refine S.look 4 rfl Tryz.underlying193 Tryz.underlying3 zeroSl rfl _ _ rfl rfl 8 rfl ?_; rw [hg1]) | (at_builtin; refine S.app 6 rfl tyStmS rfl _ _ rfl s 1 rfl rfl rfl (oneStmS s) hsz (by omega) (by decide) ?_; intro v' w10 S6) | (at_mapUpdate; refine S6.mput 4 rfl Tryz.underlying193 Tryz.underlying3 rfl _ _ _ rfl rfl 8 rfl v' rfl ?_; intro w11 S7))
                                go_roundw
                                case rel =>
                                  have e : ∀ v, ofSt st a3 v (G.take (j + 1)) = if 8 = v then ofSt st a3 v (G.take j) ++ [s] else ofSt st a3 v (G.take j) := fun v => by rw [HF2.out v, if_neg (by omega), HQ2.out]
                                  exact ⟨j + 1, updI 8 v' L, .slice A2 (ofSt st a3 2 (G.take j)).length c2, v', .slice A9 (ofSt st a3 9 (G.take j)).length c9, .slice A7 (ofSt st a3 7 (G.take j)).length c7, by omega, by go_num, (by
                                    obtain ⟨g2, g8, g9, g7⟩ := HG5.out
                                    refine ⟨?_, ?_, ?_, ?_⟩ <;> first | exact getD_same .. | exact getD_other (by decide) (by assumption)), (by
                                    have E2 := e 2
                                    have E8 := e 8
                                    have E9 := e 9
                                    have E7 := e 7
                                    first | rw [if_pos rfl] at E2 | rw [if_neg (by decide)] at E2
                                    first | rw [if_pos rfl] at E8 | rw [if_neg (by decide)] at E8
                                    first | rw [if_pos rfl] at E9 | rw [if_neg (by decide)] at E9
                                    first | rw [if_pos rfl] at E7 | rw [if_neg (by decide)] at E7
                                    rw [E2, E8, E9, E7]
                                    exact (S7.del 10).del 9)⟩
                                case measure => simp [intOf]; omega
                              · have HQ2 : Hid (st s = 9) := (by show _ = _; rw [HQ1.out]; simp [h8])
                                have HF2 := Lib.hid (fun v => ofSt_snoc st a3 v G j s Hf.out)
                                have hsz := S.b.size
                                obtain ⟨g2, g8, g9, g7⟩ := HG4.out
                                have hg1 := g9
                                clear g2 g8 g9 g7 HG4
                                go_wp2_with (first | (at_lookup; refine S.look 4 rfl Tryz.underlying193 Tryz.underlying3 zeroSl rfl _ _ rfl rfl 9 rfl ?_; rw [hg1]) | (at_builtin; refine S.app 7 rfl tyStmS rfl _ _ rfl s 1 rfl rfl rfl (oneStmS s) hsz (by omega) (by decide) ?_; intro v' w10 S6) | (at_mapUpdate; refine S6.mput 4 rfl Tryz.underlying193 Tryz.underlying3 rfl _ _ _ rfl rfl 9 rfl v' rfl ?_; intro w11 S7))
                                go_roundw
                                case rel =>
                                  have e : ∀ v, ofSt st a3 v (G.take (j + 1)) = if 9 = v then ofSt st a3 v (G.take j) ++ [s] else ofSt st a3 v (G.take j) := fun v => by rw [HF2.out v, if_neg (by omega), HQ2.out]
                                  exact ⟨j + 1, updI 9 v' L, .slice A2 (ofSt st a3 2 (G.take j)).length c2, .slice A8 (ofSt st a3 8 (G.take j)).length c8, v', .slice A7 (ofSt st a3 7 (G.take j)).length c7, by omega, by go_num, (by
                                    obtain ⟨g2, g8, g9, g7⟩ := HG5.out
                                    refine ⟨?_, ?_, ?_, ?_⟩ <;> first | exact getD_same .. | exact getD_other (by decide) (by assumption)), (by
                                    have E2 := e 2
                                    have E8 := e 8
                                    have E9 := e 9
                                    have E7 := e 7
                                    first | rw [if_pos rfl] at E2 | rw [if_neg (by decide)] at E2
                                    first | rw [if_pos rfl] at E8 | rw [if_neg (by decide)] at E8
                                    first | rw [if_pos rfl] at E9 | rw [if_neg (by decide)] at E9
                                    first | rw [if_pos rfl] at E7 | rw [if_neg (by decide)] at E7
                                    rw [E2, E8, E9, E7]
                                    exact (S7.del 10).del 9)⟩
                                case measure => simp [intOf]; omega
                · have hG0 : G.take j = G := List.take_of_length_le (by omega)
                  rw [hG0] at S hF2 hF8 hF9 hF7 HG4
                  clear hG0
                  clear HG5
                  go_wp2_with fail
                  obtain ⟨V, hV⟩ : ∃ V, V = wr.heap.size := ⟨_, rfl⟩
                  replace S := S.newAt #[.int .i64 2, .int .i64 8, .int .i64 9, .int .i64 7] 3 V hV
                  rw [← hV]
                  clear hV
                  generalize wr.alloc (.cells #[.int .i64 2, .int .i64 8, .int .i64 9, .int .i64 7] 3) = wf at *
                  go_loopw [171] (fun i wr => ∃ (m : Nat), m ≤ 4 ∧ i = .int .i64 m ∧ Hid (pickL (fun v => ofSt st a3 v G) ([2, 8, 9, 7].drop m) = R) ∧ Mem w wr [.loc w.heap.size (qqCs k t pu rg ch at') 31, .loc (w.heap.size + 1) (aCs false 0 0) 105, .loc Y (tCs tm') 99, .sl rStm Ag G, .mapI X L, .own rStm w.heap.size 38 (.slice A2 (ofSt st a3 2 G).length c2) (ofSt st a3 2 G), .own rStm w.heap.size 38 (.slice A8 (ofSt st a3 8 G).length c8) (ofSt st a3 8 G), .own rStm w.heap.size 38 (.slice A9 (ofSt st a3 9 G).length c9) (ofSt st a3 9 G), .own rStm w.heap.size 38 (.slice A7 (ofSt st a3 7 G).length c7) (ofSt st a3 7 G), .loc V #[.int .i64 2, .int .i64 8, .int .i64 9, .int .i64 7] 3]) (fun i _ => 4 - (intOf i).toNat)
                  case atStart => exact ⟨0, by omega, rfl, HR4.out.symm, S⟩
                  case round =>
                    clear S HR4
                    obtain ⟨m, hm, rfl, HR5, S⟩ := hrel
                    obtain rfl | rfl | rfl | rfl | rfl : m = 0 ∨ m = 1 ∨ m = 2 ∨ m = 3 ∨ m = 4 := by omega
                    · obtain ⟨⟨x, y⟩, Hxy⟩ : ∃ q, Hid (lat (ofSt st a3 2 G) = q) := ⟨_, Lib.hid rfl⟩
                      have HL : Hid (Calls Tryz.prog 141 #[.slice A2 (ofSt st a3 2 G).length c2] wr fun e w'' => e = .returned (.tuple #[.int .i64 x, .int .i64 y]) ∧ Below wr.heap.size wr w'') := by
                        obtain ⟨A', c', e', hS⟩ := ((S.ow 5 rfl).flatM flatStm (M' := fun _ => False)).toSlC (fun _ _ h => h)
                        have := latest_any _ A' (ofSt st a3 2 G) c' wr hS.2 (by omega)
                        rw [Hxy.out, ← e'] at this
                        exact this
                      have HR6 : Hid ((if 0 ≤ x then (decide ((2 : Int) = 2), 2, y) else pickL (fun v => ofSt st a3 v G) [8, 9, 7]) = R) := by
                        show _ = _
                        rw [← HR5.out]
                        show _ = if 0 ≤ (lat (ofSt st a3 2 G)).1 then _ else _
                        rw [Hxy.out]
                      obtain ⟨g2, g8, g9, g7⟩ := HG4.out
                      have hg1 := g2
                      clear g2 g8 g9 g7 HG4 HR5 Hxy
                      have k9 := (S.lv 9 rfl).all
                      go_wp2_with (at_lookup; refine S.look 4 rfl Tryz.underlying193 Tryz.underlying3 zeroSl rfl _ _ rfl rfl 2 rfl ?_; rw [hg1])
                      ((with_reducible refine (HL.out).mono ?_); rintro e wl ⟨rfl, hll⟩)
                      replace S := S.below hll
                      clear hll HL hg1 k9
                      by_cases hx : 0 ≤ x
                      · obtain rfl : (true, 2, y) = R := by rw [← HR6.out, if_pos hx]; rfl
                        clear HR6
                        have c1 := (S.lv 1 rfl).all
                        go_wp2_with fail
                        have S2 := S.fillAns 1 rfl true 2 y
                        exact bodyPost_ret (results_cell1 rfl rfl (loadA (S2.lv 1 rfl))) rfl ⟨rfl, S2.b⟩
                      · have HR7 : Hid (pickL (fun v => ofSt st a3 v G) [8, 9, 7] = R) := by show _ = _; rw [← HR6.out, if_neg hx]
                        clear HR6
                        go_wp2_with fail
                        go_roundw
                        case rel => exact ⟨1, by omega, by go_num, HR7, S⟩
                        case measure => simp [intOf]
                    · obtain ⟨⟨x, y⟩, Hxy⟩ : ∃ q, Hid (lat (ofSt st a3 8 G) = q) := ⟨_, Lib.hid rfl⟩
                      have HL : Hid (Calls Tryz.prog 141 #[.slice A8 (ofSt st a3 8 G).length c8] wr fun e w'' => e = .returned (.tuple #[.int .i64 x, .int .i64 y]) ∧ Below wr.heap.size wr w'') := by
                        obtain ⟨A', c', e', hS⟩ := ((S.ow 6 rfl).flatM flatStm (M' := fun _ => False)).toSlC (fun _ _ h => h)
                        have := latest_any _ A' (ofSt st a3 8 G) c' wr hS.2 (by omega)
                        rw [Hxy.out, ← e'] at this
                        exact this
                      have HR6 : Hid ((if 0 ≤ x then (decide ((8 : Int) = 2), 8, y) else pickL (fun v => ofSt st a3 v G) [9, 7]) = R) := by
                        show _ = _
                        rw [← HR5.out]
                        show _ = if 0 ≤ (lat (ofSt st a3 8 G)).1 then _ else _
                        rw [Hxy.out]
                      obtain ⟨g2, g8, g9, g7⟩ := HG4.out
                      have hg1 := g8
                      clear g2 g8 g9 g7 HG4 HR5 Hxy
                      have k9 := (S.lv 9 rfl).all
                      go_wp2_with (at_lookup; refine S.look 4 rfl Tryz.underlying193 Tryz.underlying3 zeroSl rfl _ _ rfl rfl 8 rfl ?_; rw [hg1])
                      ((with_reducible refine (HL.out).mono ?_); rintro e wl ⟨rfl, hll⟩)
                      replace S := S.below hll
                      clear hll HL hg1 k9
                      by_cases hx : 0 ≤ x
                      · obtain rfl : (false, 8, y) = R := by rw [← HR6.out, if_pos hx]; rfl
                        clear HR6
                        have c1 := (S.lv 1 rfl).all
                        go_wp2_with fail
                        have S2 := S.fillAns 1 rfl false 8 y
                        exact bodyPost_ret (results_cell1 rfl rfl (loadA (S2.lv 1 rfl))) rfl ⟨rfl, S2.b⟩
                      · have HR7 : Hid (pickL (fun v => ofSt st a3 v G) [9, 7] = R) := by show _ = _; rw [← HR6.out, if_neg hx]
                        clear HR6
                        go_wp2_with fail
                        go_roundw
                        case rel => exact ⟨2, by omega, by go_num, HR7, S⟩
                        case measure => simp [intOf]
                    · obtain ⟨⟨x, y⟩, Hxy⟩ : ∃ q, Hid (lat (ofSt st a3 9 G) = q) := ⟨_, Lib.hid rfl⟩
                      have HL : Hid (Calls Tryz.prog 141 #[.slice A9 (ofSt st a3 9 G).length c9] wr fun e w'' => e = .returned (.tuple #[.int .i64 x, .int .i64 y]) ∧ Below wr.heap.size wr w'') := by
                        obtain ⟨A', c', e', hS⟩ := ((S.ow 7 rfl).flatM flatStm (M' := fun _ => False)).toSlC (fun _ _ h => h)
                        have := latest_any _ A' (ofSt st a3 9 G) c' wr hS.2 (by omega)
                        rw [Hxy.out, ← e'] at this
                        exact this
                      have HR6 : Hid ((if 0 ≤ x then (decide ((9 : Int) = 2), 9, y) else pickL (fun v => ofSt st a3 v G) [7]) = R) := by
                        show _ = _
                        rw [← HR5.out]
                        show _ = if 0 ≤ (lat (ofSt st a3 9 G)).1 then _ else _
                        rw [Hxy.out]
                      obtain ⟨g2, g8, g9, g7⟩ := HG4.out
                      have hg1 := g9
                      clear g2 g8 g9 g7 HG4 HR5 Hxy
                      have k9 := (S.lv 9 rfl).all
                      go_wp2_with (at_lookup; refine S.look 4 rfl Tryz.underlying193 Tryz.underlying3 zeroSl rfl _ _ rfl rfl 9 rfl ?_; rw [hg1])
                      ((with_reducible refine (HL.out).mono ?_); rintro e wl ⟨rfl, hll⟩)
                      replace S := S.below hll
                      clear hll HL hg1 k9
                      by_cases hx : 0 ≤ x
                      · obtain rfl : (false, 9, y) = R := by rw [← HR6.out, if_pos hx]; rfl
                        clear HR6
                        have c1 := (S.lv 1 rfl).all
                        go_wp2_with fail
                        have S2 := S.fillAns 1 rfl false 9 y
                        exact bodyPost_ret (results_cell1 rfl rfl (loadA (S2.lv 1 rfl))) rfl ⟨rfl, S2.b⟩
                      · have HR7 : Hid (pickL (fun v => ofSt st a3 v G) [7] = R) := by show _ = _; rw [← HR6.out, if_neg hx]
                        clear HR6
                        go_wp2_with fail
                        go_roundw
                        case rel => exact ⟨3, by omega, by go_num, HR7, S⟩
                        case measure => simp [intOf]
                    · obtain ⟨⟨x, y⟩, Hxy⟩ : ∃ q, Hid (lat (ofSt st a3 7 G) = q) := ⟨_, Lib.hid rfl⟩
                      have HL : Hid (Calls Tryz.prog 141 #[.slice A7 (ofSt st a3 7 G).length c7] wr fun e w'' => e = .returned (.tuple #[.int .i64 x, .int .i64 y]) ∧ Below wr.heap.size wr w'') := by
                        obtain ⟨A', c', e', hS⟩ := ((S.ow 8 rfl).flatM flatStm (M' := fun _ => False)).toSlC (fun _ _ h => h)
                        have := latest_any _ A' (ofSt st a3 7 G) c' wr hS.2 (by omega)
                        rw [Hxy.out, ← e'] at this
                        exact this
                      have HR6 : Hid ((if 0 ≤ x then (decide ((7 : Int) = 2), 7, y) else pickL (fun v => ofSt st a3 v G) []) = R) := by
                        show _ = _
                        rw [← HR5.out]
                        show _ = if 0 ≤ (lat (ofSt st a3 7 G)).1 then _ else _
                        rw [Hxy.out]
                      obtain ⟨g2, g8, g9, g7⟩ := HG4.out
                      have hg1 := g7
                      clear g2 g8 g9 g7 HG4 HR5 Hxy
                      have k9 := (S.lv 9 rfl).all
                      go_wp2_with (at_lookup; refine S.look 4 rfl Tryz.underlying193 Tryz.underlying3 zeroSl rfl _ _ rfl rfl 7 rfl ?_; rw [hg1])
                      ((with_reducible refine (HL.out).mono ?_); rintro e wl ⟨rfl, hll⟩)
                      replace S := S.below hll
                      clear hll HL hg1 k9
                      by_cases hx : 0 ≤ x
                      · obtain rfl : (false, 7, y) = R := by rw [← HR6.out, if_pos hx]; rfl
                        clear HR6
                        have c1 := (S.lv 1 rfl).all
                        go_wp2_with fail
                        have S2 := S.fillAns 1 rfl false 7 y
                        exact bodyPost_ret (results_cell1 rfl rfl (loadA (S2.lv 1 rfl))) rfl ⟨rfl, S2.b⟩
                      · have HR7 : Hid (pickL (fun v => ofSt st a3 v G) [] = R) := by show _ = _; rw [← HR6.out, if_neg hx]
                        clear HR6
                        go_wp2_with fail
                        go_roundw
                        case rel => exact ⟨4, by omega, by go_num, HR7, S⟩
                        case measure => simp [intOf]
                    · obtain rfl : (false, 4, 0) = R := HR5.out
                      clear HR5
                      have c1 := (S.lv 1 rfl).all
                      go_wp2_with fail
                      have S2 := S.fillAns 1 rfl false 4 0
                      exact bodyPost_ret (results_cell1 rfl rfl (loadA (S2.lv 1 rfl))) rfl ⟨rfl, S2.b⟩
end Go.Proofs.YthmkphmciiiagaaGreatDoor
