/- What handref2.ProofOf returns. -/
import Derived.Test.YtlnklkedpknbpaaGreatDoorProofIdx
import Derived.Test.YtlnklkedpknbpaaGreatDoorAsked
namespace Go.Proofs.YtlnklkedpknbpaaGreatDoor
open Go Go.RowKit
def GivesInts (xs : List Int) (w : World) (e : Ending) (w' : World) : Prop := ∃ A c, e = .returned (.slice A xs.length c) ∧ Sl rInt (Lt w.heap.size) w' A xs ∧ Below w.heap.size w w'
/-- the statement behind a granted answer, and its place -/
theorem granted_at {o : Option PTerm} {k : Int} {t : ByteArray} {ch at' : Int} {pu : ByteArray} {l U : List Stm} (hU : IsSaid k t ch at' l U) (hn : l.Pairwise (fun a b => a.no < b.no)) (hr : ∀ s ∈ l, 0 ≤ s.at' ∧ s.at' ≤ 4321439) {m : Bool} {n : Int} (h : askR o k t ch at' pu l = (m, 2, n)) (h0 : n ≠ 0) (hw : 0 < (o.getD tZero).wait) :
    ∃ (j : Nat) (g : Stm), l[j]? = some g ∧ g.no = n ∧ (0 ≤ g.at' ∧ g.at' ≤ 4321439) ∧ (∀ i s, i < j → l[i]? = some s → s.no ≠ n) ∧ prfAns o k t ch at' pu l = [n, (bestR g.at' (g.at' + (o.getD tZero).wait) 4321440 0 (saidR k t ch at' 2 pu l)).2].mergeSort (fun x y => decide (x ≤ y)) := by
  cases o with
  | none => cases h
  | some tm =>
    obtain ⟨g, _, hgl, e, hf, _⟩ := prf_is hU hn hr h
    obtain ⟨j, hj, rfl⟩ := List.getElem_of_mem hgl
    refine ⟨j, l[j], List.getElem?_eq_getElem hj, e, hr _ hgl, fun i s hi hs he => ?_, ?_⟩
    · obtain ⟨hil, rfl⟩ := List.getElem?_eq_some_iff.1 hs
      have := List.pairwise_iff_getElem.1 hn i j hil hj hi
      omega
    · unfold prfAns
      rw [h]
      simp only
      rw [if_neg h0, if_pos (by first | exact ⟨trivial, hw⟩ | exact hw), hf]
set_option maxHeartbeats 8000000 in
set_option maxRecDepth 100000 in
theorem refProof_any (A Al : Option Addr) (p : List Purp) (l : List Stm) (c cl : Nat) (k : Int) (t pu rg : ByteArray) (ch at' : Int) (w : World) (hS : Sl rPurp (fun _ => False) w A p) (hg : GoodPol p) (hL : Sl rStm (fun _ => False) w Al l) (hgl : GoodL p l) (hl : l.length ≤ 100000) (hat : 0 ≤ at' ∧ at' ≤ 4321439) (U : List Stm) (hU : IsSaid k t ch at' l U) :
    Calls Tryz.prog 51 #[.slice A p.length c, .slice Al l.length cl, .agg (qqCs k t pu rg ch at')] w (GivesInts (prfAns (termAt p pu rg ch) k t ch at' pu l) w) := by
  have Ht := Lib.hid (fun w' (h : Below w.heap.size w w') => refTermIn_any (fun _ => False) A p pu rg ch c w' (hS.keepB h) hg)
  have Ha := Lib.hid (fun w' (h : Below w.heap.size w w') => refAsked_any (fun _ => False) A Al p l c cl k t pu rg ch at' w' (hS.keepB h) hg (hL.keepB h) hgl hl hat)
  have Hs := Lib.hid (fun w' (h : Below w.heap.size w w') => refSaid_any (fun _ => False) Al l cl k t pu rg ch at' 2 pu w' (hL.keepB h) (by omega))
  have HL := Lib.hid hL
  have Hx := Lib.hid (fun (Y : Nat) (m : Bool) (why n : Int) w' (h : Below w.heap.size w w') (hY : LV w' Y (aCs m why n) 48) (j0 : Nat) (g : Stm) (hj : l[j0]? = some g) (hg : g.no = n) (hb : ∀ i s, i < j0 → l[i]? = some s → s.no ≠ n) => idxNo_any (fun _ => False) Al l cl Y m why n w' (hL.keepB h) (by omega) hY j0 g hj hg hb)
  have hgw : 0 ≤ ((termAt p pu rg ch).getD tZero).wait ∧ ((termAt p pu rg ch).getD tZero).wait ≤ 100000 := by
    cases h : termAt p pu rg ch with
    | none => exact ⟨by decide, by decide⟩
    | some tm => exact (termAt_good hg h).2
  obtain ⟨⟨m0, y0, n0⟩, Han⟩ : ∃ q, Hid (askR (termAt p pu rg ch) k t ch at' pu l = q) := ⟨_, Lib.hid rfl⟩
  have HR := Lib.hid (fun hn => prfAns_is hU hgl.no hgl.at' hgw.1 Han.out hn)
  have HR0 : Hid (n0 = 0 → prfAns (termAt p pu rg ch) k t ch at' pu l = []) := fun h => by rw [prfAns, if_pos (by rw [Han.out]; exact h)]
  have HG := Lib.hid (fun (h2 : y0 = 2) (h0 : n0 ≠ 0) (hw : 0 < ((termAt p pu rg ch).getD tZero).wait) => granted_at hU hgl.no hgl.at' (h2 ▸ Han.out) h0 hw)
  have HSat : Hid (∀ s ∈ saidR k t ch at' 2 pu l, 0 ≤ s.at' ∧ s.at' ≤ 4321439) := fun s hs => hgl.at' s (List.mem_filter.1 hs).1
  have HSl : Hid ((saidR k t ch at' 2 pu l).length ≤ 100000) := Nat.le_trans (List.length_filter_le ..) hl
  have S := (Mem.start w).new' (qqCs k t pu rg ch at') 31
  replace S : Mem w (w.alloc (.cells (qqCs k t pu rg ch at') 31)) [.loc w.heap.size (qqCs k t pu rg ch at') 31] := S
  clear hS hg hL hgl hU
  go_enter Tryz.func51, Tryz.ntmps51
  go_upto_region 1 with fail
  generalize w.alloc (.cells (qqCs k t pu rg ch at') 31) = w1 at *
  have c0 := (S.lv 0 rfl).all
  go_wp2_with fail
  ((with_reducible refine (Ha.out w1 S.b).mono ?_); rintro e w2 ⟨rfl, hl2⟩)
  replace S := S.below hl2
  rw [show mayAns p l k t pu rg ch at' = (m0, y0, n0) from Han.out]
  clear hl2 Ha Han
  generalize prfAns (termAt p pu rg ch) k t ch at' pu l = Rs at *
  generalize (termAt p pu rg ch).getD tZero = tm at *
  generalize (termAt p pu rg ch).isSome = is at *
  generalize saidR k t ch at' 2 pu l = Q at *
  go_upto_region 2 with fail
  obtain ⟨Y, hY⟩ : ∃ Y, Y = w2.heap.size := ⟨_, rfl⟩
  replace S := S.newAt (aCs m0 y0 n0) 48 Y hY
  rw [← hY]
  clear hY c0
  generalize w2.alloc (.cells (aCs m0 y0 n0) 48) = w3 at *
  have c0 := (S.lv 0 rfl).all
  have c1 := (S.lv 1 rfl).all
  by_cases hn : n0 = 0
  · obtain rfl : Rs = [] := HR0.out hn
    subst hn
    clear HR HR0 HG Hx
    go_wp2_with fail
    go_ret
    exact ⟨none, 0, rfl, Sl.nil, S.b⟩
  · have hn' : (n0 == 0) = false := by simpa using hn
    have HR1 := Lib.hid (HR.out hn)
    have HG1 := Lib.hid (fun h2 hw => HG.out h2 hn hw)
    clear HR HR0 HG hn
    go_upto_region 5 with fail
    obtain ⟨Z, hZ⟩ : ∃ Z, Z = w3.heap.size := ⟨_, rfl⟩
    replace S := (S.newAt #[.int .i64 n0] 3 Z hZ).asOwn flatInt 2 rfl [n0] rfl rfl (by simp) rfl 1 rfl
    rw [← hZ]
    clear hZ c0 c1
    generalize w3.alloc (.cells #[.int .i64 n0] 3) = w4 at *
    have c0 := (S.lv 0 rfl).all
    go_wp2_with fail
    ((with_reducible refine (Ht.out w4 S.b).mono ?_); rintro e w5 ⟨rfl, hl5⟩)
    replace S := S.below hl5
    clear hl5 Ht c0
    go_upto_region 6 with fail
    obtain ⟨T, hT⟩ : ∃ T, T = w5.heap.size := ⟨_, rfl⟩
    replace S := S.newAt (tCs tm) 34 T hT
    rw [← hT]
    clear hT
    generalize w5.alloc (.cells (tCs tm) 34) = w6 at *
    have c1 := (S.lv 1 rfl).all
    have c3 := (S.lv 3 rfl).all
    by_cases hy : y0 = 2 ∧ tm.wait ≠ 0
    · obtain ⟨rfl, hwt⟩ := hy
      have hwt' : (decide (0 < tm.wait)) = true := by simp; omega
      obtain ⟨j0, g, hj0, hg, hgat, hbef, hRs⟩ := HG1.out rfl (by omega)
      have HRs := Lib.hid hRs
      have HX := Lib.hid (fun w' h hY => Hx.out Y m0 2 n0 w' h hY j0 g hj0 hg hbef)
      have Hj0 := Lib.hid hj0
      clear HR1 HG1 hRs hj0 hg hbef hwt Hx
      go_wp2_with fail
      ((with_reducible refine (HX.out w6 S.b (S.lv 1 rfl)).mono ?_); rintro e w7 ⟨rfl, hl7⟩)
      replace S := S.below hl7
      clear hl7 HX c1 c3
      obtain ⟨blk, off, rfl, hblk, d0, d1, d2, d3, d4, d5, d6, d7⟩ := (HL.out.keepB S.b).stm j0 g Hj0.out
      have hjl := lt_of_get Hj0.out
      go_upto_region 8 with fail
      clear d0 d1 d2 d3 d4 d5 d6 d7
      obtain ⟨V, hV⟩ : ∃ V, V = w7.heap.size := ⟨_, rfl⟩
      replace S := S.newAt (stmCs g) 84 V hV
      rw [← hV]
      clear hV
      generalize w7.alloc (.cells (stmCs g) 84) = w8 at *
      go_upto_region 9 with fail
      obtain ⟨W, hW⟩ : ∃ W, W = w8.heap.size := ⟨_, rfl⟩
      replace S := S.newAt (stmCs ⟨0, 4321440, 0, ⟨#[]⟩, ⟨#[]⟩, ⟨#[]⟩, 0, 0⟩) 84 W hW
      rw [← hW]
      clear hW
      generalize w8.alloc (.cells _ 84) = w9 at *
      have c0 := (S.lv 0 rfl).all
      go_wp2_with fail
      ((with_reducible refine (Hs.out w9 S.b).mono ?_); rintro e w10 ⟨Aq, cq, rfl, hSq, hl10⟩)
      replace S := S.call hl10 (.sl rStm Aq Q) hSq (fun k e => by cases e)
      clear hl10 Hs hSq c0
      go_wp2_with fail
      have hQl := HSl.out
      have hgw1 : IntKind.i64.wrap (g.at' + tm.wait) = g.at' + tm.wait := IntWalk.i64_in _ (by omega)
      go_loopw [57] (fun i wr => ∃ (j : Nat) (b : Stm), j ≤ Q.length ∧ i = .int .i64 j ∧ Hid ([n0, (bestR g.at' (g.at' + tm.wait) b.at' b.no (Q.drop j)).2].mergeSort (fun x y => decide (x ≤ y)) = Rs) ∧ Mem w wr [.loc w.heap.size (qqCs k t pu rg ch at') 31, .loc Y (aCs m0 2 n0) 48, .own rInt w.heap.size 3 (.slice (some ⟨Z, 0, none⟩) 1 1) [n0], .loc T (tCs tm) 34, .loc V (stmCs g) 84, .loc W (stmCs b) 84, .sl rStm Aq Q]) (fun i _ => Q.length - (intOf i).toNat)
      case atStart => exact ⟨0, ⟨0, 4321440, 0, ⟨#[]⟩, ⟨#[]⟩, ⟨#[]⟩, 0, 0⟩, Nat.zero_le _, rfl, (by show _ = _; exact HRs.out.symm), S⟩
      case round =>
        clear S HRs
        obtain ⟨j, b, hj, rfl, HRs, S⟩ := hrel
        by_cases hlt : j < Q.length
        · obtain ⟨s, hf⟩ : ∃ s, Q[j]? = some s := ⟨_, List.getElem?_eq_getElem hlt⟩
          obtain ⟨blk2, off2, rfl, hblk2, d0, d1, d2, d3, d4, d5, d6, d7⟩ := (S.slc 6 rfl).stm j s hf
          have HRs2 : Hid ([n0, (if (g.at' ≤ s.at' ∧ s.at' ≤ g.at' + tm.wait) ∧ s.at' < b.at' then bestR g.at' (g.at' + tm.wait) s.at' s.no (Q.drop (j + 1)) else bestR g.at' (g.at' + tm.wait) b.at' b.no (Q.drop (j + 1))).2].mergeSort (fun x y => decide (x ≤ y)) = Rs) := by show _ = _; rw [← HRs.out, bestR_at hf]
          clear hf HRs
          go_upto_region 12 with fail
          clear d0 d1 d2 d3 d4 d5 d6 d7
          obtain ⟨P, hP⟩ : ∃ P, P = wr.heap.size := ⟨_, rfl⟩
          replace S := S.newAt (stmCs s) 84 P hP
          rw [← hP]
          clear hP
          generalize wr.alloc (.cells (stmCs s) 84) = w11 at *
          have c3 := (S.lv 3 rfl).all
          have c4 := (S.lv 4 rfl).all
          have c5 := (S.lv 5 rfl).all
          have c7 := (S.lv 7 rfl).all
          by_cases hin : g.at' ≤ s.at' ∧ s.at' ≤ g.at' + tm.wait
          · have Hin : Hid (∀ w, Calls Tryz.prog 68 #[.int .i64 s.at', .int .i64 g.at', .int .i64 (g.at' + tm.wait)] w fun e w' => e = .returned (.bool true) ∧ w = w') := fun w => by
              have := in_any s.at' g.at' (g.at' + tm.wait) w
              rwa [decide_eq_true hin] at this
            by_cases hb : s.at' < b.at'
            · have HRs3 : Hid ([n0, (bestR g.at' (g.at' + tm.wait) s.at' s.no (Q.drop (j + 1))).2].mergeSort (fun x y => decide (x ≤ y)) = Rs) := by show _ = _; rw [← HRs2.out, if_pos ⟨hin, hb⟩]
              clear HRs2 hin
              go_wp2_with (first | ((with_reducible refine (Hin.out _).mono ?_); rintro e _ ⟨rfl, rfl⟩) | fail)
              have S2 := (S.fillStm 5 rfl s).del 7
              go_roundw
              case rel => exact ⟨j + 1, s, by omega, by go_num, HRs3, S2⟩
              case measure => simp [intOf]; omega
            · have HRs3 : Hid ([n0, (bestR g.at' (g.at' + tm.wait) b.at' b.no (Q.drop (j + 1))).2].mergeSort (fun x y => decide (x ≤ y)) = Rs) := by show _ = _; rw [← HRs2.out, if_neg (fun h => hb h.2)]
              clear HRs2 hin
              go_wp2_with (first | ((with_reducible refine (Hin.out _).mono ?_); rintro e _ ⟨rfl, rfl⟩) | fail)
              go_roundw
              case rel => exact ⟨j + 1, b, by omega, by go_num, HRs3, S.del 7⟩
              case measure => simp [intOf]; omega
          · have Hin : Hid (∀ w, Calls Tryz.prog 68 #[.int .i64 s.at', .int .i64 g.at', .int .i64 (g.at' + tm.wait)] w fun e w' => e = .returned (.bool false) ∧ w = w') := fun w => by
              have := in_any s.at' g.at' (g.at' + tm.wait) w
              rwa [decide_eq_false hin] at this
            have HRs3 : Hid ([n0, (bestR g.at' (g.at' + tm.wait) b.at' b.no (Q.drop (j + 1))).2].mergeSort (fun x y => decide (x ≤ y)) = Rs) := by show _ = _; rw [← HRs2.out, if_neg (fun h => hin h.1)]
            clear HRs2 hin
            go_wp2_with (first | ((with_reducible refine (Hin.out _).mono ?_); rintro e _ ⟨rfl, rfl⟩) | fail)
            go_roundw
            case rel => exact ⟨j + 1, b, by omega, by go_num, HRs3, S.del 7⟩
            case measure => simp [intOf]; omega
        · have HRs2 : Hid ([n0, b.no].mergeSort (fun x y => decide (x ≤ y)) = Rs) := by show _ = _; rw [← HRs.out, List.drop_eq_nil_of_le (by omega)]; rfl
          clear HRs
          have c5 := (S.lv 5 rfl).all
          have hsz := S.b.size
          go_wp2_with (at_builtin; refine S.app 2 rfl tyIntP rfl _ _ rfl b.no 1 rfl rfl rfl (fun u hu => by simp at hu; subst hu; rfl) hsz (by simp) (by decide) ?_; intro v' w13 S6)
          clear c5
          obtain ⟨g', cap, e1, _⟩ := (S6.ow 2 rfl).form (by simp)
          subst e1
          have Hs := Lib.hid (S6.sortI 2 rfl rfl (by simp))
          go_wp2_with fail
          ((with_reducible refine (Hs.out).mono ?_); rintro e w14 ⟨rfl, S7⟩)
          obtain rfl : srtI ([n0] ++ [b.no]) = Rs := HRs2.out
          obtain ⟨A2, c2, e2, hS⟩ := ((S7.ow 2 rfl).flatM flatInt (M' := Lt w.heap.size)).toSlC (fun k h1 h2 => by unfold Lt at h2; omega)
          have He := Lib.hid e2
          have HS2 := Lib.hid hS.2
          clear hS e2 Hs
          go_wp2_with fail
          go_ret
          exact ⟨A2, c2, congrArg Ending.returned He.out, HS2.out, S7.b⟩
    · obtain rfl : Rs = [n0] := by rw [HR1.out, if_neg hy]
      have Hs := Lib.hid (S.sortI 2 rfl rfl (by simp))
      clear HR1 HG1
      by_cases h2 : y0 = 2
      · have hwt : decide (0 < tm.wait) = false := by
          have : tm.wait = 0 := Decidable.byContradiction fun e => hy ⟨h2, e⟩
          simp [this]
        subst h2
        clear hy
        go_wp2_with fail
        ((with_reducible refine (Hs.out).mono ?_); rintro e w14 ⟨rfl, S7⟩)
        rw [show srtI [n0] = [n0] from List.mergeSort_singleton _] at S7
        obtain ⟨A2, c2, e2, hS⟩ := ((S7.ow 2 rfl).flatM flatInt (M' := Lt w.heap.size)).toSlC (fun k h1 h2 => by unfold Lt at h2; omega)
        have He := Lib.hid e2
        have HS2 := Lib.hid hS.2
        clear hS e2 Hs
        go_wp2_with fail
        go_ret
        exact ⟨A2, c2, congrArg Ending.returned He.out, HS2.out, S7.b⟩
      · have h2' : (y0 == 2) = false := by simpa using h2
        clear hy h2
        go_wp2_with fail
        ((with_reducible refine (Hs.out).mono ?_); rintro e w14 ⟨rfl, S7⟩)
        rw [show srtI [n0] = [n0] from List.mergeSort_singleton _] at S7
        obtain ⟨A2, c2, e2, hS⟩ := ((S7.ow 2 rfl).flatM flatInt (M' := Lt w.heap.size)).toSlC (fun k h1 h2 => by unfold Lt at h2; omega)
        have He := Lib.hid e2
        have HS2 := Lib.hid hS.2
        clear hS e2 Hs
        go_wp2_with fail
        go_ret
        exact ⟨A2, c2, congrArg Ending.returned He.out, HS2.out, S7.b⟩
end Go.Proofs.YtlnklkedpknbpaaGreatDoor
