/- The law ConsentAsks walked: it returns true, and nothing that was there has turned. -/
import Derived.Test.YtlnklkedpknbpaaGreatDoorPackA
import Derived.Test.YtlnklkedpknbpaaGreatDoorAsked
namespace Go.Proofs.YtlnklkedpknbpaaGreatDoor
open Go Go.RowKit
theorem loadIdQ {w : World} {X : Nat} {k : Int} {t pu rg : ByteArray} {ch at' : Int} (h : LV w X (qqCs k t pu rg ch at') 31) : (Instr.loadAt 29 (.pointer (some ⟨X, 0, none⟩))).run Tryz.prog w = .ok (.agg #[.int .i64 k, .string t]) w := by
  have c := h.all
  go_simp
theorem loadQQ {w : World} {X : Nat} {k : Int} {t pu rg : ByteArray} {ch at' : Int} (h : LV w X (qqCs k t pu rg ch at') 31) : (Instr.loadAt 31 (.pointer (some ⟨X, 0, none⟩))).run Tryz.prog w = .ok (.agg (qqCs k t pu rg ch at')) w := by
  have c := h.all
  go_simp
theorem loadAA {w : World} {X : Nat} {m : Bool} {a b : Int} (h : LV w X (aCs m a b) 48) : (Instr.loadAt 48 (.pointer (some ⟨X, 0, none⟩))).run Tryz.prog w = .ok (.agg (aCs m a b)) w := by
  have c := h.all
  go_simp
set_option maxHeartbeats 4000000 in
set_option maxRecDepth 100000 in
theorem questionOr_any (N : Nat → Prop) (A : Option Addr) (p : List Purp) (c : Nat) (fault k : Int) (t pu rg : ByteArray) (ch at' : Int) (w : World) (hS : Sl rPurp N w A p) (hl : p.length ≤ 1000000) (ht : t.size ≤ 1000000) (hrg : rg.size ≤ 1000000000) (hM : MaxL w) :
    Calls Tryz.prog 25 #[.int .i64 fault, .slice A p.length c, .agg (qqCs k t pu rg ch at')] w fun e w' => e = .returned (.int .i64 (first3 fault (L.idFault k t) (qErr p pu rg ch at'))) ∧ Below w.heap.size w w' := by
  have S := (Mem.start w).new' (qqCs k t pu rg ch at') 31
  have H1 := Lib.hid (fun w' (h : Below w.heap.size w w') => refId_any k t w' ht (hM.below h))
  have H2 := Lib.hid (fun w' (h : Below w.heap.size w w') => questionFault_any N A p c k t pu rg ch at' w' (hS.keepB h) hl hrg)
  generalize L.idFault k t = F2 at *
  generalize qErr p pu rg ch at' = F3 at *
  have HR : Hid (first3 fault F2 F3 = firstErr [fault, F2, F3]) := by
    show _ = _
    simp only [first3, firstErr]
    split
    · rfl
    · split
      · rfl
      · split
        · rfl
        · rename_i h; exact Decidable.not_not.1 h
  generalize first3 fault F2 F3 = R at *
  clear hS hM
  go_enter Tryz.func25, Tryz.ntmps25
  go_wp2_with fail
  replace S : Mem w (w.alloc (.cells (qqCs k t pu rg ch at') 31)) [.loc w.heap.size (qqCs k t pu rg ch at') 31] := S
  generalize w.alloc (.cells (qqCs k t pu rg ch at') 31) = w1 at *
  refine wp_region_mix (fun w' => LV w' w.heap.size (qqCs k t pu rg ch at') 31) [(true, 0), (true, 1), (true, 2), (true, 4), (true, 5), (false, 3), (false, 6), (false, 7), (false, 8), (true, 9)] (by kernel_rfl) (by kernel_rfl) (fun w' hd => (S.below (hd.below _)).lv 0 rfl) (fun KK hKK wd hd => ?_)
  replace S := S.below (hd.below _)
  clear hd
  repeat (refine mix_p rfl (fun K hK => ?_); go_simp; (try go_bits); (try simp (disch := omega) only [if_pos]); (try simp (disch := omega) only [if_neg]); (try simp (disch := omega) only [dif_pos]); (try simp (disch := omega) only [dif_neg]); (try go_simp); (refine hK _ ?_; clear hK K))
  refine mix_loadR (.agg #[.int .i64 k, .string t]) rfl rfl rfl rfl (fun w' h => loadIdQ h) ?_
  repeat (refine mix_p rfl (fun K hK => ?_); go_simp; (try go_bits); (try simp (disch := omega) only [if_pos]); (try simp (disch := omega) only [if_neg]); (try simp (disch := omega) only [dif_pos]); (try simp (disch := omega) only [dif_neg]); (try go_simp); (refine hK _ ?_; clear hK K))
  refine mix_loadR (.agg (qqCs k t pu rg ch at')) rfl rfl rfl rfl (fun w' h => loadQQ h) ?_
  refine mix_l rfl (fun K hK => ?_) (S.lv 0 rfl)
  go_wp2_with fail
  ((with_reducible refine (H1.out wd S.b).mono ?_); rintro e w3 ⟨rfl, hl3⟩)
  replace S := S.below hl3
  clear hl3 H1
  have hC := S.lv 0 rfl
  go_wp2_with fail
  refine ⟨hC, ?_⟩
  clear hC
  refine mix_l rfl (fun K hK => ?_) (S.lv 0 rfl)
  go_wp2_with fail
  ((with_reducible refine (H2.out w3 S.b).mono ?_); rintro e w4 ⟨rfl, hl4⟩)
  replace S := S.below hl4
  clear hl4 H2
  have hC := S.lv 0 rfl
  go_wp2_with fail
  refine ⟨hC, ?_⟩
  clear hC
  refine mix_l rfl (fun K hK => ?_) (S.lv 0 rfl)
  have S5 := S.alloc (.cells #[.int .i64 fault, .int .i64 F2, .int .i64 F3] 35)
  have hC := S5.lv 0 rfl
  have HW := Lib.hid (wrongOr_any w4.heap.size [fault, F2, F3] (w4.alloc (.cells #[.int .i64 fault, .int .i64 F2, .int .i64 F3] 35)) (LV.new w4 w4.heap.size #[.int .i64 fault, .int .i64 F2, .int .i64 F3] 35 rfl) (by simp))
  rw [← HR.out] at HW
  simp only [List.length_cons, List.length_nil, Nat.zero_add, Nat.reduceAdd] at HW
  go_wp2_with fail
  refine ⟨hC, ?_⟩
  refine mix_l rfl (fun K hK => ?_) hC
  go_wp2_with fail
  ((with_reducible refine (HW.out).mono ?_); rintro e _ ⟨rfl, rfl⟩)
  go_wp2_with fail
  refine ⟨hC, ?_⟩
  repeat (refine mix_p rfl (fun K hK => ?_); go_simp; (try go_bits); (try simp (disch := omega) only [if_pos]); (try simp (disch := omega) only [if_neg]); (try simp (disch := omega) only [dif_pos]); (try simp (disch := omega) only [dif_neg]); (try go_simp); (refine hK _ ?_; clear hK K))
  refine mix_nil ?_
  simp only [Exit.then]
  refine hKK _ _ ?_
  go_wp2_with fail
  go_ret
  exact ⟨rfl, S5.b⟩
theorem DrawsAsked.mem {b m : Nat} {w w' : World} {B B2 : Nat} {A : Option Addr} {c : Nat} {q : List PQ} {v2 : Value} {l : List Stm} (hB : w.heap.size ≤ B) (S : St b m w w' (.own rStm B2 84 v2 l :: polC B (.slice A q.length c) q)) :
    Sl rPurp (fun _ => False) w' A (q.map PQ.purp) ∧ ∃ Al cl, v2 = .slice Al l.length cl ∧ Sl rStm (fun _ => False) w' Al l := by
  obtain ⟨A', c', e', hS⟩ := S.polFalse hB (List.mem_cons_of_mem _ (List.mem_cons_self ..)) (fun e he => List.mem_cons_of_mem _ (List.mem_cons_of_mem _ (List.mem_map.2 ⟨e, he, rfl⟩)))
  simp only [Value.slice.injEq] at e'
  obtain ⟨rfl, _, rfl⟩ := e'
  obtain ⟨Al, cl, e2, hL⟩ := ((S.ow 0 rfl).flatM flatStm (M' := fun _ => False)).toSlC (fun _ _ h => h)
  exact ⟨hS.mono (fun _ _ h => h.elim), Al, cl, e2, hL.2⟩
set_option maxHeartbeats 8000000 in
set_option maxRecDepth 100000 in
theorem consentAsks_any (v : Value) (w : World) (hv : IntsIn v w) (hP : Pool w) (hM : MaxL w) :
    Calls Tryz.prog 5 #[v] w fun e w' => e = .returned (.bool true) ∧ Below w.heap.size w w' := by
  obtain ⟨va, vn, vc, rfl⟩ : ∃ a n c, v = .slice a n c := by
    rcases hv with ⟨a, c, rfl⟩ | ⟨k, off, len, cap, rfl, _⟩
    · exact ⟨_, _, _, rfl⟩
    · exact ⟨_, _, _, rfl⟩
  have g0 := G.start (Strm.start hv)
  clear hv
  have hPn : 0 ≠ w.heap.size := Nat.ne_of_lt hP.lt
  have hMl : 1 < w.heap.size := by
    obtain ⟨m, h⟩ := hM
    exact World.block_lt_of_cell? w _ h
  have hMn : 1 ≠ w.heap.size := Nat.ne_of_lt hMl
  have hk0 := (SK.refl w.heap.size w).alloc (.cells #[.slice va vn vc, .int .i64 0] 25)
  have HA := Lib.hid (asked_any w.heap.size 0 _ g0.s (by omega) (hP.keep hk0 hPn) hPn (hM.sk hk0 hMn) hMn)
  have HM := Lib.hid hM
  clear hP hM hk0 hMl
  go_enter Tryz.func5, Tryz.ntmps5
  go_wp2_with fail
  ((with_reducible refine (HA.out).mono ?_); rintro e w1 ⟨B, B2, A, c, q, v2, l, k, t, pu, rg, ch, at', rfl, hq, hl, hls, hqs, hB, hB2, S1⟩)
  obtain ⟨hSp, Al, cl, rfl, hSl⟩ := DrawsAsked.mem hB S1
  have Hb1 := Lib.hid (Gg.toBelow (g0.step S1.g.k S1.g.s))
  have HM1 := Lib.hid (HM.out.below Hb1.out)
  have Hok := Lib.hid hq.polOk
  have hlen : (q.map PQ.purp).length = q.length := by simp
  have hql : (q.map PQ.purp).length ≤ 1000000 := by have := hq.len; omega
  have Hlo := Lib.hid (StmSm.ok hls (by omega))
  have Hqs := Lib.hid hqs
  rw [← hlen]
  clear HA S1 g0 hq hls hB hB2 hlen hqs
  generalize q.map PQ.purp = xs at *
  have hrg : rg.size ≤ 1000000000 := Nat.le_trans Hqs.out.2.2 (by decide)
  have htt : t.size ≤ 1000000 := Nat.le_trans Hqs.out.1 (by decide)
  have HSp := Lib.hid hSp
  have HSl := Lib.hid hSl
  clear Hqs hSp hSl
  have S := (Mem.start w1).new' (qqCs k t pu rg ch at') 31
  replace S : Mem w1 (w1.alloc (.cells (qqCs k t pu rg ch at') 31)) [.loc w1.heap.size (qqCs k t pu rg ch at') 31] := S
  have HMay := Lib.hid (fun w' (h : Below w1.heap.size w1 w') => may_any (fun _ => False) A Al xs l c cl pu rg ch at' k t w' (HSp.out.keepB h) Hok.out (HSl.out.keepB h) Hlo.out (by omega) hrg htt (HM1.out.below h))
  have HQ := Lib.hid (fun w' (h : Below w1.heap.size w1 w') => questionOr_any (fun _ => False) A xs c (stmsFault xs l) k t pu rg ch at' w' (HSp.out.keepB h) hql htt hrg (HM1.out.below h))
  have HAs := Lib.hid (fun (hF : mayErr xs l k t pu rg ch at' = 0) w' (h : Below w1.heap.size w1 w') => refAsked_any (fun _ => False) A Al xs l c cl k t pu rg ch at' w' (HSp.out.keepB h) (policy_good (stms_good (first3_zero hF).1).1) (HSl.out.keepB h) (stms_good (first3_zero hF).1).2 (by omega) (qErr_at (first3_zero hF).2.2))
  have HRes : Hid (mayRes xs l k t pu rg ch at' = if mayErr xs l k t pu rg ch at' = 0 then mayAns xs l k t pu rg ch at' else (false, 0, 0)) := Lib.hid rfl
  rw [show first3 (stmsFault xs l) (L.idFault k t) (qErr xs pu rg ch at') = mayErr xs l k t pu rg ch at' from rfl] at HQ
  generalize stmsFault xs l = F0 at *
  generalize mayErr xs l k t pu rg ch at' = F at *
  generalize mayRes xs l k t pu rg ch at' = R at *
  generalize mayAns xs l k t pu rg ch at' = An at *
  clear HSp HSl Hok Hlo
  go_upto_region 3 with fail
  generalize w1.alloc (.cells (qqCs k t pu rg ch at') 31) = w2 at *
  have c0 := (S.lv 0 rfl).all
  go_wp2_with fail
  ((with_reducible refine (HMay.out w2 S.b).mono ?_); rintro e w3 ⟨rfl, hl3⟩)
  replace S := S.below hl3
  clear hl3 HMay c0
  go_upto_region 4 with fail
  obtain ⟨Y, hY⟩ : ∃ Y, Y = w3.heap.size := ⟨_, rfl⟩
  replace S := S.newAt (aCs R.1 R.2.1 R.2.2) 48 Y hY
  rw [← hY]
  clear hY
  generalize w3.alloc (.cells (aCs R.1 R.2.1 R.2.2) 48) = w4 at *
  have c0 := (S.lv 0 rfl).all
  go_wp2_with fail
  ((with_reducible refine (HQ.out w4 S.b).mono ?_); rintro e w5 ⟨rfl, hl5⟩)
  replace S := S.below hl5
  clear hl5 HQ c0
  have HC := Lib.hid (fun w' (h : Below w1.heap.size w1 w') => consents_any w' (HM1.out.below h))
  by_cases hF : F = 0
  · obtain rfl : R = An := by rw [HRes.out, if_pos hF]
    have HAs1 := Lib.hid (HAs.out hF)
    subst hF
    clear HAs HRes
    go_wp2_with fail
    refine wp_region_mix (fun w' => LV w' w1.heap.size (qqCs k t pu rg ch at') 31 ∧ LV w' Y (aCs R.1 R.2.1 R.2.2) 48) [(true, 0), (true, 1), (true, 2), (true, 3), (true, 4), (true, 5), (true, 6), (false, 7), (true, 8), (true, 9), (true, 10), (false, 11), (true, 12), (true, 13)] (by kernel_rfl) (by kernel_rfl) (fun w' hd => ⟨(S.below (hd.below _)).lv 0 rfl, (S.below (hd.below _)).lv 1 rfl⟩) (fun KK hKK wd hd => ?_)
    replace S := S.below (hd.below _)
    clear hd
    have hC : LV wd w1.heap.size (qqCs k t pu rg ch at') 31 ∧ LV wd Y (aCs R.1 R.2.1 R.2.2) 48 := ⟨S.lv 0 rfl, S.lv 1 rfl⟩
    repeat (refine mix_p rfl (fun K hK => ?_); go_simp; (try go_bits); (try simp (disch := omega) only [if_pos]); (try simp (disch := omega) only [if_neg]); (try simp (disch := omega) only [dif_pos]); (try simp (disch := omega) only [dif_neg]); (try go_simp); (refine hK _ ?_; clear hK K))
    refine mix_loadG (.agg (aCs R.1 R.2.1 R.2.2)) rfl (by simp [Region.wanted, yielded, go_sem]) rfl rfl (fun w' h => loadAA h.2) ?_
    repeat (refine mix_p rfl (fun K hK => ?_); go_simp; (try go_bits); (try simp (disch := omega) only [if_pos]); (try simp (disch := omega) only [if_neg]); (try simp (disch := omega) only [dif_pos]); (try simp (disch := omega) only [dif_neg]); (try go_simp); (refine hK _ ?_; clear hK K))
    refine mix_loadG (.agg (qqCs k t pu rg ch at')) rfl (by simp [Region.wanted, yielded, go_sem]) rfl rfl (fun w' h => loadQQ h.1) ?_
    refine mix_l rfl (fun K hK => ?_) hC
    clear hC
    go_wp2_with fail
    ((with_reducible refine (HAs1.out wd S.b).mono ?_); rintro e w6 ⟨rfl, hl6⟩)
    replace S := S.below hl6
    clear hl6 HAs1
    have hC : LV w6 w1.heap.size (qqCs k t pu rg ch at') 31 ∧ LV w6 Y (aCs R.1 R.2.1 R.2.2) 48 := ⟨S.lv 0 rfl, S.lv 1 rfl⟩
    go_wp2_with fail
    refine ⟨hC, ?_⟩
    clear hC
    repeat (refine mix_p rfl (fun K hK => ?_); go_simp; (try go_bits); (try simp (disch := omega) only [if_pos]); (try simp (disch := omega) only [if_neg]); (try simp (disch := omega) only [dif_pos]); (try simp (disch := omega) only [dif_neg]); (try go_simp); (refine hK _ ?_; clear hK K))
    refine mix_l rfl (fun K hK => ?_) ⟨S.lv 0 rfl, S.lv 1 rfl⟩
    go_wp2_with fail
    ((with_reducible refine (HC.out w6 S.b).mono ?_); rintro e w7 ⟨rfl, hl7⟩)
    replace S := S.below hl7
    clear hl7 HC
    have hC : LV w7 w1.heap.size (qqCs k t pu rg ch at') 31 ∧ LV w7 Y (aCs R.1 R.2.1 R.2.2) 48 := ⟨S.lv 0 rfl, S.lv 1 rfl⟩
    go_wp2_with fail
    refine ⟨hC, ?_⟩
    clear hC
    repeat (refine mix_p rfl (fun K hK => ?_); go_simp; (try go_bits); (try simp (disch := omega) only [if_pos]); (try simp (disch := omega) only [if_neg]); (try simp (disch := omega) only [dif_pos]); (try simp (disch := omega) only [dif_neg]); (try go_simp); (refine hK _ ?_; clear hK K))
    refine mix_nil ?_
    simp only [Exit.then]
    refine hKK _ _ ?_
    go_wp2_with fail
    go_ret
    exact ⟨rfl, Hb1.out.trans (S.b.mono Hb1.out.size)⟩
  · have hF' : (F != 0) = true := by simpa using hF
    obtain rfl : R = (false, 0, 0) := by rw [HRes.out, if_neg hF]
    clear HAs HRes hF
    have c1 := (S.lv 1 rfl).all
    go_wp2_with fail
    ((with_reducible refine (HC.out w5 S.b).mono ?_); rintro e w6 ⟨rfl, hl6⟩)
    replace S := S.below hl6
    go_wp2_with fail
    go_ret
    exact ⟨rfl, Hb1.out.trans (S.b.mono Hb1.out.size)⟩
end Go.Proofs.YtlnklkedpknbpaaGreatDoor
