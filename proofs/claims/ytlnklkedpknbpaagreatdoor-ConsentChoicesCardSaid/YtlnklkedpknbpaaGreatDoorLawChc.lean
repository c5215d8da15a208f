/- The law ConsentChoices walked: it returns true, and nothing that was there has turned. -/
import Derived.Test.YtlnklkedpknbpaaGreatDoorLawAsk
import Derived.Test.YtlnklkedpknbpaaGreatDoorChoicesRef
namespace Go.Proofs.YtlnklkedpknbpaaGreatDoor
open Go Go.RowKit
set_option maxHeartbeats 8000000 in
set_option maxRecDepth 100000 in
theorem consentChoices_any (v : Value) (w : World) (hv : IntsIn v w) (hP : Pool w) (hM : MaxL w) :
    Calls Tryz.prog 6 #[v] w fun e w' => e = .returned (.bool true) ∧ Below w.heap.size w w' := by
  obtain ⟨va, vn, vc, rfl⟩ : ∃ a n c, v = .slice a n c := by
    rcases hv with ⟨a, c, rfl⟩ | ⟨k, off, len, cap, rfl, _⟩
    · exact ⟨_, _, _, rfl⟩
    · exact ⟨_, _, _, rfl⟩
  have g0 := G.start (Strm.start hv)
  clear hv
  have hPn : 0 ≠ w.heap.size := Nat.ne_of_lt hP.lt
  have hMl : 1 < w.heap.size := by
    obtain ⟨m, h⟩ := hM
    exact World.block_lt_of_cell? w _ h
  have hMn : 1 ≠ w.heap.size := Nat.ne_of_lt hMl
  have hk0 := (SK.refl w.heap.size w).alloc (.cells #[.slice va vn vc, .int .i64 0] 25)
  have HA := Lib.hid (asked_any w.heap.size 0 _ g0.s (by omega) (hP.keep hk0 hPn) hPn (hM.sk hk0 hMn) hMn)
  have HM := Lib.hid hM
  clear hP hM hk0 hMl
  go_enter Tryz.func6, Tryz.ntmps6
  go_wp2_with fail
  ((with_reducible refine (HA.out).mono ?_); rintro e w1 ⟨B, B2, A, c, q, v2, l, k, t, pu, rg, ch, at', rfl, hq, hl, hls, hqs, hB, hB2, S1⟩)
  obtain ⟨hSp, Al, cl, rfl, hSl⟩ := DrawsAsked.mem hB S1
  have Hb1 := Lib.hid (Gg.toBelow (g0.step S1.g.k S1.g.s))
  have HM1 := Lib.hid (HM.out.below Hb1.out)
  have Hok := Lib.hid hq.polOk
  have hlen : (q.map PQ.purp).length = q.length := by simp
  have hql : (q.map PQ.purp).length ≤ 1000000 := by have := hq.len; omega
  have Hlo := Lib.hid (StmSm.ok hls (by omega))
  have Hqs := Lib.hid hqs
  rw [← hlen]
  clear HA S1 g0 hq hls hB hB2 hlen hqs
  generalize q.map PQ.purp = xs at *
  have hrg : rg.size ≤ 1000000000 := Nat.le_trans Hqs.out.2.2 (by decide)
  have htt : t.size ≤ 1000000 := Nat.le_trans Hqs.out.1 (by decide)
  have HSp := Lib.hid hSp
  have HSl := Lib.hid hSl
  clear Hqs hSp hSl
  have S := (Mem.start w1).new' (qqCs k t pu rg ch at') 31
  replace S : Mem w1 (w1.alloc (.cells (qqCs k t pu rg ch at') 31)) [.loc w1.heap.size (qqCs k t pu rg ch at') 31] := S
  have HCh := Lib.hid (fun w' (h : Below w1.heap.size w1 w') => choices_any A Al xs l c cl k t rg at' w' (HSp.out.keepB h) Hok.out (HSl.out.keepB h) Hlo.out (by omega) hrg htt (HM1.out.below h))
  have HQ := Lib.hid (fun w' (h : Below w1.heap.size w1 w') => questionOr_any (fun _ => False) A xs c (stmsFault xs l) k t (headName xs) rg 1 at' w' (HSp.out.keepB h) hql htt hrg (HM1.out.below h))
  have HAs := Lib.hid (fun (hF : regErr xs l k t rg at' = 0) w' (h : Below w1.heap.size w1 w') => refChoices_any A Al xs l c cl k t rg at' w' (HSp.out.keepB h) (policy_good (stms_good (first3_zero hF).1).1) (HSl.out.keepB h) (stms_good (first3_zero hF).1).2 (by omega) (qErr_at (first3_zero hF).2.2))
  have HLen : Hid ((chcAll xs l k t rg at').length ≤ 4 * xs.length) := chcAll_len xs l k t rg at' xs
  rw [show first3 (stmsFault xs l) (L.idFault k t) (qErr xs (headName xs) rg 1 at') = regErr xs l k t rg at' from rfl] at HQ
  generalize stmsFault xs l = F0 at *
  generalize regErr xs l k t rg at' = F at *
  generalize chcAll xs l k t rg at' = R at *
  clear HSl Hok Hlo
  go_upto_region 3 with fail
  generalize w1.alloc (.cells (qqCs k t pu rg ch at') 31) = w2 at *
  have c0 := (S.lv 0 rfl).all
  go_wp2_with fail
  ((with_reducible refine (HCh.out w2 S.b).mono ?_); rintro e w3 ⟨Ac, cc, rfl, hSc, hl3⟩)
  obtain ⟨Rs, HRs⟩ : ∃ Rs, Hid ((if F = 0 then R else []) = Rs) := ⟨_, Lib.hid rfl⟩
  rw [HRs.out] at hSc ⊢
  replace S := S.call hl3 (.sl rChc Ac Rs) hSc (fun k e => by cases e)
  clear hl3 HCh c0 hSc
  have c0 := (S.lv 0 rfl).all
  go_upto_region 5 with fail
  obtain ⟨Y, hY⟩ : ∃ Y, Y = w3.heap.size := ⟨_, rfl⟩
  replace S := S.newAt (qqCs k t ⟨#[]⟩ rg 1 at') 31 Y hY
  rw [← hY]
  clear hY c0
  generalize w3.alloc (.cells (qqCs k t ⟨#[]⟩ rg 1 at') 31) = w4 at *
  go_upto_if 42 with fail
  have HS0 := Lib.hid S
  clear S
  go_cut [10] (fun s10 wx => s10 = .pointer (some ⟨Y, 0, none⟩) ∧ Mem w1 wx [.loc w1.heap.size (qqCs k t pu rg ch at') 31, .sl rChc Ac Rs, .loc Y (qqCs k t (headName xs) rg 1 at') 31])
  case first =>
    have S := HS0.out
    clear HS0 HQ HAs HLen HRs
    cases xs with
    | nil =>
      simp only [List.length_nil]
      go_wp2_with fail
      go_meet
      exact ⟨rfl, S⟩
    | cons u r =>
      obtain ⟨blk, off, At, ct, rfl, _, d0, _, _⟩ := (HSp.out.keepB S.b).purp 0 u rfl
      rw [Nat.zero_mul, Nat.add_zero] at d0
      have c2 := (S.lv 2 rfl).all
      simp only [List.length_cons]
      go_wp2_with fail
      go_meet
      exact ⟨rfl, S.set 2 2 (.string u.name) rfl⟩
  case rest =>
    clear HS0
    obtain ⟨rfl, S⟩ := hcut
    have c2 := (S.lv 2 rfl).all
    go_wp2_with fail
    ((with_reducible refine (HQ.out wc S.b).mono ?_); rintro e w5 ⟨rfl, hl5⟩)
    replace S := S.below hl5
    clear hl5 HQ c2
    have HC := Lib.hid (fun w' (h : Below w1.heap.size w1 w') => consents_any w' (HM1.out.below h))
    by_cases hF : F = 0
    · obtain rfl : R = Rs := by rw [← HRs.out, if_pos hF]
      have HAs1 := Lib.hid (HAs.out hF)
      subst hF
      clear HAs HRs
      have c0 := (S.lv 0 rfl).all
      go_wp2_with fail
      ((with_reducible refine (HAs1.out w5 S.b).mono ?_); rintro e w6 ⟨A2, c2, rfl, hS2, hl6⟩)
      replace S := S.below hl6
      have hRl : R.length ≤ 1000000000 := by have := HLen.out; have := hql; omega
      have HE := Lib.hid (eqChc_any (fun _ => False) Ac A2 R cc c2 w6 ((S.slc 1 rfl).mono (fun _ _ h => h.elim)) hS2 hRl)
      clear hl6 HAs1 hS2 c0
      go_wp2_with fail
      ((with_reducible refine (HE.out).mono ?_); rintro e w7 ⟨rfl, hl7⟩)
      replace S := S.below hl7
      clear hl7 HE
      go_wp2_with fail
      ((with_reducible refine (HC.out w7 S.b).mono ?_); rintro e w8 ⟨rfl, hl8⟩)
      replace S := S.below hl8
      go_wp2_with fail
      go_ret
      exact ⟨rfl, Hb1.out.trans (S.b.mono Hb1.out.size)⟩
    · have hF' : (F != 0) = true := by simpa using hF
      obtain rfl : [] = Rs := by rw [← HRs.out, if_neg hF]
      clear HAs HRs hF
      simp only [List.length_nil]
      go_wp2_with fail
      ((with_reducible refine (HC.out w5 S.b).mono ?_); rintro e w6 ⟨rfl, hl6⟩)
      replace S := S.below hl6
      go_wp2_with fail
      go_ret
      exact ⟨rfl, Hb1.out.trans (S.b.mono Hb1.out.size)⟩
end Go.Proofs.YtlnklkedpknbpaaGreatDoor
