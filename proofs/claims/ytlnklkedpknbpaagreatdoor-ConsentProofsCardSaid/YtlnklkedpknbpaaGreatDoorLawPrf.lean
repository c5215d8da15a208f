/- The law ConsentProofs walked: it returns true, and nothing that was there has turned. -/
import Derived.Test.YtlnklkedpknbpaaGreatDoorLawAsk
import Derived.Test.YtlnklkedpknbpaaGreatDoorProofRef
import Derived.Test.YtlnklkedpknbpaaGreatDoorEqInt
namespace Go.Proofs.YtlnklkedpknbpaaGreatDoor
open Go Go.RowKit
set_option maxHeartbeats 8000000 in
set_option maxRecDepth 100000 in
theorem consentProofs_any (v : Value) (w : World) (hv : IntsIn v w) (hP : Pool w) (hM : MaxL w) :
    Calls Tryz.prog 10 #[v] w fun e w' => e = .returned (.bool true) ∧ Below w.heap.size w w' := by
  obtain ⟨va, vn, vc, rfl⟩ : ∃ a n c, v = .slice a n c := by
    rcases hv with ⟨a, c, rfl⟩ | ⟨k, off, len, cap, rfl, _⟩
    · exact ⟨_, _, _, rfl⟩
    · exact ⟨_, _, _, rfl⟩
  have g0 := G.start (Strm.start hv)
  clear hv
  have hPn : 0 ≠ w.heap.size := Nat.ne_of_lt hP.lt
  have hMl : 1 < w.heap.size := by
    obtain ⟨m, h⟩ := hM
    exact World.block_lt_of_cell? w _ h
  have hMn : 1 ≠ w.heap.size := Nat.ne_of_lt hMl
  have hk0 := (SK.refl w.heap.size w).alloc (.cells #[.slice va vn vc, .int .i64 0] 25)
  have HA := Lib.hid (asked_any w.heap.size 0 _ g0.s (by omega) (hP.keep hk0 hPn) hPn (hM.sk hk0 hMn) hMn)
  have HM := Lib.hid hM
  clear hP hM hk0 hMl
  go_enter Tryz.func10, Tryz.ntmps10
  go_wp2_with fail
  ((with_reducible refine (HA.out).mono ?_); rintro e w1 ⟨B, B2, A, c, q, v2, l, k, t, pu, rg, ch, at', rfl, hq, hl, hls, hqs, hB, hB2, S1⟩)
  obtain ⟨hSp, Al, cl, rfl, hSl⟩ := DrawsAsked.mem hB S1
  have Hb1 := Lib.hid (Gg.toBelow (g0.step S1.g.k S1.g.s))
  have HM1 := Lib.hid (HM.out.below Hb1.out)
  have Hok := Lib.hid hq.polOk
  have hlen : (q.map PQ.purp).length = q.length := by simp
  have hql : (q.map PQ.purp).length ≤ 1000000 := by have := hq.len; omega
  have Hlo := Lib.hid (StmSm.ok hls (by omega))
  have Hqs := Lib.hid hqs
  rw [← hlen]
  clear HA S1 g0 hq hls hB hB2 hlen hqs
  generalize q.map PQ.purp = xs at *
  have hrg : rg.size ≤ 1000000000 := Nat.le_trans Hqs.out.2.2 (by decide)
  have htt : t.size ≤ 1000000 := Nat.le_trans Hqs.out.1 (by decide)
  have HSp := Lib.hid hSp
  have HSl := Lib.hid hSl
  clear Hqs hSp hSl
  have S := (Mem.start w1).new' (qqCs k t pu rg ch at') 31
  replace S : Mem w1 (w1.alloc (.cells (qqCs k t pu rg ch at') 31)) [.loc w1.heap.size (qqCs k t pu rg ch at') 31] := S
  have HPr := Lib.hid (fun w' (h : Below w1.heap.size w1 w') => proof_any A Al xs l c cl k t pu rg ch at' w' (HSp.out.keepB h) Hok.out (HSl.out.keepB h) Hlo.out (by omega) hrg htt (HM1.out.below h))
  have HQ := Lib.hid (fun w' (h : Below w1.heap.size w1 w') => questionOr_any (fun _ => False) A xs c (stmsFault xs l) k t pu rg ch at' w' (HSp.out.keepB h) hql htt hrg (HM1.out.below h))
  have HAs := Lib.hid (fun (hF : mayErr xs l k t pu rg ch at' = 0) (U : List Stm) (hU : IsSaid k t ch at' l U) w' (h : Below w1.heap.size w1 w') => refProof_any A Al xs l c cl k t pu rg ch at' w' (HSp.out.keepB h) (policy_good (stms_good (first3_zero hF).1).1) (HSl.out.keepB h) (stms_good (first3_zero hF).1).2 (by omega) (qErr_at (first3_zero hF).2.2) U hU)
  have HU : Hid (mayErr xs l k t pu rg ch at' = 0 → ∃ U, IsSaid k t ch at' l U) := fun hF => isSaid_ex k t ch at' (stms_good (first3_zero hF).1).2.no
  rw [show first3 (stmsFault xs l) (L.idFault k t) (qErr xs pu rg ch at') = mayErr xs l k t pu rg ch at' from rfl] at HQ
  have HLen : Hid ((prfAns (termAt xs pu rg ch) k t ch at' pu l).length ≤ 2) := prfAns_len ..
  generalize stmsFault xs l = F0 at *
  generalize mayErr xs l k t pu rg ch at' = F at *
  generalize prfAns (termAt xs pu rg ch) k t ch at' pu l = R at *
  clear HSp HSl Hok Hlo
  go_upto_region 3 with fail
  generalize w1.alloc (.cells (qqCs k t pu rg ch at') 31) = w2 at *
  have c0 := (S.lv 0 rfl).all
  go_wp2_with fail
  ((with_reducible refine (HPr.out w2 S.b).mono ?_); rintro e w3 ⟨Ac, cc, rfl, hSc, hl3⟩)
  obtain ⟨Rs, HRs⟩ : ∃ Rs, Hid ((if F = 0 then R else []) = Rs) := ⟨_, Lib.hid rfl⟩
  rw [HRs.out] at hSc ⊢
  replace S := S.call hl3 (.sl rInt Ac Rs) hSc (fun k e => by cases e)
  clear hl3 HPr c0 hSc
  have c0 := (S.lv 0 rfl).all
  go_wp2_with fail
  ((with_reducible refine (HQ.out w3 S.b).mono ?_); rintro e w5 ⟨rfl, hl5⟩)
  replace S := S.below hl5
  clear hl5 HQ c0
  have HC := Lib.hid (fun w' (h : Below w1.heap.size w1 w') => consents_any w' (HM1.out.below h))
  by_cases hF : F = 0
  · obtain rfl : R = Rs := by rw [← HRs.out, if_pos hF]
    obtain ⟨U, hU⟩ := HU.out hF
    have HAs1 := Lib.hid (HAs.out hF U hU)
    subst hF
    clear HAs HRs HU hU
    have c0 := (S.lv 0 rfl).all
    go_wp2_with fail
    ((with_reducible refine (HAs1.out w5 S.b).mono ?_); rintro e w6 ⟨A2, c2, rfl, hS2, hl6⟩)
    replace S := S.below hl6
    have hRl : R.length ≤ 1000000000 := by have := HLen.out; omega
    have HE := Lib.hid (eqInt_any (fun _ => False) Ac A2 R cc c2 w6 ((S.slc 1 rfl).mono (fun _ _ h => h.elim)) (hS2.mono (fun _ _ h => h.elim)) hRl)
    clear hl6 HAs1 hS2 c0
    go_wp2_with fail
    ((with_reducible refine (HE.out).mono ?_); rintro e w7 ⟨rfl, hl7⟩)
    replace S := S.below hl7
    clear hl7 HE
    go_wp2_with fail
    ((with_reducible refine (HC.out w7 S.b).mono ?_); rintro e w8 ⟨rfl, hl8⟩)
    replace S := S.below hl8
    go_wp2_with fail
    go_ret
    exact ⟨rfl, Hb1.out.trans (S.b.mono Hb1.out.size)⟩
  · have hF' : (F != 0) = true := by simpa using hF
    obtain rfl : [] = Rs := by rw [← HRs.out, if_neg hF]
    clear HAs HRs hF HU
    simp only [List.length_nil]
    go_wp2_with fail
    ((with_reducible refine (HC.out w5 S.b).mono ?_); rintro e w6 ⟨rfl, hl6⟩)
    replace S := S.below hl6
    go_wp2_with fail
    go_ret
    exact ⟨rfl, Hb1.out.trans (S.b.mono Hb1.out.size)⟩
end Go.Proofs.YtlnklkedpknbpaaGreatDoor
