/- The law ConsentAudiences walked: it returns true, and nothing that was there has turned. -/
import Derived.Test.YtlnklkedpknbpaaGreatDoorLawAsk
import Derived.Test.YtlnklkedpknbpaaGreatDoorAudRef
import Derived.Test.YtlnklkedpknbpaaGreatDoorTalRef
import Derived.Test.YtlnklkedpknbpaaGreatDoorEqInt
namespace Go.Proofs.YtlnklkedpknbpaaGreatDoor
open Go Go.RowKit
set_option maxHeartbeats 4000000 in
set_option maxRecDepth 100000 in
theorem eqId_any (N : Nat → Prop) (A A2 : Option Addr) (xs : List IdV) (c c2 : Nat) (w : World) (h1 : Sl rId N w A xs) (h2 : Sl rId N w A2 xs) (hl : xs.length ≤ 1000000000) :
    Calls Tryz.prog 42 #[.slice A xs.length c, .slice A2 xs.length c2] w fun e w' => e = .returned (.bool true) ∧ Below w.heap.size w w' := by
  have H1 := Lib.hid h1
  have H2 := Lib.hid h2
  clear h1 h2
  go_enter Tryz.func42, Tryz.ntmps42
  go_wp2_with fail
  go_loopw [13] (fun i wr => ∃ j : Nat, j ≤ xs.length ∧ i = .int .i64 j ∧ Below w.heap.size w wr) (fun i _ => xs.length - (intOf i).toNat)
  case atStart => exact ⟨0, Nat.zero_le _, rfl, Below.refl _ _⟩
  case round =>
    obtain ⟨j, hj, rfl, hb⟩ := hrel
    by_cases hlt : j < xs.length
    · obtain ⟨e, hf⟩ : ∃ e, xs[j]? = some e := ⟨_, List.getElem?_eq_getElem hlt⟩
      obtain ⟨b1, o1, rfl, _, d0, d1⟩ := (H1.out.keepB hb).idv j e hf
      obtain ⟨b2, o2, rfl, _, f0, f1⟩ := (H2.out.keepB hb).idv j e hf
      clear hf
      go_wp2_with fail
      go_quiet (fail)
      go_wp2_with fail
      go_roundw
      case rel => exact ⟨j + 1, by omega, by go_num, hb.trans (below_drewN _ _ _)⟩
      case measure => simp [intOf]; omega
    · go_wp2_with fail
      go_ret
      exact ⟨rfl, hb⟩
/-- the first error, over ids -/
def foldA (f : Int) : List IdV → Int
  | [] => f
  | x :: r => foldA (firstErr [f, L.idFault x.k x.t]) r
theorem foldA_is : ∀ (xs : List IdV) (f : Int), foldA f xs = if f ≠ 0 then f else idsF xs
  | [], f => by
    show f = if f ≠ 0 then f else 0
    split
    · rfl
    · rename_i h; exact Decidable.not_not.1 h
  | x :: r, f => by
    rw [foldA, foldA_is r]
    by_cases h1 : f = 0 <;> by_cases h2 : L.idFault x.k x.t = 0 <;> simp [h1, h2, idsF, firstErr]
theorem foldA_at {xs : List IdV} {j : Nat} {x : IdV} {f : Int} (h : xs[j]? = some x) : foldA f (xs.drop j) = foldA (firstErr [f, L.idFault x.k x.t]) (xs.drop (j + 1)) := by
  obtain ⟨hk, rfl⟩ := List.getElem?_eq_some_iff.1 h
  rw [List.drop_eq_getElem_cons hk, foldA]
theorem one_is {F0 Q : Int} {xs : List IdV} (h : xs.length ≤ 6) : firstErr [foldA F0 xs, Q] = first3 F0 (idsErr 2000 xs) Q := by
  have hi : idsErr 2000 xs = idsF xs := if_neg (by omega)
  rw [foldA_is, hi]
  by_cases h1 : F0 = 0 <;> by_cases h2 : idsF xs = 0 <;> by_cases h3 : Q = 0 <;> simp [h1, h2, h3, firstErr, first3]
set_option maxHeartbeats 16000000 in
set_option maxRecDepth 100000 in
theorem consentAudiences_any (v : Value) (w : World) (hv : IntsIn v w) (hP : Pool w) (hM : MaxL w) :
    Calls Tryz.prog 8 #[v] w fun e w' => e = .returned (.bool true) ∧ Below w.heap.size w w' := by
  obtain ⟨va, vn, vc, rfl⟩ : ∃ a n c, v = .slice a n c := by
    rcases hv with ⟨a, c, rfl⟩ | ⟨k, off, len, cap, rfl, _⟩
    · exact ⟨_, _, _, rfl⟩
    · exact ⟨_, _, _, rfl⟩
  have g0 := G.start (Strm.start hv)
  clear hv
  have hPn : 0 ≠ w.heap.size := Nat.ne_of_lt hP.lt
  have hMl : 1 < w.heap.size := by
    obtain ⟨m, h⟩ := hM
    exact World.block_lt_of_cell? w _ h
  have hMn : 1 ≠ w.heap.size := Nat.ne_of_lt hMl
  have hk0 := (SK.refl w.heap.size w).alloc (.cells #[.slice va vn vc, .int .i64 0] 25)
  have HP0 : Hid (Pool (w.alloc (.cells #[.slice va vn vc, .int .i64 0] 25))) := hP.keep hk0 hPn
  have HA := Lib.hid (asked_any w.heap.size 0 _ g0.s (by omega) (hP.keep hk0 hPn) hPn (hM.sk hk0 hMn) hMn)
  have HM := Lib.hid hM
  clear hP hM hk0 hMl
  go_enter Tryz.func8, Tryz.ntmps8
  go_wp2_with fail
  ((with_reducible refine (HA.out).mono ?_); rintro e w1 ⟨B, B2, A, c, q, v2, l, k, t, pu, rg, ch, at', rfl, hq, hl, hls, hqs, hB, hB2, S1⟩)
  obtain ⟨Al, cl, rfl⟩ := (S1.ow 0 rfl).len
  have Hpf := Lib.hid ((⟨hq, hl, hls, hqs, hB, hB2⟩ : QOk 10 q ∧ l.length ≤ 14 ∧ (∀ s ∈ l, StmSm s) ∧ QSm t pu rg ∧ (w.alloc (.cells #[.slice va vn vc, .int .i64 0] 25)).heap.size ≤ B ∧ (w.alloc (.cells #[.slice va vn vc, .int .i64 0] 25)).heap.size ≤ B2))
  obtain ⟨RS, hRS⟩ : ∃ RS, RS = (.own rStm B2 84 (.slice Al l.length cl) l :: polC B (.slice A q.length c) q) := ⟨_, rfl⟩
  rw [← hRS] at S1
  have HRS := Lib.hid hRS
  have G0 := Lib.hid g0
  generalize hw0 : w.alloc (.cells #[.slice va vn vc, .int .i64 0] 25) = w0 at *
  have HW0 := Lib.hid hw0
  clear hw0
  obtain ⟨b, hb⟩ : ∃ b, b = w.heap.size := ⟨_, rfl⟩
  have Hb := Lib.hid hb
  rw [← hb] at S1 G0 hPn hMn ⊢
  have htt : t.size ≤ 1000000 := Nat.le_trans hqs.1 (by decide)
  clear HA hRS hq hl hls hqs hB hB2 g0 hb
  have S := (S1.newAt (qqCs k t pu rg ch at') 31 _ rfl).front
  clear S1
  obtain ⟨Q, hQ⟩ : ∃ Q, Q = w1.heap.size := ⟨_, rfl⟩
  rw [← hQ] at S
  go_upto_region 3 with fail
  rw [← hQ]
  clear hQ
  generalize w1.alloc (.cells (qqCs k t pu rg ch at') 31) = w2 at *
  replace S := (S.nil rId w0.heap.size 29).front
  replace S : St b 440 w0 w2 (.own rId w0.heap.size 29 (.slice none 0 0) [] :: .loc Q (qqCs k t pu rg ch at') 31 :: RS) := S
  go_upto_region 4 with fail
  go_wp2_with fail
  ((with_reducible refine (range_any b _ _ _ _ S.g.s (by omega) (by omega) (by omega) (by omega)).mono ?_); rintro e w4 ⟨r, r0, r1, rfl, hk_w4, hs_w4⟩)
  replace S := S.step hk_w4 hs_w4
  clear hk_w4 hs_w4
  obtain ⟨n, rfl⟩ := Int.eq_ofNat_of_zero_le r0
  go_wp2_with fail
  go_loopw [8, 30] (fun v i wr => ∃ (j : Nat) (xs : List IdV), j ≤ n ∧ i = .int .i64 j ∧ Hid (xs.length = j) ∧ Hid (∀ y ∈ xs, y.t.size ≤ 1000000) ∧ St b (500 + 100 * j) w0 wr (.own rId w0.heap.size 29 v xs :: .loc Q (qqCs k t pu rg ch at') 31 :: RS)) (fun _ i _ => n - (intOf i).toNat)
  case atStart => exact ⟨0, [], Nat.zero_le _, rfl, Lib.hid rfl, (fun y hy => by cases hy), S.mono (by omega)⟩
  case round =>
    clear S
    obtain ⟨j, xs, hj, rfl, HXl, HX, S⟩ := hrel
    have hj6 : j ≤ 6 := by omega
    have hxl : xs.length ≤ 6 := by have := HXl.out; omega
    obtain ⟨Ao, co, rfl⟩ := (S.ow 0 rfl).len
    by_cases hlt : j < n
    · go_wp2_with fail
      ((with_reducible refine (id_any b _ _ S.g.s (by omega) (HP0.out.keep S.g.k hPn) hPn).mono ?_); rintro e w5 ⟨k', t', ht', rfl, hk5, hs5⟩)
      replace S := S.step hk5 hs5
      clear hk5 hs5
      have hsz := S.g.size
      go_wp2_with (at_builtin; refine S.app 0 rfl tyId rfl _ _ rfl (⟨k', t'⟩ : IdV) 1 rfl rfl rfl (oneIdO ⟨k', t'⟩) hsz (by omega) (by decide) ?_; intro v' w6 S6)
      go_roundw
      case rel => exact ⟨j + 1, xs ++ [(⟨k', t'⟩ : IdV)], by omega, by go_num, (by show _ = _; rw [List.length_append, HXl.out]; rfl), (fun y hy => by
        rcases List.mem_append.1 hy with hy | hy
        · exact HX.out y hy
        · rw [List.mem_singleton.1 hy]; exact Nat.le_trans ht' (by decide)), S6.mono (by omega)⟩
      case measure => simp [intOf]; omega
    · go_upto_region 8 with fail
      clear r1 hlt hj hj6
      generalize wr = we at *
      obtain ⟨hq, hl, hls, hqs, hB, hB2⟩ := Hpf.out
      have hRS := HRS.out
      subst hRS
      obtain ⟨hSp, Al', cl', e', hSl⟩ := DrawsAsked.mem hB (S.sublist (((List.Sublist.refl _).cons _).cons _))
      cases e'
      have hI := (S.ow 0 rfl).slF flatId
      have LQ := S.lv 1 rfl
      have hQl := LQ.lt
      have Hb1 : Hid (Below w.heap.size w we) := by
        have h1 := G0.out.step S.g.k S.g.s
        rw [Hb.out, ← HW0.out] at h1
        exact Gg.toBelow h1
      have HM1 := Lib.hid (HM.out.below Hb1.out)
      have Hok := Lib.hid hq.polOk
      have hlen : (q.map PQ.purp).length = q.length := by simp
      have hql : (q.map PQ.purp).length ≤ 1000000 := by have := hq.len; omega
      have Hlo := Lib.hid (StmSm.ok hls (by omega))
      have hrg : rg.size ≤ 1000000000 := Nat.le_trans hqs.2.2 (by decide)
      rw [← hlen]
      clear S hq hls hB hB2 hlen hqs Hpf HRS HP0 G0 HM
      generalize q.map PQ.purp = ps at *
      have HHS := Lib.hid hSp
      have HSI := Lib.hid hI
      have HAu := Lib.hid (fun w' (h : Below we.heap.size we w') => audience_any A Al Ao ps l xs c cl co pu rg ch at' w' (hSp.keepB h) Hok.out (hSl.keepB h) Hlo.out (by omega) (hI.keepB h) (by omega) HX.out hrg (HM1.out.below h))
      have HTa := Lib.hid (fun w' (h : Below we.heap.size we w') => tally_any A Al Ao ps l xs c cl co rg at' w' (hSp.keepB h) Hok.out (hSl.keepB h) Hlo.out (by omega) (hI.keepB h) (by omega) HX.out hrg (HM1.out.below h))
      have HId := Lib.hid (fun (y : IdV) (hy : y ∈ xs) w' (h : Below we.heap.size we w') => refId_any y.k y.t w' (HX.out y hy) (HM1.out.below h))
      have HQf := Lib.hid (fun w' (h : Below we.heap.size we w') => questionFault_any (fun _ => False) A ps c k t pu rg ch at' w' (hSp.keepB h) hql hrg)
      have HQf2 := Lib.hid (fun w' (h : Below we.heap.size we w') => questionFault_any (fun _ => False) A ps c 0 ⟨#[]⟩ (headName ps) rg 1 at' w' (hSp.keepB h) hql hrg)
      have HRa := Lib.hid (fun (hE : audErr ps l xs pu rg ch at' = 0) w' (h : Below we.heap.size we w') => refAudience_any A Al Ao ps l xs c cl co k t pu rg ch at' w' (hSp.keepB h) (policy_good (stms_good (first3_zero hE).1).1) (hSl.keepB h) (stms_good (first3_zero hE).1).2 (by omega) (hI.keepB h) (by omega) (qErr_at (first3_zero hE).2.2))
      have HRt := Lib.hid (fun (hE : regErrN ps l xs rg at' = 0) w' (h : Below we.heap.size we w') => refTally_any A Al Ao ps l xs c cl co rg at' w' (hSp.keepB h) (policy_good (stms_good (first3_zero hE).1).1) (hSl.keepB h) (stms_good (first3_zero hE).1).2 (by omega) (hI.keepB h) (by omega) (qErr_at (first3_zero hE).2.2))
      have HO1 : Hid (firstErr [foldA (stmsFault ps l) xs, qErr ps pu rg ch at'] = audErr ps l xs pu rg ch at') := one_is hxl
      have HO2 : Hid (firstErr [foldA (stmsFault ps l) xs, qErr ps (headName ps) rg 1 at'] = regErrN ps l xs rg at') := one_is hxl
      have HC := Lib.hid (fun w' (h : Below we.heap.size we w') => consents_any w' (HM1.out.below h))
      have HL1 : Hid ((audAns ps l xs pu rg ch at').length ≤ 6) := Nat.le_trans (List.length_filter_le ..) (Nat.le_trans (onceGo_len xs []) (by simpa using hxl))
      have HL2 : Hid ((talAns ps l xs rg at').length ≤ 1000000) := by show _ ≤ _; rw [talAns, List.length_map]; exact hql
      clear hSp hSl hI Hok Hlo HX HM1
      generalize stmsFault ps l = F0 at *
      generalize audErr ps l xs pu rg ch at' = E1 at *
      generalize regErrN ps l xs rg at' = E2 at *
      generalize qErr ps pu rg ch at' = Q1 at *
      generalize qErr ps (headName ps) rg 1 at' = Q2 at *
      generalize audAns ps l xs pu rg ch at' = R1 at *
      generalize talAns ps l xs rg at' = R2 at *
      have S := Mem.start we
      have c0 := LQ.all
      go_wp2_with fail
      ((with_reducible refine (HAu.out we S.b).mono ?_); rintro e w5 ⟨A1, c1, rfl, hS1, hl5⟩)
      obtain ⟨Rs1, HRs1⟩ : ∃ Rs, Hid ((if E1 = 0 then R1 else []) = Rs) := ⟨_, Lib.hid rfl⟩
      rw [HRs1.out] at hS1 ⊢
      replace S := S.call hl5 (.sl rId A1 Rs1) hS1 (fun k e => by cases e)
      clear hl5 HAu c0 hS1
      have c0 := (LQ.kb3 S.b hQl).all
      go_wp2_with fail
      ((with_reducible refine (HTa.out w5 S.b).mono ?_); rintro e w6 ⟨A2, c2, rfl, hS2, hl6⟩)
      obtain ⟨Rs2, HRs2⟩ : ∃ Rs, Hid ((if E2 = 0 then R2 else []) = Rs) := ⟨_, Lib.hid rfl⟩
      rw [HRs2.out] at hS2 ⊢
      replace S := S.call hl6 (.sl rInt A2 Rs2) hS2 (fun k e => by cases e)
      replace S : Mem we w6 [.sl rId A1 Rs1, .sl rInt A2 Rs2] := S
      clear hl6 HTa c0 hS2
      go_wp2_with fail
      have HS0 := Lib.hid S
      clear S
      obtain ⟨FA, hFA⟩ : ∃ FA, foldA F0 xs = FA := ⟨_, rfl⟩
      rw [hFA] at HO1 HO2
      have HFA : Hid (foldA F0 (xs.drop 0) = FA) := hFA
      clear hFA
      go_loopw [7, 66] (fun s7 i wr => ∃ (j : Nat) (f : Int), j ≤ xs.length ∧ i = .int .i64 j ∧ s7 = .int .i64 f ∧ Hid (foldA f (xs.drop j) = FA) ∧ Mem we wr [.sl rId A1 Rs1, .sl rInt A2 Rs2]) (fun _ i _ => xs.length - (intOf i).toNat)
      case atStart => exact ⟨0, F0, Nat.zero_le _, rfl, rfl, HFA, HS0.out⟩
      case round =>
        clear HS0 HFA
        obtain ⟨j, f, hj, rfl, rfl, HFA, S⟩ := hrel
        by_cases hlt : j < xs.length
        · obtain ⟨x, hf⟩ : ∃ x, xs[j]? = some x := ⟨_, List.getElem?_eq_getElem hlt⟩
          obtain ⟨blk, off, rfl, _, d0, d1⟩ := (HSI.out.keepB S.b).idv j x hf
          have HI1 := Lib.hid (fun w' h => HId.out x (List.mem_of_getElem? hf) w' h)
          have HFA2 : Hid (foldA (firstErr [f, L.idFault x.k x.t]) (xs.drop (j + 1)) = FA) := by
            have h1 := HFA.out
            rw [foldA_at hf] at h1
            exact h1
          clear hf HFA
          generalize L.idFault x.k x.t = fx at *
          go_upto_region 13 with fail
          clear d0 d1
          obtain ⟨P, hP⟩ : ∃ P, P = wr.heap.size := ⟨_, rfl⟩
          replace S := S.newAt (idCs x.k x.t) 29 P hP
          rw [← hP]
          clear hP
          generalize wr.alloc (.cells (idCs x.k x.t) 29) = w7 at *
          have c1 := (S.lv 2 rfl).all
          go_wp2_with fail
          ((with_reducible refine (HI1.out w7 S.b).mono ?_); rintro e w8 ⟨rfl, hl8⟩)
          replace S := S.below hl8
          clear hl8 HI1 c1
          have HW := Lib.hid (wrongOr_any w8.heap.size [f, fx] (w8.alloc (.cells #[.int .i64 f, .int .i64 fx] 35)) (LV.new w8 w8.heap.size #[.int .i64 f, .int .i64 fx] 35 rfl) (by simp))
          obtain ⟨f2, hf2⟩ : ∃ f2, firstErr [f, fx] = f2 := ⟨_, rfl⟩
          rw [hf2] at HW HFA2
          simp only [List.length_cons, List.length_nil, Nat.zero_add, Nat.reduceAdd] at HW
          clear hf2
          go_wp2_with fail
          ((with_reducible refine (HW.out).mono ?_); rintro e _ ⟨rfl, rfl⟩)
          go_wp2_with fail
          go_roundw
          case rel => exact ⟨j + 1, f2, by omega, by go_num, rfl, HFA2, (S.alloc _).del 2⟩
          case measure => simp [intOf]; omega
        · obtain rfl : f = FA := by
            have h1 := HFA.out
            rw [List.drop_eq_nil_of_le (by omega)] at h1
            exact h1
          clear HFA HId HSI
          have c0 := (LQ.kb3 S.b hQl).all
          go_wp2_with fail
          ((with_reducible refine (HQf.out wr S.b).mono ?_); rintro e w7 ⟨rfl, hl7⟩)
          replace S := S.below hl7
          clear hl7 HQf c0
          have HW := Lib.hid (wrongOr_any w7.heap.size [f, Q1] (w7.alloc (.cells #[.int .i64 f, .int .i64 Q1] 35)) (LV.new w7 w7.heap.size #[.int .i64 f, .int .i64 Q1] 35 rfl) (by simp))
          rw [HO1.out] at HW
          simp only [List.length_cons, List.length_nil, Nat.zero_add, Nat.reduceAdd] at HW
          go_wp2_with fail
          ((with_reducible refine (HW.out).mono ?_); rintro e _ ⟨rfl, rfl⟩)
          replace S := S.alloc (.cells #[.int .i64 f, .int .i64 Q1] 35)
          generalize w7.alloc (.cells #[.int .i64 f, .int .i64 Q1] 35) = w8 at *
          clear HW HO1
          have c0 := (LQ.kb3 S.b hQl).all
          go_upto_region 17 with fail
          obtain ⟨Y, hY⟩ : ∃ Y, Y = w8.heap.size := ⟨_, rfl⟩
          replace S := S.newAt (qqCs 0 ⟨#[]⟩ ⟨#[]⟩ rg 1 at') 31 Y hY
          rw [← hY]
          clear hY c0
          generalize w8.alloc (.cells (qqCs 0 ⟨#[]⟩ ⟨#[]⟩ rg 1 at') 31) = w9 at *
          replace S : Mem we w9 [.sl rId A1 Rs1, .sl rInt A2 Rs2, .loc Y (qqCs 0 ⟨#[]⟩ ⟨#[]⟩ rg 1 at') 31] := S
          go_upto_if 89 with fail
          have HS0 := Lib.hid S
          clear S
          go_cut [16] (fun s16 wx => s16 = .pointer (some ⟨Y, 0, none⟩) ∧ Mem we wx [.sl rId A1 Rs1, .sl rInt A2 Rs2, .loc Y (qqCs 0 ⟨#[]⟩ (headName ps) rg 1 at') 31])
          case first =>
            have S := HS0.out
            clear HS0 HQf2 HRa HRt HO2 HL1 HL2 HRs1 HRs2
            cases ps with
            | nil =>
              simp only [List.length_nil]
              go_wp2_with fail
              go_meet
              exact ⟨rfl, S⟩
            | cons u r =>
              obtain ⟨blk, off, At, ct, rfl, _, d0, _, _⟩ := (HHS.out.keepB S.b).purp 0 u rfl
              rw [Nat.zero_mul, Nat.add_zero] at d0
              have c2 := (S.lv 2 rfl).all
              simp only [List.length_cons]
              go_wp2_with fail
              go_meet
              exact ⟨rfl, S.set 2 2 (.string u.name) rfl⟩
          case rest =>
            clear HS0 HHS
            obtain ⟨rfl, S⟩ := hcut
            have c2 := (S.lv 2 rfl).all
            go_wp2_with fail
            ((with_reducible refine (HQf2.out wc S.b).mono ?_); rintro e w10 ⟨rfl, hl10⟩)
            replace S := S.below hl10
            clear hl10 HQf2 c2
            have HW := Lib.hid (wrongOr_any w10.heap.size [f, Q2] (w10.alloc (.cells #[.int .i64 f, .int .i64 Q2] 35)) (LV.new w10 w10.heap.size #[.int .i64 f, .int .i64 Q2] 35 rfl) (by simp))
            rw [HO2.out] at HW
            simp only [List.length_cons, List.length_nil, Nat.zero_add, Nat.reduceAdd] at HW
            go_wp2_with fail
            ((with_reducible refine (HW.out).mono ?_); rintro e _ ⟨rfl, rfl⟩)
            replace S := S.alloc (.cells #[.int .i64 f, .int .i64 Q2] 35)
            generalize w10.alloc (.cells #[.int .i64 f, .int .i64 Q2] 35) = w11 at *
            clear HW HO2
            go_upto_region 20 with fail
            go_cut [126] (fun s126 wx => s126 = .bool false ∧ w11 = wx)
            case first =>
              by_cases h1 : E1 = 0
              · by_cases h2 : E2 = 0
                · subst h1 h2
                  go_wp2_with fail
                  go_meet
                  exact ⟨rfl, rfl⟩
                · have h2' : (E2 != 0) = true := by simpa using h2
                  obtain rfl : [] = Rs2 := by rw [← HRs2.out, if_neg h2]
                  subst h1
                  simp only [List.length_nil]
                  go_wp2_with fail
                  go_meet
                  exact ⟨rfl, rfl⟩
              · have h1' : (E1 != 0) = true := by simpa using h1
                obtain rfl : [] = Rs1 := by rw [← HRs1.out, if_neg h1]
                by_cases h2 : E2 = 0
                · subst h2
                  simp only [List.length_nil]
                  go_wp2_with fail
                  go_meet
                  exact ⟨rfl, rfl⟩
                · have h2' : (E2 != 0) = true := by simpa using h2
                  obtain rfl : [] = Rs2 := by rw [← HRs2.out, if_neg h2]
                  simp only [List.length_nil]
                  go_wp2_with fail
                  go_meet
                  exact ⟨rfl, rfl⟩
            case rest =>
              obtain ⟨rfl, rfl⟩ := hcut
              have c0 := (LQ.kb3 S.b hQl).all
              by_cases h1 : E1 = 0
              · obtain rfl : R1 = Rs1 := by rw [← HRs1.out, if_pos h1]
                by_cases h2 : E2 = 0
                · obtain rfl : R2 = Rs2 := by rw [← HRs2.out, if_pos h2]
                  have h1' : (E1 != 0) = false := by simpa using h1
                  have h2' : (E2 != 0) = false := by simpa using h2
                  clear HRs1 HRs2
                  go_wp2_with fail
                  ((with_reducible refine ((HRa.out h1) _ S.b).mono ?_); rintro e w12 ⟨A3, c3, rfl, hS3, hl12⟩)
                  replace S := S.below hl12
                  have HE := Lib.hid (eqId_any (fun _ => False) A1 A3 R1 c1 c3 w12 ((S.slc 0 rfl).mono (fun _ _ h => h.elim)) (hS3.mono (fun _ _ h => h.elim)) (by have := HL1.out; omega))
                  clear hl12 hS3 HRa c0
                  go_wp2_with fail
                  ((with_reducible refine (HE.out).mono ?_); rintro e w13 ⟨rfl, hl13⟩)
                  replace S := S.below hl13
                  clear hl13 HE
                  have c0 := (LQ.kb3 S.b hQl).all
                  go_wp2_with fail
                  ((with_reducible refine ((HRt.out h2) _ S.b).mono ?_); rintro e w14 ⟨A4, c4, rfl, hS4, hl14⟩)
                  replace S := S.below hl14
                  have HE := Lib.hid (eqInt_any (fun _ => False) A2 A4 R2 c2 c4 w14 ((S.slc 1 rfl).mono (fun _ _ h => h.elim)) (hS4.mono (fun _ _ h => h.elim)) (by have := HL2.out; omega))
                  clear hl14 hS4 HRt
                  go_wp2_with fail
                  ((with_reducible refine (HE.out).mono ?_); rintro e w15 ⟨rfl, hl15⟩)
                  replace S := S.below hl15
                  clear hl15 HE
                  go_wp2_with fail
                  ((with_reducible refine (HC.out _ S.b).mono ?_); rintro e w16 ⟨rfl, hl16⟩)
                  replace S := S.below hl16
                  clear hl16 HC
                  go_wp2_with fail
                  go_ret
                  exact ⟨rfl, Hb1.out.trans (S.b.mono Hb1.out.size)⟩
                · have h1' : (E1 != 0) = false := by simpa using h1
                  have h2' : (E2 != 0) = true := by simpa using h2
                  clear HRs1 HRs2 HRt
                  go_wp2_with fail
                  ((with_reducible refine ((HRa.out h1) _ S.b).mono ?_); rintro e w12 ⟨A3, c3, rfl, hS3, hl12⟩)
                  replace S := S.below hl12
                  have HE := Lib.hid (eqId_any (fun _ => False) A1 A3 R1 c1 c3 w12 ((S.slc 0 rfl).mono (fun _ _ h => h.elim)) (hS3.mono (fun _ _ h => h.elim)) (by have := HL1.out; omega))
                  clear hl12 hS3 HRa c0
                  go_wp2_with fail
                  ((with_reducible refine (HE.out).mono ?_); rintro e w13 ⟨rfl, hl13⟩)
                  replace S := S.below hl13
                  clear hl13 HE
                  go_wp2_with fail
                  ((with_reducible refine (HC.out _ S.b).mono ?_); rintro e w16 ⟨rfl, hl16⟩)
                  replace S := S.below hl16
                  clear hl16 HC
                  go_wp2_with fail
                  go_ret
                  exact ⟨rfl, Hb1.out.trans (S.b.mono Hb1.out.size)⟩
              · have h1' : (E1 != 0) = true := by simpa using h1
                by_cases h2 : E2 = 0
                · obtain rfl : R2 = Rs2 := by rw [← HRs2.out, if_pos h2]
                  have h2' : (E2 != 0) = false := by simpa using h2
                  clear HRs1 HRs2 HRa
                  go_wp2_with fail
                  ((with_reducible refine ((HRt.out h2) _ S.b).mono ?_); rintro e w14 ⟨A4, c4, rfl, hS4, hl14⟩)
                  replace S := S.below hl14
                  have HE := Lib.hid (eqInt_any (fun _ => False) A2 A4 R2 c2 c4 w14 ((S.slc 1 rfl).mono (fun _ _ h => h.elim)) (hS4.mono (fun _ _ h => h.elim)) (by have := HL2.out; omega))
                  clear hl14 hS4 HRt
                  go_wp2_with fail
                  ((with_reducible refine (HE.out).mono ?_); rintro e w15 ⟨rfl, hl15⟩)
                  replace S := S.below hl15
                  clear hl15 HE
                  go_wp2_with fail
                  ((with_reducible refine (HC.out _ S.b).mono ?_); rintro e w16 ⟨rfl, hl16⟩)
                  replace S := S.below hl16
                  clear hl16 HC
                  go_wp2_with fail
                  go_ret
                  exact ⟨rfl, Hb1.out.trans (S.b.mono Hb1.out.size)⟩
                · have h2' : (E2 != 0) = true := by simpa using h2
                  clear HRs1 HRs2 HRa HRt
                  go_wp2_with fail
                  ((with_reducible refine (HC.out _ S.b).mono ?_); rintro e w16 ⟨rfl, hl16⟩)
                  replace S := S.below hl16
                  clear hl16 HC
                  go_wp2_with fail
                  go_ret
                  exact ⟨rfl, Hb1.out.trans (S.b.mono Hb1.out.size)⟩
end Go.Proofs.YtlnklkedpknbpaaGreatDoor
