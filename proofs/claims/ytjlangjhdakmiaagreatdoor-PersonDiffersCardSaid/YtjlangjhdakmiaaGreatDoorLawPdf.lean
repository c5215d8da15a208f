/- The law PersonDiffers walked: it returns true, and nothing that was there has turned. -/
import Derived.Test.YtjlangjhdakmiaaGreatDoorPackF
import Derived.Test.YtjlangjhdakmiaaGreatDoorPackL
import Derived.Test.YtjlangjhdakmiaaGreatDoorPackG
namespace Go.Proofs.YtjlangjhdakmiaaGreatDoor
open Go Go.RowKit
theorem loadAtJd {w : World} {X : Nat} {a b c d : Value} (h : LV w X #[a, b, c, d] 29) : (Instr.loadAt 29 (.pointer (some ⟨X, 0, none⟩))).run Tryz.prog w = .ok (.agg #[a, b, c, d]) w := by
  have c0 := h.all
  go_simp
theorem tch_sizes {qs : List TQ} (h : ∀ q ∈ qs, TchSm q.t ∧ tchFault q.t 0 = 0) : ∀ t ∈ qs.map TQ.t, ∀ x ∈ t.ids, x.t.size ≤ 10000 := fun t ht x hx => by
  obtain ⟨q, hq, rfl⟩ := List.mem_map.1 ht
  exact (h q hq).1.it x hx
theorem tch_rt {r : Rul} {qs : List TQ} (hr : RulSm r ∧ rulFault r = 0) (hl : qs.length ≤ 8) (h : ∀ q ∈ qs, TchSm q.t ∧ tchFault q.t 0 = 0) : RtOk r (qs.map TQ.t) :=
  .mk2 hr.2 (Nat.le_trans hr.1.kl (by decide)) (by rw [List.length_map]; omega) (fun t ht => by
    obtain ⟨q, hq, rfl⟩ := List.mem_map.1 ht
    exact ⟨0, (h q hq).2⟩)
set_option maxHeartbeats 16000000 in
set_option maxRecDepth 100000 in
theorem personDiffers_any (v : Value) (w : World) (hv : IntsIn v w) (hT : Tabs w) (hM : MaxL w) (hN : Names w) (hP : Pool w) :
    Calls Tryz.prog 6 #[v] w fun e w' => e = .returned (.bool true) ∧ Below w.heap.size w w' := by
  obtain ⟨va, vn, vc, rfl⟩ : ∃ a n c, v = .slice a n c := by
    rcases hv with ⟨a, c, rfl⟩ | ⟨k, off, len, cap, rfl, _⟩
    · exact ⟨_, _, _, rfl⟩
    · exact ⟨_, _, _, rfl⟩
  have g0 := G.start (Strm.start hv)
  clear hv
  obtain ⟨b, hb⟩ : ∃ b, b = w.heap.size := ⟨_, rfl⟩
  have hPn : 0 ≠ b := by rw [hb]; exact Nat.ne_of_lt hP.lt
  have hNn : 1 ≠ b := by rw [hb]; exact Nat.ne_of_lt hN.lt
  have hb0 : Below b w (w.alloc (.cells #[.slice va vn vc, .int .i64 0] 25)) := by rw [hb]; exact (Below.refl _ _).alloc (Nat.le_refl _) _
  have Hb0 := Lib.hid hb0
  have HTM : Hid (∀ w', Below b w w' → Tabs w' ∧ MaxL w') := fun w' h => by rw [hb] at h; exact ⟨Utf8Tabs_below hT h, hM.below h⟩
  have HP := Lib.hid (hP.keep (b := b) ((SK.refl _ w).alloc (.cells #[.slice va vn vc, .int .i64 0] 25)) hPn)
  have HN := Lib.hid (hN.keep (b := b) ((SK.refl _ w).alloc (.cells #[.slice va vn vc, .int .i64 0] 25)) hNn)
  rw [← hb] at g0
  have hw0 : b ≤ (w.alloc (.cells #[.slice va vn vc, .int .i64 0] 25)).heap.size := by simp; omega
  have S0 := St.start g0.s
  obtain ⟨V0, hV0⟩ : ∃ V0, V0 = b + 1 := ⟨_, rfl⟩
  have S : St b 0 _ _ [.loc V0 (ptB b) 23] := S0.newAt (ptB b) 23 V0 (by rw [hV0, hb, World.size_alloc])
  have Hbw := Lib.hid hb
  clear hP hM hN hT hb0 S0 g0
  go_enter Tryz.func6, Tryz.ntmps6
  go_upto_region 2 with fail
  rw [← hb, ← hV0]
  clear hb hV0
  generalize w.alloc (.cells #[.slice va vn vc, .int .i64 0] 25) = w1 at *
  generalize World.alloc w1 _ = w2 at *
  have HTS : Hid (∀ m w', G b m w1 w' → b ≤ w'.heap.size ∧ Below b w w') := fun m w' h => ⟨Nat.le_trans hw0 h.size, Hb0.out.trans (h.k.below (Nat.le_refl _) hw0)⟩
  have HA := Lib.hid (fun m wx (h : G b m w1 wx) (hm : m ≤ 100000) => rightRules_any b m b wx h.s (by omega) (HN.out.keep h.k hNn) hNn (HP.out.keep h.k hPn) hPn (Nat.le_refl _) (HTS.out m wx h).1 (fun w' h2 => HTM.out w' ((HTS.out m wx h).2.trans h2)))
  have HC := Lib.hid (fun m n wx (h : G b m w1 wx) (hm : m ≤ 100000) (hn : n ≤ 16) => rightTouches_any b m n b wx h.s (by omega) hn (HN.out.keep h.k hNn) hNn (HP.out.keep h.k hPn) hPn (Nat.le_refl _) (HTS.out m wx h).1 (fun w' h2 => HTM.out w' ((HTS.out m wx h).2.trans h2)))
  have HSp := Lib.hid (fun m wx (h : G b m w1 wx) (hm : m ≤ 10000000) => spoiledId_any b m wx h.s (by omega) (HP.out.keep h.k hPn) hPn)
  clear HN HP hNn hPn hw0
  go_cut [4, 5] (fun s4 s5 wx => ∃ (Yr : Nat) (r : Rul) (K : Option Addr) (ck : Nat) (W : Option Addr) (cw : Nat) (Sv : Option Addr) (cs : Nat) (v : Value) (qs : List TQ) (B3 : Nat), s4 = .pointer (some ⟨Yr, 0, none⟩) ∧ s5 = v ∧ Hid (RulSm r ∧ rulFault r = 0) ∧ Hid (qs.length ≤ 8 ∧ ∀ q ∈ qs, TchSm q.t ∧ tchFault q.t 0 = 0) ∧
    St b 20000 w1 wx [.loc V0 (ptB b) 23, .sl rInt K r.kinds, .sl rId W r.weak, .sl rSrv Sv r.surv, .own rTQ B3 64 v qs, .tdat qs, .loc Yr (ruCs r K ck W cw Sv cs) 29])
  case first =>
    --@dev
    refine wp_region_mixT [] (fun wx => LV wx V0 (ptB b) 23) (.q 0 (.q 2 (.q 3 (.e2 1 (.e2 4 (.e2 5 (.e 6 (.e 7 (.p 8 .z))) 6 (.e 5 (.e 7 (.p 8 .z)))) 6 (.e 4 (.e 5 (.e 7 (.p 8 .z))))) 6 (.e 1 (.e 4 (.e 5 (.e 7 (.p 8 .z))))))))) (by kernel_rfl) (by kernel_rfl) (fun _ hd => (S.below (hd.below _)).lv 0 rfl) (fun KK hKK wd hd => ?_)
    replace S := S.below (hd.below _)
    clear hd
    refine mixT_loadR (.pointer (some ⟨b, 0, none⟩)) rfl rfl rfl rfl (fun w' h => loadC rfl (h.cell 0 _ rfl)) ?_
    refine mixT_loadR (.pointer (some ⟨b, 0, none⟩)) rfl rfl rfl rfl (fun w' h => loadC rfl (h.cell 0 _ rfl)) ?_
    refine mixT_loadR (.pointer (some ⟨b, 0, none⟩)) rfl rfl rfl rfl (fun w' h => loadC rfl (h.cell 0 _ rfl)) ?_
    refine mixT_2 (mixT_one rfl rfl (fun K9 hK9 => ?_)) (mixT_one rfl rfl (fun K9 hK9 => ?_))
    · go_wp2_with fail
      ((with_reducible refine (HA.out _ _ S.g (by omega)).mono ?_); rintro e w3 ⟨r, K, ck, W, cw, Sv, cs, rfl, hr1, hr2, T⟩)
      have Hr : Hid (RulSm r ∧ rulFault r = 0) := ⟨hr1, hr2⟩
      replace S : St b _ w1 w3 [.loc V0 (ptB b) 23, .sl rInt K r.kinds, .sl rId W r.weak, .sl rSrv Sv r.surv] := (S.join T)
      have hC := S.lv 0 rfl
      clear T hr1 hr2
      go_wp2_with fail
      refine ⟨hC, ?_⟩
      clear hC
      refine mixT_2 (mixT_one rfl rfl (fun K9 hK9 => ?_)) (mixT_one rfl rfl (fun K9 hK9 => ?_))
      · go_wp2_with fail
        ((with_reducible refine (range_any b _ _ _ _ S.g.s (by omega) (by omega) (by omega) (by omega)).mono ?_); rintro e w4 ⟨many, m_lo, m_hi, rfl, hk4, hs4⟩)
        replace S := S.step hk4 hs4
        obtain ⟨n, rfl⟩ := Int.eq_ofNat_of_zero_le m_lo
        have hn8 : n ≤ 8 := by omega
        have hC := S.lv 0 rfl
        clear hk4 hs4 m_lo m_hi
        go_wp2_with fail
        refine ⟨hC, ?_⟩
        clear hC
        refine mixT_2 (mixT_one rfl rfl (fun K9 hK9 => ?_)) (mixT_one rfl rfl (fun K9 hK9 => ?_))
        · go_wp2_with fail
          ((with_reducible refine (HC.out _ n _ S.g (by omega) (by omega)).mono ?_); rintro e w5 ⟨v, qs, rfl, hql, hqs, T⟩)
          have Hq : Hid (qs.length ≤ 8 ∧ ∀ q ∈ qs, TchSm q.t ∧ tchFault q.t 0 = 0) := ⟨by omega, hqs⟩
          replace S : St b _ w1 w5 [.loc V0 (ptB b) 23, .sl rInt K r.kinds, .sl rId W r.weak, .sl rSrv Sv r.surv, .own rTQ _ 64 v qs, .tdat qs] := (S.join T)
          have hC := S.lv 0 rfl
          clear T hql hqs
          go_wp2_with fail
          refine ⟨hC, ?_⟩
          clear hC
          refine mixT_l rfl rfl (fun K9 hK9 => ?_)
          go_wp2_with fail
          obtain ⟨Yr, hYr⟩ : ∃ Yr, Yr = (w5).heap.size := ⟨_, rfl⟩
          replace S : St b _ w1 _ [.loc V0 (ptB b) 23, .sl rInt K r.kinds, .sl rId W r.weak, .sl rSrv Sv r.surv, .own rTQ w4.heap.size 64 v qs, .tdat qs, .loc Yr jzCs 29] := S.newAt jzCs 29 Yr hYr
          rw [← hYr]
          clear hYr
          generalize (w5).alloc (.cells jzCs 29) = wz at *
          refine ⟨S.lv 0 rfl, ?_⟩
          refine mixT_l rfl rfl (fun K9 hK9 => ?_)
          have l6 := (S.lv 6 rfl).all
          have S9 := (((S.set 6 0 (.slice K r.kinds.length ck) rfl).set 6 1 (.int .i64 r.most) rfl).set 6 2 (.slice W r.weak.length cw) rfl).set 6 3 (.slice Sv r.surv.length cs) rfl
          go_wp2_with fail
          refine ⟨S9.lv 0 rfl, ?_⟩
          repeat ((first | refine mixT_pp rfl (fun K hK => ?_) | refine mixT_p rfl (fun K hK => ?_)); go_simp; (try go_bits); (try simp (disch := omega) only [if_pos]); (try simp (disch := omega) only [if_neg]); (try simp (disch := omega) only [dif_pos]); (try simp (disch := omega) only [dif_neg]); (try go_simp); (refine hK _ ?_; clear hK K))
          refine mixT_nil ?_
          simp only [Exit.then]
          refine hKK _ _ ?_
          clear hKK KK
          go_wp2_with fail
          go_meet
          exact ⟨Yr, r, K, ck, W, cw, Sv, cs, v, qs, _, rfl, rfl, Hr.out, Hq.out, S9.mono (by omega)⟩
        · go_wp2_with fail
          obtain ⟨Yr, hYr⟩ : ∃ Yr, Yr = (w4).heap.size := ⟨_, rfl⟩
          replace S : St b _ w1 _ [.loc V0 (ptB b) 23, .sl rInt K r.kinds, .sl rId W r.weak, .sl rSrv Sv r.surv, .loc Yr jzCs 29] := S.newAt jzCs 29 Yr hYr
          rw [← hYr]
          clear hYr
          generalize (w4).alloc (.cells jzCs 29) = wz at *
          refine ⟨S.lv 0 rfl, ?_⟩
          refine mixT_l rfl rfl (fun K9 hK9 => ?_)
          go_wp2_with fail
          ((with_reducible refine (HC.out _ n _ S.g (by omega) (by omega)).mono ?_); rintro e w5 ⟨v, qs, rfl, hql, hqs, T⟩)
          have Hq : Hid (qs.length ≤ 8 ∧ ∀ q ∈ qs, TchSm q.t ∧ tchFault q.t 0 = 0) := ⟨by omega, hqs⟩
          replace S : St b _ w1 w5 [.loc V0 (ptB b) 23, .sl rInt K r.kinds, .sl rId W r.weak, .sl rSrv Sv r.surv, .own rTQ _ 64 v qs, .tdat qs, .loc Yr jzCs 29] := ((S.join T).perm (.cons _ (.cons _ (.cons _ (.cons _ (List.perm_append_comm (l₁ := [Chunk.loc Yr jzCs 29])))))))
          have hC := S.lv 0 rfl
          clear T hql hqs
          go_wp2_with fail
          refine ⟨hC, ?_⟩
          clear hC
          refine mixT_l rfl rfl (fun K9 hK9 => ?_)
          have l6 := (S.lv 6 rfl).all
          have S9 := (((S.set 6 0 (.slice K r.kinds.length ck) rfl).set 6 1 (.int .i64 r.most) rfl).set 6 2 (.slice W r.weak.length cw) rfl).set 6 3 (.slice Sv r.surv.length cs) rfl
          go_wp2_with fail
          refine ⟨S9.lv 0 rfl, ?_⟩
          repeat ((first | refine mixT_pp rfl (fun K hK => ?_) | refine mixT_p rfl (fun K hK => ?_)); go_simp; (try go_bits); (try simp (disch := omega) only [if_pos]); (try simp (disch := omega) only [if_neg]); (try simp (disch := omega) only [dif_pos]); (try simp (disch := omega) only [dif_neg]); (try go_simp); (refine hK _ ?_; clear hK K))
          refine mixT_nil ?_
          simp only [Exit.then]
          refine hKK _ _ ?_
          clear hKK KK
          go_wp2_with fail
          go_meet
          exact ⟨Yr, r, K, ck, W, cw, Sv, cs, v, qs, _, rfl, rfl, Hr.out, Hq.out, S9.mono (by omega)⟩
      · go_wp2_with fail
        obtain ⟨Yr, hYr⟩ : ∃ Yr, Yr = (w3).heap.size := ⟨_, rfl⟩
        replace S : St b _ w1 _ [.loc V0 (ptB b) 23, .sl rInt K r.kinds, .sl rId W r.weak, .sl rSrv Sv r.surv, .loc Yr jzCs 29] := S.newAt jzCs 29 Yr hYr
        rw [← hYr]
        clear hYr
        generalize (w3).alloc (.cells jzCs 29) = wz at *
        refine ⟨S.lv 0 rfl, ?_⟩
        refine mixT_l rfl rfl (fun K9 hK9 => ?_)
        go_wp2_with fail
        ((with_reducible refine (range_any b _ _ _ _ S.g.s (by omega) (by omega) (by omega) (by omega)).mono ?_); rintro e w4 ⟨many, m_lo, m_hi, rfl, hk4, hs4⟩)
        replace S := S.step hk4 hs4
        obtain ⟨n, rfl⟩ := Int.eq_ofNat_of_zero_le m_lo
        have hn8 : n ≤ 8 := by omega
        have hC := S.lv 0 rfl
        clear hk4 hs4 m_lo m_hi
        go_wp2_with fail
        refine ⟨hC, ?_⟩
        clear hC
        refine mixT_l rfl rfl (fun K9 hK9 => ?_)
        go_wp2_with fail
        ((with_reducible refine (HC.out _ n _ S.g (by omega) (by omega)).mono ?_); rintro e w5 ⟨v, qs, rfl, hql, hqs, T⟩)
        have Hq : Hid (qs.length ≤ 8 ∧ ∀ q ∈ qs, TchSm q.t ∧ tchFault q.t 0 = 0) := ⟨by omega, hqs⟩
        replace S : St b _ w1 w5 [.loc V0 (ptB b) 23, .sl rInt K r.kinds, .sl rId W r.weak, .sl rSrv Sv r.surv, .own rTQ _ 64 v qs, .tdat qs, .loc Yr jzCs 29] := ((S.join T).perm (.cons _ (.cons _ (.cons _ (.cons _ (List.perm_append_comm (l₁ := [Chunk.loc Yr jzCs 29])))))))
        have hC := S.lv 0 rfl
        clear T hql hqs
        go_wp2_with fail
        refine ⟨hC, ?_⟩
        clear hC
        refine mixT_l rfl rfl (fun K9 hK9 => ?_)
        have l6 := (S.lv 6 rfl).all
        have S9 := (((S.set 6 0 (.slice K r.kinds.length ck) rfl).set 6 1 (.int .i64 r.most) rfl).set 6 2 (.slice W r.weak.length cw) rfl).set 6 3 (.slice Sv r.surv.length cs) rfl
        go_wp2_with fail
        refine ⟨S9.lv 0 rfl, ?_⟩
        repeat ((first | refine mixT_pp rfl (fun K hK => ?_) | refine mixT_p rfl (fun K hK => ?_)); go_simp; (try go_bits); (try simp (disch := omega) only [if_pos]); (try simp (disch := omega) only [if_neg]); (try simp (disch := omega) only [dif_pos]); (try simp (disch := omega) only [dif_neg]); (try go_simp); (refine hK _ ?_; clear hK K))
        refine mixT_nil ?_
        simp only [Exit.then]
        refine hKK _ _ ?_
        clear hKK KK
        go_wp2_with fail
        go_meet
        exact ⟨Yr, r, K, ck, W, cw, Sv, cs, v, qs, _, rfl, rfl, Hr.out, Hq.out, S9.mono (by omega)⟩
    · go_wp2_with fail
      obtain ⟨Yr, hYr⟩ : ∃ Yr, Yr = (wd).heap.size := ⟨_, rfl⟩
      replace S : St b _ w1 _ [.loc V0 (ptB b) 23, .loc Yr jzCs 29] := S.newAt jzCs 29 Yr hYr
      rw [← hYr]
      clear hYr
      generalize (wd).alloc (.cells jzCs 29) = wz at *
      refine ⟨S.lv 0 rfl, ?_⟩
      refine mixT_l rfl rfl (fun K9 hK9 => ?_)
      go_wp2_with fail
      ((with_reducible refine (HA.out _ _ S.g (by omega)).mono ?_); rintro e w3 ⟨r, K, ck, W, cw, Sv, cs, rfl, hr1, hr2, T⟩)
      have Hr : Hid (RulSm r ∧ rulFault r = 0) := ⟨hr1, hr2⟩
      replace S : St b _ w1 w3 [.loc V0 (ptB b) 23, .sl rInt K r.kinds, .sl rId W r.weak, .sl rSrv Sv r.surv, .loc Yr jzCs 29] := ((S.join T).perm (.cons _ (List.perm_append_comm (l₁ := [Chunk.loc Yr jzCs 29]))))
      have hC := S.lv 0 rfl
      clear T hr1 hr2
      go_wp2_with fail
      refine ⟨hC, ?_⟩
      clear hC
      refine mixT_l rfl rfl (fun K9 hK9 => ?_)
      go_wp2_with fail
      ((with_reducible refine (range_any b _ _ _ _ S.g.s (by omega) (by omega) (by omega) (by omega)).mono ?_); rintro e w4 ⟨many, m_lo, m_hi, rfl, hk4, hs4⟩)
      replace S := S.step hk4 hs4
      obtain ⟨n, rfl⟩ := Int.eq_ofNat_of_zero_le m_lo
      have hn8 : n ≤ 8 := by omega
      have hC := S.lv 0 rfl
      clear hk4 hs4 m_lo m_hi
      go_wp2_with fail
      refine ⟨hC, ?_⟩
      clear hC
      refine mixT_l rfl rfl (fun K9 hK9 => ?_)
      go_wp2_with fail
      ((with_reducible refine (HC.out _ n _ S.g (by omega) (by omega)).mono ?_); rintro e w5 ⟨v, qs, rfl, hql, hqs, T⟩)
      have Hq : Hid (qs.length ≤ 8 ∧ ∀ q ∈ qs, TchSm q.t ∧ tchFault q.t 0 = 0) := ⟨by omega, hqs⟩
      replace S : St b _ w1 w5 [.loc V0 (ptB b) 23, .sl rInt K r.kinds, .sl rId W r.weak, .sl rSrv Sv r.surv, .own rTQ _ 64 v qs, .tdat qs, .loc Yr jzCs 29] := ((S.join T).perm (.cons _ (.cons _ (.cons _ (.cons _ (List.perm_append_comm (l₁ := [Chunk.loc Yr jzCs 29])))))))
      have hC := S.lv 0 rfl
      clear T hql hqs
      go_wp2_with fail
      refine ⟨hC, ?_⟩
      clear hC
      refine mixT_l rfl rfl (fun K9 hK9 => ?_)
      have l6 := (S.lv 6 rfl).all
      have S9 := (((S.set 6 0 (.slice K r.kinds.length ck) rfl).set 6 1 (.int .i64 r.most) rfl).set 6 2 (.slice W r.weak.length cw) rfl).set 6 3 (.slice Sv r.surv.length cs) rfl
      go_wp2_with fail
      refine ⟨S9.lv 0 rfl, ?_⟩
      repeat ((first | refine mixT_pp rfl (fun K hK => ?_) | refine mixT_p rfl (fun K hK => ?_)); go_simp; (try go_bits); (try simp (disch := omega) only [if_pos]); (try simp (disch := omega) only [if_neg]); (try simp (disch := omega) only [dif_pos]); (try simp (disch := omega) only [dif_neg]); (try go_simp); (refine hK _ ?_; clear hK K))
      refine mixT_nil ?_
      simp only [Exit.then]
      refine hKK _ _ ?_
      clear hKK KK
      go_wp2_with fail
      go_meet
      exact ⟨Yr, r, K, ck, W, cw, Sv, cs, v, qs, _, rfl, rfl, Hr.out, Hq.out, S9.mono (by omega)⟩
    --@enddev
  case rest =>
    clear S
    obtain ⟨Yr, r, K, ck, W, cw, Sv, cs, vt, qs, B3, rfl, rfl, Hr, Hq, S⟩ := hcut
    obtain ⟨A, c, e0, S1⟩ := S.frz 4 rfl
    subst e0
    have HS1 : Hid (St b 20000 w1 wc [.loc V0 (ptB b) 23, .sl rInt K r.kinds, .sl rId W r.weak, .sl rSrv Sv r.surv, .sl rTQ A qs, .tdat qs, .loc Yr (ruCs r K ck W cw Sv cs) 29]) := S1
    have Hcl := Lib.hid (cloneT_any A qs c wc ((S1.slc 4 rfl).mono (fun _ _ h => h.elim)) (by have := Hq.out.1; omega))
    clear S S1
    go_wp2_with fail
    ((with_reducible refine (Hcl.out).mono ?_); rintro e w6 ⟨A6, c6, rfl, T⟩)
    obtain ⟨wb, _, M, back⟩ := HS1.out.viaMem
    have S2 : St b 20000 w1 w6 (.own rTQ wc.heap.size 64 (.slice A6 qs.length c6) qs :: .loc V0 (ptB b) 23 :: [.sl rInt K r.kinds, .sl rId W r.weak, .sl rSrv Sv r.surv, .sl rTQ A qs, .tdat qs, .loc Yr (ruCs r K ck W cw Sv cs) 29]) := (back _ _ (M.join T)).front
    clear back M T Hcl HS1
    have Hdl := Lib.hid (delT_any S2 (by have := Hq.out.1; omega) (by omega))
    have l1 := (S2.lv 1 rfl).all
    clear S2
    go_wp2_with fail
    ((with_reducible refine (Hdl.out).mono ?_); rintro e w7 ⟨vu, ys, rfl, hyl, hys, S3⟩)
    obtain ⟨A2, c2, e0, S4⟩ := (S3.mono (n := 20100) (by have := Hq.out.1; omega)).frz 0 rfl
    subst e0
    have S5 : St b 20100 w1 w7 [.sl rTQ A2 ys, .loc V0 (ptB b) 23, .sl rInt K r.kinds, .sl rId W r.weak, .sl rSrv Sv r.surv, .sl rTch A (qs.map TQ.t), .tdat qs, .loc Yr (ruCs r K ck W cw Sv cs) 29] := St.tchs S4 5 6 rfl rfl
    have S6 : St b 20100 w1 w7 [.sl rTch A2 (ys.map TQ.t), .loc V0 (ptB b) 23, .sl rInt K r.kinds, .sl rId W r.weak, .sl rSrv Sv r.surv, .sl rTch A (qs.map TQ.t), .loc Yr (ruCs r K ck W cw Sv cs) 29] := ((S5.subTd 6 rfl hys).tchs 0 6 rfl rfl).del 6
    have Hy : Hid (ys.length ≤ 8 ∧ ∀ q ∈ ys, TchSm q.t ∧ tchFault q.t 0 = 0) := ⟨Nat.le_trans hyl Hq.out.1, fun q hq => Hq.out.2 q (hys q hq)⟩
    have Hrt := Lib.hid (tch_rt Hr.out Hq.out.1 Hq.out.2)
    have Hru := Lib.hid (fun r2 (h : RulSm r2 ∧ rulFault r2 = 0) => tch_rt h Hy.out.1 Hy.out.2)
    have Hts : Hid ((qs.map TQ.t).length ≤ 8 ∧ ∀ t ∈ qs.map TQ.t, ∀ x ∈ t.ids, x.t.size ≤ 10000) := ⟨by rw [List.length_map]; exact Hq.out.1, tch_sizes Hq.out.2⟩
    have Hus : Hid ((ys.map TQ.t).length ≤ 8 ∧ ∀ t ∈ ys.map TQ.t, ∀ x ∈ t.ids, x.t.size ≤ 10000) := ⟨by rw [List.length_map]; exact Hy.out.1, tch_sizes Hy.out.2⟩
    obtain ⟨ts, hts⟩ : ∃ ts, qs.map TQ.t = ts := ⟨_, rfl⟩
    obtain ⟨us, hus⟩ : ∃ us, ys.map TQ.t = us := ⟨_, rfl⟩
    have hlt : qs.length = ts.length := by rw [← hts, List.length_map]
    have hlu : ys.length = us.length := by rw [← hus, List.length_map]
    rw [hts] at S6 Hrt Hts
    rw [hus] at S6 Hru Hus
    rw [hlt, hlu]
    clear S3 S4 S5 hyl hys Hq Hy hts hus hlt hlu Hdl l1
    go_upto_region 4 with fail
    refine wp_region_mixT [] (fun wx => LV wx V0 (ptB b) 23 ∧ LV wx Yr (ruCs r K ck W cw Sv cs) 29) (.q 0 (.p 1 (.q 3 (.p 5 (.e 2 (.e 4 (.e 6 (.p 7 (.p 8 .z))))))))) (by kernel_rfl) (by kernel_rfl) (fun _ hd => ⟨(S6.below (hd.below _)).lv 1 rfl, (S6.below (hd.below _)).lv 6 rfl⟩) (fun KK hKK wd hd => ?_)
    have S := S6.below (hd.below _)
    clear hd S6
    refine mixT_loadR (.agg (ruCs r K ck W cw Sv cs)) rfl rfl rfl rfl (fun w' h => loadAtJd h.2) ?_
    repeat ((first | refine mixT_pp rfl (fun K hK => ?_) | refine mixT_p rfl (fun K hK => ?_)); go_simp; (try go_bits); (try simp (disch := omega) only [if_pos]); (try simp (disch := omega) only [if_neg]); (try simp (disch := omega) only [dif_pos]); (try simp (disch := omega) only [dif_neg]); (try go_simp); (refine hK _ ?_; clear hK K))
    refine mixT_loadR (.pointer (some ⟨b, 0, none⟩)) rfl rfl rfl rfl (fun w' h => loadC rfl (h.1.cell 0 _ rfl)) ?_
    repeat ((first | refine mixT_pp rfl (fun K hK => ?_) | refine mixT_p rfl (fun K hK => ?_)); go_simp; (try go_bits); (try simp (disch := omega) only [if_pos]); (try simp (disch := omega) only [if_neg]); (try simp (disch := omega) only [dif_pos]); (try simp (disch := omega) only [dif_neg]); (try go_simp); (refine hK _ ?_; clear hK K))
    refine mixT_l rfl rfl (fun K9 hK9 => ?_)
    have Hpa := Lib.hid (refPersons_any (fun _ => False) r K W Sv A ck cw cs c ts wd ⟨(S.slc 2 rfl).mono (fun _ _ h => h.elim), (S.slc 3 rfl).mono (fun _ _ h => h.elim), (S.slc 4 rfl).mono (fun _ _ h => h.elim)⟩ ((S.slc 5 rfl).mono (fun _ _ h => h.elim)) Hrt.out)
    have HS := Lib.hid S
    clear S
    go_wp2_with fail
    ((with_reducible refine (Hpa.out).mono ?_); rintro e w8 ⟨Aa, ca, Pa, rfl, hpa, T⟩)
    obtain ⟨wb, _, M, back⟩ := HS.out.viaMem
    have S : St b 20100 w1 w8 [.sl rPsn Aa Pa, .sl rTch A2 us, .loc V0 (ptB b) 23, .sl rInt K r.kinds, .sl rId W r.weak, .sl rSrv Sv r.surv, .sl rTch A ts, .loc Yr (ruCs r K ck W cw Sv cs) 29] := (back _ _ (M.join T)).front
    have Hpt := Lib.hid (psns_tiny hpa Hts.out.1 Hts.out.2)
    have hC := (⟨S.lv 2 rfl, S.lv 7 rfl⟩ : LV w8 V0 (ptB b) 23 ∧ LV w8 Yr (ruCs r K ck W cw Sv cs) 29)
    clear back M T Hpa HS hpa Hts Hrt
    go_wp2_with fail
    refine ⟨hC, ?_⟩
    clear hC
    refine mixT_l rfl rfl (fun K9 hK9 => ?_)
    go_wp2_with fail
    ((with_reducible refine (HA.out _ _ S.g (by omega)).mono ?_); rintro e w9 ⟨r2, K2, ck2, W2, cw2, Sv2, cs2, rfl, hr1, hr2, T⟩)
    replace S : St b _ w1 w9 [.sl rPsn Aa Pa, .sl rTch A2 us, .loc V0 (ptB b) 23, .sl rInt K r.kinds, .sl rId W r.weak, .sl rSrv Sv r.surv, .sl rTch A ts, .loc Yr (ruCs r K ck W cw Sv cs) 29, .sl rInt K2 r2.kinds, .sl rId W2 r2.weak, .sl rSrv Sv2 r2.surv] := S.join T
    have Hpb := Lib.hid (refPersonsO_any (fun _ => False) r2 K2 W2 Sv2 A2 ck2 cw2 cs2 c2 us w9 ⟨(S.slc 8 rfl).mono (fun _ _ h => h.elim), (S.slc 9 rfl).mono (fun _ _ h => h.elim), (S.slc 10 rfl).mono (fun _ _ h => h.elim)⟩ ((S.slc 1 rfl).mono (fun _ _ h => h.elim)) (Hru.out r2 ⟨hr1, hr2⟩))
    have hC := (⟨S.lv 2 rfl, S.lv 7 rfl⟩ : LV w9 V0 (ptB b) 23 ∧ LV w9 Yr (ruCs r K ck W cw Sv cs) 29)
    have HS := Lib.hid S
    clear T hr1 hr2 Hru S
    go_wp2_with fail
    refine ⟨hC, ?_⟩
    clear hC
    refine mixT_l rfl rfl (fun K9 hK9 => ?_)
    go_wp2_with fail
    ((with_reducible refine (Hpb.out).mono ?_); rintro e w10 ⟨Ab, cb, ps, rfl, hpb, T⟩)
    obtain ⟨wb, _, M, back⟩ := HS.out.viaMem
    obtain ⟨B4, hB4⟩ : ∃ B4, B4 = w9.heap.size := ⟨_, rfl⟩
    rw [← hB4] at T
    have S : St b _ w1 w10 [.sl rPsn Aa Pa, .sl rTch A2 us, .loc V0 (ptB b) 23, .sl rInt K r.kinds, .sl rId W r.weak, .sl rSrv Sv r.surv, .sl rTch A ts, .loc Yr (ruCs r K ck W cw Sv cs) 29, .sl rInt K2 r2.kinds, .sl rId W2 r2.weak, .sl rSrv Sv2 r2.surv, .own rPsQ B4 47 (.slice Ab ps.length cb) ps, .pdat ps] := back _ _ (M.join T)
    have hB4l : B4 ≤ w10.heap.size := by rw [hB4]; exact T.b.size
    have Hpu := Lib.hid (psns_tiny hpb Hus.out.1 Hus.out.2)
    have hC := (⟨S.lv 2 rfl, S.lv 7 rfl⟩ : LV w10 V0 (ptB b) 23 ∧ LV w10 Yr (ruCs r K ck W cw Sv cs) 29)
    have S5 : St b 30000 w1 w10 [.loc V0 (ptB b) 23, .sl rPsn Aa Pa, .own rPsQ B4 47 (.slice Ab ps.length cb) ps, .pdat ps] := ((((((((((S.del 10).del 9).del 8).del 7).del 6).del 5).del 4).del 3).del 1).swap).mono (by omega)
    clear S back M T Hpb HS hpb Hus hB4
    go_wp2_with fail
    refine ⟨hC, ?_⟩
    clear hC
    repeat ((first | refine mixT_pp rfl (fun K hK => ?_) | refine mixT_p rfl (fun K hK => ?_)); go_simp; (try go_bits); (try simp (disch := omega) only [if_pos]); (try simp (disch := omega) only [if_neg]); (try simp (disch := omega) only [dif_pos]); (try simp (disch := omega) only [dif_neg]); (try go_simp); (refine hK _ ?_; clear hK K))
    refine mixT_nil ?_
    simp only [Exit.then]
    refine hKK _ _ ?_
    clear hKK KK
    have Hpa8 : Hid (PsnTn Pa) := Tn8.tn Hpt.out
    have Hp8 : Hid (Tn8 (ps.map PsQ.p)) := Hpu.out
    have hpl : ps.length ≤ 8 := by have := Hpu.out.1; rwa [List.length_map] at this
    clear Hpt Hpu Hr HA HC
    go_upto_region 5 with fail
    go_cut [40] (fun s40 wx => ∃ bo : Bool, s40 = .bool bo ∧ Hid (bo = true → 0 < ps.length) ∧ B4 ≤ wx.heap.size ∧ St b 30001 w1 wx [.loc V0 (ptB b) 23, .sl rPsn Aa Pa, .own rPsQ B4 47 (.slice Ab ps.length cb) ps, .pdat ps])
    case first =>
      have l0 := (S5.lv 0 rfl).all
      by_cases h0 : 0 < ps.length
      · have H0 := Lib.hid h0
        go_wp2_with fail
        ((with_reducible refine (flip_any b _ 8 _ S5.g.s (by omega) (by omega) (by omega)).mono ?_); rintro e w11 ⟨bo, rfl, hk, hs⟩)
        have S6 := S5.step hk hs
        have hB5 : B4 ≤ w11.heap.size := Nat.le_trans hB4l hk.size
        clear S5 l0 hk hs
        go_wp2_with fail
        go_meet
        exact ⟨bo, rfl, fun _ => H0.out, hB5, S6⟩
      · go_wp2_with fail
        go_meet
        exact ⟨false, rfl, (fun h => by cases h), hB4l, S5.mono (by omega)⟩
    case rest =>
      clear S5 hB4l
      obtain ⟨bo, rfl, Hbo, hB4l, S5⟩ := hcut
      generalize wc = w11 at *
      go_upto_if 40 with fail
      go_cut [8] (fun s8 wx => ∃ (vb : Value) (pu : List PsQ), s8 = vb ∧ Hid (PsnTn (pu.map PsQ.p)) ∧ St b 40000 w1 wx [.loc V0 (ptB b) 23, .sl rPsn Aa Pa, .own rPsQ B4 47 vb pu, .pdat pu])
      case first =>
        cases bo
        · go_wp2_with fail
          go_meet
          exact ⟨_, ps, rfl, Hp8.out.tn, S5.mono (by omega)⟩
        · have hp0 := Hbo.out rfl
          obtain ⟨g, cap, e, hcap⟩ := (S5.ow 2 rfl).form hp0
          simp only [Value.slice.injEq, true_and] at e
          obtain ⟨rfl, rfl⟩ := e
          have l0 := (S5.lv 0 rfl).all
          go_wp2_with fail
          ((with_reducible refine (next_any b _ ps.length _ S5.g.s (by omega) (by omega) (by omega)).mono ?_); rintro e w12 ⟨k, k0, k1, rfl, hk, hs⟩)
          obtain ⟨i, rfl⟩ := Int.eq_ofNat_of_zero_le k0
          have hil : i < ps.length := by omega
          have S6 := S5.step hk hs
          have hB6 : B4 ≤ w12.heap.size := Nat.le_trans hB4l hk.size
          obtain ⟨q, hq⟩ : ∃ q, ps[i]? = some q := ⟨_, List.getElem?_eq_getElem hil⟩
          have Hq := Lib.hid hq
          clear S5 l0 hk hs k0 k1 hB4l
          have l0 := (S6.lv 0 rfl).all
          go_wp2_with fail
          ((with_reducible refine (next_any b _ 4 _ S6.g.s (by omega) (by omega) (by omega)).mono ?_); rintro e w13 ⟨z, z0, z1, rfl, hk, hs⟩)
          have S7 := S6.step hk hs
          have hB7 : B4 ≤ w13.heap.size := Nat.le_trans hB6 hk.size
          clear S6 l0 hk hs hB6 hq
          have l0 := (S7.lv 0 rfl).all
          rcases (by omega : z = 0 ∨ z = 1 ∨ z = 2 ∨ z = 3) with rfl | rfl | rfl | rfl
          · clear z0 z1
            go_wp2_with fail
            ((with_reducible refine (HSp.out _ _ S7.g (by omega)).mono ?_); rintro e w14 ⟨ky, kt, hkt, rfl, hk, hs⟩)
            have S8 := S7.step hk hs
            clear S7 l0 hk hs
            obtain ⟨⟨e0, e1, e2, e3⟩, ff⟩ := (S8.ow 2 rfl).pqAt rfl i q Hq.out
            have f0 : w14.frozen? ⟨g, i * 4, none⟩ = false := ff 0 (by omega)
            have f1 := ff 1 (by omega)
            have S9 := S8.psnKey rfl Hq.out ky kt
            have HT9 : Hid (PsnTn ((ps.set i ⟨⟨⟨ky, kt⟩, q.p.tch, q.p.ids⟩, q.A, q.a, q.B, q.b⟩).map PsQ.p)) := Hp8.out.set i _ (Nat.le_trans (Hp8.out.at' Hq.out).1 (by decide)) hkt
            clear ff S8
            go_wp2_with fail
            go_meet
            exact ⟨_, _, rfl, HT9.out, S9.mono (by omega)⟩
          · clear z0 z1
            obtain ⟨⟨e0, e1, e2, e3⟩, ff⟩ := (S7.ow 2 rfl).pqAt rfl i q Hq.out
            have f2 := ff 2 (by omega)
            have S9 := S7.psnTch rfl Hq.out none 0 [] Sl.nil
            have HT9 : Hid (PsnTn ((ps.set i ⟨⟨q.p.key, [], q.p.ids⟩, none, 0, q.B, q.b⟩).map PsQ.p)) := Hp8.out.set i _ (Nat.zero_le _) (Hp8.out.at' Hq.out).2
            clear ff S7
            go_wp2_with fail
            go_meet
            exact ⟨_, _, rfl, HT9.out, S9.mono (by omega)⟩
          · clear z0 z1
            go_upto_region 14 with fail
            refine wp_region_mixT [12] (fun wx => LV wx V0 (ptB b) 23 ∧ wx.cell? ⟨g, i * 4 + 2, none⟩ = some (.slice q.A q.p.tch.length q.a)) (.p 0 (.p 1 (.p 2 (.p 3 (.q 4 (.q 6 (.e 5 (.e 7 (.e 8 (.e 9 (.p 10 (.p 11 (.b 12 .z))))))))))))) (by kernel_rfl) (by kernel_rfl) (fun _ hd => ⟨(S7.below (hd.below _)).lv 0 rfl, (((S7.below (hd.below _)).ow 2 rfl).pqAt rfl i q Hq.out).1.2.2.1⟩) (fun KK hKK wd hd => ?_)
            have S := S7.below (hd.below _)
            have hB8 : B4 ≤ wd.heap.size := Nat.le_trans hB7 (hd.below w13.heap.size).size
            clear hd S7 l0 hB7
            repeat ((first | refine mixT_pp rfl (fun K hK => ?_) | refine mixT_p rfl (fun K hK => ?_)); go_simp; (try go_bits); (try simp (disch := omega) only [if_pos]); (try simp (disch := omega) only [if_neg]); (try simp (disch := omega) only [dif_pos]); (try simp (disch := omega) only [dif_neg]); (try go_simp); (refine hK _ ?_; clear hK K))
            refine mixT_loadR (.slice q.A q.p.tch.length q.a) rfl rfl rfl rfl (fun w' h => loadC rfl h.2) ?_
            refine mixT_loadR (.pointer (some ⟨b, 0, none⟩)) rfl rfl rfl rfl (fun w' h => loadC rfl (h.1.cell 0 _ rfl)) ?_
            refine mixT_l rfl rfl (fun K9 hK9 => ?_)
            have hqt : q.p.tch.length ≤ 8 := (Hp8.out.at' Hq.out).1
            have hpd : PdOk _ wd ps := S.ok (.pdat ps) (.tail _ (.tail _ (.tail _ (.head _))))
            have Hcn := Lib.hid (cloneN_any q.A q.p.tch q.a wd ((hpd q (List.mem_of_getElem? Hq.out)).1.mono (fun _ _ h => h.elim)) (by omega))
            have HS := Lib.hid S
            clear S hpd
            go_wp2_with fail
            ((with_reducible refine (Hcn.out).mono ?_); rintro e w14 ⟨A5, c5, rfl, T⟩)
            obtain ⟨wb, _, M, back⟩ := HS.out.viaMem
            obtain ⟨B5, hB5⟩ : ∃ B5, B5 = wd.heap.size := ⟨_, rfl⟩
            rw [← hB5] at T
            have hB5l : B5 ≤ w14.heap.size := by rw [hB5]; exact T.b.size
            have S : St b _ w1 w14 (.loc V0 (ptB b) 23 :: .sl rPsn Aa Pa :: .own rPsQ B4 47 (.slice (some ⟨g, 0, none⟩) ps.length cb) ps :: .pdat ps :: [.own rInt B5 3 (.slice A5 q.p.tch.length c5) q.p.tch]) := back _ _ (M.join T)
            have hC := (⟨S.lv 0 rfl, ((S.ow 2 rfl).pqAt rfl i q Hq.out).1.2.2.1⟩ : LV w14 V0 (ptB b) 23 ∧ w14.cell? ⟨g, i * 4 + 2, none⟩ = some (.slice q.A q.p.tch.length q.a))
            clear back M T Hcn HS hB5 hB8
            go_wp2_with fail
            refine ⟨hC, ?_⟩
            clear hC
            refine mixT_l rfl rfl (fun K9 hK9 => ?_)
            go_wp2_with fail
            ((with_reducible refine (range_any b _ _ _ _ S.g.s (by omega) (by omega) (by omega) (by omega)).mono ?_); rintro e w15 ⟨z9, z_lo, z_hi, rfl, hk9, hs9⟩)
            replace S := S.step hk9 hs9
            have hB6 : B5 ≤ w15.heap.size := Nat.le_trans hB5l hk9.size
            have hC := (⟨S.lv 0 rfl, ((S.ow 2 rfl).pqAt rfl i q Hq.out).1.2.2.1⟩ : LV w15 V0 (ptB b) 23 ∧ w15.cell? ⟨g, i * 4 + 2, none⟩ = some (.slice q.A q.p.tch.length q.a))
            clear hk9 hs9 z_lo z_hi hB5l
            go_wp2_with fail
            refine ⟨hC, ?_⟩
            clear hC
            refine mixT_l rfl rfl (fun K9 hK9 => ?_)
            have Sa := S.alloc (.cells #[.int .i64 z9] 3)
            go_wp2_with fail
            refine ⟨⟨Sa.lv 0 rfl, ((Sa.ow 2 rfl).pqAt rfl i q Hq.out).1.2.2.1⟩, ?_⟩
            clear Sa
            refine mixT_l rfl rfl (fun K9 hK9 => ?_)
            have hqt2 : q.p.tch.length ≤ 100000000 := by omega
            refine S.app 4 rfl tyIntP rfl _ _ rfl z9 1 rfl rfl rfl (oneJ z9) hB6 hqt2 (by decide) ?_
            intro v5 w5 S5
            obtain ⟨A9, c9, e9, S6⟩ := S5.frz 4 rfl
            subst e9
            have hC := (⟨S6.lv 0 rfl, ((S6.ow 2 rfl).pqAt rfl i q Hq.out).1.2.2.1⟩ : LV w5 V0 (ptB b) 23 ∧ w5.cell? ⟨g, i * 4 + 2, none⟩ = some (.slice q.A q.p.tch.length q.a))
            clear S S5
            go_wp2_with fail
            refine ⟨hC, ?_⟩
            repeat ((first | refine mixT_pp rfl (fun K hK => ?_) | refine mixT_p rfl (fun K hK => ?_)); go_simp; (try go_bits); (try simp (disch := omega) only [if_pos]); (try simp (disch := omega) only [if_neg]); (try simp (disch := omega) only [dif_pos]); (try simp (disch := omega) only [dif_neg]); (try go_simp); (refine hK _ ?_; clear hK K))
            have e2 := hC.2
            have f2 := ((S6.ow 2 rfl).pqAt rfl i q Hq.out).2 2 (by omega)
            have S9 : St b _ w1 _ (.loc V0 (ptB b) 23 :: .sl rPsn Aa Pa :: .own rPsQ B4 47 (.slice (some ⟨g, 0, none⟩) ps.length cb) (ps.set i ⟨⟨q.p.key, q.p.tch ++ [z9], q.p.ids⟩, A9, c9, q.B, q.b⟩) :: .pdat (ps.set i ⟨⟨q.p.key, q.p.tch ++ [z9], q.p.ids⟩, A9, c9, q.B, q.b⟩) :: [.sl rInt A9 (q.p.tch ++ [z9])]) := St.psnTch (tl := [.sl rInt A9 (q.p.tch ++ [z9])]) S6 rfl Hq.out A9 c9 (q.p.tch ++ [z9]) (S6.slc 4 rfl)
            rw [List.length_append, List.length_singleton] at S9
            have HT9 : Hid (PsnTn ((ps.set i ⟨⟨q.p.key, q.p.tch ++ [z9], q.p.ids⟩, A9, c9, q.B, q.b⟩).map PsQ.p)) := Hp8.out.set i _ (by show (q.p.tch ++ [z9]).length ≤ 20; rw [List.length_append, List.length_singleton]; omega) (Hp8.out.at' Hq.out).2
            have HS9 : Hid (St b 40000 w1 _ (.loc V0 (ptB b) 23 :: .sl rPsn Aa Pa :: .own rPsQ B4 47 (.slice (some ⟨g, 0, none⟩) ps.length cb) (ps.set i ⟨⟨q.p.key, q.p.tch ++ [z9], q.p.ids⟩, A9, c9, q.B, q.b⟩) :: .pdat (ps.set i ⟨⟨q.p.key, q.p.tch ++ [z9], q.p.ids⟩, A9, c9, q.B, q.b⟩) :: [])) := (S9.del 4).mono (by omega)
            clear S6 S9 hC
            refine mixT_b rfl rfl (fun K9 hK9 => ?_)
            go_wp2_with fail
            refine ⟨trivial, ?_⟩
            refine mixT_nil ?_
            simp only [Exit.then]
            refine hKK _ _ ?_
            clear hKK KK
            go_wp2_with fail
            go_meet
            exact ⟨_, _, rfl, HT9.out, HS9.out⟩
          · clear z0 z1
            obtain ⟨q0, hq0⟩ : ∃ q0, ps[0]? = some q0 := ⟨_, List.getElem?_eq_getElem hp0⟩
            obtain ⟨⟨e0, e1, e2, e3⟩, _⟩ := (S7.ow 2 rfl).pqAt rfl 0 q0 hq0
            rw [Nat.zero_mul] at e0 e1 e2 e3
            rw [Nat.zero_add] at e1 e2 e3
            have Hq0 := Lib.hid hq0
            have HS := Lib.hid S7
            have hlk : ps.length ≤ 100000000 := by omega
            clear S7 hq0
            go_wp2_with (at_builtin; go_loud (refine HS.out.app 2 rfl tyPsn rfl _ _ rfl q0 1 rfl rfl rfl (onePsQ q0) hB7 hlk (by decide) ?_); intro v5 w5 S5)
            have S6 : St b _ w1 w5 (.loc V0 (ptB b) 23 :: .sl rPsn Aa Pa :: .own rPsQ B4 47 v5 (ps ++ [q0]) :: .pdat ps :: []) := S5
            have S9 := S6.psnTwice (List.mem_of_getElem? Hq0.out)
            go_meet
            exact ⟨_, _, rfl, Hp8.out.app Hq0.out, S9.mono (by omega)⟩
      case rest =>
        clear S5 HSp hB4l Hbo
        obtain ⟨vb, pu, rfl, Htu, S5⟩ := hcut
        generalize wc = w15 at *
        obtain ⟨Ac, cc, e, S6⟩ := S5.psnsFrz
        subst e
        obtain ⟨Pb, hPb⟩ : ∃ Pb, pu.map PsQ.p = Pb := ⟨_, rfl⟩
        rw [hPb] at S6 Htu ⊢
        clear S5 hPb
        have l0 := (S6.lv 0 rfl).all
        go_wp2_with fail
        ((with_reducible refine (flip_any b _ 2 _ S6.g.s (by omega) (by omega) (by omega)).mono ?_); rintro e w16 ⟨bo2, rfl, hk, hs⟩)
        have S7 := S6.step hk hs
        clear S6 l0 hk hs
        go_upto_if 82 with fail
        go_cut [7, 8] (fun s7 s8 wx => ∃ (A1 : Option Addr) (c1 : Nat) (P1 : List Psn) (A2 : Option Addr) (c2 : Nat) (P2 : List Psn), s7 = .slice A1 P1.length c1 ∧ s8 = .slice A2 P2.length c2 ∧ Hid (PsnTn P1) ∧ Hid (PsnTn P2) ∧ St b 40001 w1 wx [.sl rPsn A1 P1, .sl rPsn A2 P2])
        case first =>
          cases bo2
          · go_wp2_with fail
            go_meet
            exact ⟨Aa, ca, Pa, Ac, cc, Pb, rfl, rfl, Hpa8.out, Htu.out, (S7.del 0).mono (by omega)⟩
          · go_wp2_with fail
            go_meet
            exact ⟨Ac, cc, Pb, Aa, ca, Pa, rfl, rfl, Htu.out, Hpa8.out, ((S7.del 0).swap).mono (by omega)⟩
        case rest =>
          clear S7 Hpa8 Htu
          obtain ⟨A1, c1, P1, A2, c2, P2, rfl, rfl, H1, H2, S8⟩ := hcut
          generalize wc = w17 at *
          have hb17 := HTS.out _ _ S8.g
          have h1 := (S8.slc 0 rfl).mono (M := fun _ => False) (fun _ _ h => h.elim)
          have h2 := (S8.slc 1 rfl).mono (M := fun _ => False) (fun _ _ h => h.elim)
          have HTM2 : Hid (∀ w', Below w17.heap.size w17 w' → Tabs w' ∧ MaxL w') := fun w' h => HTM.out w' (hb17.2.trans (h.mono hb17.1))
          have Hc1 := Lib.hid (differT_any (fun _ => False) P1 P2 A1 A2 c1 c2 w17 h1 h2 H1.out.sm H2.out.sm (HTM2.out w17 (Below.refl _ _)).2)
          have Hc2 := Lib.hid (fun w' (h : Below w17.heap.size w17 w') => refDiffer_any P1 P2 A1 A2 c1 c2 w' (h1.keepB h) (h2.keepB h) H1.out.sm H2.out.sm (Nat.le_trans H1.out.1 (by decide)) (Nat.le_trans H2.out.1 (by decide)) (HTM2.out w' h).2)
          have Hc5 := Lib.hid (fun w' (h : Below w17.heap.size w17 w') => people_any w' (HTM2.out w' h).1)
          have Hb17 := Lib.hid hb17
          clear S8 h1 h2 HTM HTM2 HTS hb17
          go_wp2_with fail
          ((with_reducible refine (Hc1.out).mono ?_); rintro e w18 ⟨A3, c3, l, rfl, hz1, hn1, M1⟩)
          have Hl3 := Lib.hid ((M1.slc 0 rfl).mono (M := fun _ => False) (fun _ _ h => h.elim))
          have Hll := Lib.hid (shf_len H1.out H2.out hz1 hn1)
          have Hz1 := Lib.hid hz1
          have Hn1 := Lib.hid hn1
          have hb18 := M1.b
          clear M1 hz1 hn1 Hc1
          go_wp2_with fail
          ((with_reducible refine (Hc2.out _ hb18).mono ?_); rintro e w19 ⟨A4, c4, l2, rfl, hz2, hn2, M2⟩)
          obtain rfl : l2 = l := shf_same Hz1.out Hn1.out hz2 hn2
          have Hl3b := Lib.hid (Hl3.out.keepB M2.b)
          have Hl4 := Lib.hid ((M2.slc 0 rfl).mono (M := fun _ => False) (fun _ _ h => h.elim))
          have hb19 := hb18.trans (M2.b.mono hb18.size)
          clear M2 hz2 hn2 Hc2 Hz1 Hn1 Hl3 hb18
          have Heq := Lib.hid (eqShf_any (fun _ => False) A3 A4 l2 c3 c4 w19 Hl3b.out Hl4.out (Nat.le_trans Hll.out (by decide)))
          generalize difF P1 P2 = F at *
          go_wp2_with fail
          ((with_reducible refine (Heq.out).mono ?_); rintro e w20 ⟨rfl, hl20⟩)
          have hb20 := hb19.trans (hl20.mono hb19.size)
          clear hl20 Heq hb19
          go_wp2_with fail
          ((with_reducible refine (Hc5.out _ hb20).mono ?_); rintro e w21 ⟨rfl, hl21⟩)
          have hb21 := hb20.trans (hl21.mono hb20.size)
          go_wp2_with fail
          go_ret
          refine ⟨rfl, ?_⟩
          have hfin := Hb17.out.2.trans (hb21.mono Hb17.out.1)
          rw [show b = w.heap.size from Hbw.out] at hfin
          exact hfin
end Go.Proofs.YtjlangjhdakmiaaGreatDoor
