/- The law QuietTimes walked: it returns true, and nothing that was there has turned. -/
import Derived.Test.YtneopbbafdmpkaaDoorLawRooms
import Derived.Test.YtneopbbafdmpkaaDoorQuiet
import Derived.Test.YtneopbbafdmpkaaDoorGenZone2
import Derived.Test.YtneopbbafdmpkaaDoorWrong
namespace Go.Proofs.YtneopbbafdmpkaaDoor
open Go.RowKit
theorem LV.rules7 {w : World} {X : Nat} {a0 a1 a2 a3 a4 a5 a6 : Value} (h : LV w X #[a0, a1, a2, a3, a4, a5, a6] 30) : (Instr.loadAt 30 (.pointer (some ⟨X, 0, none⟩))).run Tryd.prog w = .ok (.agg #[a0, a1, a2, a3, a4, a5, a6]) w := by
  have c0 := h.cell 0 _ rfl
  have c1 := h.cell 1 _ rfl
  have c2 := h.cell 2 _ rfl
  have c3 := h.cell 3 _ rfl
  have c4 := h.cell 4 _ rfl
  have c5 := h.cell 5 _ rfl
  have c6 := h.cell 6 _ rfl
  go_simp
theorem LV.zone2 {w : World} {X : Nat} {a0 a1 : Value} (h : LV w X #[a0, a1] 51) : (Instr.loadAt 51 (.pointer (some ⟨X, 0, none⟩))).run Tryd.prog w = .ok (.agg #[a0, a1]) w := by
  have c0 := h.cell 0 _ rfl
  have c1 := h.cell 1 _ rfl
  go_simp
theorem quietFault_is (r : SRules) (nm : ByteArray) (xs : List Sft) (ch m : Int) : quietFault r nm xs ch m = if firstErr [rulesFault r, zoneFault nm xs] ≠ 0 then firstErr [rulesFault r, zoneFault nm xs] else if isCh ch = false then 4 else if ¬ (0 ≤ m ∧ m ≤ 4321439) then 1 else 0 := by
  rw [quietFault, firstErr, firstErr, firstErr]
  by_cases h1 : rulesFault r = 0
  · by_cases h2 : zoneFault nm xs = 0
    · simp [h1, h2]
    · simp [h1, h2]
  · simp [h1]
/-- the rules and the zone as pieces of memory -/
abbrev QC (r : SRules) (nm : ByteArray) (xs : List Sft) (Aq Ar Ac Ap Ad A : Option Addr) (cq cr cc cpp cd c Z : Nat) : List Chunk := RC r Aq Ar Ac Ap Ad ++ [.sl rSft A xs, .loc Z (rulesV r Aq Ar Ac Ap Ad cq cr cc cpp cd) 30, .loc (Z + 1) #[.string nm, .slice A xs.length c] 51]
theorem RulesOk.hours {r : SRules} (h : RulesOk r) (f t : Int) : RulesOk { r with qfrom := f, qto := t } := ⟨h.ql, h.rl, h.cl, h.pl, h.dl, h.rs, h.cs, h.ps⟩
set_option maxHeartbeats 8000000 in
set_option maxRecDepth 100000 in
theorem quietTimes_any (v : Value) (w : World) (hv : IntsIn v w) :
    Calls Tryd.prog 4 #[v] w fun e w' => e = .returned (.bool true) ∧ Below w.heap.size w w' := by
  obtain ⟨va, vn, vc, rfl⟩ : ∃ a n c, v = .slice a n c := by
    rcases hv with ⟨a, c, rfl⟩ | ⟨k, off, len, cap, rfl, _⟩
    · exact ⟨_, _, _, rfl⟩
    · exact ⟨_, _, _, rfl⟩
  have g0 := G.start (Strm.start hv)
  clear hv
  have S := St.start g0.s
  clear g0
  go_enter Tryd.func4, Tryd.ntmps4
  go_wp2_with fail
  ((with_reducible refine (sendRules_any w.heap.size 0 _ S.g.s (by omega)).mono ?_); rintro e w1 ⟨r0, Aq, Ar, Ac, Ap, Ad, cq, cr, cc, cpp, cd, rfl, hI, hO, hcap, hp4, g1⟩)
  replace S := S.rules g1 hI
  have HO0 := Lib.hid hO
  have HCap0 := Lib.hid hcap
  clear g1 hI hO hcap hp4
  go_wp2_with fail
  ((with_reducible refine (zone_any w.heap.size _ _ S.g.s (by omega)).mono ?_); rintro e w2 ⟨nm, vz, xs, rfl, hnm, ho, hxl, hsm, g2⟩)
  obtain ⟨A, c, rfl, hS⟩ := (ho.flatM flatSft (M' := Lt w1.heap.size)).toSl (fun k h1 h2 => by unfold Lt at h2; omega)
  replace S := S.call g2 (.sl rSft A xs) hS (fun k e => by cases e)
  have Hsm := Lib.hid hsm
  clear g2 hS ho hsm
  go_upto_region 3 with fail
  replace S := S.new' #[.slice Aq r0.quiet.length cq, .int .i64 r0.qfrom, .int .i64 r0.qto, .slice Ar r0.ranks.length cr, .slice Ac r0.caps.length cc, .slice Ap r0.pools.length cpp, .slice Ad r0.delays.length cd] 30
  obtain ⟨Z, hZ⟩ : ∃ Z, Z = w2.heap.size := ⟨_, rfl⟩
  replace S := S.newAt #[.string nm, .slice A xs.length c] 51 (Z + 1) (by rw [hZ]; simp)
  rw [← hZ] at S ⊢
  generalize (w2.alloc _).alloc (.cells #[.string nm, .slice A xs.length c] 51) = w3 at *
  clear hZ
  replace S : St w.heap.size _ (w.alloc (.cells #[.slice va vn vc, .int .i64 0] 25)) w3 (QC r0 nm xs Aq Ar Ac Ap Ad A cq cr cc cpp cd c Z) := S
  go_wp2_with fail
  ((with_reducible refine (flip_any w.heap.size _ _ _ S.g.s (by omega) (by omega) (by omega)).mono ?_); rintro e w4 ⟨r2, rfl, hk_w4, hs_w4⟩)
  replace S := S.step hk_w4 hs_w4
  clear hk_w4 hs_w4
  go_upto_if 22 with fail
  have HS := Lib.hid S
  clear S
  go_cut [4] (fun s4 wx => s4 = .pointer (some ⟨Z, 0, none⟩) ∧ ∃ r : SRules, Hid (RulesOk r) ∧ Hid (r.ranks.length ≤ cr ∧ r.pools.length ≤ cpp) ∧ St w.heap.size 440 (w.alloc (.cells #[.slice va vn vc, .int .i64 0] 25)) wx (QC r nm xs Aq Ar Ac Ap Ad A cq cr cc cpp cd c Z))
  case first =>
    have S := HS.out
    clear HS
    cases r2
    · go_wp2_with fail
      go_meet
      exact ⟨rfl, r0, HO0, HCap0, S.mono (by omega)⟩
    · go_wp2_with fail
      ((with_reducible refine (next_any w.heap.size _ _ _ S.g.s (by omega) (by omega) (by omega)).mono ?_); rintro e w5 ⟨f, f_lo, f_hi, rfl, hk_w5, hs_w5⟩)
      replace S := S.step hk_w5 hs_w5
      clear hk_w5 hs_w5
      go_wp2_with fail
      ((with_reducible refine (next_any w.heap.size _ _ _ S.g.s (by omega) (by omega) (by omega)).mono ?_); rintro e w6 ⟨t, t_lo, t_hi, rfl, hk_w6, hs_w6⟩)
      replace S := S.step hk_w6 hs_w6
      clear hk_w6 hs_w6
      have lvZ := S.lv 6 rfl
      have x1 : w6.cell? ⟨Z, 1, none⟩ = some (.int .i64 r0.qfrom) := lvZ.cell 1 _ rfl
      have x2 : w6.cell? ⟨Z, 2, none⟩ = some (.int .i64 r0.qto) := lvZ.cell 2 _ rfl
      have f1 := lvZ.free 1
      have f2 := lvZ.free 2
      clear lvZ
      go_wp2_with fail
      go_meet
      have S2 : St w.heap.size _ (w.alloc (.cells #[.slice va vn vc, .int .i64 0] 25)) ((w6.setCell ⟨Z, 1, none⟩ (.int .i64 f)).setCell ⟨Z, 2, none⟩ (.int .i64 t)) (QC { r0 with qfrom := f, qto := t } nm xs Aq Ar Ac Ap Ad A cq cr cc cpp cd c Z) := (S.set 6 1 (.int .i64 f) rfl).set 6 2 (.int .i64 t) rfl
      exact ⟨rfl, _, Lib.hid (HO0.out.hours f t), Lib.hid HCap0.out, S2.mono (by omega)⟩
  case rest =>
    clear HS HO0 HCap0
    obtain ⟨rfl, r, HO, HCap, S⟩ := hcut
    clear r0
    go_wp2_with fail
    ((with_reducible refine (pick_le w.heap.size _ _ _ 0 5 S.g.s (by first | rfl | simp) (by first | rfl | simp) (intsIn_of (by decide)) (by simp) (by simp) (by omega)).mono ?_); rintro e w5 ⟨ch, ch_lo, ch_hi, rfl, hk_w5, hs_w5⟩)
    replace S := S.step hk_w5 hs_w5
    clear hk_w5 hs_w5
    go_wp2_with fail
    ((with_reducible refine (next_any w.heap.size _ _ _ S.g.s (by omega) (by omega) (by omega)).mono ?_); rintro e w6 ⟨rn, rn_lo, rn_hi, rfl, hk_w6, hs_w6⟩)
    replace S := S.step hk_w6 hs_w6
    clear hk_w6 hs_w6
    go_wp2_with fail
    ((with_reducible refine (pick_le w.heap.size _ _ _ (-1) 4321440 S.g.s (by first | rfl | simp) (by first | rfl | simp) (by repeat (first | exact intsIn_nil | refine intsIn_cons (by omega) ?_)) (by simp) (by simp) (by omega)).mono ?_); rintro e w7 ⟨m, m_lo, m_hi, rfl, hk_w7, hs_w7⟩)
    replace S := S.step hk_w7 hs_w7
    clear hk_w7 hs_w7
    obtain ⟨F, HF⟩ : ∃ F, Hid (firstErr [rulesFault r, zoneFault nm xs] = F) := ⟨_, Lib.hid rfl⟩
    obtain ⟨G, HG⟩ : ∃ G, Hid (quietFault r nm xs ch m = G) := ⟨_, Lib.hid rfl⟩
    have HGF : Hid (G = if F ≠ 0 then F else if isCh ch = false then 4 else if ¬ (0 ≤ m ∧ m ≤ 4321439) then 1 else 0) := by
      show _ = _
      rw [← HG.out, quietFault_is, HF.out]
    obtain ⟨I, HI⟩ : ∃ I, Hid ((if G ≠ 0 then false else quietB r xs ch m) = I) := ⟨_, Lib.hid rfl⟩
    have Hr := Lib.hid (isQuiet_any _ r Aq Ar Ac Ap Ad cq cr cc cpp cd A nm xs c ch m w7 (rules_of S ⟨_, rfl⟩) HO.out HCap.out (S.slc 5 rfl) (by omega) (by omega) Hsm.out)
    rw [HG.out, HI.out] at Hr
    have lvZ := S.lv 6 rfl
    have lvY := S.lv 7 rfl
    have c0 : w7.cell? ⟨Z, 0, none⟩ = some (.slice Aq r.quiet.length cq) := lvZ.cell 0 _ rfl
    have c1 : w7.cell? ⟨Z, 1, none⟩ = some (.int .i64 r.qfrom) := lvZ.cell 1 _ rfl
    have c2 : w7.cell? ⟨Z, 2, none⟩ = some (.int .i64 r.qto) := lvZ.cell 2 _ rfl
    have c3 : w7.cell? ⟨Z, 3, none⟩ = some (.slice Ar r.ranks.length cr) := lvZ.cell 3 _ rfl
    have c4 : w7.cell? ⟨Z, 4, none⟩ = some (.slice Ac r.caps.length cc) := lvZ.cell 4 _ rfl
    have c5 : w7.cell? ⟨Z, 5, none⟩ = some (.slice Ap r.pools.length cpp) := lvZ.cell 5 _ rfl
    have c6 : w7.cell? ⟨Z, 6, none⟩ = some (.slice Ad r.delays.length cd) := lvZ.cell 6 _ rfl
    have d0 : w7.cell? ⟨Z + 1, 0, none⟩ = some (.string nm) := lvY.cell 0 _ rfl
    have d1 : w7.cell? ⟨Z + 1, 1, none⟩ = some (.slice A xs.length c) := lvY.cell 1 _ rfl
    clear lvZ lvY
    go_wp2_with fail
    ((with_reducible refine (Hr.out).mono ?_); rintro e8 w8 ⟨rfl, hl8⟩)
    replace S := S.below hl8
    clear c0 c1 c2 c3 c4 c5 c6 d0 d1 hl8 Hr
    have Hr := Lib.hid (awake_any _ r Aq Ar Ac Ap Ad cq cr cc cpp cd A nm xs c ch m w8 (rules_of S ⟨_, rfl⟩) HO.out HCap.out (S.slc 5 rfl) (by omega) (by omega) Hsm.out)
    rw [HG.out] at Hr
    have lvZ := S.lv 6 rfl
    have lvY := S.lv 7 rfl
    have c0 : w8.cell? ⟨Z, 0, none⟩ = some (.slice Aq r.quiet.length cq) := lvZ.cell 0 _ rfl
    have c1 : w8.cell? ⟨Z, 1, none⟩ = some (.int .i64 r.qfrom) := lvZ.cell 1 _ rfl
    have c2 : w8.cell? ⟨Z, 2, none⟩ = some (.int .i64 r.qto) := lvZ.cell 2 _ rfl
    have c3 : w8.cell? ⟨Z, 3, none⟩ = some (.slice Ar r.ranks.length cr) := lvZ.cell 3 _ rfl
    have c4 : w8.cell? ⟨Z, 4, none⟩ = some (.slice Ac r.caps.length cc) := lvZ.cell 4 _ rfl
    have c5 : w8.cell? ⟨Z, 5, none⟩ = some (.slice Ap r.pools.length cpp) := lvZ.cell 5 _ rfl
    have c6 : w8.cell? ⟨Z, 6, none⟩ = some (.slice Ad r.delays.length cd) := lvZ.cell 6 _ rfl
    have d0 : w8.cell? ⟨Z + 1, 0, none⟩ = some (.string nm) := lvY.cell 0 _ rfl
    have d1 : w8.cell? ⟨Z + 1, 1, none⟩ = some (.slice A xs.length c) := lvY.cell 1 _ rfl
    clear lvZ lvY
    go_wp2_with fail
    ((with_reducible refine (Hr.out).mono ?_); rintro e9 w9 ⟨n, rfl, hn1, hn2, hl9⟩)
    replace S := S.below hl9
    have Hn1 := Lib.hid hn1
    have Hn2 := Lib.hid hn2
    clear c0 c1 c2 c3 c4 c5 c6 d0 d1 hl9 Hr hn1 hn2
    go_wp2_with fail
    refine wp_region_mix (fun w' => LV w' Z (rulesV r Aq Ar Ac Ap Ad cq cr cc cpp cd) 30 ∧ LV w' (Z + 1) #[.string nm, .slice A xs.length c] 51) [(true, 0), (true, 2), (false, 1), (false, 3), (false, 4), (false, 5), (true, 6)] (by kernel_rfl) (by kernel_rfl) (fun w' hd => ⟨(S.below (hd.below _)).lv 6 rfl, (S.below (hd.below _)).lv 7 rfl⟩) (fun KK hKK wd hd => ?_)
    replace S := S.below (hd.below _)
    clear hd
    repeat (refine mix_p rfl (fun K hK => ?_); go_simp; (try go_bits); (try simp (disch := omega) only [if_pos]); (try simp (disch := omega) only [if_neg]); (try simp (disch := omega) only [dif_pos]); (try simp (disch := omega) only [dif_neg]); (try go_simp); (refine hK _ ?_; clear hK K))
    refine mix_loadR (.agg (rulesV r Aq Ar Ac Ap Ad cq cr cc cpp cd)) rfl rfl rfl rfl (fun w' h => h.1.rules7) ?_
    repeat (refine mix_p rfl (fun K hK => ?_); go_simp; (try go_bits); (try simp (disch := omega) only [if_pos]); (try simp (disch := omega) only [if_neg]); (try simp (disch := omega) only [dif_pos]); (try simp (disch := omega) only [dif_neg]); (try go_simp); (refine hK _ ?_; clear hK K))
    refine mix_loadR (.agg #[.string nm, .slice A xs.length c]) rfl rfl rfl rfl (fun w' h => h.2.zone2) ?_
    repeat (refine mix_p rfl (fun K hK => ?_); go_simp; (try go_bits); (try simp (disch := omega) only [if_pos]); (try simp (disch := omega) only [if_neg]); (try simp (disch := omega) only [dif_pos]); (try simp (disch := omega) only [dif_neg]); (try go_simp); (refine hK _ ?_; clear hK K))
    have Hr := Lib.hid (refRules_any _ r Aq Ar Ac Ap Ad cq cr cc cpp cd wd (rules_of S ⟨_, rfl⟩) HO.out HCap.out)
    refine mix_l rfl (fun K hK => ?_) ⟨S.lv 6 rfl, S.lv 7 rfl⟩
    go_wp2_with fail
    ((with_reducible refine (Hr.out).mono ?_); rintro e10 w10 ⟨rfl, hl10⟩)
    replace S := S.below hl10
    clear hl10 Hr
    have hC : LV w10 Z (rulesV r Aq Ar Ac Ap Ad cq cr cc cpp cd) 30 ∧ LV w10 (Z + 1) #[.string nm, .slice A xs.length c] 51 := ⟨S.lv 6 rfl, S.lv 7 rfl⟩
    go_wp2_with fail
    refine ⟨hC, ?_⟩
    clear hC
    repeat (refine mix_p rfl (fun K hK => ?_); go_simp; (try go_bits); (try simp (disch := omega) only [if_pos]); (try simp (disch := omega) only [if_neg]); (try simp (disch := omega) only [dif_pos]); (try simp (disch := omega) only [dif_neg]); (try go_simp); (refine hK _ ?_; clear hK K))
    have Hr := Lib.hid (refZone_any _ A nm xs c w10 (S.slc 5 rfl) (by omega) (by omega) Hsm.out)
    refine mix_l rfl (fun K hK => ?_) ⟨S.lv 6 rfl, S.lv 7 rfl⟩
    go_wp2_with fail
    ((with_reducible refine (Hr.out).mono ?_); rintro e11 w11 ⟨rfl, hl11⟩)
    replace S := S.below hl11
    clear hl11 Hr
    have hC : LV w11 Z (rulesV r Aq Ar Ac Ap Ad cq cr cc cpp cd) 30 ∧ LV w11 (Z + 1) #[.string nm, .slice A xs.length c] 51 := ⟨S.lv 6 rfl, S.lv 7 rfl⟩
    go_wp2_with fail
    refine ⟨hC, ?_⟩
    clear hC
    repeat (refine mix_p rfl (fun K hK => ?_); go_simp; (try go_bits); (try simp (disch := omega) only [if_pos]); (try simp (disch := omega) only [if_neg]); (try simp (disch := omega) only [dif_pos]); (try simp (disch := omega) only [dif_neg]); (try go_simp); (refine hK _ ?_; clear hK K))
    refine mix_l rfl (fun K hK => ?_) ⟨S.lv 6 rfl, S.lv 7 rfl⟩
    go_wp2_with fail
    obtain ⟨E, hE⟩ : ∃ E, E = w11.heap.size := ⟨_, rfl⟩
    replace S := S.newAt #[.int .i64 (rulesFault r), .int .i64 (zoneFault nm xs)] 38 E hE
    rw [← hE]
    clear hE
    generalize w11.alloc (.cells #[.int .i64 (rulesFault r), .int .i64 (zoneFault nm xs)] 38) = w12 at *
    have hC : LV w12 Z (rulesV r Aq Ar Ac Ap Ad cq cr cc cpp cd) 30 ∧ LV w12 (Z + 1) #[.string nm, .slice A xs.length c] 51 := ⟨S.lv 6 rfl, S.lv 7 rfl⟩
    refine ⟨hC, ?_⟩
    clear hC
    repeat (refine mix_p rfl (fun K hK => ?_); go_simp; (try go_bits); (try simp (disch := omega) only [if_pos]); (try simp (disch := omega) only [if_neg]); (try simp (disch := omega) only [dif_pos]); (try simp (disch := omega) only [dif_neg]); (try go_simp); (refine hK _ ?_; clear hK K))
    have Hr : Hid (Calls Tryd.prog 20 #[.slice (some ⟨E, 0, none⟩) 2 2] w12 fun e w' => e = .returned (.int .i64 F) ∧ w12 = w') := by
      show Calls _ _ _ _ _
      rw [← HF.out]
      exact wrongOr_any E [rulesFault r, zoneFault nm xs] w12 (S.lv 8 rfl) (by simp)
    refine mix_l rfl (fun K hK => ?_) ⟨S.lv 6 rfl, S.lv 7 rfl⟩
    have hC : LV w12 Z (rulesV r Aq Ar Ac Ap Ad cq cr cc cpp cd) 30 ∧ LV w12 (Z + 1) #[.string nm, .slice A xs.length c] 51 := ⟨S.lv 6 rfl, S.lv 7 rfl⟩
    go_wp2_with fail
    ((with_reducible refine (Hr.out).mono ?_); rintro e13 _ ⟨rfl, rfl⟩)
    go_wp2_with fail
    refine ⟨hC, ?_⟩
    clear hC Hr
    repeat (refine mix_p rfl (fun K hK => ?_); go_simp; (try go_bits); (try simp (disch := omega) only [if_pos]); (try simp (disch := omega) only [if_neg]); (try simp (disch := omega) only [dif_pos]); (try simp (disch := omega) only [dif_neg]); (try go_simp); (refine hK _ ?_; clear hK K))
    refine mix_nil ?_
    simp only [Exit.then]
    refine hKK _ _ ?_
    have HB : Hid (Below w.heap.size w w12) := ((Below.refl _ _).alloc (Nat.le_refl _) _).trans (S.g.k.below (Nat.le_refl _) (by simp))
    have HS := Lib.hid S
    have Hs := Lib.hid (sends_any w12)
    clear S
    by_cases hF : F = 0
    · by_cases hch : isCh ch = true
      · have hch2 : 1 ≤ ch ∧ ch ≤ 4 := by simpa [isCh] using hch
        have t1 : ¬ ch < 1 := by omega
        have t2 : ¬ 4 < ch := by omega
        by_cases hm : 0 ≤ m ∧ m ≤ 4321439
        · obtain rfl : G = 0 := by rw [HGF.out, if_neg (not_not_intro hF), if_neg (by simp [hch]), if_neg (not_not_intro hm)]
          have HI2 : Hid (quietB r xs ch m = I) := by show _ = _; rw [← HI.out]; simp
          have Han := Lib.hid (Hn2.out rfl)
          have Hg := Lib.hid (quiet_good HG.out)
          clear HI HGF HF hch hch2 Hn1 Hn2 HG Hs
          subst hF
          have t3 : ¬ m < 0 := by omega
          have t4 : ¬ 4321440 ≤ m := by omega
          go_wp2_with fail
          go_loopw [13] (fun i wr => ∃ k : Int, i = .int .i64 k ∧ m ≤ k ∧ k ≤ 4321440 ∧ (∀ j, m ≤ j → j < k → quietB r xs ch j = true) ∧ Below w12.heap.size w12 wr) (fun i _ => (4321440 - intOf i).toNat)
          case atStart => exact ⟨m, rfl, by omega, by omega, (fun j h1 h2 => by omega), Below.refl _ _⟩
          case round =>
            obtain ⟨k, rfl, h1, h2, h3, hbl⟩ := hrel
            have H3 := Lib.hid h3
            have Hbl := Lib.hid hbl
            have S := HS.out.below hbl
            have HBr : Hid (Below w.heap.size w wr) := HB.out.trans (hbl.mono HB.out.size)
            clear h3 hbl
            by_cases hk : k < 4321440
            · have Hq := Lib.hid (quietAt_any _ r Aq Ar Ac Ap Ad cq cr cc cpp cd A nm xs c ch k wr (S.slc 0 rfl) HO.out.ql (rules_hours Hg.out.1) (S.slc 5 rfl) Hg.out.2.1 ⟨by omega, hk⟩)
              obtain ⟨b, Hb⟩ : ∃ b, Hid (quietB r xs ch k = b) := ⟨_, Lib.hid rfl⟩
              rw [Hb.out] at Hq
              have lvZ := S.lv 6 rfl
              have lvY := S.lv 7 rfl
              have c0 : wr.cell? ⟨Z, 0, none⟩ = some (.slice Aq r.quiet.length cq) := lvZ.cell 0 _ rfl
              have c1 : wr.cell? ⟨Z, 1, none⟩ = some (.int .i64 r.qfrom) := lvZ.cell 1 _ rfl
              have c2 : wr.cell? ⟨Z, 2, none⟩ = some (.int .i64 r.qto) := lvZ.cell 2 _ rfl
              have c3 : wr.cell? ⟨Z, 3, none⟩ = some (.slice Ar r.ranks.length cr) := lvZ.cell 3 _ rfl
              have c4 : wr.cell? ⟨Z, 4, none⟩ = some (.slice Ac r.caps.length cc) := lvZ.cell 4 _ rfl
              have c5 : wr.cell? ⟨Z, 5, none⟩ = some (.slice Ap r.pools.length cpp) := lvZ.cell 5 _ rfl
              have c6 : wr.cell? ⟨Z, 6, none⟩ = some (.slice Ad r.delays.length cd) := lvZ.cell 6 _ rfl
              have d0 : wr.cell? ⟨Z + 1, 0, none⟩ = some (.string nm) := lvY.cell 0 _ rfl
              have d1 : wr.cell? ⟨Z + 1, 1, none⟩ = some (.slice A xs.length c) := lvY.cell 1 _ rfl
              clear lvZ lvY
              go_wp2_with fail
              ((with_reducible refine (Hq.out).mono ?_); rintro e13 w13 ⟨rfl, hl13⟩)
              replace S := S.below hl13
              clear c0 c1 c2 c3 c4 c5 c6 d0 d1 Hq
              cases b
              · obtain rfl : n = k := Han.out.one ⟨h1, h2, H3.out, fun _ => Hb.out⟩
                have HBx : Hid (Below w.heap.size w w13) := HBr.out.trans (hl13.mono HBr.out.size)
                clear hl13 Hb H3 Han
                have Hq := Lib.hid (quietAt_any _ r Aq Ar Ac Ap Ad cq cr cc cpp cd A nm xs c ch m w13 (S.slc 0 rfl) HO.out.ql (rules_hours Hg.out.1) (S.slc 5 rfl) Hg.out.2.1 ⟨by omega, by omega⟩)
                rw [HI2.out] at Hq
                have lvZ := S.lv 6 rfl
                have lvY := S.lv 7 rfl
                have c0 : w13.cell? ⟨Z, 0, none⟩ = some (.slice Aq r.quiet.length cq) := lvZ.cell 0 _ rfl
                have c1 : w13.cell? ⟨Z, 1, none⟩ = some (.int .i64 r.qfrom) := lvZ.cell 1 _ rfl
                have c2 : w13.cell? ⟨Z, 2, none⟩ = some (.int .i64 r.qto) := lvZ.cell 2 _ rfl
                have c3 : w13.cell? ⟨Z, 3, none⟩ = some (.slice Ar r.ranks.length cr) := lvZ.cell 3 _ rfl
                have c4 : w13.cell? ⟨Z, 4, none⟩ = some (.slice Ac r.caps.length cc) := lvZ.cell 4 _ rfl
                have c5 : w13.cell? ⟨Z, 5, none⟩ = some (.slice Ap r.pools.length cpp) := lvZ.cell 5 _ rfl
                have c6 : w13.cell? ⟨Z, 6, none⟩ = some (.slice Ad r.delays.length cd) := lvZ.cell 6 _ rfl
                have d0 : w13.cell? ⟨Z + 1, 0, none⟩ = some (.string nm) := lvY.cell 0 _ rfl
                have d1 : w13.cell? ⟨Z + 1, 1, none⟩ = some (.slice A xs.length c) := lvY.cell 1 _ rfl
                clear lvZ lvY
                clear S HS HI2 HO HCap Hsm Hg
                go_wp2_with fail
                ((with_reducible refine (Hq.out).mono ?_); rintro e14 w14 ⟨rfl, hl14⟩)
                have HB : Hid (Below w.heap.size w w14) := HBx.out.trans (hl14.mono HBx.out.size)
                have Hs := Lib.hid (sends_any w14)
                clear c0 c1 c2 c3 c4 c5 c6 d0 d1 Hq hl14
                go_wp2_with fail
                ((with_reducible refine (Hs.out).mono ?_); rintro e8 w8 ⟨rfl, hl8⟩)
                go_wp2_with fail
                go_ret
                exact ⟨rfl, HB.out.trans (hl8.mono HB.out.size)⟩
              · clear S
                go_wp2_with fail
                go_roundw
                case rel => exact ⟨k + 1, by go_num, by omega, by omega, (fun j a b => by
                  by_cases hj : j = k
                  · rw [hj]; exact Hb.out
                  · exact H3.out j a (by omega)), Hbl.out.trans (hl13.mono Hbl.out.size)⟩
                case measure => simp [intOf]; omega
            · obtain rfl : n = k := Han.out.one ⟨h1, h2, H3.out, fun h => absurd h hk⟩
              have HBx := HBr
              clear Han H3
              have Hq := Lib.hid (quietAt_any _ r Aq Ar Ac Ap Ad cq cr cc cpp cd A nm xs c ch m wr (S.slc 0 rfl) HO.out.ql (rules_hours Hg.out.1) (S.slc 5 rfl) Hg.out.2.1 ⟨by omega, by omega⟩)
              rw [HI2.out] at Hq
              have lvZ := S.lv 6 rfl
              have lvY := S.lv 7 rfl
              have c0 : wr.cell? ⟨Z, 0, none⟩ = some (.slice Aq r.quiet.length cq) := lvZ.cell 0 _ rfl
              have c1 : wr.cell? ⟨Z, 1, none⟩ = some (.int .i64 r.qfrom) := lvZ.cell 1 _ rfl
              have c2 : wr.cell? ⟨Z, 2, none⟩ = some (.int .i64 r.qto) := lvZ.cell 2 _ rfl
              have c3 : wr.cell? ⟨Z, 3, none⟩ = some (.slice Ar r.ranks.length cr) := lvZ.cell 3 _ rfl
              have c4 : wr.cell? ⟨Z, 4, none⟩ = some (.slice Ac r.caps.length cc) := lvZ.cell 4 _ rfl
              have c5 : wr.cell? ⟨Z, 5, none⟩ = some (.slice Ap r.pools.length cpp) := lvZ.cell 5 _ rfl
              have c6 : wr.cell? ⟨Z, 6, none⟩ = some (.slice Ad r.delays.length cd) := lvZ.cell 6 _ rfl
              have d0 : wr.cell? ⟨Z + 1, 0, none⟩ = some (.string nm) := lvY.cell 0 _ rfl
              have d1 : wr.cell? ⟨Z + 1, 1, none⟩ = some (.slice A xs.length c) := lvY.cell 1 _ rfl
              clear lvZ lvY
              clear S HS HI2 HO HCap Hsm Hg
              go_wp2_with fail
              ((with_reducible refine (Hq.out).mono ?_); rintro e14 w14 ⟨rfl, hl14⟩)
              have HB : Hid (Below w.heap.size w w14) := HBx.out.trans (hl14.mono HBx.out.size)
              have Hs := Lib.hid (sends_any w14)
              clear c0 c1 c2 c3 c4 c5 c6 d0 d1 Hq hl14
              go_wp2_with fail
              ((with_reducible refine (Hs.out).mono ?_); rintro e8 w8 ⟨rfl, hl8⟩)
              go_wp2_with fail
              go_ret
              exact ⟨rfl, HB.out.trans (hl8.mono HB.out.size)⟩
        · obtain rfl : G = 1 := by rw [HGF.out, if_neg (not_not_intro hF), if_neg (by simp [hch]), if_pos hm]
          subst hF
          rcases Int.lt_or_le m 0 with t3 | t3
          · obtain rfl : false = I := by rw [← HI.out, if_pos (by decide)]
            obtain rfl : n = 0 := Hn1.out (by decide)
            clear HI HGF HF HG Hn1 Hn2 HS HO HCap Hsm
            go_wp2_with fail
            ((with_reducible refine (Hs.out).mono ?_); rintro e8 w8 ⟨rfl, hl8⟩)
            go_wp2_with fail
            go_ret
            exact ⟨rfl, HB.out.trans (hl8.mono HB.out.size)⟩
          · have t4 : 4321440 ≤ m := by omega
            have t5 : ¬ m < 0 := by omega
            obtain rfl : false = I := by rw [← HI.out, if_pos (by decide)]
            obtain rfl : n = 0 := Hn1.out (by decide)
            clear HI HGF HF HG Hn1 Hn2 HS HO HCap Hsm
            go_wp2_with fail
            ((with_reducible refine (Hs.out).mono ?_); rintro e8 w8 ⟨rfl, hl8⟩)
            go_wp2_with fail
            go_ret
            exact ⟨rfl, HB.out.trans (hl8.mono HB.out.size)⟩
      · have hch1 : isCh ch = false := by simpa using hch
        have hch2 : ch < 1 ∨ 4 < ch := by simp [isCh] at hch1; omega
        obtain rfl : G = 4 := by rw [HGF.out, if_neg (not_not_intro hF), if_pos hch1]
        subst hF
        rcases hch2 with t1 | t1
        · obtain rfl : false = I := by rw [← HI.out, if_pos (by decide)]
          obtain rfl : n = 0 := Hn1.out (by decide)
          clear HI HGF HF HG Hn1 Hn2 HS HO HCap Hsm
          go_wp2_with fail
          ((with_reducible refine (Hs.out).mono ?_); rintro e8 w8 ⟨rfl, hl8⟩)
          go_wp2_with fail
          go_ret
          exact ⟨rfl, HB.out.trans (hl8.mono HB.out.size)⟩
        · have t2 : ¬ ch < 1 := by omega
          obtain rfl : false = I := by rw [← HI.out, if_pos (by decide)]
          obtain rfl : n = 0 := Hn1.out (by decide)
          clear HI HGF HF HG Hn1 Hn2 HS HO HCap Hsm
          go_wp2_with fail
          ((with_reducible refine (Hs.out).mono ?_); rintro e8 w8 ⟨rfl, hl8⟩)
          go_wp2_with fail
          go_ret
          exact ⟨rfl, HB.out.trans (hl8.mono HB.out.size)⟩
    · obtain rfl : G = F := by rw [HGF.out, if_pos hF]
      have hF' : (G != 0) = true := by simpa using hF
      obtain rfl : false = I := by rw [← HI.out, if_pos hF]
      obtain rfl : n = 0 := Hn1.out hF
      clear HI HGF HF HG Hn1 Hn2 HS HO HCap Hsm
      go_wp2_with fail
      ((with_reducible refine (Hs.out).mono ?_); rintro e8 w8 ⟨rfl, hl8⟩)
      go_wp2_with fail
      go_ret
      exact ⟨rfl, HB.out.trans (hl8.mono HB.out.size)⟩
end Go.Proofs.YtneopbbafdmpkaaDoor
