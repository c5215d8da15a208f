/- Several texts in one: ConsChk, ConsPol, ConsFind, ConsTerm, ConsTermOf, ConsRef, ConsHas. -/
import Derived.Test.YthmkphmciiiagaaGreatDoorConsLaw
import Derived.Test.YthmkphmciiiagaaGreatDoorPackM
import Derived.Deep.DeepCutAuto
/- What the checks of policies in package consent return: within, isChannel, termOrder, checkTerms. -/
namespace Go.Proofs.YthmkphmciiiagaaGreatDoor
open Go.RowKit
theorem cwithin_any (n a b : Int) (w : World) : Calls Tryz.prog 84 #[.int .i64 n, .int .i64 a, .int .i64 b] w fun e w' => e = .returned (.bool (decide (a ≤ n ∧ n ≤ b))) ∧ w = w' := by
  by_cases h1 : a ≤ n <;> by_cases h2 : n ≤ b
  all_goals
    simp only [h1, h2, and_true, and_false, decide_true, decide_false]
    go_enter Tryz.func84, Tryz.ntmps84
    go_wp2
    go_ret
    exact ⟨rfl, rfl⟩
theorem cchannel_any (n : Int) (w : World) : Calls Tryz.prog 176 #[.int .i64 n] w fun e w' => e = .returned (.bool (isCh n)) ∧ w = w' := by
  obtain ⟨R, HR⟩ : ∃ R, Hid (isCh n = R) := ⟨_, Lib.hid rfl⟩
  rw [HR.out]
  have Hc : Hid (∀ w, Calls Tryz.prog 84 #[.int .i64 n, .int .i64 1, .int .i64 4] w fun e w' => e = .returned (.bool R) ∧ w = w') := fun w => by rw [← HR.out]; exact cwithin_any n 1 4 w
  go_enter Tryz.func176, Tryz.ntmps176
  go_wp2_with fail
  ((with_reducible refine (Hc.out _).mono ?_); rintro e _ ⟨rfl, rfl⟩)
  go_wp2_with fail
  go_ret
  exact ⟨rfl, rfl⟩
abbrev tVal (t : PTerm) : Value := .agg #[.string t.region, .int .i64 t.channel, .bool t.free, .int .i64 t.days, .int .i64 t.wait]
/-- a term lies in this block -/
abbrev tLV (w : World) (X : Nat) (t : PTerm) : Prop := LV w X #[.string t.region, .int .i64 t.channel, .bool t.free, .int .i64 t.days, .int .i64 t.wait] 99
theorem tLV.load {w : World} {X : Nat} {t : PTerm} (h : tLV w X t) : (Instr.loadAt 99 (.pointer (some ⟨X, 0, none⟩))).run Tryz.prog w = .ok (tVal t) w := by
  have c0 := h.cell 0 _ rfl
  have c1 := h.cell 1 _ rfl
  have c2 := h.cell 2 _ rfl
  have c3 := h.cell 3 _ rfl
  have c4 := h.cell 4 _ rfl
  go_simp
def TwoTerms (X Y : Nat) (a b : PTerm) (w : World) : Prop := tLV w X a ∧ tLV w Y b
set_option maxHeartbeats 2000000 in
set_option maxRecDepth 100000 in
theorem termOrder_any (a b : PTerm) (w : World) :
    Calls Tryz.prog 209 #[tVal a, tVal b] w fun e w' => e = .returned (.int .i64 (tCmp a b)) ∧ Below w.heap.size w w' := by
  obtain ⟨R, HR⟩ : ∃ R, Hid (tCmp a b = R) := ⟨_, Lib.hid rfl⟩
  rw [HR.out]
  have lv1 : tLV _ w.heap.size a := (LV.new w w.heap.size #[.string a.region, .int .i64 a.channel, .bool a.free, .int .i64 a.days, .int .i64 a.wait] 99 rfl).alloc (.cells #[.string b.region, .int .i64 b.channel, .bool b.free, .int .i64 b.days, .int .i64 b.wait] 99)
  have lv2 : tLV _ (w.heap.size + 1) b := LV.new (w.alloc (.cells #[.string a.region, .int .i64 a.channel, .bool a.free, .int .i64 a.days, .int .i64 a.wait] 99)) (w.heap.size + 1) #[.string b.region, .int .i64 b.channel, .bool b.free, .int .i64 b.days, .int .i64 b.wait] 99 (by simp)
  have Hb : Hid (Below w.heap.size w ((w.alloc (.cells #[.string a.region, .int .i64 a.channel, .bool a.free, .int .i64 a.days, .int .i64 a.wait] 99)).alloc (.cells #[.string b.region, .int .i64 b.channel, .bool b.free, .int .i64 b.days, .int .i64 b.wait] 99))) := ((Below.refl _ _).alloc (Nat.le_refl _) _).alloc (by simp) _
  go_enter Tryz.func209, Tryz.ntmps209
  go_wp2_with fail
  refine wp_region_mix (TwoTerms w.heap.size (w.heap.size + 1) a b) [(true, 0), (true, 1), (true, 2), (true, 3), (true, 5), (true, 6), (true, 7), (true, 8), (false, 4), (false, 9), (false, 10), (false, 11), (true, 12)] (by kernel_rfl) (by kernel_rfl) (fun w' hd => ⟨LV.keep (b := w.heap.size + 2) lv1 (SK.ofBelow (hd.below _)) (by omega), LV.keep (b := w.heap.size + 2) lv2 (SK.ofBelow (hd.below _)) (by omega)⟩) (fun KK hKK wd hd_wd => ?_)
  have hC : TwoTerms w.heap.size (w.heap.size + 1) a b wd := ⟨LV.keep (b := w.heap.size + 2) lv1 (SK.ofBelow (hd_wd.below _)) (by omega), LV.keep (b := w.heap.size + 2) lv2 (SK.ofBelow (hd_wd.below _)) (by omega)⟩
  have Hbd : Hid (Below w.heap.size w wd) := Hb.out.trans (hd_wd.below _)
  clear lv1 lv2 Hb hd_wd
  repeat (refine mix_p rfl (fun K hK => ?_); go_simp; (try go_bits); (try simp (disch := omega) only [if_pos]); (try simp (disch := omega) only [if_neg]); (try simp (disch := omega) only [dif_pos]); (try simp (disch := omega) only [dif_neg]); (try go_simp); (refine hK _ ?_; clear hK K))
  refine mix_load (.string a.region) rfl rfl rfl rfl (fun _ => rfl) (fun w' h => h.1.cell 0 _ rfl) ?_
  repeat (refine mix_p rfl (fun K hK => ?_); go_simp; (try go_bits); (try simp (disch := omega) only [if_pos]); (try simp (disch := omega) only [if_neg]); (try simp (disch := omega) only [dif_pos]); (try simp (disch := omega) only [dif_neg]); (try go_simp); (refine hK _ ?_; clear hK K))
  refine mix_load (.string b.region) rfl rfl rfl rfl (fun _ => rfl) (fun w' h => h.2.cell 0 _ rfl) ?_
  repeat (refine mix_p rfl (fun K hK => ?_); go_simp; (try go_bits); (try simp (disch := omega) only [if_pos]); (try simp (disch := omega) only [if_neg]); (try simp (disch := omega) only [dif_pos]); (try simp (disch := omega) only [dif_neg]); (try go_simp); (refine hK _ ?_; clear hK K))
  refine mix_load (.int .i64 a.channel) rfl rfl rfl rfl (fun _ => rfl) (fun w' h => h.1.cell 1 _ rfl) ?_
  repeat (refine mix_p rfl (fun K hK => ?_); go_simp; (try go_bits); (try simp (disch := omega) only [if_pos]); (try simp (disch := omega) only [if_neg]); (try simp (disch := omega) only [dif_pos]); (try simp (disch := omega) only [dif_neg]); (try go_simp); (refine hK _ ?_; clear hK K))
  refine mix_load (.int .i64 b.channel) rfl rfl rfl rfl (fun _ => rfl) (fun w' h => h.2.cell 1 _ rfl) ?_
  refine mix_l rfl (fun K hK => ?_) hC
  go_wp2_with fail
  ((with_reducible refine (compareS_any a.region b.region _).mono ?_); rintro e _ ⟨rfl, rfl⟩)
  go_wp2_with fail
  refine ⟨hC, ?_⟩
  refine mix_l rfl (fun K hK => ?_) hC
  go_wp2_with fail
  ((with_reducible refine (cmpInt_any a.channel b.channel _).mono ?_); rintro e _ ⟨rfl, rfl⟩)
  go_wp2_with fail
  refine ⟨hC, ?_⟩
  refine mix_l rfl (fun K hK => ?_) hC
  go_wp2_with fail
  have hC2 : TwoTerms w.heap.size (w.heap.size + 1) a b (wd.alloc (.cells #[.int .i64 (cmpS a.region b.region), .int .i64 (Lib.compareInt a.channel b.channel)] 3)) := ⟨hC.1.alloc _, hC.2.alloc _⟩
  refine ⟨hC2, ?_⟩
  refine mix_l rfl (fun K hK => ?_) hC2
  have c0 : (wd.alloc (.cells #[.int .i64 (cmpS a.region b.region), .int .i64 (Lib.compareInt a.channel b.channel)] 3)).cell? ⟨wd.heap.size, 0, none⟩ = some (.int .i64 (cmpS a.region b.region)) := by rw [World.cell?_alloc_at _ _ _ _ rfl]; rfl
  have c1 : (wd.alloc (.cells #[.int .i64 (cmpS a.region b.region), .int .i64 (Lib.compareInt a.channel b.channel)] 3)).cell? ⟨wd.heap.size, 1, none⟩ = some (.int .i64 (Lib.compareInt a.channel b.channel)) := by rw [World.cell?_alloc_at _ _ _ _ rfl]; rfl
  have Hor := Lib.hid (or_any wd.heap.size _ _ _ c0 c1)
  clear c0 c1
  have HR2 : Hid ((if cmpS a.region b.region ≠ 0 then cmpS a.region b.region else Lib.compareInt a.channel b.channel) = R) := HR
  rw [HR2.out] at Hor
  clear HR HR2
  go_wp2_with fail
  ((with_reducible refine (Hor.out).mono ?_); rintro e _ ⟨rfl, rfl⟩)
  go_wp2_with fail
  refine ⟨hC2, ?_⟩
  repeat (refine mix_p rfl (fun K hK => ?_); go_simp; (try go_bits); (try simp (disch := omega) only [if_pos]); (try simp (disch := omega) only [if_neg]); (try simp (disch := omega) only [dif_pos]); (try simp (disch := omega) only [dif_neg]); (try go_simp); (refine hK _ ?_; clear hK K))
  refine mix_nil ?_
  simp only [Exit.then]
  refine hKK _ _ ?_
  go_wp2_with fail
  go_ret
  exact ⟨rfl, Hbd.out.alloc Hbd.out.size _⟩
theorem Sl.ldTerm {N : Nat → Prop} {w : World} {blk off : Nat} {xs : List PTerm} (h : Sl rTerm N w (some ⟨blk, off, none⟩) xs) (k : Nat) (t : PTerm) (hk : xs[k]? = some t) : (Instr.loadAt 99 (.pointer (some ⟨blk, off + k * 5, none⟩))).run Tryz.prog w = .ok (tVal t) w := by
  obtain ⟨_, _, e, _, c0, c1, c2, c3, c4⟩ := h.term k t hk
  cases e
  go_simp
theorem termsGo_cons {prev : Option PTerm} {t : PTerm} {r : List PTerm} {R : Int} (h : termsGo prev (t :: r) = R) : (if termF prev t ≠ 0 then termF prev t else termsGo (some t) r) = R := h
/-- the term ahead of the k-th -/
def ahd {α : Type} (xs : List α) (k : Nat) : Option α := if k = 0 then none else xs[k - 1]?
theorem ahd_succ {α : Type} (xs : List α) (k : Nat) (x : α) (h : xs[k]? = some x) : ahd xs (k + 1) = some x := by rw [ahd, if_neg (by omega)]; exact h
set_option maxHeartbeats 4000000 in
set_option maxRecDepth 100000 in
theorem checkTerms_any (N : Nat → Prop) (A : Option Addr) (xs : List PTerm) (c : Nat) (w : World) (hS : Sl rTerm N w A xs) (hsm : ∀ t ∈ xs, t.region.size ≤ 1000000000) (hn : xs.length ≤ 1000000) :
    Calls Tryz.prog 185 #[.slice A xs.length c] w fun e w' => e = .returned (.int .i64 (termsFault xs)) ∧ Below w.heap.size w w' := by
  have HS := Lib.hid hS
  have Hsm := Lib.hid hsm
  clear hS hsm
  obtain ⟨R, HR⟩ : ∃ R, Hid (termsFault xs = R) := ⟨_, Lib.hid rfl⟩
  rw [HR.out]
  by_cases h20 : 160 < xs.length
  · go_enter Tryz.func185, Tryz.ntmps185
    go_wp2_with fail
    go_ret
    exact ⟨ret_i (by rw [← HR.out, termsFault, if_pos h20]), Below.refl _ _⟩
  · have HR2 : Hid (termsGo none xs = R) := by show _ = _; rw [← HR.out, termsFault, if_neg h20]
    clear HR
    go_enter Tryz.func185, Tryz.ntmps185
    go_wp2_with fail
    go_loopw [10] (fun i wr => ∃ k : Nat, k ≤ xs.length ∧ i = .int .i64 k ∧ termsGo (ahd xs k) (xs.drop k) = R ∧ Below w.heap.size w wr) (fun i _ => xs.length - (intOf i).toNat)
    case atStart => exact ⟨0, Nat.zero_le _, rfl, HR2.out, Below.refl _ _⟩
    case round =>
      clear HR2
      obtain ⟨k, hk, rfl, hr, hbl⟩ := hrel
      have Hr := Lib.hid hr
      clear hr
      by_cases hlt : k < xs.length
      · obtain ⟨t, hf⟩ : ∃ t, xs[k]? = some t := ⟨_, List.getElem?_eq_getElem hlt⟩
        have hSr := HS.out.keepB hbl
        obtain ⟨blk, off, rfl, hblk, d0, d1, d2, d3, d4⟩ := hSr.term k t hf
        have hfs1 : t.region.size ≤ 1000000000 := Hsm.out t (List.mem_of_getElem? hf)
        have Hstep : Hid ((if termF (ahd xs k) t ≠ 0 then termF (ahd xs k) t else termsGo (some t) (xs.drop (k + 1))) = R) := by show _ = _; rw [← Hr.out, drop_at3 hf]; rfl
        have Hf := Lib.hid hf
        clear Hr hf
        have Hb1 : Hid (Below w.heap.size w (wr.alloc (.cells #[.string t.region, .int .i64 t.channel, .bool t.free, .int .i64 t.days, .int .i64 t.wait] 99))) := hbl.alloc hbl.size _
        have hsz := hbl.size
        obtain ⟨K, HK⟩ : ∃ K, Hid (L.isKey t.region = K) := ⟨_, Lib.hid rfl⟩
        obtain ⟨C, HC⟩ : ∃ C, Hid (isCh t.channel = C) := ⟨_, Lib.hid rfl⟩
        have HKc : Hid (∀ w, Calls Tryz.prog 115 #[.string t.region] w fun e w' => e = .returned (.bool K) ∧ w = w') := fun w => HK.out ▸ isKey_any t.region w hfs1
        have HCc : Hid (∀ w, Calls Tryz.prog 176 #[.int .i64 t.channel] w fun e w' => e = .returned (.bool C) ∧ w = w') := fun w => HC.out ▸ cchannel_any t.channel w
        have lvY : tLV _ wr.heap.size t := LV.new wr wr.heap.size #[.string t.region, .int .i64 t.channel, .bool t.free, .int .i64 t.days, .int .i64 t.wait] 99 rfl
        have HSr := Lib.hid (Sl.keepB hSr ((Below.refl _ _).alloc (Nat.le_refl _) (.cells #[.string t.region, .int .i64 t.channel, .bool t.free, .int .i64 t.days, .int .i64 t.wait] 99)))
        clear hSr
        go_upto_region 6 with fail
        clear d0 d1 d2 d3 d4
        generalize wr.alloc (.cells #[.string t.region, .int .i64 t.channel, .bool t.free, .int .i64 t.days, .int .i64 t.wait] 99) = w1 at *
        obtain ⟨Y, hY⟩ : ∃ Y, Y = wr.heap.size := ⟨_, rfl⟩
        rw [← hY] at lvY ⊢
        have c0 : w1.cell? ⟨Y, 0, none⟩ = some (.string t.region) := lvY.cell 0 _ rfl
        have c1 : w1.cell? ⟨Y, 1, none⟩ = some (.int .i64 t.channel) := lvY.cell 1 _ rfl
        have c2 : w1.cell? ⟨Y, 2, none⟩ = some (.bool t.free) := lvY.cell 2 _ rfl
        have c3 : w1.cell? ⟨Y, 3, none⟩ = some (.int .i64 t.days) := lvY.cell 3 _ rfl
        have c4 : w1.cell? ⟨Y, 4, none⟩ = some (.int .i64 t.wait) := lvY.cell 4 _ rfl
        clear hY hbl
        cases K
        · have Hn : Hid (5 = R) := step_is Hstep.out (termF_key HK.out) (by decide)
          go_wp2_with fail
          ((with_reducible refine (HKc.out _).mono ?_); rintro e _ ⟨rfl, rfl⟩)
          go_wp2_with fail
          go_ret
          exact ⟨ret_i Hn.out, Hb1.out⟩
        · go_wp2_with fail
          ((with_reducible refine (HKc.out _).mono ?_); rintro e _ ⟨rfl, rfl⟩)
          cases C
          · have Hn : Hid (4 = R) := step_is Hstep.out (termF_ch HK.out HC.out) (by decide)
            go_wp2_with fail
            ((with_reducible refine (HCc.out _).mono ?_); rintro e _ ⟨rfl, rfl⟩)
            go_wp2_with fail
            go_ret
            exact ⟨ret_i Hn.out, Hb1.out⟩
          · go_wp2_with fail
            ((with_reducible refine (HCc.out _).mono ?_); rintro e _ ⟨rfl, rfl⟩)
            clear HKc HCc
            obtain ⟨fr, hfr⟩ : ∃ x, t.free = x := ⟨_, rfl⟩
            obtain ⟨dy, hdy⟩ : ∃ x, t.days = x := ⟨_, rfl⟩
            obtain ⟨wt, hwt⟩ : ∃ x, t.wait = x := ⟨_, rfl⟩
            have H3 : Hid (¬ (fr = true ∧ (dy ≠ 0 ∨ wt ≠ 0)) → (0 ≤ dy ∧ dy ≤ 2000) ∧ (0 ≤ wt ∧ wt ≤ 100000) → termF (ahd xs k) t = if (ahd xs k).any (fun p => decide (0 ≤ tCmp p t)) then 7 else 0) := fun h3 h4 => termF_ord HK.out HC.out (by rw [hfr, hdy, hwt]; exact h3) (by rw [hdy, hwt]; exact h4)
            have H2 : Hid (¬ (fr = true ∧ (dy ≠ 0 ∨ wt ≠ 0)) → ¬ ((0 ≤ dy ∧ dy ≤ 2000) ∧ (0 ≤ wt ∧ wt ≤ 100000)) → termF (ahd xs k) t = 1) := fun h3 h4 => termF_rng HK.out HC.out (by rw [hfr, hdy, hwt]; exact h3) (by rw [hdy, hwt]; exact h4)
            have H1 : Hid (fr = true ∧ (dy ≠ 0 ∨ wt ≠ 0) → termF (ahd xs k) t = 3) := fun h3 => termF_form HK.out HC.out (by rw [hfr, hdy, hwt]; exact h3)
            rw [hfr] at c2
            rw [hdy] at c3
            rw [hwt] at c4
            clear HK HC hfr hdy hwt
            go_upto_region 10 with fail
            obtain ⟨B, hB⟩ : ∃ B, decide (fr = true ∧ (dy ≠ 0 ∨ wt ≠ 0)) = B := ⟨_, rfl⟩
            have HB := Lib.hid hB
            clear hB
            go_cut [25] (fun s25 wx => s25 = .bool B ∧ w1 = wx)
            case first =>
              cases fr
              · go_wp2_with fail
                go_meet
                exact ⟨by rw [← HB.out]; simp, rfl⟩
              · by_cases h1 : dy = 0
                · by_cases h2 : wt = 0
                  · subst h1 h2
                    go_wp2_with fail
                    go_meet
                    exact ⟨by rw [← HB.out]; simp, rfl⟩
                  · subst h1
                    have h2' : (wt != 0) = true := by simpa using h2
                    go_wp2_with fail
                    go_meet
                    exact ⟨by rw [← HB.out]; simp [h2], rfl⟩
                · have h1' : (dy != 0) = true := by simpa using h1
                  go_wp2_with fail
                  go_meet
                  exact ⟨by rw [← HB.out]; simp [h1], rfl⟩
            case rest =>
              obtain ⟨rfl, rfl⟩ := hcut
              cases B
              · have HB2 : Hid (¬ (fr = true ∧ (dy ≠ 0 ∨ wt ≠ 0))) := of_decide_eq_false HB.out
                clear HB H1
                obtain ⟨D, hD⟩ : ∃ D, decide ((0 ≤ dy ∧ dy ≤ 2000) ∧ (0 ≤ wt ∧ wt ≤ 100000)) = D := ⟨_, rfl⟩
                have HD := Lib.hid hD
                clear hD
                have Hw1 := Lib.hid (fun w => cwithin_any dy 0 2000 w)
                have Hw2 := Lib.hid (fun w => cwithin_any wt 0 100000 w)
                obtain ⟨W1, HW1⟩ : ∃ W1, Hid (decide (0 ≤ dy ∧ dy ≤ 2000) = W1) := ⟨_, Lib.hid rfl⟩
                obtain ⟨W2, HW2⟩ : ∃ W2, Hid (decide (0 ≤ wt ∧ wt ≤ 100000) = W2) := ⟨_, Lib.hid rfl⟩
                rw [HW1.out] at Hw1
                rw [HW2.out] at Hw2
                have HD2 : Hid (D = (W1 && W2)) := by show _ = _; rw [← HD.out, ← HW1.out, ← HW2.out, ← Bool.decide_and]
                clear HW1 HW2
                go_upto_region 12 with fail
                go_cut [38] (fun s38 wx => s38 = .bool (!D) ∧ w1 = wx)
                case first =>
                  go_wp2_with fail
                  ((with_reducible refine (Hw1.out _).mono ?_); rintro e _ ⟨rfl, rfl⟩)
                  cases W1
                  · go_wp2_with fail
                    go_meet
                    exact ⟨by rw [HD2.out]; simp, rfl⟩
                  · go_wp2_with fail
                    ((with_reducible refine (Hw2.out _).mono ?_); rintro e _ ⟨rfl, rfl⟩)
                    go_wp2_with fail
                    go_meet
                    exact ⟨by rw [HD2.out]; simp, rfl⟩
                case rest =>
                  obtain ⟨rfl, rfl⟩ := hcut
                  clear Hw1 Hw2 HD2
                  cases D
                  · have Hn : Hid (1 = R) := step_is Hstep.out (H2.out HB2.out (of_decide_eq_false HD.out)) (by decide)
                    go_wp2_with fail
                    go_ret
                    exact ⟨ret_i Hn.out, Hb1.out⟩
                  · have H4 := Lib.hid (H3.out HB2.out (of_decide_eq_true HD.out))
                    clear H2 H3 HB2 HD
                    go_upto_region 14 with fail
                    clear c0 c1 c2 c3 c4
                    by_cases hk0 : k = 0
                    · subst hk0
                      have Hn : Hid (termsGo (some t) (xs.drop (0 + 1)) = R) := step_go Hstep.out (by rw [H4.out]; rfl)
                      clear H4 Hstep HSr
                      go_wp2_with fail
                      refine wp_region_mix (fun _ => True) [(true, 0), (true, 1), (true, 2), (true, 3), (true, 4), (true, 5), (true, 6), (true, 7), (true, 8), (false, 9), (true, 10), (true, 11), (true, 12)] (by kernel_rfl) (by kernel_rfl) (fun _ _ => trivial) (fun KK hKK wd hd => ?_)
                      have Hbd : Hid (Below w.heap.size w wd) := Hb1.out.trans (hd.below _)
                      clear hd Hb1 lvY
                      repeat (refine mix_p rfl (fun K hK => ?_); go_simp; (try go_bits); (try simp (disch := omega) only [if_pos]); (try simp (disch := omega) only [if_neg]); (try simp (disch := omega) only [dif_pos]); (try simp (disch := omega) only [dif_neg]); (try go_simp); (refine hK _ ?_; clear hK K))
                      refine mix_l rfl (fun K hK => ?_) trivial
                      go_wp2_with fail
                      refine ⟨trivial, ?_⟩
                      repeat (refine mix_p rfl (fun K hK => ?_); go_simp; (try go_bits); (try simp (disch := omega) only [if_pos]); (try simp (disch := omega) only [if_neg]); (try simp (disch := omega) only [dif_pos]); (try simp (disch := omega) only [dif_neg]); (try go_simp); (refine hK _ ?_; clear hK K))
                      refine mix_nil ?_
                      simp only [Exit.then]
                      refine hKK _ _ ?_
                      go_wp2_with fail
                      go_roundw
                      case rel => exact ⟨1, by omega, rfl, by rw [ahd_succ xs 0 t Hf.out]; exact Hn.out, Hbd.out⟩
                      case measure => simp [intOf]; omega
                    · obtain ⟨q, rfl⟩ : ∃ q, k = q + 1 := ⟨k - 1, by omega⟩
                      obtain ⟨p, hp⟩ : ∃ p, xs[q]? = some p := ⟨_, List.getElem?_eq_getElem (by omega)⟩
                      have Hp := Lib.hid hp
                      have H5 : Hid (termF (ahd xs (q + 1)) t = if 0 ≤ tCmp p t then 7 else 0) := by
                        show _ = _
                        rw [H4.out, ahd_succ xs q p hp]
                        simp
                      clear H4 hp
                      go_wp2_with fail
                      refine wp_region_mix (fun w' => tLV w' Y t ∧ Sl rTerm N w' (some ⟨blk, off, none⟩) xs) [(true, 0), (true, 1), (true, 2), (true, 3), (true, 4), (true, 5), (true, 6), (true, 7), (true, 8), (false, 9), (true, 10), (true, 11), (true, 12)] (by kernel_rfl) (by kernel_rfl) (fun w' hd => ⟨LV.kb3 lvY (hd.below _) lvY.lt, Sl.keepB HSr.out (hd.below _)⟩) (fun KK hKK wd hd => ?_)
                      have hC : tLV wd Y t ∧ Sl rTerm N wd (some ⟨blk, off, none⟩) xs := ⟨LV.kb3 lvY (hd.below _) lvY.lt, Sl.keepB HSr.out (hd.below _)⟩
                      have Hbd : Hid (Below w.heap.size w wd) := Hb1.out.trans ((hd.below _).mono Hb1.out.size)
                      clear hd Hb1 lvY HSr
                      repeat (refine mix_p rfl (fun K hK => ?_); go_simp; (try go_bits); (try simp (disch := omega) only [if_pos]); (try simp (disch := omega) only [if_neg]); (try simp (disch := omega) only [dif_pos]); (try simp (disch := omega) only [dif_neg]); (try go_simp); (refine hK _ ?_; clear hK K))
                      refine mix_loadG (tVal p) rfl (by simp [Region.wanted, yielded, go_sem]) rfl rfl (fun w' h => h.2.ldTerm q p Hp.out) ?_
                      refine mix_loadG (tVal t) rfl (by simp [Region.wanted, yielded, go_sem]) rfl rfl (fun w' h => tLV.load h.1) ?_
                      refine mix_l rfl (fun K hK => ?_) hC
                      have Hto := Lib.hid (termOrder_any p t wd)
                      obtain ⟨m, Hm⟩ : ∃ m, Hid (tCmp p t = m) := ⟨_, Lib.hid rfl⟩
                      rw [Hm.out] at Hto H5
                      go_wp2_with fail
                      ((with_reducible refine (Hto.out).mono ?_); rintro e w2 ⟨rfl, hl2⟩)
                      have hC2 : tLV w2 Y t ∧ Sl rTerm N w2 (some ⟨blk, off, none⟩) xs := ⟨LV.kb3 hC.1 hl2 hC.1.lt, Sl.keepB hC.2 hl2⟩
                      have Hb2 : Hid (Below w.heap.size w w2) := Hbd.out.trans (hl2.mono Hbd.out.size)
                      clear hl2 hC Hbd Hto
                      go_wp2_with fail
                      refine ⟨hC2, ?_⟩
                      repeat (refine mix_p rfl (fun K hK => ?_); go_simp; (try go_bits); (try simp (disch := omega) only [if_pos]); (try simp (disch := omega) only [if_neg]); (try simp (disch := omega) only [dif_pos]); (try simp (disch := omega) only [dif_neg]); (try go_simp); (refine hK _ ?_; clear hK K))
                      refine mix_nil ?_
                      simp only [Exit.then]
                      refine hKK _ _ ?_
                      clear hC2
                      by_cases hm : 0 ≤ m
                      · have Hn : Hid (7 = R) := step_is Hstep.out (by rw [H5.out, if_pos hm]) (by decide)
                        go_wp2_with fail
                        go_ret
                        exact ⟨ret_i Hn.out, Hb2.out⟩
                      · have Hn : Hid (termsGo (some t) (xs.drop (q + 1 + 1)) = R) := step_go Hstep.out (by rw [H5.out, if_neg hm])
                        go_wp2_with fail
                        go_roundw
                        case rel => exact ⟨q + 1 + 1, by omega, by go_num, by rw [ahd_succ xs (q + 1) t Hf.out]; exact Hn.out, Hb2.out⟩
                        case measure => simp [intOf]; omega
              · have Hn : Hid (3 = R) := step_is Hstep.out (H1.out (of_decide_eq_true HB.out)) (by decide)
                go_wp2_with fail
                go_ret
                exact ⟨ret_i Hn.out, Hb1.out⟩
      · go_wp2_with fail
        go_ret
        exact ⟨ret_i (by rw [← Hr.out, List.drop_eq_nil_of_le (by omega)]; rfl), hbl⟩
end Go.Proofs.YthmkphmciiiagaaGreatDoor

/- What consent.CheckPolicy returns. -/
namespace Go.Proofs.YthmkphmciiiagaaGreatDoor
open Go.RowKit
theorem policyGo_key {prev : Option ByteArray} {p : Purp} {r : List Purp} (h : L.isKey p.name = false) : policyGo prev (p :: r) = 5 := by rw [policyGo, if_pos h]
theorem policyGo_ord {prev : Option ByteArray} {p : Purp} {r : List Purp} (h : L.isKey p.name = true) (h2 : prev.any (fun q => leS p.name q) = true) : policyGo prev (p :: r) = 7 := by rw [policyGo, if_neg (by simp [h]), if_pos h2]
theorem policyGo_go {prev : Option ByteArray} {p : Purp} {r : List Purp} (h : L.isKey p.name = true) (h2 : prev.any (fun q => leS p.name q) = false) : policyGo prev (p :: r) = if termsFault p.terms ≠ 0 then termsFault p.terms else policyGo (some p.name) r := by rw [policyGo, if_neg (by simp [h]), if_neg (by simp [h2])]
/-- a policy of moderate size -/
structure PolOk (xs : List Purp) : Prop where
  len : xs.length ≤ 1000000
  nm : ∀ p ∈ xs, p.name.size ≤ 1000000000
  tl : ∀ p ∈ xs, p.terms.length ≤ 1000000
  rg : ∀ p ∈ xs, ∀ t ∈ p.terms, t.region.size ≤ 1000000000
set_option maxHeartbeats 4000000 in
set_option maxRecDepth 100000 in
theorem checkPolicy_any (N : Nat → Prop) (A : Option Addr) (xs : List Purp) (c : Nat) (w : World) (hS : Sl rPurp N w A xs) (hok : PolOk xs) :
    Calls Tryz.prog 99 #[.slice A xs.length c] w fun e w' => e = .returned (.int .i64 (policyFault xs)) ∧ Below w.heap.size w w' := by
  have HS := Lib.hid hS
  have Hok := Lib.hid hok
  have hln := hok.len
  clear hS hok
  obtain ⟨R, HR⟩ : ∃ R, Hid (policyFault xs = R) := ⟨_, Lib.hid rfl⟩
  rw [HR.out]
  by_cases h0 : xs.length = 0
  · go_enter Tryz.func99, Tryz.ntmps99
    have h0' : ((xs.length : Int) == 0) = true := by simpa using h0
    go_wp2_with fail
    go_ret
    exact ⟨ret_i (by rw [← HR.out, policyFault, if_pos h0]), Below.refl _ _⟩
  have h0' : ((xs.length : Int) == 0) = false := by simpa using h0
  by_cases h20 : 30 < xs.length
  · go_enter Tryz.func99, Tryz.ntmps99
    go_wp2_with fail
    go_ret
    exact ⟨ret_i (by rw [← HR.out, policyFault, if_neg h0, if_pos h20]), Below.refl _ _⟩
  · have HR2 : Hid (policyGo none xs = R) := by show _ = _; rw [← HR.out, policyFault, if_neg h0, if_neg h20]
    clear HR
    go_enter Tryz.func99, Tryz.ntmps99
    go_wp2_with fail
    go_loopw [16] (fun i wr => ∃ k : Nat, k ≤ xs.length ∧ i = .int .i64 k ∧ policyGo ((ahd xs k).map Purp.name) (xs.drop k) = R ∧ Below w.heap.size w wr) (fun i _ => xs.length - (intOf i).toNat)
    case atStart => exact ⟨0, Nat.zero_le _, rfl, HR2.out, Below.refl _ _⟩
    case round =>
      clear HR2
      obtain ⟨k, hk, rfl, hr, hbl⟩ := hrel
      have Hr := Lib.hid hr
      clear hr
      by_cases hlt : k < xs.length
      · obtain ⟨p, hf⟩ : ∃ p, xs[k]? = some p := ⟨_, List.getElem?_eq_getElem hlt⟩
        have hSr := HS.out.keepB hbl
        have hfs1 : p.name.size ≤ 1000000000 := Hok.out.nm p (List.mem_of_getElem? hf)
        have Hstep : Hid (policyGo ((ahd xs k).map Purp.name) (p :: xs.drop (k + 1)) = R) := by show _ = _; rw [← Hr.out, drop_at3 hf]
        have Hf := Lib.hid hf
        obtain ⟨blk, off, At, ct, rfl, hblk, d0, d1, hst⟩ := hSr.purp k p hf
        clear Hr hf
        have hb0 : Below wr.heap.size wr (wr.alloc (.cells #[.string p.name, .slice At p.terms.length ct] 75)) := (Below.refl _ _).alloc (Nat.le_refl _) _
        have Hb1 : Hid (Below w.heap.size w (wr.alloc (.cells #[.string p.name, .slice At p.terms.length ct] 75))) := hbl.alloc hbl.size _
        have hsz := hbl.size
        obtain ⟨K, HK⟩ : ∃ K, Hid (L.isKey p.name = K) := ⟨_, Lib.hid rfl⟩
        have HKc : Hid (∀ w, Calls Tryz.prog 115 #[.string p.name] w fun e w' => e = .returned (.bool K) ∧ w = w') := fun w => HK.out ▸ isKey_any p.name w hfs1
        have lvY : LV _ wr.heap.size _ _ := LV.new wr wr.heap.size #[.string p.name, .slice At p.terms.length ct] 75 rfl
        have Hst := Lib.hid (Sl.keepB hst hb0)
        have HSr := Lib.hid (Sl.keepB hSr hb0)
        clear hSr hst hb0
        go_upto_region 8 with fail
        clear d0 d1
        generalize wr.alloc (.cells #[.string p.name, .slice At p.terms.length ct] 75) = w1 at *
        obtain ⟨Y, hY⟩ : ∃ Y, Y = wr.heap.size := ⟨_, rfl⟩
        rw [← hY] at lvY ⊢
        have c0 : w1.cell? ⟨Y, 0, none⟩ = some (.string p.name) := lvY.cell 0 _ rfl
        have c1 : w1.cell? ⟨Y, 1, none⟩ = some (.slice At p.terms.length ct) := lvY.cell 1 _ rfl
        clear hY hbl lvY
        cases K
        · have Hn : Hid (5 = R) := (policyGo_key HK.out).symm.trans Hstep.out
          go_wp2_with fail
          ((with_reducible refine (HKc.out _).mono ?_); rintro e _ ⟨rfl, rfl⟩)
          go_wp2_with fail
          go_ret
          exact ⟨ret_i Hn.out, Hb1.out⟩
        · go_wp2_with fail
          ((with_reducible refine (HKc.out _).mono ?_); rintro e _ ⟨rfl, rfl⟩)
          obtain ⟨B, HB⟩ : ∃ B, Hid (((ahd xs k).map Purp.name).any (fun q => leS p.name q) = B) := ⟨_, Lib.hid rfl⟩
          go_upto_region 10 with fail
          go_cut [26] (fun s26 wx => s26 = .bool B ∧ Below w1.heap.size w1 wx)
          case first =>
            by_cases hk0 : k = 0
            · subst hk0
              obtain rfl : false = B := HB.out
              go_wp2_with fail
              go_quiet (fail)
              first | go_meet | (go_wp2_with fail; go_meet) | trace_state
              exact ⟨rfl, below_drewN _ _ _⟩
            · obtain ⟨q, rfl⟩ : ∃ q, k = q + 1 := ⟨k - 1, by omega⟩
              obtain ⟨p', hp⟩ : ∃ p', xs[q]? = some p' := ⟨_, List.getElem?_eq_getElem (by omega)⟩
              have HB2 : Hid (leS p.name p'.name = B) := by
                show _ = _
                rw [← HB.out, ahd_succ xs q p' hp]
                simp
              obtain ⟨_, _, _, _, e, _, e0, _, _⟩ := HSr.out.purp q p' hp
              cases e
              clear HB hp
              go_wp2_with fail
              go_quiet (fail)
              first | go_meet | (go_wp2_with fail; go_meet) | trace_state
              exact ⟨by rw [← HB2.out]; rfl, below_drewN _ _ _⟩
          case rest =>
            obtain ⟨rfl, hbc⟩ := hcut
            have Hb2 : Hid (Below w.heap.size w wc) := Hb1.out.trans (hbc.mono Hb1.out.size)
            cases B
            · have Hn : Hid ((if termsFault p.terms ≠ 0 then termsFault p.terms else policyGo (some p.name) (xs.drop (k + 1))) = R) := (policyGo_go HK.out HB.out).symm.trans Hstep.out
              have e1 := (hbc.cell (p := ⟨Y, 1, none⟩) (by exact World.block_lt_of_cell? w1 _ c1)).trans c1
              have Ht := Lib.hid (checkTerms_any N At p.terms ct wc (Sl.keepB Hst.out hbc) (Hok.out.rg p (List.mem_of_getElem? Hf.out)) (Hok.out.tl p (List.mem_of_getElem? Hf.out)))
              obtain ⟨F, HF⟩ : ∃ F, Hid (termsFault p.terms = F) := ⟨_, Lib.hid rfl⟩
              rw [HF.out] at Ht Hn
              clear c0 c1 hbc Hst HSr
              go_wp2_with fail
              ((with_reducible refine (Ht.out).mono ?_); rintro e w2 ⟨rfl, hl2⟩)
              have Hb3 : Hid (Below w.heap.size w w2) := Hb2.out.trans (hl2.mono Hb2.out.size)
              clear hl2 Ht e1
              by_cases hF : F = 0
              · have Hn2 := Lib.hid (step_go Hn.out hF)
                subst hF
                go_wp2_with fail
                go_roundw
                case rel => exact ⟨k + 1, by omega, by go_num, by rw [ahd_succ xs k p Hf.out]; exact Hn2.out, Hb3.out⟩
                case measure => simp [intOf]; omega
              · have Hn2 := Lib.hid (step_no Hn.out hF)
                have hF' : (F != 0) = true := by simpa using hF
                go_wp2_with fail
                go_ret
                exact ⟨ret_i Hn2.out, Hb3.out⟩
            · have Hn : Hid (7 = R) := (policyGo_ord HK.out HB.out).symm.trans Hstep.out
              go_wp2_with fail
              go_ret
              exact ⟨ret_i Hn.out, Hb2.out⟩
      · go_wp2_with fail
        go_ret
        exact ⟨ret_i (by rw [← Hr.out, List.drop_eq_nil_of_le (by omega)]; rfl), hbl⟩
end Go.Proofs.YthmkphmciiiagaaGreatDoor

/- What a right policy has; what slices.BinarySearchFunc and consent.purposeOf return on it. -/
namespace Go.Proofs.YthmkphmciiiagaaGreatDoor
open Go.RowKit
/-- the names rise -/
def RiseP (xs : List Purp) : Prop := ∀ (i j : Nat) (p q : Purp), i < j → xs[i]? = some p → xs[j]? = some q → ltS p.name q.name = true
/-- the terms rise -/
def RiseT (xs : List PTerm) : Prop := ∀ (i j : Nat) (s t : PTerm), i < j → xs[i]? = some s → xs[j]? = some t → tCmp s t < 0
structure GoodT (t : PTerm) : Prop where
  key : L.isKey t.region = true
  ch : isCh t.channel = true
  free : ¬ (t.free = true ∧ (t.days ≠ 0 ∨ t.wait ≠ 0))
  rng : (0 ≤ t.days ∧ t.days ≤ 2000) ∧ (0 ≤ t.wait ∧ t.wait ≤ 100000)
theorem termF_ok {prev : Option PTerm} {t : PTerm} (h : termF prev t = 0) : GoodT t ∧ ∀ p, prev = some p → tCmp p t < 0 := by
  by_cases h1 : L.isKey t.region = true
  · by_cases h2 : isCh t.channel = true
    · by_cases h3 : t.free = true ∧ (t.days ≠ 0 ∨ t.wait ≠ 0)
      · rw [termF_form h1 h2 h3] at h; cases h
      · by_cases h4 : (0 ≤ t.days ∧ t.days ≤ 2000) ∧ (0 ≤ t.wait ∧ t.wait ≤ 100000)
        · rw [termF_ord h1 h2 h3 h4] at h
          refine ⟨⟨h1, h2, h3, h4⟩, fun p hp => ?_⟩
          subst hp
          by_cases h5 : 0 ≤ tCmp p t
          · simp [h5] at h
          · omega
        · rw [termF_rng h1 h2 h3 h4] at h; cases h
    · rw [termF_ch h1 (by simpa using h2)] at h; cases h
  · rw [termF_key (by simpa using h1)] at h; cases h
theorem termsGo_ok : ∀ {l : List PTerm} {prev : Option PTerm}, termsGo prev l = 0 → (∀ t ∈ l, GoodT t) ∧ (∀ p, prev = some p → ∀ t ∈ l, tCmp p t < 0) ∧ RiseT l
  | [], _, _ => ⟨(fun _ h => by cases h), (fun _ _ _ h => by cases h), (fun _ _ _ _ _ h => by simp at h)⟩
  | x :: r, prev, h => by
    have hx : termF prev x = 0 := by
      by_cases e : termF prev x = 0
      · exact e
      · exact absurd (step_no (termsGo_cons' h) e) e
    obtain ⟨g, hp⟩ := termF_ok hx
    obtain ⟨i1, i2, i3⟩ := termsGo_ok (l := r) (prev := some x) (step_go (termsGo_cons' h) hx)
    refine ⟨fun t ht => ?_, fun p he t ht => ?_, fun i j s t hij hs ht => ?_⟩
    · rcases List.mem_cons.1 ht with rfl | ht
      · exact g
      · exact i1 t ht
    · rcases List.mem_cons.1 ht with rfl | ht
      · exact hp p he
      · exact tCmp_neg_trans (hp p he) (i2 x rfl t ht)
    · cases j with
      | zero => omega
      | succ j =>
        have ht : r[j]? = some t := by simpa using ht
        cases i with
        | zero =>
          obtain rfl : x = s := by simpa using hs
          exact i2 x rfl t (List.mem_of_getElem? ht)
        | succ i => exact i3 i j s t (by omega) (by simpa using hs) ht
where
  termsGo_cons' {prev : Option PTerm} {t : PTerm} {r : List PTerm} {R : Int} (h : termsGo prev (t :: r) = R) : (if termF prev t ≠ 0 then termF prev t else termsGo (some t) r) = R := h
/-- a right purpose -/
structure GoodP (p : Purp) : Prop where
  key : L.isKey p.name = true
  len : p.terms.length ≤ 160
  ts : ∀ t ∈ p.terms, GoodT t
  rise : RiseT p.terms
theorem terms_ok {l : List PTerm} (h : termsFault l = 0) : l.length ≤ 160 ∧ (∀ t ∈ l, GoodT t) ∧ RiseT l := by
  unfold termsFault at h
  split at h
  · cases h
  · obtain ⟨h1, _, h3⟩ := termsGo_ok h
    exact ⟨by omega, h1, h3⟩
theorem policyGo_ok : ∀ {l : List Purp} {prev : Option ByteArray}, policyGo prev l = 0 → (∀ p ∈ l, GoodP p) ∧ (∀ q, prev = some q → ∀ p ∈ l, ltS q p.name = true) ∧ RiseP l
  | [], _, _ => ⟨(fun _ h => by cases h), (fun _ _ _ h => by cases h), (fun _ _ _ _ _ h => by simp at h)⟩
  | x :: r, prev, h => by
    by_cases h1 : L.isKey x.name = true
    · cases h2 : prev.any (fun q => leS x.name q)
      · rw [policyGo_go h1 h2] at h
        have hx : termsFault x.terms = 0 := by
          by_cases e : termsFault x.terms = 0
          · exact e
          · exact absurd (step_no h e) e
        obtain ⟨t1, t2, t3⟩ := terms_ok hx
        obtain ⟨i1, i2, i3⟩ := policyGo_ok (l := r) (step_go h hx)
        have hp : ∀ q, prev = some q → ltS q x.name = true := fun q hq => by
          subst hq
          exact ltS_of_not_le (by simpa using h2)
        refine ⟨fun p hpm => ?_, fun q he p hpm => ?_, fun i j s t hij hs ht => ?_⟩
        · rcases List.mem_cons.1 hpm with rfl | hpm
          · exact ⟨h1, t1, t2, t3⟩
          · exact i1 p hpm
        · rcases List.mem_cons.1 hpm with rfl | hpm
          · exact hp q he
          · exact ltS_trans (hp q he) (i2 _ rfl p hpm)
        · cases j with
          | zero => omega
          | succ j =>
            have ht : r[j]? = some t := by simpa using ht
            cases i with
            | zero =>
              obtain rfl : x = s := by simpa using hs
              exact i2 _ rfl t (List.mem_of_getElem? ht)
            | succ i => exact i3 i j s t (by omega) (by simpa using hs) ht
      · rw [policyGo_ord h1 h2] at h; cases h
    · rw [policyGo_key (by simpa using h1)] at h; cases h
/-- a right policy -/
structure GoodPol (xs : List Purp) : Prop where
  len : 1 ≤ xs.length ∧ xs.length ≤ 30
  ps : ∀ p ∈ xs, GoodP p
  rise : RiseP xs
theorem policy_good {xs : List Purp} (h : policyFault xs = 0) : GoodPol xs := by
  unfold policyFault at h
  split at h
  · cases h
  · split at h
    · cases h
    · obtain ⟨h1, _, h3⟩ := policyGo_ok h
      exact ⟨⟨by omega, by omega⟩, h1, h3⟩
abbrev byNm (nm : ByteArray) (p : Purp) : Bool := p.name.toList == nm.toList
theorem byNm_iff (nm : ByteArray) (p : Purp) : byNm nm p = true ↔ p.name = nm := by
  constructor
  · intro h
    have h2 : (p.name.toList == nm.toList) = true := h
    rw [ByteArray.toList_eq, ByteArray.toList_eq] at h2
    exact WideShapes.bytes_inj (by simpa using h2)
  · rintro rfl; simp [byNm]
/-- the purpose of a name -/
def purpAt (xs : List Purp) (nm : ByteArray) : Option Purp := xs.find? (byNm nm)
def hasP (xs : List Purp) (nm : ByteArray) : Bool := xs.any (byNm nm)
theorem purpAt_some {xs : List Purp} {nm : ByteArray} (hr : RiseP xs) (k : Nat) (p : Purp) (hk : xs[k]? = some p) (hn : p.name = nm) : purpAt xs nm = some p := by
  unfold purpAt
  rw [List.find?_eq_some_iff_getElem]
  obtain ⟨hlt, rfl⟩ := List.getElem?_eq_some_iff.1 hk
  refine ⟨(byNm_iff _ _).2 hn, k, hlt, rfl, fun j hj => ?_⟩
  simp only [Bool.not_eq_true', Bool.eq_false_iff]
  intro h
  have h1 := hr j k xs[j] xs[k] hj (List.getElem?_eq_getElem (by omega)) hk
  rw [(byNm_iff _ _).1 h, hn, ltS_irr] at h1
  cases h1
theorem purpAt_none {xs : List Purp} {nm : ByteArray} (h : ∀ p ∈ xs, p.name ≠ nm) : purpAt xs nm = none := by
  unfold purpAt
  rw [List.find?_eq_none]
  exact fun p hp hb => h p hp ((byNm_iff _ _).1 hb)
theorem purpAt_has (xs : List Purp) (nm : ByteArray) : (purpAt xs nm).isSome = hasP xs nm := by
  unfold purpAt hasP
  rw [Bool.eq_iff_iff, List.find?_isSome]
  simp
/-- where a name stands, or would stand -/
def GivesP (xs : List Purp) (nm : ByteArray) (w : World) (e : Ending) (w' : World) : Prop :=
  ∃ (i : Nat) (b : Bool), e = .returned (.tuple #[.int .i64 i, .bool b]) ∧ i ≤ xs.length ∧ (b = true → ∃ p, xs[i]? = some p ∧ purpAt xs nm = some p) ∧ (b = false → purpAt xs nm = none) ∧ Below w.heap.size w w'
theorem purp1_any (p : Purp) (At : Option Addr) (n ct : Nat) (nm : ByteArray) (w : World) :
    Calls Tryz.prog 240 #[.agg #[.string p.name, .slice At n ct], .string nm] w fun e w' => e = .returned (.int .i64 (cmpS p.name nm)) ∧ Below w.heap.size w w' := by
  have Hb : Hid (Below w.heap.size w (w.alloc (.cells #[.string p.name, .slice At n ct] 75))) := (Below.refl _ _).alloc (Nat.le_refl _) _
  go_enter Tryz.func240, Tryz.ntmps240
  go_wp2_with fail
  ((with_reducible refine (compareS_any p.name nm _).mono ?_); rintro e _ ⟨rfl, rfl⟩)
  go_wp2_with fail
  go_ret
  exact ⟨rfl, Hb.out⟩
set_option maxHeartbeats 4000000 in
set_option maxRecDepth 100000 in
theorem bsearchP_any (N : Nat → Prop) (A : Option Addr) (xs : List Purp) (nm : ByteArray) (c : Nat) (w : World) (hS : Sl rPurp N w A xs) (hn : xs.length ≤ 1000) (hri : RiseP xs) :
    Calls Tryz.prog 239 #[.slice A xs.length c, .string nm, .func (.func 240) #[] #[]] w (GivesP xs nm w) := by
  have HS := Lib.hid hS
  have Hri := Lib.hid hri
  clear hS hri
  go_enter Tryz.func239, Tryz.ntmps239
  go_wp2_with fail
  go_loopw [9, 10] (fun a b wr => ∃ i j : Nat, i ≤ j ∧ j ≤ xs.length ∧ a = .int .i64 i ∧ b = .int .i64 j ∧ (∀ p f, p < i → xs[p]? = some f → ltS f.name nm = true) ∧ (∀ p f, j ≤ p → xs[p]? = some f → ltS f.name nm = false) ∧ Below w.heap.size w wr) (fun a b _ => (intOf b - intOf a).toNat)
  case atStart => exact ⟨0, xs.length, by omega, by omega, rfl, rfl, (fun p f h => by omega), (fun p f h hp => by rw [List.getElem?_eq_none h] at hp; cases hp), Below.refl _ _⟩
  case round =>
    obtain ⟨i, j, hij, hj, rfl, rfl, hlo, hhi, hbl⟩ := hrel
    have Hlo := Lib.hid hlo
    have Hhi := Lib.hid hhi
    have hsz := hbl.size
    clear hlo hhi
    by_cases hlt : i < j
    · obtain ⟨h, hh⟩ : ∃ h : Nat, h = (i + j) / 2 := ⟨_, rfl⟩
      have h1 : i ≤ h := by omega
      have h2 : h < j := by omega
      have eh : ((i : Int) + (j : Int)) / 2 = (h : Int) := by omega
      clear hh
      obtain ⟨f, hf⟩ : ∃ f, xs[h]? = some f := ⟨_, List.getElem?_eq_getElem (by omega)⟩
      obtain ⟨blk, off, At, ct, rfl, hblk, d0, d1, _⟩ := (HS.out.keepB hbl).purp h f hf
      have Hf := Lib.hid hf
      clear hf
      go_wp2_with fail
      ((with_reducible refine (purp1_any f At f.terms.length ct nm _).mono ?_); rintro e w1 ⟨rfl, hl_w1⟩)
      have hz_w1 := hl_w1.size
      have Hb1 : Hid (Below w.heap.size w w1) := hbl.trans (hl_w1.mono hsz)
      have Hcn := Lib.hid (cmpS_neg f.name nm)
      generalize cmpS f.name nm = cm at *
      clear hl_w1 hz_w1 d0 d1
      by_cases hc : cm < 0
      · have Hl : Hid (∀ p g, p < h + 1 → xs[p]? = some g → ltS g.name nm = true) := fun p g hp hg => by
          by_cases hph : p = h
          · subst hph
            rw [Hf.out] at hg
            cases hg
            exact Hcn.out.1 hc
          · exact ltS_trans (Hri.out p h g f (by omega) hg Hf.out) (Hcn.out.1 hc)
        go_wp2_with fail
        go_roundw
        case rel => exact ⟨h + 1, j, by omega, by omega, by go_num, rfl, Hl.out, Hhi.out, Hb1.out⟩
        case measure => simp [intOf]; omega
      · have hnl : ltS f.name nm = false := by
          cases hx : ltS f.name nm
          · rfl
          · exact absurd (Hcn.out.2 hx) hc
        have Hl : Hid (∀ p g, h ≤ p → xs[p]? = some g → ltS g.name nm = false) := fun p g hp hg => by
          by_cases hph : p = h
          · subst hph
            rw [Hf.out] at hg
            cases hg
            exact hnl
          · cases hx : ltS g.name nm
            · rfl
            · rw [ltS_trans (Hri.out h p f g (by omega) Hf.out hg) hx] at hnl
              cases hnl
        clear hnl
        go_wp2_with fail
        go_roundw
        case rel => exact ⟨i, h, by omega, by omega, rfl, rfl, Hlo.out, Hl.out, Hb1.out⟩
        case measure => simp [intOf]; omega
    · obtain rfl : i = j := by omega
      have Hne : Hid (∀ p g, p ≠ i → xs[p]? = some g → g.name ≠ nm) := fun p g hp hg e => by
        rcases Nat.lt_or_ge p i with hlt | hge
        · have := Hlo.out p g hlt hg
          rw [e, ltS_irr] at this
          cases this
        · by_cases hli : i < xs.length
          · have h3 := Hri.out i p xs[i] g (by omega) (List.getElem?_eq_getElem hli) hg
            rw [e] at h3
            rw [Hhi.out i xs[i] (Nat.le_refl _) (List.getElem?_eq_getElem hli)] at h3
            cases h3
          · have := lt_of_get hg
            omega
      by_cases hlen : i < xs.length
      · obtain ⟨f, hf⟩ : ∃ f, xs[i]? = some f := ⟨_, List.getElem?_eq_getElem hlen⟩
        obtain ⟨blk, off, At, ct, rfl, hblk, d0, d1, _⟩ := (HS.out.keepB hbl).purp i f hf
        have Hf := Lib.hid hf
        clear hf
        go_wp2_with fail
        ((with_reducible refine (purp1_any f At f.terms.length ct nm _).mono ?_); rintro e w1 ⟨rfl, hl_w1⟩)
        have hz_w1 := hl_w1.size
        have Hb1 : Hid (Below w.heap.size w w1) := hbl.trans (hl_w1.mono hsz)
        obtain ⟨cm, Hcm⟩ : ∃ cm, Hid (cmpS f.name nm = cm) := ⟨_, Lib.hid rfl⟩
        rw [Hcm.out]
        clear hl_w1 hz_w1 d0 d1
        go_wp2_with fail
        go_ret2
        refine ⟨i, (cm == 0), rfl, by omega, fun h => ⟨f, Hf.out, purpAt_some Hri.out i f Hf.out ((cmpS_zero _ _).1 (by rw [Hcm.out]; simpa using h))⟩, fun h => purpAt_none fun p hp e => ?_, Hb1.out⟩
        obtain ⟨q, hq⟩ := List.mem_iff_getElem?.1 hp
        by_cases hqi : q = i
        · subst hqi
          rw [Hf.out] at hq
          cases hq
          rw [← Hcm.out, (cmpS_zero _ _).2 e] at h
          cases h
        · exact Hne.out q p hqi hq e
      · go_wp2_with fail
        go_ret2
        refine ⟨i, false, rfl, by omega, (fun h => by cases h), fun _ => purpAt_none fun p hp e => ?_, hbl⟩
        obtain ⟨q, hq⟩ := List.mem_iff_getElem?.1 hp
        exact Hne.out q p (by have := lt_of_get hq; omega) hq e
end Go.Proofs.YthmkphmciiiagaaGreatDoor

/- What consent.purposeOf and termOf return on a right policy. -/
namespace Go.Proofs.YthmkphmciiiagaaGreatDoor
open Go.RowKit
/-- two results, the first of which lies in a cell -/
theorem results_cs {P : Program} {fn : Func} {t s : Tmp} {T : TypeId} {a : Addr} {v u : Value} {w : World} {tmps : Array Value} (h : fn.results = #[.cell t T, .tmp s]) (hp : tmps.getD t undef = .pointer (some a)) (hs : tmps.getD s undef = u) (hl : (loadVar T a).run P w = .ok v w) : (results fn tmps).run P w = .ok (.tuple #[v, u]) w := by
  have hp' : tmps[t]?.getD undef = .pointer (some a) := by simpa using hp
  have hs' : tmps[s]?.getD undef = u := by simpa using hs
  simp [results, h, asAddr, hp', hs', hl]
theorem loadP {w : World} {X : Nat} {a0 a1 : Value} (h : LV w X #[a0, a1] 75) : (loadVar 75 ⟨X, 0, none⟩).run Tryz.prog w = .ok (.agg #[a0, a1]) w := by
  have c0 := h.cell 0 _ rfl
  have c1 := h.cell 1 _ rfl
  go_simp
theorem loadT {w : World} {X : Nat} {t : PTerm} (h : tLV w X t) : (loadVar 99 ⟨X, 0, none⟩).run Tryz.prog w = .ok (tVal t) w := by
  have c0 := h.cell 0 _ rfl
  have c1 := h.cell 1 _ rfl
  have c2 := h.cell 2 _ rfl
  have c3 := h.cell 3 _ rfl
  have c4 := h.cell 4 _ rfl
  go_simp
/-- a purpose, or the empty one, and whether there is one -/
def GivesPurp (N : Nat → Prop) (o : Option Purp) (w : World) (e : Ending) (w' : World) : Prop :=
  ∃ (At : Option Addr) (ct : Nat), e = .returned (.tuple #[.agg #[.string (o.getD ⟨⟨#[]⟩, []⟩).name, .slice At (o.getD ⟨⟨#[]⟩, []⟩).terms.length ct], .bool o.isSome]) ∧ Sl rTerm N w' At (o.getD ⟨⟨#[]⟩, []⟩).terms ∧ Below w.heap.size w w'
set_option maxHeartbeats 4000000 in
set_option maxRecDepth 100000 in
theorem purposeOf_any (N : Nat → Prop) (A : Option Addr) (xs : List Purp) (nm : ByteArray) (c : Nat) (w : World) (hS : Sl rPurp N w A xs) (hn : xs.length ≤ 1000) (hri : RiseP xs) :
    Calls Tryz.prog 175 #[.slice A xs.length c, .string nm] w (GivesPurp N (purpAt xs nm) w) := by
  have hb0 : Below w.heap.size w (w.alloc (.cells #[.string ⟨#[]⟩, .slice none 0 0] 75)) := (Below.refl _ _).alloc (Nat.le_refl _) _
  have lv0 := LV.new w w.heap.size #[.string ⟨#[]⟩, .slice none 0 0] 75 rfl
  have HS := Lib.hid hS
  have Hb := Lib.hid (bsearchP_any N A xs nm c _ (hS.keepB hb0) hn hri)
  unfold GivesP at Hb
  clear hS
  generalize purpAt xs nm = o at *
  go_enter Tryz.func175, Tryz.ntmps175
  go_wp2_with fail
  ((with_reducible refine (Hb.out).mono ?_); rintro e w1 ⟨i, b, rfl, hi, hb1, hb2, hbl⟩)
  have lv1 := LV.kb3 lv0 hbl lv0.lt
  have HB1 : Hid (Below w.heap.size w w1) := hb0.trans (hbl.mono hb0.size)
  have Hb1 := Lib.hid hb1
  have Hb2 := Lib.hid hb2
  have x0 : w1.cell? ⟨w.heap.size, 0, none⟩ = some (.string ⟨#[]⟩) := lv1.cell 0 _ rfl
  have x1 : w1.cell? ⟨w.heap.size, 1, none⟩ = some (.slice none 0 0) := lv1.cell 1 _ rfl
  have f0 := lv1.free 0
  have f1 := lv1.free 1
  clear hb0 lv0 Hb hbl hb1 hb2
  cases b
  · obtain rfl : o = none := Hb2.out rfl
    go_wp2_with fail
    have l2 := (lv1.set 0 (.string ⟨#[]⟩) #[.string ⟨#[]⟩, .slice none 0 0] rfl).set 1 (.slice none 0 0) #[.string ⟨#[]⟩, .slice none 0 0] rfl
    exact bodyPost_ret (results_cs rfl rfl rfl (loadP l2)) rfl ⟨none, 0, rfl, Sl.nil, (HB1.out.setCell (p := ⟨w.heap.size, 0, none⟩) (Nat.le_refl _) _).setCell (p := ⟨w.heap.size, 1, none⟩) (Nat.le_refl _) _⟩
  · obtain ⟨p, hp, ho⟩ := Hb1.out rfl
    subst ho
    obtain ⟨blk, off, At, ct, rfl, hblk, e0, e1, hst⟩ := HS.out.purp i p hp
    have d0 := (HB1.out.cell (p := ⟨blk, off + i * 2, none⟩) hblk).trans e0
    have d1 := (HB1.out.cell (p := ⟨blk, off + i * 2 + 1, none⟩) hblk).trans e1
    clear e0 e1
    have hlt := lt_of_get hp
    have Hst := Lib.hid hst
    clear hst Hb1 Hb2 hp
    go_wp2_with fail
    have l2 := (lv1.set 0 (.string p.name) #[.string p.name, .slice none 0 0] rfl).set 1 (.slice At p.terms.length ct) #[.string p.name, .slice At p.terms.length ct] rfl
    have HB3 := (HB1.out.setCell (p := ⟨w.heap.size, 0, none⟩) (Nat.le_refl _) (.string p.name)).setCell (p := ⟨w.heap.size, 1, none⟩) (Nat.le_refl _) (.slice At p.terms.length ct)
    exact bodyPost_ret (results_cs rfl rfl rfl (loadP l2)) rfl ⟨At, ct, rfl, Sl.keepB Hst.out HB3, HB3⟩
abbrev byT (rg : ByteArray) (ch : Int) (t : PTerm) : Bool := (t.region.toList == rg.toList) && decide (t.channel = ch)
theorem byT_iff (rg : ByteArray) (ch : Int) (t : PTerm) : byT rg ch t = true ↔ t.region = rg ∧ t.channel = ch := by
  rw [byT, Bool.and_eq_true, decide_eq_true_eq]
  refine and_congr_left fun _ => ⟨fun h2 => ?_, fun h => by rw [h]; simp⟩
  rw [ByteArray.toList_eq, ByteArray.toList_eq] at h2
  exact WideShapes.bytes_inj (by simpa using h2)
/-- the term of a region and a channel -/
def findT (ts : List PTerm) (rg : ByteArray) (ch : Int) : Option PTerm := ts.find? (byT rg ch)
theorem tCmp_zero (a b : PTerm) : tCmp a b = 0 ↔ a.region = b.region ∧ a.channel = b.channel := by
  unfold tCmp
  by_cases h : cmpS a.region b.region = 0
  · rw [if_neg (not_not_intro h)]
    have e := (cmpS_zero _ _).1 h
    unfold Lib.compareInt
    constructor
    · intro h2
      refine ⟨e, ?_⟩
      split at h2
      · cases h2
      · split at h2
        · cases h2
        · omega
    · rintro ⟨_, h2⟩
      rw [h2]
      simp
  · rw [if_pos h]
    exact ⟨fun h2 => absurd h2 h, fun ⟨h2, _⟩ => absurd ((cmpS_zero _ _).2 h2) h⟩
theorem tCmp_congr {a b c : PTerm} (h : b.region = c.region ∧ b.channel = c.channel) : tCmp a b = tCmp a c := by unfold tCmp; rw [h.1, h.2]
theorem findT_some {ts : List PTerm} {t : PTerm} (hr : RiseT ts) (k : Nat) (s : PTerm) (hk : ts[k]? = some s) (h0 : tCmp s t = 0) : findT ts t.region t.channel = some s := by
  unfold findT
  rw [List.find?_eq_some_iff_getElem]
  obtain ⟨hlt, rfl⟩ := List.getElem?_eq_some_iff.1 hk
  refine ⟨(byT_iff _ _ _).2 ((tCmp_zero _ _).1 h0), k, hlt, rfl, fun j hj => ?_⟩
  simp only [Bool.not_eq_true', Bool.eq_false_iff]
  intro h
  have h1 := hr j k ts[j] ts[k] hj (List.getElem?_eq_getElem (by omega)) hk
  have h2 := (byT_iff _ _ _).1 h
  have h3 := (tCmp_zero _ _).1 h0
  rw [(tCmp_zero _ _).2 ⟨h2.1.trans h3.1.symm, h2.2.trans h3.2.symm⟩] at h1
  omega
theorem findT_none {ts : List PTerm} {t : PTerm} (h : ∀ s ∈ ts, tCmp s t ≠ 0) : findT ts t.region t.channel = none := by
  unfold findT
  rw [List.find?_eq_none]
  exact fun s hs hb => h s hs ((tCmp_zero _ _).2 ((byT_iff _ _ _).1 hb))
/-- where a term stands, or would stand -/
def GivesT (ts : List PTerm) (t : PTerm) (w : World) (e : Ending) (w' : World) : Prop :=
  ∃ (i : Nat) (b : Bool), e = .returned (.tuple #[.int .i64 i, .bool b]) ∧ i ≤ ts.length ∧ (b = true → ∃ s, ts[i]? = some s ∧ findT ts t.region t.channel = some s) ∧ (b = false → findT ts t.region t.channel = none) ∧ Below w.heap.size w w'
set_option maxHeartbeats 4000000 in
set_option maxRecDepth 100000 in
theorem bsearchT_any (N : Nat → Prop) (A : Option Addr) (xs : List PTerm) (t : PTerm) (c : Nat) (w : World) (hS : Sl rTerm N w A xs) (hn : xs.length ≤ 1000) (hri : RiseT xs) :
    Calls Tryz.prog 208 #[.slice A xs.length c, tVal t, .func (.func 209) #[] #[]] w (GivesT xs t w) := by
  have hb0 : Below w.heap.size w (w.alloc (.cells #[.string t.region, .int .i64 t.channel, .bool t.free, .int .i64 t.days, .int .i64 t.wait] 99)) := (Below.refl _ _).alloc (Nat.le_refl _) _
  have lv0 : tLV _ w.heap.size t := LV.new w w.heap.size #[.string t.region, .int .i64 t.channel, .bool t.free, .int .i64 t.days, .int .i64 t.wait] 99 rfl
  have HS := Lib.hid (hS.keepB hb0)
  have Hri := Lib.hid hri
  clear hS hri
  go_enter Tryz.func208, Tryz.ntmps208
  go_wp2_with fail
  generalize hW : w.alloc (.cells #[.string t.region, .int .i64 t.channel, .bool t.free, .int .i64 t.days, .int .i64 t.wait] 99) = W at *
  obtain ⟨Y, hY⟩ : ∃ Y, Y = w.heap.size := ⟨_, rfl⟩
  rw [← hY] at lv0 ⊢
  have HY := Lib.hid hY
  clear hY hW
  go_loopw [9, 10] (fun a b wr => ∃ i j : Nat, i ≤ j ∧ j ≤ xs.length ∧ a = .int .i64 i ∧ b = .int .i64 j ∧ (∀ p f, p < i → xs[p]? = some f → tCmp f t < 0) ∧ (∀ p f, j ≤ p → xs[p]? = some f → 0 ≤ tCmp f t) ∧ Below W.heap.size W wr) (fun a b _ => (intOf b - intOf a).toNat)
  case atStart => exact ⟨0, xs.length, by omega, by omega, rfl, rfl, (fun p f h => by omega), (fun p f h hp => by rw [List.getElem?_eq_none h] at hp; cases hp), Below.refl _ _⟩
  case round =>
    obtain ⟨i, j, hij, hj, rfl, rfl, hlo, hhi, hbl⟩ := hrel
    have Hlo := Lib.hid hlo
    have Hhi := Lib.hid hhi
    have hsz := hbl.size
    have lvr : tLV wr Y t := LV.kb3 lv0 hbl lv0.lt
    have hSr := HS.out.keepB hbl
    clear hlo hhi
    by_cases hlt : i < j
    · obtain ⟨h, hh⟩ : ∃ h : Nat, h = (i + j) / 2 := ⟨_, rfl⟩
      have h1 : i ≤ h := by omega
      have h2 : h < j := by omega
      have eh : ((i : Int) + (j : Int)) / 2 = (h : Int) := by omega
      clear hh
      obtain ⟨f, hf⟩ : ∃ f, xs[h]? = some f := ⟨_, List.getElem?_eq_getElem (by omega)⟩
      obtain ⟨blk, off, rfl, _, _⟩ := hSr.term h f hf
      have Hf := Lib.hid hf
      clear hf
      go_wp2_with fail
      refine wp_region_mix (fun w' => tLV w' Y t ∧ Sl rTerm N w' (some ⟨blk, off, none⟩) xs) [(true, 0), (true, 1), (true, 2), (true, 3), (true, 4), (true, 5), (false, 6), (true, 7)] (by kernel_rfl) (by kernel_rfl) (fun w' hd => ⟨LV.kb3 lvr (hd.below _) lvr.lt, Sl.keepB hSr (hd.below _)⟩) (fun KK hKK wd hd => ?_)
      have hC : tLV wd Y t ∧ Sl rTerm N wd (some ⟨blk, off, none⟩) xs := ⟨LV.kb3 lvr (hd.below _) lvr.lt, Sl.keepB hSr (hd.below _)⟩
      have Hbd : Hid (Below W.heap.size W wd) := hbl.trans ((hd.below _).mono hsz)
      clear hd lvr hSr hbl
      repeat (refine mix_p rfl (fun K hK => ?_); go_simp; (try go_bits); (try simp (disch := omega) only [if_pos]); (try simp (disch := omega) only [if_neg]); (try simp (disch := omega) only [dif_pos]); (try simp (disch := omega) only [dif_neg]); (try go_simp); (refine hK _ ?_; clear hK K))
      refine mix_loadR (tVal f) rfl rfl rfl rfl (fun w' hw => hw.2.ldTerm h f Hf.out) ?_
      refine mix_loadR (tVal t) rfl rfl rfl rfl (fun w' hw => tLV.load hw.1) ?_
      refine mix_l rfl (fun K hK => ?_) hC
      have Hto := Lib.hid (termOrder_any f t wd)
      have Hlt3 : Hid (∀ p g, p < h → xs[p]? = some g → tCmp g f < 0) := fun p g hp hg => Hri.out p h g f hp hg Hf.out
      have Hgt3 : Hid (∀ p g, h < p → xs[p]? = some g → tCmp f g < 0) := fun p g hp hg => Hri.out h p f g hp Hf.out hg
      obtain ⟨cm, Hcm⟩ : ∃ cm, Hid (tCmp f t = cm) := ⟨_, Lib.hid rfl⟩
      rw [Hcm.out] at Hto
      go_wp2_with fail
      ((with_reducible refine (Hto.out).mono ?_); rintro e w2 ⟨rfl, hl2⟩)
      have hC2 : tLV w2 Y t ∧ Sl rTerm N w2 (some ⟨blk, off, none⟩) xs := ⟨LV.kb3 hC.1 hl2 hC.1.lt, Sl.keepB hC.2 hl2⟩
      have Hb2 : Hid (Below W.heap.size W w2) := Hbd.out.trans (hl2.mono Hbd.out.size)
      clear hl2 hC Hbd Hto
      go_wp2_with fail
      refine ⟨hC2, ?_⟩
      repeat (refine mix_p rfl (fun K hK => ?_); go_simp; (try go_bits); (try simp (disch := omega) only [if_pos]); (try simp (disch := omega) only [if_neg]); (try simp (disch := omega) only [dif_pos]); (try simp (disch := omega) only [dif_neg]); (try go_simp); (refine hK _ ?_; clear hK K))
      refine mix_nil ?_
      simp only [Exit.then]
      refine hKK _ _ ?_
      clear hC2
      by_cases hc : cm < 0
      · have Hl : Hid (∀ p g, p < h + 1 → xs[p]? = some g → tCmp g t < 0) := fun p g hp hg => by
          by_cases hph : p = h
          · subst hph
            rw [Hf.out] at hg
            cases hg
            rw [Hcm.out]
            exact hc
          · exact tCmp_neg_trans (Hlt3.out p g (by omega) hg) (by rw [Hcm.out]; exact hc)
        go_wp2_with fail
        go_roundw
        case rel => exact ⟨h + 1, j, by omega, by omega, by go_num, rfl, Hl.out, Hhi.out, Hb2.out⟩
        case measure => simp [intOf]; omega
      · have Hl : Hid (∀ p g, h ≤ p → xs[p]? = some g → 0 ≤ tCmp g t) := fun p g hp hg => by
          rcases Int.lt_or_le (tCmp g t) 0 with hx | hx
          case inr => exact hx
          exfalso
          by_cases hph : p = h
          · subst hph
            rw [Hf.out] at hg
            cases hg
            rw [Hcm.out] at hx
            exact hc hx
          · have := tCmp_neg_trans (Hgt3.out p g (by omega) hg) hx
            rw [Hcm.out] at this
            exact hc this
        go_wp2_with fail
        go_roundw
        case rel => exact ⟨i, h, by omega, by omega, rfl, rfl, Hlo.out, Hl.out, Hb2.out⟩
        case measure => simp [intOf]; omega
    · obtain rfl : i = j := by omega
      have Hne : Hid (∀ p g, p ≠ i → xs[p]? = some g → tCmp g t ≠ 0) := fun p g hp hg e => by
        rcases Nat.lt_or_ge p i with hlt | hge
        · have := Hlo.out p g hlt hg
          omega
        · by_cases hli : i < xs.length
          · have h3 := Hri.out i p xs[i] g (by omega) (List.getElem?_eq_getElem hli) hg
            rw [tCmp_congr ((tCmp_zero _ _).1 e)] at h3
            have := Hhi.out i xs[i] (Nat.le_refl _) (List.getElem?_eq_getElem hli)
            omega
          · have := lt_of_get hg
            omega
      by_cases hlen : i < xs.length
      · obtain ⟨f, hf⟩ : ∃ f, xs[i]? = some f := ⟨_, List.getElem?_eq_getElem hlen⟩
        obtain ⟨blk, off, rfl, _, _⟩ := hSr.term i f hf
        have Hf := Lib.hid hf
        clear hf
        go_wp2_with fail
        refine wp_region_mix (fun w' => tLV w' Y t ∧ Sl rTerm N w' (some ⟨blk, off, none⟩) xs) [(true, 0), (true, 1), (true, 2), (true, 3), (true, 4), (true, 5), (true, 6), (true, 7), (true, 8), (true, 9), (true, 10), (false, 11), (true, 12), (true, 13), (true, 14), (true, 15)] (by kernel_rfl) (by kernel_rfl) (fun w' hd => ⟨LV.kb3 lvr (hd.below _) lvr.lt, Sl.keepB hSr (hd.below _)⟩) (fun KK hKK wd hd => ?_)
        have hC : tLV wd Y t ∧ Sl rTerm N wd (some ⟨blk, off, none⟩) xs := ⟨LV.kb3 lvr (hd.below _) lvr.lt, Sl.keepB hSr (hd.below _)⟩
        have Hbd : Hid (Below W.heap.size W wd) := hbl.trans ((hd.below _).mono hsz)
        clear hd lvr hSr hbl
        repeat (refine mix_p rfl (fun K hK => ?_); go_simp; (try go_bits); (try simp (disch := omega) only [if_pos]); (try simp (disch := omega) only [if_neg]); (try simp (disch := omega) only [dif_pos]); (try simp (disch := omega) only [dif_neg]); (try go_simp); (refine hK _ ?_; clear hK K))
        refine mix_loadG (tVal f) rfl (by simp [Region.wanted, yielded, go_sem]) rfl rfl (fun w' hw => hw.2.ldTerm i f Hf.out) ?_
        refine mix_loadG (tVal t) rfl (by simp [Region.wanted, yielded, go_sem]) rfl rfl (fun w' hw => tLV.load hw.1) ?_
        refine mix_l rfl (fun K hK => ?_) hC
        have Hto := Lib.hid (termOrder_any f t wd)
        obtain ⟨cm, Hcm⟩ : ∃ cm, Hid (tCmp f t = cm) := ⟨_, Lib.hid rfl⟩
        rw [Hcm.out] at Hto
        go_wp2_with fail
        ((with_reducible refine (Hto.out).mono ?_); rintro e w2 ⟨rfl, hl2⟩)
        have hC2 : tLV w2 Y t ∧ Sl rTerm N w2 (some ⟨blk, off, none⟩) xs := ⟨LV.kb3 hC.1 hl2 hC.1.lt, Sl.keepB hC.2 hl2⟩
        have Hb2 : Hid (Below W.heap.size W w2) := Hbd.out.trans (hl2.mono Hbd.out.size)
        clear hl2 hC Hbd Hto
        go_wp2_with fail
        refine ⟨hC2, ?_⟩
        repeat (refine mix_p rfl (fun K hK => ?_); go_simp; (try go_bits); (try simp (disch := omega) only [if_pos]); (try simp (disch := omega) only [if_neg]); (try simp (disch := omega) only [dif_pos]); (try simp (disch := omega) only [dif_neg]); (try go_simp); (refine hK _ ?_; clear hK K))
        refine mix_nil ?_
        simp only [Exit.then]
        refine hKK _ _ ?_
        clear hC2
        go_wp2_with fail
        go_ret2
        refine ⟨i, (cm == 0), rfl, by omega, fun h => ⟨f, Hf.out, findT_some Hri.out i f Hf.out (by rw [Hcm.out]; simpa using h)⟩, fun h => findT_none fun p hp e => ?_, hb0.trans (Hb2.out.mono hb0.size)⟩
        obtain ⟨q, hq⟩ := List.mem_iff_getElem?.1 hp
        by_cases hqi : q = i
        · subst hqi
          rw [Hf.out] at hq
          cases hq
          rw [← Hcm.out, e] at h
          cases h
        · exact Hne.out q p hqi hq e
      · go_wp2_with fail
        refine wp_region_mix (fun _ => True) [(true, 0), (true, 1), (true, 2), (true, 3), (true, 4), (true, 5), (true, 6), (true, 7), (true, 8), (true, 9), (true, 10), (false, 11), (true, 12), (true, 13), (true, 14), (true, 15)] (by kernel_rfl) (by kernel_rfl) (fun _ _ => trivial) (fun KK hKK wd hd => ?_)
        have Hbd : Hid (Below W.heap.size W wd) := hbl.trans ((hd.below _).mono hsz)
        clear hd lvr hSr hbl
        repeat (refine mix_p rfl (fun K hK => ?_); go_simp; (try go_bits); (try simp (disch := omega) only [if_pos]); (try simp (disch := omega) only [if_neg]); (try simp (disch := omega) only [dif_pos]); (try simp (disch := omega) only [dif_neg]); (try go_simp); (refine hK _ ?_; clear hK K))
        refine mix_l rfl (fun K hK => ?_) trivial
        go_wp2_with fail
        refine ⟨trivial, ?_⟩
        repeat (refine mix_p rfl (fun K hK => ?_); go_simp; (try go_bits); (try simp (disch := omega) only [if_pos]); (try simp (disch := omega) only [if_neg]); (try simp (disch := omega) only [dif_pos]); (try simp (disch := omega) only [dif_neg]); (try go_simp); (refine hK _ ?_; clear hK K))
        refine mix_nil ?_
        simp only [Exit.then]
        refine hKK _ _ ?_
        go_wp2_with fail
        go_ret2
        refine ⟨i, false, rfl, by omega, (fun h => by cases h), fun _ => findT_none fun p hp e => ?_, hb0.trans (Hbd.out.mono hb0.size)⟩
        obtain ⟨q, hq⟩ := List.mem_iff_getElem?.1 hp
        exact Hne.out q p (by have := lt_of_get hq; omega) hq e
end Go.Proofs.YthmkphmciiiagaaGreatDoor

/- What consent.termOf and TermOf return. -/
namespace Go.Proofs.YthmkphmciiiagaaGreatDoor
open Go.RowKit
abbrev pZero : Purp := ⟨⟨#[]⟩, []⟩
abbrev tZero : PTerm := ⟨⟨#[]⟩, 0, false, 0, 0⟩
/-- the term of a purpose -/
def termAt (xs : List Purp) (nm rg : ByteArray) (ch : Int) : Option PTerm := (purpAt xs nm).bind (fun p => findT p.terms rg ch)
theorem purpAt_mem {xs : List Purp} {nm : ByteArray} {p : Purp} (h : purpAt xs nm = some p) : p ∈ xs := List.mem_of_find?_eq_some h
theorem purp_rise {xs : List Purp} (hg : GoodPol xs) (nm : ByteArray) : RiseT ((purpAt xs nm).getD pZero).terms ∧ ((purpAt xs nm).getD pZero).terms.length ≤ 160 := by
  cases h : purpAt xs nm with
  | none => exact ⟨fun _ _ _ _ _ h => by simp at h, by simp⟩
  | some p => exact ⟨(hg.ps p (purpAt_mem h)).rise, (hg.ps p (purpAt_mem h)).len⟩
theorem termAt_is (xs : List Purp) (nm rg : ByteArray) (ch : Int) : termAt xs nm rg ch = findT ((purpAt xs nm).getD pZero).terms rg ch := by
  unfold termAt
  cases purpAt xs nm with
  | none => rfl
  | some p => rfl
/-- a term is written into this block -/
abbrev fillT (w : World) (X : Nat) (t : PTerm) : World := ((((w.setCell ⟨X, 0, none⟩ (.string t.region)).setCell ⟨X, 1, none⟩ (.int .i64 t.channel)).setCell ⟨X, 2, none⟩ (.bool t.free)).setCell ⟨X, 3, none⟩ (.int .i64 t.days)).setCell ⟨X, 4, none⟩ (.int .i64 t.wait)
theorem tLV.fill {w : World} {X : Nat} {s : PTerm} (h : tLV w X s) (t : PTerm) : tLV (fillT w X t) X t :=
  ((((h.set 0 (.string t.region) _ rfl).set 1 (.int .i64 t.channel) _ rfl).set 2 (.bool t.free) _ rfl).set 3 (.int .i64 t.days) _ rfl).set 4 (.int .i64 t.wait) _ rfl
theorem below_fillT {B : Nat} {w0 w : World} (h : Below B w0 w) {X : Nat} (hX : B ≤ X) (t : PTerm) : Below B w0 (fillT w X t) :=
  ((((h.setCell (p := ⟨X, 0, none⟩) hX _).setCell (p := ⟨X, 1, none⟩) hX _).setCell (p := ⟨X, 2, none⟩) hX _).setCell (p := ⟨X, 3, none⟩) hX _).setCell (p := ⟨X, 4, none⟩) hX _
set_option maxHeartbeats 4000000 in
set_option maxRecDepth 100000 in
theorem termOf_any (N : Nat → Prop) (A : Option Addr) (xs : List Purp) (nm rg : ByteArray) (ch : Int) (c : Nat) (w : World) (hS : Sl rPurp N w A xs) (hg : GoodPol xs) :
    Calls Tryz.prog 134 #[.slice A xs.length c, .string nm, .string rg, .int .i64 ch] w fun e w' => e = .returned (.tuple #[tVal ((termAt xs nm rg ch).getD tZero), .bool (termAt xs nm rg ch).isSome]) ∧ Below w.heap.size w w' := by
  have hb0 : Below w.heap.size w (w.alloc (.cells #[.string ⟨#[]⟩, .int .i64 0, .bool false, .int .i64 0, .int .i64 0] 99)) := (Below.refl _ _).alloc (Nat.le_refl _) _
  have lv0 : tLV _ w.heap.size tZero := LV.new w w.heap.size #[.string ⟨#[]⟩, .int .i64 0, .bool false, .int .i64 0, .int .i64 0] 99 rfl
  have Hp := Lib.hid (purposeOf_any N A xs nm c _ (hS.keepB hb0) (by have := hg.len; omega) hg.rise)
  have Hri := Lib.hid (purp_rise hg nm)
  obtain ⟨o, HO⟩ : ∃ o, Hid (termAt xs nm rg ch = o) := ⟨_, Lib.hid rfl⟩
  have HO2 : Hid (findT ((purpAt xs nm).getD pZero).terms rg ch = o) := by show _ = _; rw [← HO.out, termAt_is]
  rw [HO.out]
  generalize hoP : purpAt xs nm = oP at *
  clear HO hS hg hoP
  go_enter Tryz.func134, Tryz.ntmps134
  go_wp2_with fail
  ((with_reducible refine (Hp.out).mono ?_); rintro e w1 ⟨At, ct, rfl, hst, hbl⟩)
  have lv1 : tLV w1 w.heap.size tZero := LV.kb3 lv0 hbl lv0.lt
  have HB1 : Hid (Below w.heap.size w w1) := hb0.trans (hbl.mono hb0.size)
  clear lv0 hb0 Hp hbl
  generalize oP.getD pZero = p at *
  generalize oP.isSome = b at *
  have hb1 : Below w1.heap.size w1 (w1.alloc (.cells #[.string p.name, .slice At p.terms.length ct] 75)) := (Below.refl _ _).alloc (Nat.le_refl _) _
  have lvP := LV.new w1 w1.heap.size #[.string p.name, .slice At p.terms.length ct] 75 rfl
  have lv2 : tLV _ w.heap.size tZero := LV.kb3 lv1 hb1 lv1.lt
  have HB2 : Hid (Below w.heap.size w (w1.alloc (.cells #[.string p.name, .slice At p.terms.length ct] 75))) := HB1.out.alloc HB1.out.size _
  have Hst := Lib.hid (hst.keepB hb1)
  clear hst hb1 lv1
  go_upto_region 2 with fail
  generalize hw2 : w1.alloc (.cells #[.string p.name, .slice At p.terms.length ct] 75) = w2 at *
  obtain ⟨Y, hY⟩ : ∃ Y, Y = w1.heap.size := ⟨_, rfl⟩
  rw [← hY] at lvP ⊢
  clear hY hw2
  have c1 : w2.cell? ⟨Y, 1, none⟩ = some (.slice At p.terms.length ct) := lvP.cell 1 _ rfl
  have Hb := Lib.hid (bsearchT_any N At p.terms ⟨rg, ch, false, 0, 0⟩ ct w2 Hst.out (by have := Hri.out.2; omega) Hri.out.1)
  unfold GivesT at Hb
  rw [HO2.out] at Hb
  go_wp2_with fail
  ((with_reducible refine (Hb.out).mono ?_); rintro e w3 ⟨i, q, rfl, hi, hq1, hq2, hbl⟩)
  have lv3 : tLV w3 w.heap.size tZero := LV.kb3 lv2 hbl lv2.lt
  have lvP3 := LV.kb3 lvP hbl lvP.lt
  have HB3 : Hid (Below w.heap.size w w3) := HB2.out.trans (hbl.mono HB2.out.size)
  have Hst3 := Lib.hid (Sl.keepB Hst.out hbl)
  have Hq1 := Lib.hid hq1
  have Hq2 := Lib.hid hq2
  have x0 : w3.cell? ⟨w.heap.size, 0, none⟩ = some (.string ⟨#[]⟩) := lv3.cell 0 _ rfl
  have x1 : w3.cell? ⟨w.heap.size, 1, none⟩ = some (.int .i64 0) := lv3.cell 1 _ rfl
  have x2 : w3.cell? ⟨w.heap.size, 2, none⟩ = some (.bool false) := lv3.cell 2 _ rfl
  have x3 : w3.cell? ⟨w.heap.size, 3, none⟩ = some (.int .i64 0) := lv3.cell 3 _ rfl
  have x4 : w3.cell? ⟨w.heap.size, 4, none⟩ = some (.int .i64 0) := lv3.cell 4 _ rfl
  have f0 := lv3.free 0
  have f1 := lv3.free 1
  have f2 := lv3.free 2
  have f3 := lv3.free 3
  have f4 := lv3.free 4
  have y1 : w3.cell? ⟨Y, 1, none⟩ = some (.slice At p.terms.length ct) := lvP3.cell 1 _ rfl
  clear hbl hq1 hq2 c1 Hb lv2 lvP lvP3 Hst HB2
  cases q
  · obtain rfl : o = none := Hq2.out rfl
    clear Hq1 Hq2 HO2
    go_wp2_with fail
    exact bodyPost_ret (results_cs rfl rfl rfl (loadT (tLV.fill lv3 tZero))) rfl ⟨rfl, below_fillT HB3.out (Nat.le_refl _) tZero⟩
  · obtain ⟨t, ht, rfl⟩ := Hq1.out rfl
    obtain ⟨blk, off, rfl, hblk, d0, d1, d2, d3, d4⟩ := Hst3.out.term i t ht
    have hlt := lt_of_get ht
    clear Hq1 Hq2 HO2 ht
    go_wp2_with fail
    exact bodyPost_ret (results_cs rfl rfl rfl (loadT (tLV.fill lv3 t))) rfl ⟨rfl, below_fillT HB3.out (Nat.le_refl _) t⟩
def termErr (xs : List Purp) (nm rg : ByteArray) (ch : Int) : Int := if policyFault xs ≠ 0 then policyFault xs else if hasP xs nm = false then 8 else if isCh ch = false then 4 else if (termAt xs nm rg ch).isSome = false then 16 else 0
def termRes (xs : List Purp) (nm rg : ByteArray) (ch : Int) : PTerm := if termErr xs nm rg ch = 0 then (termAt xs nm rg ch).getD tZero else tZero
/-- the answer as its parts say it -/
structure TermSays (F : Int) (P C : Bool) (o : Option PTerm) (E : Int) (T : PTerm) : Prop where
  e : E = if F ≠ 0 then F else if P = false then 8 else if C = false then 4 else if o.isSome = false then 16 else 0
  t : T = if E = 0 then o.getD tZero else tZero
theorem termSays (xs : List Purp) (nm rg : ByteArray) (ch : Int) : TermSays (policyFault xs) (hasP xs nm) (isCh ch) (termAt xs nm rg ch) (termErr xs nm rg ch) (termRes xs nm rg ch) := ⟨rfl, rfl⟩
theorem TermSays.one {F : Int} {P C : Bool} {o : Option PTerm} {E : Int} {T : PTerm} (h : TermSays F P C o E T) (hF : F ≠ 0) : E = F ∧ T = tZero := by
  have e : E = F := by rw [h.e, if_pos hF]
  exact ⟨e, by rw [h.t, if_neg (by rw [e]; exact hF)]⟩
theorem TermSays.two {C : Bool} {o : Option PTerm} {E : Int} {T : PTerm} (h : TermSays 0 false C o E T) : E = 8 ∧ T = tZero := by
  have e : E = 8 := by rw [h.e]; rfl
  exact ⟨e, by rw [h.t, e]; rfl⟩
theorem TermSays.three {o : Option PTerm} {E : Int} {T : PTerm} (h : TermSays 0 true false o E T) : E = 4 ∧ T = tZero := by
  have e : E = 4 := by rw [h.e]; rfl
  exact ⟨e, by rw [h.t, e]; rfl⟩
theorem TermSays.four {E : Int} {T : PTerm} (h : TermSays 0 true true none E T) : E = 16 ∧ T = tZero := by
  have e : E = 16 := by rw [h.e]; rfl
  exact ⟨e, by rw [h.t, e]; rfl⟩
theorem TermSays.five {t : PTerm} {E : Int} {T : PTerm} (h : TermSays 0 true true (some t) E T) : E = 0 ∧ T = t := by
  have e : E = 0 := by rw [h.e]; rfl
  exact ⟨e, by rw [h.t, e]; rfl⟩
end Go.Proofs.YthmkphmciiiagaaGreatDoor

/- What handref2.PolicyFault returns. -/
namespace Go.Proofs.YthmkphmciiiagaaGreatDoor
open Go.RowKit
theorem key_ne {s : ByteArray} (h : L.isKey s = true) : s ≠ ⟨#[]⟩ := by
  rintro rfl
  revert h
  decide +kernel
theorem ltS_nil (s : ByteArray) : ltS s ⟨#[]⟩ = false := by
  unfold ltS
  cases h : s.toList <;> simp [Op.bytesLess]
/-- what the reference keeps of the term ahead: none is the empty region -/
def Last (o : Option PTerm) (rg : ByteArray) (ch : Int) : Prop := match o with | none => rg = ⟨#[]⟩ ∧ ch = 0 | some p => rg = p.region ∧ ch = p.channel
/-- the reference's order of terms is the program's -/
theorem last_ord {o : Option PTerm} {rg : ByteArray} {ch : Int} {t : PTerm} (h : Last o rg ch) (hk : L.isKey t.region = true) : o.any (fun p => decide (0 ≤ tCmp p t)) = (ltS t.region rg || ((t.region.toList == rg.toList) && decide (t.channel ≤ ch))) := by
  cases o with
  | none =>
    obtain ⟨rfl, rfl⟩ := h
    have e : (t.region.toList == (⟨#[]⟩ : ByteArray).toList) = false := by
      rw [Bool.eq_false_iff]
      intro h2
      refine key_ne hk ?_
      rw [ByteArray.toList_eq, ByteArray.toList_eq] at h2
      exact WideShapes.bytes_inj (by simpa using h2)
    rw [ltS_nil, e]
    rfl
  | some p =>
    obtain ⟨rfl, rfl⟩ := h
    rw [Option.any_some, Bool.eq_iff_iff]
    simp only [decide_eq_true_eq, Bool.or_eq_true, Bool.and_eq_true]
    rw [tCmp_le]
    have : (t.region.toList == p.region.toList) = true ↔ t.region = p.region := ⟨fun h2 => by
      rw [ByteArray.toList_eq, ByteArray.toList_eq] at h2
      exact WideShapes.bytes_inj (by simpa using h2), fun h => by rw [h]; simp⟩
    rw [this]
def LastN (o : Option ByteArray) (nm : ByteArray) : Prop := match o with | none => nm = ⟨#[]⟩ | some p => nm = p
theorem lastN_ord {o : Option ByteArray} {nm n : ByteArray} (h : LastN o nm) (hk : L.isKey n = true) : o.any (fun q => leS n q) = leS n nm := by
  cases o with
  | none =>
    obtain rfl : nm = ⟨#[]⟩ := h
    have e : (n.toList == (⟨#[]⟩ : ByteArray).toList) = false := by
      rw [Bool.eq_false_iff]
      intro h2
      refine key_ne hk ?_
      rw [ByteArray.toList_eq, ByteArray.toList_eq] at h2
      exact WideShapes.bytes_inj (by simpa using h2)
    have := ltS_nil n
    unfold ltS at this
    rw [leS, this, e]
    rfl
  | some p =>
    obtain rfl : nm = p := h
    rfl
/-- what one purpose's terms have left to say -/
theorem terms_split {xs : List PTerm} (h : ¬ 160 < xs.length) : termsFault xs = termsGo none xs := by rw [termsFault, if_neg h]
theorem policyGo_stop {prev : Option ByteArray} {p : Purp} {r : List Purp} {R F : Int} (h : policyGo prev (p :: r) = R) (hk : L.isKey p.name = true) (h2 : prev.any (fun q => leS p.name q) = false) (hF : termsFault p.terms = F) : (if F ≠ 0 then F else policyGo (some p.name) r) = R := by rw [← hF, ← policyGo_go hk h2]; exact h
set_option maxHeartbeats 4000000 in
set_option maxRecDepth 100000 in
theorem policyFault_any (N : Nat → Prop) (A : Option Addr) (xs : List Purp) (c : Nat) (w : World) (hS : Sl rPurp N w A xs) (hok : PolOk xs) :
    Calls Tryz.prog 37 #[.slice A xs.length c] w fun e w' => e = .returned (.int .i64 (policyFault xs)) ∧ Below w.heap.size w w' := by
  have HS := Lib.hid hS
  have Hok := Lib.hid hok
  have hln := hok.len
  clear hS hok
  obtain ⟨R, HR⟩ : ∃ R, Hid (policyFault xs = R) := ⟨_, Lib.hid rfl⟩
  rw [HR.out]
  by_cases h0 : xs.length = 0
  · go_enter Tryz.func37, Tryz.ntmps37
    have h0' : ((xs.length : Int) == 0) = true := by simpa using h0
    go_wp2_with fail
    go_ret
    exact ⟨ret_i (by rw [← HR.out, policyFault, if_pos h0]), Below.refl _ _⟩
  have h0' : ((xs.length : Int) == 0) = false := by simpa using h0
  by_cases h20 : 30 < xs.length
  · go_enter Tryz.func37, Tryz.ntmps37
    go_wp2_with fail
    go_ret
    exact ⟨ret_i (by rw [← HR.out, policyFault, if_neg h0, if_pos h20]), Below.refl _ _⟩
  · have HR2 : Hid (policyGo none xs = R) := by show _ = _; rw [← HR.out, policyFault, if_neg h0, if_neg h20]
    clear HR
    go_enter Tryz.func37, Tryz.ntmps37
    go_wp2_with fail
    go_loopw [3, 18] (fun s3 i wr => ∃ (k : Nat) (nm : ByteArray), k ≤ xs.length ∧ i = .int .i64 k ∧ s3 = .string nm ∧ LastN ((ahd xs k).map Purp.name) nm ∧ policyGo ((ahd xs k).map Purp.name) (xs.drop k) = R ∧ Below w.heap.size w wr) (fun _ i _ => xs.length - (intOf i).toNat)
    case atStart => exact ⟨0, _, Nat.zero_le _, rfl, rfl, rfl, HR2.out, Below.refl _ _⟩
    case round =>
      clear HR2
      obtain ⟨k, nm, hk, rfl, rfl, hl, hr, hbl⟩ := hrel
      have Hr := Lib.hid hr
      have Hl := Lib.hid hl
      clear hr hl
      by_cases hlt : k < xs.length
      · obtain ⟨p, hf⟩ : ∃ p, xs[k]? = some p := ⟨_, List.getElem?_eq_getElem hlt⟩
        have hSr := HS.out.keepB hbl
        have hfs1 : p.name.size ≤ 1000000000 := Hok.out.nm p (List.mem_of_getElem? hf)
        have Hstep : Hid (policyGo ((ahd xs k).map Purp.name) (p :: xs.drop (k + 1)) = R) := by show _ = _; rw [← Hr.out, drop_at3 hf]
        have Hf := Lib.hid hf
        obtain ⟨blk, off, At, ct, rfl, hblk, d0, d1, hst⟩ := hSr.purp k p hf
        clear Hr hf hSr
        have hb0 : Below wr.heap.size wr (wr.alloc (.cells #[.string p.name, .slice At p.terms.length ct] 75)) := (Below.refl _ _).alloc (Nat.le_refl _) _
        have Hb1 : Hid (Below w.heap.size w (wr.alloc (.cells #[.string p.name, .slice At p.terms.length ct] 75))) := hbl.alloc hbl.size _
        have hsz := hbl.size
        have HKc := Lib.hid (fun w => Key_any p.name w hfs1)
        obtain ⟨K, HK⟩ : ∃ K, Hid (L.isKey p.name = K) := ⟨_, Lib.hid rfl⟩
        rw [HK.out] at HKc
        have lvY : LV _ wr.heap.size _ _ := LV.new wr wr.heap.size #[.string p.name, .slice At p.terms.length ct] 75 rfl
        have Hst := Lib.hid (Sl.keepB hst hb0)
        clear hst hb0
        go_upto_region 9 with fail
        clear d0 d1
        generalize wr.alloc (.cells #[.string p.name, .slice At p.terms.length ct] 75) = w1 at *
        obtain ⟨Y, hY⟩ : ∃ Y, Y = wr.heap.size := ⟨_, rfl⟩
        rw [← hY] at lvY ⊢
        have c0 : w1.cell? ⟨Y, 0, none⟩ = some (.string p.name) := lvY.cell 0 _ rfl
        clear hY hbl
        go_wp2_with fail
        ((with_reducible refine (HKc.out _).mono ?_); rintro e w2 ⟨rfl, hl2⟩)
        have m2 := LV.kb3 lvY hl2 lvY.lt
        have Hb2 : Hid (Below w.heap.size w w2) := Hb1.out.trans (hl2.mono Hb1.out.size)
        have Hst2 := Lib.hid (Sl.keepB Hst.out hl2)
        clear c0 hl2 HKc Hb1 lvY Hst
        cases K
        · have Hn : Hid (5 = R) := (policyGo_key HK.out).symm.trans Hstep.out
          go_wp2_with fail
          go_ret
          exact ⟨ret_i Hn.out, Hb2.out⟩
        · have c0 : w2.cell? ⟨Y, 0, none⟩ = some (.string p.name) := m2.cell 0 _ rfl
          have c1 : w2.cell? ⟨Y, 1, none⟩ = some (.slice At p.terms.length ct) := m2.cell 1 _ rfl
          clear m2
          obtain ⟨B, HB⟩ : ∃ B, Hid (((ahd xs k).map Purp.name).any (fun q => leS p.name q) = B) := ⟨_, Lib.hid rfl⟩
          have HB2 : Hid ((Op.bytesLess p.name.toList nm.toList || (p.name.toList == nm.toList)) = B) := by
            show _ = _
            rw [← HB.out, lastN_ord Hl.out HK.out]
            rfl
          clear Hl
          obtain ⟨F, HF⟩ : ∃ F, Hid (termsFault p.terms = F) := ⟨_, Lib.hid rfl⟩
          have htl : p.terms.length ≤ 1000000 := Hok.out.tl p (List.mem_of_getElem? Hf.out)
          have Hrg := Lib.hid (Hok.out.rg p (List.mem_of_getElem? Hf.out))
          cases B
          · have Hn := Lib.hid (policyGo_stop Hstep.out HK.out HB.out HF.out)
            clear HB Hstep
            by_cases h160 : 160 < p.terms.length
            · have Hn2 : Hid (2 = R) := step_is Hn.out (by rw [← HF.out, termsFault, if_pos h160]) (by decide)
              go_upto_if 27 with fail
              rw [HB2.out]
              go_wp2_with fail
              go_ret
              exact ⟨ret_i Hn2.out, Hb2.out⟩
            · have HF2 : Hid (termsGo none p.terms = F) := by show _ = _; rw [← HF.out, termsFault, if_neg h160]
              go_upto_if 27 with fail
              rw [HB2.out]
              clear HB2 HF
              go_wp2_with fail
              clear c0 c1
              go_loopw [6, 7, 42] (fun s6 s7 i wr => ∃ (j : Nat) (rg : ByteArray) (ch : Int), j ≤ p.terms.length ∧ i = .int .i64 j ∧ s6 = .string rg ∧ s7 = .int .i64 ch ∧ Last (ahd p.terms j) rg ch ∧ termsGo (ahd p.terms j) (p.terms.drop j) = F ∧ Below w2.heap.size w2 wr) (fun _ _ i _ => p.terms.length - (intOf i).toNat)
              case atStart => exact ⟨0, _, _, Nat.zero_le _, rfl, rfl, rfl, ⟨rfl, rfl⟩, HF2.out, Below.refl _ _⟩
              case round =>
                clear HF2
                obtain ⟨j, rg, ch, hj, rfl, rfl, rfl, hla, hr, hbl⟩ := hrel
                have Hr := Lib.hid hr
                have Hla := Lib.hid hla
                clear hr hla
                by_cases hjt : j < p.terms.length
                · obtain ⟨t, ht⟩ : ∃ t, p.terms[j]? = some t := ⟨_, List.getElem?_eq_getElem hjt⟩
                  have hSt := Sl.keepB Hst2.out hbl
                  obtain ⟨blk2, off2, rfl, hblk2, d0, d1, d2, d3, d4⟩ := hSt.term j t ht
                  have hfs2 : t.region.size ≤ 1000000000 := Hrg.out t (List.mem_of_getElem? ht)
                  have Hts : Hid ((if termF (ahd p.terms j) t ≠ 0 then termF (ahd p.terms j) t else termsGo (some t) (p.terms.drop (j + 1))) = F) := by show _ = _; rw [← Hr.out, drop_at3 ht]; rfl
                  have Ht := Lib.hid ht
                  clear Hr ht hSt
                  have Hb3 : Hid (Below w.heap.size w (wr.alloc (.cells #[.string t.region, .int .i64 t.channel, .bool t.free, .int .i64 t.days, .int .i64 t.wait] 99))) := (Hb2.out.trans (hbl.mono Hb2.out.size)).alloc (Nat.le_trans Hb2.out.size hbl.size) _
                  have Hb4 : Hid (Below w2.heap.size w2 (wr.alloc (.cells #[.string t.region, .int .i64 t.channel, .bool t.free, .int .i64 t.days, .int .i64 t.wait] 99))) := hbl.alloc hbl.size _
                  have hsz2 := hbl.size
                  obtain ⟨K, HK⟩ : ∃ K, Hid (L.isKey t.region = K) := ⟨_, Lib.hid rfl⟩
                  obtain ⟨C, HC⟩ : ∃ C, Hid (isCh t.channel = C) := ⟨_, Lib.hid rfl⟩
                  have HKc := Lib.hid (fun w => Key_any t.region w hfs2)
                  rw [HK.out] at HKc
                  have HCc : Hid (∀ w, Calls Tryz.prog 74 #[.int .i64 t.channel, .int .i64 1, .int .i64 4] w fun e w' => e = .returned (.bool C) ∧ w = w') := fun w => HC.out ▸ in_any t.channel 1 4 w
                  have lvY : tLV _ wr.heap.size t := LV.new wr wr.heap.size #[.string t.region, .int .i64 t.channel, .bool t.free, .int .i64 t.days, .int .i64 t.wait] 99 rfl
                  go_upto_region 20 with fail
                  clear d0 d1 d2 d3 d4
                  generalize wr.alloc (.cells #[.string t.region, .int .i64 t.channel, .bool t.free, .int .i64 t.days, .int .i64 t.wait] 99) = w3 at *
                  obtain ⟨X, hX⟩ : ∃ X, X = wr.heap.size := ⟨_, rfl⟩
                  rw [← hX] at lvY ⊢
                  have c0 : w3.cell? ⟨X, 0, none⟩ = some (.string t.region) := lvY.cell 0 _ rfl
                  clear hX hbl
                  go_wp2_with fail
                  ((with_reducible refine (HKc.out _).mono ?_); rintro e w4 ⟨rfl, hl4⟩)
                  have m4 : tLV w4 X t := LV.kb3 lvY hl4 lvY.lt
                  have Hb5 : Hid (Below w.heap.size w w4) := Hb3.out.trans (hl4.mono Hb3.out.size)
                  have Hb6 : Hid (Below w2.heap.size w2 w4) := Hb4.out.trans (hl4.mono Hb4.out.size)
                  clear c0 hl4 HKc Hb3 Hb4 lvY
                  cases K
                  · have Hn2 : Hid (5 = F) := step_is Hts.out (termF_key HK.out) (by decide)
                    have Hn3 : Hid (5 = R) := step_is Hn.out Hn2.out.symm (by decide)
                    go_wp2_with fail
                    go_ret
                    exact ⟨ret_i Hn3.out, Hb5.out⟩
                  · have c0 : w4.cell? ⟨X, 0, none⟩ = some (.string t.region) := m4.cell 0 _ rfl
                    have c1 : w4.cell? ⟨X, 1, none⟩ = some (.int .i64 t.channel) := m4.cell 1 _ rfl
                    have c2 : w4.cell? ⟨X, 2, none⟩ = some (.bool t.free) := m4.cell 2 _ rfl
                    have c3 : w4.cell? ⟨X, 3, none⟩ = some (.int .i64 t.days) := m4.cell 3 _ rfl
                    have c4 : w4.cell? ⟨X, 4, none⟩ = some (.int .i64 t.wait) := m4.cell 4 _ rfl
                    clear m4
                    cases C
                    · have Hn2 : Hid (4 = F) := step_is Hts.out (termF_ch HK.out HC.out) (by decide)
                      have Hn3 : Hid (4 = R) := step_is Hn.out Hn2.out.symm (by decide)
                      go_wp2_with fail
                      ((with_reducible refine (HCc.out _).mono ?_); rintro e _ ⟨rfl, rfl⟩)
                      go_wp2_with fail
                      go_ret
                      exact ⟨ret_i Hn3.out, Hb5.out⟩
                    · go_wp2_with fail
                      ((with_reducible refine (HCc.out _).mono ?_); rintro e _ ⟨rfl, rfl⟩)
                      clear HCc
                      obtain ⟨fr, hfr⟩ : ∃ x, t.free = x := ⟨_, rfl⟩
                      obtain ⟨dy, hdy⟩ : ∃ x, t.days = x := ⟨_, rfl⟩
                      obtain ⟨wt, hwt⟩ : ∃ x, t.wait = x := ⟨_, rfl⟩
                      have H3 : Hid (¬ (fr = true ∧ (dy ≠ 0 ∨ wt ≠ 0)) → (0 ≤ dy ∧ dy ≤ 2000) ∧ (0 ≤ wt ∧ wt ≤ 100000) → termF (ahd p.terms j) t = if (ahd p.terms j).any (fun p => decide (0 ≤ tCmp p t)) then 7 else 0) := fun h3 h4 => termF_ord HK.out HC.out (by rw [hfr, hdy, hwt]; exact h3) (by rw [hdy, hwt]; exact h4)
                      have H2 : Hid (¬ (fr = true ∧ (dy ≠ 0 ∨ wt ≠ 0)) → ¬ ((0 ≤ dy ∧ dy ≤ 2000) ∧ (0 ≤ wt ∧ wt ≤ 100000)) → termF (ahd p.terms j) t = 1) := fun h3 h4 => termF_rng HK.out HC.out (by rw [hfr, hdy, hwt]; exact h3) (by rw [hdy, hwt]; exact h4)
                      have H1 : Hid (fr = true ∧ (dy ≠ 0 ∨ wt ≠ 0) → termF (ahd p.terms j) t = 3) := fun h3 => termF_form HK.out HC.out (by rw [hfr, hdy, hwt]; exact h3)
                      obtain ⟨O, HO⟩ : ∃ O, Hid ((ahd p.terms j).any (fun p => decide (0 ≤ tCmp p t)) = O) := ⟨_, Lib.hid rfl⟩
                      have HO2 : Hid ((Op.bytesLess t.region.toList rg.toList || ((t.region.toList == rg.toList) && decide (t.channel ≤ ch))) = O) := by
                        show _ = _
                        rw [← HO.out, last_ord Hla.out HK.out]
                        rfl
                      rw [HO.out] at H3
                      rw [hfr] at c2
                      rw [hdy] at c3
                      rw [hwt] at c4
                      clear HK HC hfr hdy hwt HO Hla
                      go_upto_region 24 with fail
                      obtain ⟨B, hB⟩ : ∃ B, decide (fr = true ∧ (dy ≠ 0 ∨ wt ≠ 0)) = B := ⟨_, rfl⟩
                      have HB := Lib.hid hB
                      clear hB
                      go_cut [56] (fun s25 wx => s25 = .bool B ∧ w4 = wx)
                      case first =>
                        cases fr
                        · go_wp2_with fail
                          go_meet
                          exact ⟨by rw [← HB.out]; simp, rfl⟩
                        · by_cases h1 : dy = 0
                          · by_cases h2 : wt = 0
                            · subst h1 h2
                              go_wp2_with fail
                              go_meet
                              exact ⟨by rw [← HB.out]; simp, rfl⟩
                            · subst h1
                              have h2' : (wt != 0) = true := by simpa using h2
                              go_wp2_with fail
                              go_meet
                              exact ⟨by rw [← HB.out]; simp [h2], rfl⟩
                          · have h1' : (dy != 0) = true := by simpa using h1
                            go_wp2_with fail
                            go_meet
                            exact ⟨by rw [← HB.out]; simp [h1], rfl⟩
                      case rest =>
                        obtain ⟨rfl, rfl⟩ := hcut
                        cases B
                        · have HB2 : Hid (¬ (fr = true ∧ (dy ≠ 0 ∨ wt ≠ 0))) := of_decide_eq_false HB.out
                          clear HB H1
                          obtain ⟨D, hD⟩ : ∃ D, decide ((0 ≤ dy ∧ dy ≤ 2000) ∧ (0 ≤ wt ∧ wt ≤ 100000)) = D := ⟨_, rfl⟩
                          have HD := Lib.hid hD
                          clear hD
                          have Hw1 := Lib.hid (fun w => in_any dy 0 2000 w)
                          have Hw2 := Lib.hid (fun w => in_any wt 0 100000 w)
                          obtain ⟨W1, HW1⟩ : ∃ W1, Hid (decide (0 ≤ dy ∧ dy ≤ 2000) = W1) := ⟨_, Lib.hid rfl⟩
                          obtain ⟨W2, HW2⟩ : ∃ W2, Hid (decide (0 ≤ wt ∧ wt ≤ 100000) = W2) := ⟨_, Lib.hid rfl⟩
                          rw [HW1.out] at Hw1
                          rw [HW2.out] at Hw2
                          have HD2 : Hid (D = (W1 && W2)) := by show _ = _; rw [← HD.out, ← HW1.out, ← HW2.out, ← Bool.decide_and]
                          clear HW1 HW2
                          go_upto_region 26 with fail
                          go_cut [69] (fun s38 wx => s38 = .bool (!D) ∧ w4 = wx)
                          case first =>
                            go_wp2_with fail
                            ((with_reducible refine (Hw1.out _).mono ?_); rintro e _ ⟨rfl, rfl⟩)
                            cases W1
                            · go_wp2_with fail
                              go_meet
                              exact ⟨by rw [HD2.out]; simp, rfl⟩
                            · go_wp2_with fail
                              ((with_reducible refine (Hw2.out _).mono ?_); rintro e _ ⟨rfl, rfl⟩)
                              go_wp2_with fail
                              go_meet
                              exact ⟨by rw [HD2.out]; simp, rfl⟩
                          case rest =>
                            obtain ⟨rfl, rfl⟩ := hcut
                            clear Hw1 Hw2 HD2
                            cases D
                            · have Hn2 : Hid (1 = F) := step_is Hts.out (H2.out HB2.out (of_decide_eq_false HD.out)) (by decide)
                              have Hn3 : Hid (1 = R) := step_is Hn.out Hn2.out.symm (by decide)
                              go_wp2_with fail
                              go_ret
                              exact ⟨ret_i Hn3.out, Hb5.out⟩
                            · have H4 := Lib.hid (H3.out HB2.out (of_decide_eq_true HD.out))
                              clear H2 H3 HB2 HD
                              go_upto_region 28 with fail
                              go_cut [80] (fun s80 wx => s80 = .bool O ∧ w4 = wx)
                              case first =>
                                cases hA : Op.bytesLess t.region.toList rg.toList
                                · cases hE : (t.region.toList == rg.toList)
                                  · go_wp2_with fail
                                    go_meet
                                    exact ⟨by rw [← HO2.out, hA, hE]; rfl, rfl⟩
                                  · go_wp2_with fail
                                    go_meet
                                    exact ⟨by rw [← HO2.out, hA, hE]; rfl, rfl⟩
                                · go_wp2_with fail
                                  go_meet
                                  exact ⟨by rw [← HO2.out, hA]; rfl, rfl⟩
                              case rest =>
                                obtain ⟨rfl, rfl⟩ := hcut
                                clear HO2
                                cases O
                                · have Hn2 := Lib.hid (step_go Hts.out (by rw [H4.out]; rfl))
                                  go_wp2_with fail
                                  go_quiet (fail)
                                  go_wp2_with fail
                                  go_roundw
                                  case rel => exact ⟨j + 1, t.region, t.channel, by omega, by go_num, rfl, rfl, by rw [ahd_succ p.terms j t Ht.out]; exact ⟨rfl, rfl⟩, by rw [ahd_succ p.terms j t Ht.out]; exact Hn2.out, Hb6.out.trans (below_drewN _ _ _)⟩
                                  case measure => simp [intOf]; omega
                                · have Hn2 : Hid (7 = F) := step_is Hts.out (by rw [H4.out]; rfl) (by decide)
                                  have Hn3 : Hid (7 = R) := step_is Hn.out Hn2.out.symm (by decide)
                                  go_wp2_with fail
                                  go_ret
                                  exact ⟨ret_i Hn3.out, Hb5.out⟩
                        · have Hn2 : Hid (3 = F) := step_is Hts.out (H1.out (of_decide_eq_true HB.out)) (by decide)
                          have Hn3 : Hid (3 = R) := step_is Hn.out Hn2.out.symm (by decide)
                          go_wp2_with fail
                          go_ret
                          exact ⟨ret_i Hn3.out, Hb5.out⟩
                · have HF3 : Hid (0 = F) := by show _ = _; rw [← Hr.out, List.drop_eq_nil_of_le (by omega)]; rfl
                  have Hn2 := Lib.hid (step_go Hn.out HF3.out.symm)
                  have Hb3 : Hid (Below w.heap.size w wr) := Hb2.out.trans (hbl.mono Hb2.out.size)
                  go_wp2_with fail
                  go_roundw
                  case rel => exact ⟨k + 1, p.name, by omega, by go_num, rfl, by rw [ahd_succ xs k p Hf.out]; rfl, by rw [ahd_succ xs k p Hf.out]; exact Hn2.out, Hb3.out⟩
                  case measure => simp [intOf]; omega
          · have Hn : Hid (7 = R) := (policyGo_ord HK.out HB.out).symm.trans Hstep.out
            go_upto_if 27 with fail
            rw [HB2.out]
            go_wp2_with fail
            go_ret
            exact ⟨ret_i Hn.out, Hb2.out⟩
      · go_wp2_with fail
        go_ret
        exact ⟨ret_i (by rw [← Hr.out, List.drop_eq_nil_of_le (by omega)]; rfl), hbl⟩
end Go.Proofs.YthmkphmciiiagaaGreatDoor

/- What handref2.hasPurpose, termOf and TermOf return. -/
namespace Go.Proofs.YthmkphmciiiagaaGreatDoor
open Go.RowKit
theorem has1_any (X : Nat) (nm : ByteArray) (q : Purp) (A : Option Addr) (n c : Nat) (w : World) (hX : LV w X #[.string nm] 9) : Calls Tryz.prog 183 #[.agg #[.string q.name, .slice A n c], .pointer (some ⟨X, 0, none⟩)] w fun e w' => e = .returned (.bool (byNm nm q)) ∧ Below w.heap.size w w' := by
  have c0 : w.cell? ⟨X, 0, none⟩ = some (.string nm) := hX.cell 0 _ rfl
  have hlt := hX.lt
  have c1 : (w.alloc (.cells #[.string q.name, .slice A n c] 75)).cell? ⟨X, 0, none⟩ = some (.string nm) := by rw [World.cell?_alloc_past _ _ _ hlt]; exact c0
  unfold byNm
  go_enter Tryz.func183, Tryz.ntmps183
  go_wp2_with fail
  go_ret
  exact ⟨rfl, (Below.refl _ _).alloc (Nat.le_refl _) _⟩
set_option maxHeartbeats 4000000 in
set_option maxRecDepth 100000 in
theorem idxHas_any (X : Nat) (nm : ByteArray) (N : Nat → Prop) (A : Option Addr) (xs : List Purp) (c : Nat) (w : World) (hS : Sl rPurp N w A xs) (hl : xs.length ≤ 1000000) (hX : LV w X #[.string nm] 9) :
    Calls Tryz.prog 250 #[.slice A xs.length c, .func (.func 183) #[] #[.pointer (some ⟨X, 0, none⟩)]] w fun e w' => e = .returned (.int .i64 (idxGo (byNm nm) 0 xs)) ∧ Below w.heap.size w w' := by
  have HS := Lib.hid hS
  clear hS
  obtain ⟨R, HR⟩ : ∃ R, Hid (idxGo (byNm nm) 0 xs = R) := ⟨_, Lib.hid rfl⟩
  rw [HR.out]
  go_enter Tryz.func250, Tryz.ntmps250
  go_wp2_with fail
  go_loopw [8] (fun i wr => ∃ k : Nat, k ≤ xs.length ∧ i = .int .i64 k ∧ idxGo (byNm nm) k (xs.drop k) = R ∧ Below w.heap.size w wr) (fun i _ => xs.length - (intOf i).toNat)
  case atStart => exact ⟨0, Nat.zero_le _, rfl, HR.out, Below.refl _ _⟩
  case round =>
    clear HR
    obtain ⟨k, hk, rfl, hr, hbl⟩ := hrel
    have Hr := Lib.hid hr
    clear hr
    by_cases hlt : k < xs.length
    · obtain ⟨q, hq⟩ : ∃ q, xs[k]? = some q := ⟨_, List.getElem?_eq_getElem (by omega)⟩
      obtain ⟨blk, off, At, ct, rfl, hblk, d0, d1, _⟩ := (HS.out.keepB hbl).purp k q hq
      have Hs : Hid ((if byNm nm q = true then (k : Int) else idxGo (byNm nm) (k + 1) (xs.drop (k + 1))) = R) := by
        show _ = _
        rw [← Hr.out, drop_at3 hq]
        rfl
      have Hc := Lib.hid (has1_any X nm q At q.terms.length ct wr (LV.kb3 hX hbl hX.lt))
      clear Hr hq
      generalize byNm nm q = b at *
      go_wp2_with fail
      ((with_reducible refine (Hc.out).mono ?_); rintro e w1 ⟨rfl, hl1⟩)
      have Hb1 := Lib.hid (hbl.trans (hl1.mono hbl.size))
      clear d0 d1 hl1 Hc
      cases b
      · have Hn : Hid (idxGo (byNm nm) (k + 1) (xs.drop (k + 1)) = R) := Hs.out
        go_wp2_with fail
        go_roundw
        case rel => exact ⟨k + 1, by omega, by go_num, Hn.out, Hb1.out⟩
        case measure => simp [intOf]; omega
      · have Hn : Hid ((k : Int) = R) := Hs.out
        go_wp2_with fail
        go_ret
        exact ⟨ret_i Hn.out, Hb1.out⟩
    · have Hn : Hid (-1 = R) := by show _ = _; rw [← Hr.out, List.drop_eq_nil_of_le (by omega)]; rfl
      clear Hr
      go_wp2_with fail
      go_ret
      exact ⟨ret_i Hn.out, hbl⟩
theorem hasPurpose_any (N : Nat → Prop) (A : Option Addr) (xs : List Purp) (nm : ByteArray) (c : Nat) (w : World) (hS : Sl rPurp N w A xs) (hl : xs.length ≤ 1000000) :
    Calls Tryz.prog 94 #[.slice A xs.length c, .string nm] w fun e w' => e = .returned (.bool (hasP xs nm)) ∧ Below w.heap.size w w' := by
  have hb0 : Below w.heap.size w (w.alloc (.cells #[.string nm] 9)) := (Below.refl _ _).alloc (Nat.le_refl _) _
  have Hi := Lib.hid (idxHas_any w.heap.size nm N A xs c _ (hS.keepB hb0) hl (LV.new w w.heap.size #[.string nm] 9 rfl))
  have Hc : Hid (Calls Tryz.prog 182 #[.slice A xs.length c, .func (.func 183) #[] #[.pointer (some ⟨w.heap.size, 0, none⟩)]] (w.alloc (.cells #[.string nm] 9)) fun e w' => e = .returned (.bool (hasP xs nm)) ∧ Below (w.alloc (.cells #[.string nm] 9)).heap.size (w.alloc (.cells #[.string nm] 9)) w') := by
    show Calls _ _ _ _ _
    unfold hasP
    rw [← idxGo_any (byNm nm) xs 0]
    generalize idxGo (byNm nm) 0 xs = ix at *
    generalize w.alloc (.cells #[.string nm] 9) = w1 at *
    generalize w.heap.size = X at *
    clear hS hb0
    go_enter Tryz.func182, Tryz.ntmps182
    go_wp2_with fail
    ((with_reducible refine (Hi.out).mono ?_); rintro e w2 ⟨rfl, hl_w2⟩)
    have hz_w2 := hl_w2.size
    go_wp2_with fail
    go_ret
    exact ⟨by first | rfl | simp, hl_w2⟩
  generalize hasP xs nm = R at *
  clear Hi hS
  go_enter Tryz.func94, Tryz.ntmps94
  go_wp2_with fail
  ((with_reducible refine (Hc.out).mono ?_); rintro e w1 ⟨rfl, hl1⟩)
  go_wp2_with fail
  go_ret
  exact ⟨rfl, hb0.trans (hl1.mono hb0.size)⟩
/-- the reference looks through all terms of all purposes -/
def scanP (nm rg : ByteArray) (ch : Int) : List Purp → Option PTerm
  | [] => none
  | p :: r => (if byNm nm p = true then findT p.terms rg ch else none).or (scanP nm rg ch r)
theorem scanP_none {nm rg : ByteArray} {ch : Int} : ∀ {l : List Purp}, (∀ p ∈ l, byNm nm p = false) → scanP nm rg ch l = none
  | [], _ => rfl
  | p :: r, h => by
    rw [scanP, if_neg (by simp [h p (by simp)]), scanP_none (fun q hq => h q (by simp [hq]))]
    rfl
theorem scanP_is {nm rg : ByteArray} {ch : Int} : ∀ {l : List Purp}, RiseP l → scanP nm rg ch l = termAt l nm rg ch
  | [], _ => rfl
  | p :: r, h => by
    have hr : RiseP r := fun i j s t hij hs ht => h (i + 1) (j + 1) s t (by omega) (by simpa using hs) (by simpa using ht)
    unfold termAt purpAt
    rw [scanP, List.find?_cons]
    cases hb : byNm nm p
    · rw [if_neg (by simp), scanP_is hr]
      rfl
    · rw [if_pos rfl, scanP_none (fun q hq => ?_)]
      · simp
      · obtain ⟨k, hk⟩ := List.mem_iff_getElem?.1 hq
        rw [Bool.eq_false_iff]
        intro h2
        have := h 0 (k + 1) p q (by omega) rfl (by simpa using hk)
        rw [(byNm_iff _ _).1 hb, (byNm_iff _ _).1 h2, ltS_irr] at this
        cases this
set_option maxHeartbeats 4000000 in
set_option maxRecDepth 100000 in
theorem refTermIn_any (N : Nat → Prop) (A : Option Addr) (xs : List Purp) (nm rg : ByteArray) (ch : Int) (c : Nat) (w : World) (hS : Sl rPurp N w A xs) (hg : GoodPol xs) :
    Calls Tryz.prog 140 #[.slice A xs.length c, .string nm, .string rg, .int .i64 ch] w fun e w' => e = .returned (.tuple #[tVal ((termAt xs nm rg ch).getD tZero), .bool (termAt xs nm rg ch).isSome]) ∧ Below w.heap.size w w' := by
  have hb0 : Below w.heap.size w (w.alloc (.cells #[.string ⟨#[]⟩, .int .i64 0, .bool false, .int .i64 0, .int .i64 0] 99)) := (Below.refl _ _).alloc (Nat.le_refl _) _
  have lv0 : tLV _ w.heap.size tZero := LV.new w w.heap.size #[.string ⟨#[]⟩, .int .i64 0, .bool false, .int .i64 0, .int .i64 0] 99 rfl
  have HS := Lib.hid (hS.keepB hb0)
  have hln := hg.len
  have Hl : Hid (∀ p ∈ xs, p.terms.length ≤ 160) := fun p hp => (hg.ps p hp).len
  obtain ⟨o, HO⟩ : ∃ o, Hid (termAt xs nm rg ch = o) := ⟨_, Lib.hid rfl⟩
  have HO2 : Hid (scanP nm rg ch xs = o) := by show _ = _; rw [← HO.out, scanP_is hg.rise]
  rw [HO.out]
  clear HO hS hg
  go_enter Tryz.func140, Tryz.ntmps140
  go_wp2_with fail
  generalize w.alloc (.cells #[.string ⟨#[]⟩, .int .i64 0, .bool false, .int .i64 0, .int .i64 0] 99) = W at *
  go_loopw [16] (fun i wr => ∃ k : Nat, k ≤ xs.length ∧ i = .int .i64 k ∧ scanP nm rg ch (xs.drop k) = o ∧ Below W.heap.size W wr) (fun i _ => xs.length - (intOf i).toNat)
  case atStart => exact ⟨0, Nat.zero_le _, rfl, HO2.out, Below.refl _ _⟩
  case round =>
    clear HO2
    obtain ⟨k, hk, rfl, hr, hbl⟩ := hrel
    have Hr := Lib.hid hr
    clear hr
    by_cases hlt : k < xs.length
    · obtain ⟨p, hp⟩ : ∃ p, xs[k]? = some p := ⟨_, List.getElem?_eq_getElem (by omega)⟩
      obtain ⟨blk, off, At, ct, rfl, hblk, d0, d1, hst⟩ := (HS.out.keepB hbl).purp k p hp
      have hlp := Hl.out p (List.mem_of_getElem? hp)
      have Hs : Hid (((if byNm nm p = true then findT p.terms rg ch else none).or (scanP nm rg ch (xs.drop (k + 1)))) = o) := by
        show _ = _
        rw [← Hr.out, drop_at3 hp]
        rfl
      have hb1 : Below wr.heap.size wr (wr.alloc (.cells #[.string p.name, .slice At p.terms.length ct] 75)) := (Below.refl _ _).alloc (Nat.le_refl _) _
      have Hb1 : Hid (Below W.heap.size W (wr.alloc (.cells #[.string p.name, .slice At p.terms.length ct] 75))) := hbl.alloc hbl.size _
      have lvY := LV.new wr wr.heap.size #[.string p.name, .slice At p.terms.length ct] 75 rfl
      have Hst := Lib.hid (hst.keepB hb1)
      clear Hr hp hst hb1
      obtain ⟨Y, hY⟩ : ∃ Y, Y = wr.heap.size := ⟨_, rfl⟩
      go_upto_region 4 with fail
      clear d0 d1
      rw [← hY] at lvY ⊢
      generalize wr.alloc (.cells #[.string p.name, .slice At p.terms.length ct] 75) = w1 at *
      clear hY hbl
      have c1 : w1.cell? ⟨Y, 1, none⟩ = some (.slice At p.terms.length ct) := lvY.cell 1 _ rfl
      go_wp2_with fail
      clear c1
      go_loopw [23] (fun i wr => ∃ j : Nat, j ≤ p.terms.length ∧ i = .int .i64 j ∧ ((if byNm nm p = true then findT (p.terms.drop j) rg ch else none).or (scanP nm rg ch (xs.drop (k + 1)))) = o ∧ Below w1.heap.size w1 wr) (fun i _ => p.terms.length - (intOf i).toNat)
      case atStart => exact ⟨0, Nat.zero_le _, rfl, Hs.out, Below.refl _ _⟩
      case round =>
        clear Hs
        obtain ⟨j, hj, rfl, hr, hbl⟩ := hrel
        have Hr := Lib.hid hr
        clear hr
        have HbW : Hid (Below W.heap.size W wr) := Hb1.out.trans (hbl.mono Hb1.out.size)
        by_cases hjt : j < p.terms.length
        · obtain ⟨t, ht⟩ : ∃ t, p.terms[j]? = some t := ⟨_, List.getElem?_eq_getElem (by omega)⟩
          obtain ⟨blk2, off2, rfl, hblk2, d0, d1, d2, d3, d4⟩ := (Hst.out.keepB hbl).term j t ht
          have m1 := LV.kb3 lvY hbl lvY.lt
          have hmY := m1.lt
          have hd := drop_at3 ht
          have c0 : (wr.alloc (.cells #[.string t.region, .int .i64 t.channel, .bool t.free, .int .i64 t.days, .int .i64 t.wait] 99)).cell? ⟨Y, 0, none⟩ = some (.string p.name) := by rw [World.cell?_alloc_past _ _ _ hmY]; exact m1.cell 0 _ rfl
          have Hb2 : Hid (Below w1.heap.size w1 (wr.alloc (.cells #[.string t.region, .int .i64 t.channel, .bool t.free, .int .i64 t.days, .int .i64 t.wait] 99))) := hbl.alloc hbl.size _
          have Hb3 : Hid (Below W.heap.size W (wr.alloc (.cells #[.string t.region, .int .i64 t.channel, .bool t.free, .int .i64 t.days, .int .i64 t.wait] 99))) := HbW.out.alloc HbW.out.size _
          have HNo : Hid (byNm nm p = false → ((if byNm nm p = true then findT (p.terms.drop (j + 1)) rg ch else none).or (scanP nm rg ch (xs.drop (k + 1)))) = o) := fun h => by
            rw [← Hr.out, h]
            rfl
          have HNt : Hid (byT rg ch t = false → ((if byNm nm p = true then findT (p.terms.drop (j + 1)) rg ch else none).or (scanP nm rg ch (xs.drop (k + 1)))) = o) := fun h => by
            rw [← Hr.out, hd, findT, findT, List.find?_cons, h]
          have HYe : Hid (byNm nm p = true → byT rg ch t = true → o = some t) := fun h1 h2 => by
            rw [← Hr.out, hd, findT, List.find?_cons, h1, h2]
            rfl
          clear hd Hr ht
          cases hA : (p.name.toList == nm.toList)
          · have Hn := Lib.hid (HNo.out hA)
            clear HNo HNt HYe
            go_wp2_with fail
            go_roundw
            case rel => exact ⟨j + 1, by omega, by go_num, Hn.out, Hb2.out⟩
            case measure => simp [intOf]; omega
          · cases hE : (t.region.toList == rg.toList)
            · have Hn := Lib.hid (HNt.out (by rw [byT, hE]; rfl))
              clear HNo HNt HYe
              go_wp2_with fail
              go_roundw
              case rel => exact ⟨j + 1, by omega, by go_num, Hn.out, Hb2.out⟩
              case measure => simp [intOf]; omega
            · by_cases hG : t.channel = ch
              · obtain rfl : o = some t := HYe.out hA (by rw [byT, hE, decide_eq_true hG]; rfl)
                clear HNo HNt HYe
                have hG' : (t.channel == ch) = true := by simpa using hG
                have lvr : tLV _ w.heap.size tZero := LV.kb3 lv0 Hb3.out lv0.lt
                have HBf := Lib.hid (hb0.trans (Hb3.out.mono hb0.size))
                have lvN : tLV _ wr.heap.size t := LV.new wr wr.heap.size #[.string t.region, .int .i64 t.channel, .bool t.free, .int .i64 t.days, .int .i64 t.wait] 99 rfl
                clear hG m1 lvY Hst lv0
                obtain ⟨Z, hZ⟩ : ∃ Z, Z = wr.heap.size := ⟨_, rfl⟩
                go_upto_region 7 with fail
                clear d0 d1 d2 d3 d4
                rw [← hZ] at lvN ⊢
                generalize wr.alloc (.cells #[.string t.region, .int .i64 t.channel, .bool t.free, .int .i64 t.days, .int .i64 t.wait] 99) = w2 at *
                clear hZ hbl
                have y0 : w2.cell? ⟨Z, 0, none⟩ = some (.string t.region) := lvN.cell 0 _ rfl
                have y1 : w2.cell? ⟨Z, 1, none⟩ = some (.int .i64 t.channel) := lvN.cell 1 _ rfl
                have y2 : w2.cell? ⟨Z, 2, none⟩ = some (.bool t.free) := lvN.cell 2 _ rfl
                have y3 : w2.cell? ⟨Z, 3, none⟩ = some (.int .i64 t.days) := lvN.cell 3 _ rfl
                have y4 : w2.cell? ⟨Z, 4, none⟩ = some (.int .i64 t.wait) := lvN.cell 4 _ rfl
                clear lvN
                have x0 : w2.cell? ⟨w.heap.size, 0, none⟩ = some (.string ⟨#[]⟩) := lvr.cell 0 _ rfl
                have x1 : w2.cell? ⟨w.heap.size, 1, none⟩ = some (.int .i64 0) := lvr.cell 1 _ rfl
                have x2 : w2.cell? ⟨w.heap.size, 2, none⟩ = some (.bool false) := lvr.cell 2 _ rfl
                have x3 : w2.cell? ⟨w.heap.size, 3, none⟩ = some (.int .i64 0) := lvr.cell 3 _ rfl
                have x4 : w2.cell? ⟨w.heap.size, 4, none⟩ = some (.int .i64 0) := lvr.cell 4 _ rfl
                have f0 := lvr.free 0
                have f1 := lvr.free 1
                have f2 := lvr.free 2
                have f3 := lvr.free 3
                have f4 := lvr.free 4
                go_wp2_with fail
                exact bodyPost_ret (results_cs rfl rfl rfl (loadT (tLV.fill lvr t))) rfl ⟨rfl, below_fillT HBf.out (Nat.le_refl _) t⟩
              · have Hn := Lib.hid (HNt.out (by rw [byT, decide_eq_false hG, Bool.and_false]))
                have hG' : (t.channel == ch) = false := by simpa using hG
                clear HNo HNt HYe hG
                go_wp2_with fail
                go_roundw
                case rel => exact ⟨j + 1, by omega, by go_num, Hn.out, Hb2.out⟩
                case measure => simp [intOf]; omega
        · have Hn : Hid (scanP nm rg ch (xs.drop (k + 1)) = o) := by
            show _ = _
            rw [← Hr.out, List.drop_eq_nil_of_le (show p.terms.length ≤ j by omega)]
            cases byNm nm p <;> rfl
          go_wp2_with fail
          go_roundw
          case rel => exact ⟨k + 1, by omega, by go_num, Hn.out, HbW.out⟩
          case measure => simp [intOf]; omega
    · obtain rfl : o = none := by rw [← Hr.out, List.drop_eq_nil_of_le (by omega)]; rfl
      have lvr : tLV wr w.heap.size tZero := LV.kb3 lv0 hbl lv0.lt
      have HBf := Lib.hid (hb0.trans (hbl.mono hb0.size))
      have x0 : wr.cell? ⟨w.heap.size, 0, none⟩ = some (.string ⟨#[]⟩) := lvr.cell 0 _ rfl
      have x1 : wr.cell? ⟨w.heap.size, 1, none⟩ = some (.int .i64 0) := lvr.cell 1 _ rfl
      have x2 : wr.cell? ⟨w.heap.size, 2, none⟩ = some (.bool false) := lvr.cell 2 _ rfl
      have x3 : wr.cell? ⟨w.heap.size, 3, none⟩ = some (.int .i64 0) := lvr.cell 3 _ rfl
      have x4 : wr.cell? ⟨w.heap.size, 4, none⟩ = some (.int .i64 0) := lvr.cell 4 _ rfl
      have f0 := lvr.free 0
      have f1 := lvr.free 1
      have f2 := lvr.free 2
      have f3 := lvr.free 3
      have f4 := lvr.free 4
      go_wp2_with fail
      exact bodyPost_ret (results_cs rfl rfl rfl (loadT (tLV.fill lvr tZero))) rfl ⟨rfl, below_fillT HBf.out (Nat.le_refl _) tZero⟩
end Go.Proofs.YthmkphmciiiagaaGreatDoor
