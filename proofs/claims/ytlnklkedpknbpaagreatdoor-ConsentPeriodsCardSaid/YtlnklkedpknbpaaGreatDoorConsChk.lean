/- What the checks of policies in package consent return: within, isChannel, termOrder, checkTerms. -/
import Derived.Test.YtlnklkedpknbpaaGreatDoorConsLaw
import Derived.Test.YtlnklkedpknbpaaGreatDoorPackM
import Derived.Deep.DeepCutAuto
namespace Go.Proofs.YtlnklkedpknbpaaGreatDoor
open Go.RowKit
theorem cwithin_any (n a b : Int) (w : World) : Calls Tryz.prog 75 #[.int .i64 n, .int .i64 a, .int .i64 b] w fun e w' => e = .returned (.bool (decide (a ≤ n ∧ n ≤ b))) ∧ w = w' := by
  by_cases h1 : a ≤ n <;> by_cases h2 : n ≤ b
  all_goals
    simp only [h1, h2, and_true, and_false, decide_true, decide_false]
    go_enter Tryz.func75, Tryz.ntmps75
    go_wp2
    go_ret
    exact ⟨rfl, rfl⟩
theorem cchannel_any (n : Int) (w : World) : Calls Tryz.prog 65 #[.int .i64 n] w fun e w' => e = .returned (.bool (isCh n)) ∧ w = w' := by
  obtain ⟨R, HR⟩ : ∃ R, Hid (isCh n = R) := ⟨_, Lib.hid rfl⟩
  rw [HR.out]
  have Hc : Hid (∀ w, Calls Tryz.prog 75 #[.int .i64 n, .int .i64 1, .int .i64 4] w fun e w' => e = .returned (.bool R) ∧ w = w') := fun w => by rw [← HR.out]; exact cwithin_any n 1 4 w
  go_enter Tryz.func65, Tryz.ntmps65
  go_wp2_with fail
  ((with_reducible refine (Hc.out _).mono ?_); rintro e _ ⟨rfl, rfl⟩)
  go_wp2_with fail
  go_ret
  exact ⟨rfl, rfl⟩
abbrev tVal (t : PTerm) : Value := .agg #[.string t.region, .int .i64 t.channel, .bool t.free, .int .i64 t.days, .int .i64 t.wait]
/-- a term lies in this block -/
abbrev tLV (w : World) (X : Nat) (t : PTerm) : Prop := LV w X #[.string t.region, .int .i64 t.channel, .bool t.free, .int .i64 t.days, .int .i64 t.wait] 34
theorem tLV.load {w : World} {X : Nat} {t : PTerm} (h : tLV w X t) : (Instr.loadAt 34 (.pointer (some ⟨X, 0, none⟩))).run Tryz.prog w = .ok (tVal t) w := by
  have c0 := h.cell 0 _ rfl
  have c1 := h.cell 1 _ rfl
  have c2 := h.cell 2 _ rfl
  have c3 := h.cell 3 _ rfl
  have c4 := h.cell 4 _ rfl
  go_simp
def TwoTerms (X Y : Nat) (a b : PTerm) (w : World) : Prop := tLV w X a ∧ tLV w Y b
set_option maxHeartbeats 2000000 in
set_option maxRecDepth 100000 in
theorem termOrder_any (a b : PTerm) (w : World) :
    Calls Tryz.prog 119 #[tVal a, tVal b] w fun e w' => e = .returned (.int .i64 (tCmp a b)) ∧ Below w.heap.size w w' := by
  obtain ⟨R, HR⟩ : ∃ R, Hid (tCmp a b = R) := ⟨_, Lib.hid rfl⟩
  rw [HR.out]
  have lv1 : tLV _ w.heap.size a := (LV.new w w.heap.size #[.string a.region, .int .i64 a.channel, .bool a.free, .int .i64 a.days, .int .i64 a.wait] 34 rfl).alloc (.cells #[.string b.region, .int .i64 b.channel, .bool b.free, .int .i64 b.days, .int .i64 b.wait] 34)
  have lv2 : tLV _ (w.heap.size + 1) b := LV.new (w.alloc (.cells #[.string a.region, .int .i64 a.channel, .bool a.free, .int .i64 a.days, .int .i64 a.wait] 34)) (w.heap.size + 1) #[.string b.region, .int .i64 b.channel, .bool b.free, .int .i64 b.days, .int .i64 b.wait] 34 (by simp)
  have Hb : Hid (Below w.heap.size w ((w.alloc (.cells #[.string a.region, .int .i64 a.channel, .bool a.free, .int .i64 a.days, .int .i64 a.wait] 34)).alloc (.cells #[.string b.region, .int .i64 b.channel, .bool b.free, .int .i64 b.days, .int .i64 b.wait] 34))) := ((Below.refl _ _).alloc (Nat.le_refl _) _).alloc (by simp) _
  go_enter Tryz.func119, Tryz.ntmps119
  go_wp2_with fail
  refine wp_region_mix (TwoTerms w.heap.size (w.heap.size + 1) a b) [(true, 0), (true, 1), (true, 2), (true, 3), (true, 5), (true, 6), (true, 7), (true, 8), (false, 4), (false, 9), (false, 10), (false, 11), (true, 12)] (by kernel_rfl) (by kernel_rfl) (fun w' hd => ⟨LV.keep (b := w.heap.size + 2) lv1 (SK.ofBelow (hd.below _)) (by omega), LV.keep (b := w.heap.size + 2) lv2 (SK.ofBelow (hd.below _)) (by omega)⟩) (fun KK hKK wd hd_wd => ?_)
  have hC : TwoTerms w.heap.size (w.heap.size + 1) a b wd := ⟨LV.keep (b := w.heap.size + 2) lv1 (SK.ofBelow (hd_wd.below _)) (by omega), LV.keep (b := w.heap.size + 2) lv2 (SK.ofBelow (hd_wd.below _)) (by omega)⟩
  have Hbd : Hid (Below w.heap.size w wd) := Hb.out.trans (hd_wd.below _)
  clear lv1 lv2 Hb hd_wd
  repeat (refine mix_p rfl (fun K hK => ?_); go_simp; (try go_bits); (try simp (disch := omega) only [if_pos]); (try simp (disch := omega) only [if_neg]); (try simp (disch := omega) only [dif_pos]); (try simp (disch := omega) only [dif_neg]); (try go_simp); (refine hK _ ?_; clear hK K))
  refine mix_load (.string a.region) rfl rfl rfl rfl (fun _ => rfl) (fun w' h => h.1.cell 0 _ rfl) ?_
  repeat (refine mix_p rfl (fun K hK => ?_); go_simp; (try go_bits); (try simp (disch := omega) only [if_pos]); (try simp (disch := omega) only [if_neg]); (try simp (disch := omega) only [dif_pos]); (try simp (disch := omega) only [dif_neg]); (try go_simp); (refine hK _ ?_; clear hK K))
  refine mix_load (.string b.region) rfl rfl rfl rfl (fun _ => rfl) (fun w' h => h.2.cell 0 _ rfl) ?_
  repeat (refine mix_p rfl (fun K hK => ?_); go_simp; (try go_bits); (try simp (disch := omega) only [if_pos]); (try simp (disch := omega) only [if_neg]); (try simp (disch := omega) only [dif_pos]); (try simp (disch := omega) only [dif_neg]); (try go_simp); (refine hK _ ?_; clear hK K))
  refine mix_load (.int .i64 a.channel) rfl rfl rfl rfl (fun _ => rfl) (fun w' h => h.1.cell 1 _ rfl) ?_
  repeat (refine mix_p rfl (fun K hK => ?_); go_simp; (try go_bits); (try simp (disch := omega) only [if_pos]); (try simp (disch := omega) only [if_neg]); (try simp (disch := omega) only [dif_pos]); (try simp (disch := omega) only [dif_neg]); (try go_simp); (refine hK _ ?_; clear hK K))
  refine mix_load (.int .i64 b.channel) rfl rfl rfl rfl (fun _ => rfl) (fun w' h => h.2.cell 1 _ rfl) ?_
  refine mix_l rfl (fun K hK => ?_) hC
  go_wp2_with fail
  ((with_reducible refine (compareS_any a.region b.region _).mono ?_); rintro e _ ⟨rfl, rfl⟩)
  go_wp2_with fail
  refine ⟨hC, ?_⟩
  refine mix_l rfl (fun K hK => ?_) hC
  go_wp2_with fail
  ((with_reducible refine (cmpInt_any a.channel b.channel _).mono ?_); rintro e _ ⟨rfl, rfl⟩)
  go_wp2_with fail
  refine ⟨hC, ?_⟩
  refine mix_l rfl (fun K hK => ?_) hC
  go_wp2_with fail
  have hC2 : TwoTerms w.heap.size (w.heap.size + 1) a b (wd.alloc (.cells #[.int .i64 (cmpS a.region b.region), .int .i64 (Lib.compareInt a.channel b.channel)] 3)) := ⟨hC.1.alloc _, hC.2.alloc _⟩
  refine ⟨hC2, ?_⟩
  refine mix_l rfl (fun K hK => ?_) hC2
  have c0 : (wd.alloc (.cells #[.int .i64 (cmpS a.region b.region), .int .i64 (Lib.compareInt a.channel b.channel)] 3)).cell? ⟨wd.heap.size, 0, none⟩ = some (.int .i64 (cmpS a.region b.region)) := by rw [World.cell?_alloc_at _ _ _ _ rfl]; rfl
  have c1 : (wd.alloc (.cells #[.int .i64 (cmpS a.region b.region), .int .i64 (Lib.compareInt a.channel b.channel)] 3)).cell? ⟨wd.heap.size, 1, none⟩ = some (.int .i64 (Lib.compareInt a.channel b.channel)) := by rw [World.cell?_alloc_at _ _ _ _ rfl]; rfl
  have Hor := Lib.hid (or_any wd.heap.size _ _ _ c0 c1)
  clear c0 c1
  have HR2 : Hid ((if cmpS a.region b.region ≠ 0 then cmpS a.region b.region else Lib.compareInt a.channel b.channel) = R) := HR
  rw [HR2.out] at Hor
  clear HR HR2
  go_wp2_with fail
  ((with_reducible refine (Hor.out).mono ?_); rintro e _ ⟨rfl, rfl⟩)
  go_wp2_with fail
  refine ⟨hC2, ?_⟩
  repeat (refine mix_p rfl (fun K hK => ?_); go_simp; (try go_bits); (try simp (disch := omega) only [if_pos]); (try simp (disch := omega) only [if_neg]); (try simp (disch := omega) only [dif_pos]); (try simp (disch := omega) only [dif_neg]); (try go_simp); (refine hK _ ?_; clear hK K))
  refine mix_nil ?_
  simp only [Exit.then]
  refine hKK _ _ ?_
  go_wp2_with fail
  go_ret
  exact ⟨rfl, Hbd.out.alloc Hbd.out.size _⟩
theorem Sl.ldTerm {N : Nat → Prop} {w : World} {blk off : Nat} {xs : List PTerm} (h : Sl rTerm N w (some ⟨blk, off, none⟩) xs) (k : Nat) (t : PTerm) (hk : xs[k]? = some t) : (Instr.loadAt 34 (.pointer (some ⟨blk, off + k * 5, none⟩))).run Tryz.prog w = .ok (tVal t) w := by
  obtain ⟨_, _, e, _, c0, c1, c2, c3, c4⟩ := h.term k t hk
  cases e
  go_simp
theorem termsGo_cons {prev : Option PTerm} {t : PTerm} {r : List PTerm} {R : Int} (h : termsGo prev (t :: r) = R) : (if termF prev t ≠ 0 then termF prev t else termsGo (some t) r) = R := h
/-- the term ahead of the k-th -/
def ahd {α : Type} (xs : List α) (k : Nat) : Option α := if k = 0 then none else xs[k - 1]?
theorem ahd_succ {α : Type} (xs : List α) (k : Nat) (x : α) (h : xs[k]? = some x) : ahd xs (k + 1) = some x := by rw [ahd, if_neg (by omega)]; exact h
set_option maxHeartbeats 4000000 in
set_option maxRecDepth 100000 in
theorem checkTerms_any (N : Nat → Prop) (A : Option Addr) (xs : List PTerm) (c : Nat) (w : World) (hS : Sl rTerm N w A xs) (hsm : ∀ t ∈ xs, t.region.size ≤ 1000000000) (hn : xs.length ≤ 1000000) :
    Calls Tryz.prog 71 #[.slice A xs.length c] w fun e w' => e = .returned (.int .i64 (termsFault xs)) ∧ Below w.heap.size w w' := by
  have HS := Lib.hid hS
  have Hsm := Lib.hid hsm
  clear hS hsm
  obtain ⟨R, HR⟩ : ∃ R, Hid (termsFault xs = R) := ⟨_, Lib.hid rfl⟩
  rw [HR.out]
  by_cases h20 : 160 < xs.length
  · go_enter Tryz.func71, Tryz.ntmps71
    go_wp2_with fail
    go_ret
    exact ⟨ret_i (by rw [← HR.out, termsFault, if_pos h20]), Below.refl _ _⟩
  · have HR2 : Hid (termsGo none xs = R) := by show _ = _; rw [← HR.out, termsFault, if_neg h20]
    clear HR
    go_enter Tryz.func71, Tryz.ntmps71
    go_wp2_with fail
    go_loopw [10] (fun i wr => ∃ k : Nat, k ≤ xs.length ∧ i = .int .i64 k ∧ termsGo (ahd xs k) (xs.drop k) = R ∧ Below w.heap.size w wr) (fun i _ => xs.length - (intOf i).toNat)
    case atStart => exact ⟨0, Nat.zero_le _, rfl, HR2.out, Below.refl _ _⟩
    case round =>
      clear HR2
      obtain ⟨k, hk, rfl, hr, hbl⟩ := hrel
      have Hr := Lib.hid hr
      clear hr
      by_cases hlt : k < xs.length
      · obtain ⟨t, hf⟩ : ∃ t, xs[k]? = some t := ⟨_, List.getElem?_eq_getElem hlt⟩
        have hSr := HS.out.keepB hbl
        obtain ⟨blk, off, rfl, hblk, d0, d1, d2, d3, d4⟩ := hSr.term k t hf
        have hfs1 : t.region.size ≤ 1000000000 := Hsm.out t (List.mem_of_getElem? hf)
        have Hstep : Hid ((if termF (ahd xs k) t ≠ 0 then termF (ahd xs k) t else termsGo (some t) (xs.drop (k + 1))) = R) := by show _ = _; rw [← Hr.out, drop_at3 hf]; rfl
        have Hf := Lib.hid hf
        clear Hr hf
        have Hb1 : Hid (Below w.heap.size w (wr.alloc (.cells #[.string t.region, .int .i64 t.channel, .bool t.free, .int .i64 t.days, .int .i64 t.wait] 34))) := hbl.alloc hbl.size _
        have hsz := hbl.size
        obtain ⟨K, HK⟩ : ∃ K, Hid (L.isKey t.region = K) := ⟨_, Lib.hid rfl⟩
        obtain ⟨C, HC⟩ : ∃ C, Hid (isCh t.channel = C) := ⟨_, Lib.hid rfl⟩
        have HKc : Hid (∀ w, Calls Tryz.prog 70 #[.string t.region] w fun e w' => e = .returned (.bool K) ∧ w = w') := fun w => HK.out ▸ isKey_any t.region w hfs1
        have HCc : Hid (∀ w, Calls Tryz.prog 65 #[.int .i64 t.channel] w fun e w' => e = .returned (.bool C) ∧ w = w') := fun w => HC.out ▸ cchannel_any t.channel w
        have lvY : tLV _ wr.heap.size t := LV.new wr wr.heap.size #[.string t.region, .int .i64 t.channel, .bool t.free, .int .i64 t.days, .int .i64 t.wait] 34 rfl
        have HSr := Lib.hid (Sl.keepB hSr ((Below.refl _ _).alloc (Nat.le_refl _) (.cells #[.string t.region, .int .i64 t.channel, .bool t.free, .int .i64 t.days, .int .i64 t.wait] 34)))
        clear hSr
        go_upto_region 6 with fail
        clear d0 d1 d2 d3 d4
        generalize wr.alloc (.cells #[.string t.region, .int .i64 t.channel, .bool t.free, .int .i64 t.days, .int .i64 t.wait] 34) = w1 at *
        obtain ⟨Y, hY⟩ : ∃ Y, Y = wr.heap.size := ⟨_, rfl⟩
        rw [← hY] at lvY ⊢
        have c0 : w1.cell? ⟨Y, 0, none⟩ = some (.string t.region) := lvY.cell 0 _ rfl
        have c1 : w1.cell? ⟨Y, 1, none⟩ = some (.int .i64 t.channel) := lvY.cell 1 _ rfl
        have c2 : w1.cell? ⟨Y, 2, none⟩ = some (.bool t.free) := lvY.cell 2 _ rfl
        have c3 : w1.cell? ⟨Y, 3, none⟩ = some (.int .i64 t.days) := lvY.cell 3 _ rfl
        have c4 : w1.cell? ⟨Y, 4, none⟩ = some (.int .i64 t.wait) := lvY.cell 4 _ rfl
        clear hY hbl
        cases K
        · have Hn : Hid (5 = R) := step_is Hstep.out (termF_key HK.out) (by decide)
          go_wp2_with fail
          ((with_reducible refine (HKc.out _).mono ?_); rintro e _ ⟨rfl, rfl⟩)
          go_wp2_with fail
          go_ret
          exact ⟨ret_i Hn.out, Hb1.out⟩
        · go_wp2_with fail
          ((with_reducible refine (HKc.out _).mono ?_); rintro e _ ⟨rfl, rfl⟩)
          cases C
          · have Hn : Hid (4 = R) := step_is Hstep.out (termF_ch HK.out HC.out) (by decide)
            go_wp2_with fail
            ((with_reducible refine (HCc.out _).mono ?_); rintro e _ ⟨rfl, rfl⟩)
            go_wp2_with fail
            go_ret
            exact ⟨ret_i Hn.out, Hb1.out⟩
          · go_wp2_with fail
            ((with_reducible refine (HCc.out _).mono ?_); rintro e _ ⟨rfl, rfl⟩)
            clear HKc HCc
            obtain ⟨fr, hfr⟩ : ∃ x, t.free = x := ⟨_, rfl⟩
            obtain ⟨dy, hdy⟩ : ∃ x, t.days = x := ⟨_, rfl⟩
            obtain ⟨wt, hwt⟩ : ∃ x, t.wait = x := ⟨_, rfl⟩
            have H3 : Hid (¬ (fr = true ∧ (dy ≠ 0 ∨ wt ≠ 0)) → (0 ≤ dy ∧ dy ≤ 2000) ∧ (0 ≤ wt ∧ wt ≤ 100000) → termF (ahd xs k) t = if (ahd xs k).any (fun p => decide (0 ≤ tCmp p t)) then 7 else 0) := fun h3 h4 => termF_ord HK.out HC.out (by rw [hfr, hdy, hwt]; exact h3) (by rw [hdy, hwt]; exact h4)
            have H2 : Hid (¬ (fr = true ∧ (dy ≠ 0 ∨ wt ≠ 0)) → ¬ ((0 ≤ dy ∧ dy ≤ 2000) ∧ (0 ≤ wt ∧ wt ≤ 100000)) → termF (ahd xs k) t = 1) := fun h3 h4 => termF_rng HK.out HC.out (by rw [hfr, hdy, hwt]; exact h3) (by rw [hdy, hwt]; exact h4)
            have H1 : Hid (fr = true ∧ (dy ≠ 0 ∨ wt ≠ 0) → termF (ahd xs k) t = 3) := fun h3 => termF_form HK.out HC.out (by rw [hfr, hdy, hwt]; exact h3)
            rw [hfr] at c2
            rw [hdy] at c3
            rw [hwt] at c4
            clear HK HC hfr hdy hwt
            go_upto_region 10 with fail
            obtain ⟨B, hB⟩ : ∃ B, decide (fr = true ∧ (dy ≠ 0 ∨ wt ≠ 0)) = B := ⟨_, rfl⟩
            have HB := Lib.hid hB
            clear hB
            go_cut [25] (fun s25 wx => s25 = .bool B ∧ w1 = wx)
            case first =>
              cases fr
              · go_wp2_with fail
                go_meet
                exact ⟨by rw [← HB.out]; simp, rfl⟩
              · by_cases h1 : dy = 0
                · by_cases h2 : wt = 0
                  · subst h1 h2
                    go_wp2_with fail
                    go_meet
                    exact ⟨by rw [← HB.out]; simp, rfl⟩
                  · subst h1
                    have h2' : (wt != 0) = true := by simpa using h2
                    go_wp2_with fail
                    go_meet
                    exact ⟨by rw [← HB.out]; simp [h2], rfl⟩
                · have h1' : (dy != 0) = true := by simpa using h1
                  go_wp2_with fail
                  go_meet
                  exact ⟨by rw [← HB.out]; simp [h1], rfl⟩
            case rest =>
              obtain ⟨rfl, rfl⟩ := hcut
              cases B
              · have HB2 : Hid (¬ (fr = true ∧ (dy ≠ 0 ∨ wt ≠ 0))) := of_decide_eq_false HB.out
                clear HB H1
                obtain ⟨D, hD⟩ : ∃ D, decide ((0 ≤ dy ∧ dy ≤ 2000) ∧ (0 ≤ wt ∧ wt ≤ 100000)) = D := ⟨_, rfl⟩
                have HD := Lib.hid hD
                clear hD
                have Hw1 := Lib.hid (fun w => cwithin_any dy 0 2000 w)
                have Hw2 := Lib.hid (fun w => cwithin_any wt 0 100000 w)
                obtain ⟨W1, HW1⟩ : ∃ W1, Hid (decide (0 ≤ dy ∧ dy ≤ 2000) = W1) := ⟨_, Lib.hid rfl⟩
                obtain ⟨W2, HW2⟩ : ∃ W2, Hid (decide (0 ≤ wt ∧ wt ≤ 100000) = W2) := ⟨_, Lib.hid rfl⟩
                rw [HW1.out] at Hw1
                rw [HW2.out] at Hw2
                have HD2 : Hid (D = (W1 && W2)) := by show _ = _; rw [← HD.out, ← HW1.out, ← HW2.out, ← Bool.decide_and]
                clear HW1 HW2
                go_upto_region 12 with fail
                go_cut [38] (fun s38 wx => s38 = .bool (!D) ∧ w1 = wx)
                case first =>
                  go_wp2_with fail
                  ((with_reducible refine (Hw1.out _).mono ?_); rintro e _ ⟨rfl, rfl⟩)
                  cases W1
                  · go_wp2_with fail
                    go_meet
                    exact ⟨by rw [HD2.out]; simp, rfl⟩
                  · go_wp2_with fail
                    ((with_reducible refine (Hw2.out _).mono ?_); rintro e _ ⟨rfl, rfl⟩)
                    go_wp2_with fail
                    go_meet
                    exact ⟨by rw [HD2.out]; simp, rfl⟩
                case rest =>
                  obtain ⟨rfl, rfl⟩ := hcut
                  clear Hw1 Hw2 HD2
                  cases D
                  · have Hn : Hid (1 = R) := step_is Hstep.out (H2.out HB2.out (of_decide_eq_false HD.out)) (by decide)
                    go_wp2_with fail
                    go_ret
                    exact ⟨ret_i Hn.out, Hb1.out⟩
                  · have H4 := Lib.hid (H3.out HB2.out (of_decide_eq_true HD.out))
                    clear H2 H3 HB2 HD
                    go_upto_region 14 with fail
                    clear c0 c1 c2 c3 c4
                    by_cases hk0 : k = 0
                    · subst hk0
                      have Hn : Hid (termsGo (some t) (xs.drop (0 + 1)) = R) := step_go Hstep.out (by rw [H4.out]; rfl)
                      clear H4 Hstep HSr
                      go_wp2_with fail
                      refine wp_region_mix (fun _ => True) [(true, 0), (true, 1), (true, 2), (true, 3), (true, 4), (true, 5), (true, 6), (true, 7), (true, 8), (false, 9), (true, 10), (true, 11), (true, 12)] (by kernel_rfl) (by kernel_rfl) (fun _ _ => trivial) (fun KK hKK wd hd => ?_)
                      have Hbd : Hid (Below w.heap.size w wd) := Hb1.out.trans (hd.below _)
                      clear hd Hb1 lvY
                      repeat (refine mix_p rfl (fun K hK => ?_); go_simp; (try go_bits); (try simp (disch := omega) only [if_pos]); (try simp (disch := omega) only [if_neg]); (try simp (disch := omega) only [dif_pos]); (try simp (disch := omega) only [dif_neg]); (try go_simp); (refine hK _ ?_; clear hK K))
                      refine mix_l rfl (fun K hK => ?_) trivial
                      go_wp2_with fail
                      refine ⟨trivial, ?_⟩
                      repeat (refine mix_p rfl (fun K hK => ?_); go_simp; (try go_bits); (try simp (disch := omega) only [if_pos]); (try simp (disch := omega) only [if_neg]); (try simp (disch := omega) only [dif_pos]); (try simp (disch := omega) only [dif_neg]); (try go_simp); (refine hK _ ?_; clear hK K))
                      refine mix_nil ?_
                      simp only [Exit.then]
                      refine hKK _ _ ?_
                      go_wp2_with fail
                      go_roundw
                      case rel => exact ⟨1, by omega, rfl, by rw [ahd_succ xs 0 t Hf.out]; exact Hn.out, Hbd.out⟩
                      case measure => simp [intOf]; omega
                    · obtain ⟨q, rfl⟩ : ∃ q, k = q + 1 := ⟨k - 1, by omega⟩
                      obtain ⟨p, hp⟩ : ∃ p, xs[q]? = some p := ⟨_, List.getElem?_eq_getElem (by omega)⟩
                      have Hp := Lib.hid hp
                      have H5 : Hid (termF (ahd xs (q + 1)) t = if 0 ≤ tCmp p t then 7 else 0) := by
                        show _ = _
                        rw [H4.out, ahd_succ xs q p hp]
                        simp
                      clear H4 hp
                      go_wp2_with fail
                      refine wp_region_mix (fun w' => tLV w' Y t ∧ Sl rTerm N w' (some ⟨blk, off, none⟩) xs) [(true, 0), (true, 1), (true, 2), (true, 3), (true, 4), (true, 5), (true, 6), (true, 7), (true, 8), (false, 9), (true, 10), (true, 11), (true, 12)] (by kernel_rfl) (by kernel_rfl) (fun w' hd => ⟨LV.kb3 lvY (hd.below _) lvY.lt, Sl.keepB HSr.out (hd.below _)⟩) (fun KK hKK wd hd => ?_)
                      have hC : tLV wd Y t ∧ Sl rTerm N wd (some ⟨blk, off, none⟩) xs := ⟨LV.kb3 lvY (hd.below _) lvY.lt, Sl.keepB HSr.out (hd.below _)⟩
                      have Hbd : Hid (Below w.heap.size w wd) := Hb1.out.trans ((hd.below _).mono Hb1.out.size)
                      clear hd Hb1 lvY HSr
                      repeat (refine mix_p rfl (fun K hK => ?_); go_simp; (try go_bits); (try simp (disch := omega) only [if_pos]); (try simp (disch := omega) only [if_neg]); (try simp (disch := omega) only [dif_pos]); (try simp (disch := omega) only [dif_neg]); (try go_simp); (refine hK _ ?_; clear hK K))
                      refine mix_loadG (tVal p) rfl (by simp [Region.wanted, yielded, go_sem]) rfl rfl (fun w' h => h.2.ldTerm q p Hp.out) ?_
                      refine mix_loadG (tVal t) rfl (by simp [Region.wanted, yielded, go_sem]) rfl rfl (fun w' h => tLV.load h.1) ?_
                      refine mix_l rfl (fun K hK => ?_) hC
                      have Hto := Lib.hid (termOrder_any p t wd)
                      obtain ⟨m, Hm⟩ : ∃ m, Hid (tCmp p t = m) := ⟨_, Lib.hid rfl⟩
                      rw [Hm.out] at Hto H5
                      go_wp2_with fail
                      ((with_reducible refine (Hto.out).mono ?_); rintro e w2 ⟨rfl, hl2⟩)
                      have hC2 : tLV w2 Y t ∧ Sl rTerm N w2 (some ⟨blk, off, none⟩) xs := ⟨LV.kb3 hC.1 hl2 hC.1.lt, Sl.keepB hC.2 hl2⟩
                      have Hb2 : Hid (Below w.heap.size w w2) := Hbd.out.trans (hl2.mono Hbd.out.size)
                      clear hl2 hC Hbd Hto
                      go_wp2_with fail
                      refine ⟨hC2, ?_⟩
                      repeat (refine mix_p rfl (fun K hK => ?_); go_simp; (try go_bits); (try simp (disch := omega) only [if_pos]); (try simp (disch := omega) only [if_neg]); (try simp (disch := omega) only [dif_pos]); (try simp (disch := omega) only [dif_neg]); (try go_simp); (refine hK _ ?_; clear hK K))
                      refine mix_nil ?_
                      simp only [Exit.then]
                      refine hKK _ _ ?_
                      clear hC2
                      by_cases hm : 0 ≤ m
                      · have Hn : Hid (7 = R) := step_is Hstep.out (by rw [H5.out, if_pos hm]) (by decide)
                        go_wp2_with fail
                        go_ret
                        exact ⟨ret_i Hn.out, Hb2.out⟩
                      · have Hn : Hid (termsGo (some t) (xs.drop (q + 1 + 1)) = R) := step_go Hstep.out (by rw [H5.out, if_neg hm])
                        go_wp2_with fail
                        go_roundw
                        case rel => exact ⟨q + 1 + 1, by omega, by go_num, by rw [ahd_succ xs (q + 1) t Hf.out]; exact Hn.out, Hb2.out⟩
                        case measure => simp [intOf]; omega
              · have Hn : Hid (3 = R) := step_is Hstep.out (H1.out (of_decide_eq_true HB.out)) (by decide)
                go_wp2_with fail
                go_ret
                exact ⟨ret_i Hn.out, Hb1.out⟩
      · go_wp2_with fail
        go_ret
        exact ⟨ret_i (by rw [← Hr.out, List.drop_eq_nil_of_le (by omega)]; rfl), hbl⟩
end Go.Proofs.YtlnklkedpknbpaaGreatDoor
