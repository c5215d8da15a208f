/- What consent.wanted returns. -/
import Derived.Test.YthmkphmciiiagaaGreatDoorMoms
import Derived.Test.YthmkphmciiiagaaGreatDoorChgLaw
import Derived.Test.YthmkphmciiiagaaGreatDoorPackD
namespace Go.Proofs.YthmkphmciiiagaaGreatDoor
open Go Go.RowKit
/-- what must be said, as the program finds it -/
def wantP (tm : PTerm) (pu : ByteArray) (at' : Int) (U : List Stm) : List Int := (if (ansP (some tm) pu at' (upS at' U)).2.1 = 6 then [5] else []) ++ (if (allowP tm pu at' (upS at' U)).1 = false then [1] else [])
theorem fieldWhy (m : Bool) (y n : Int) (w : World) : (Instr.field 105 (.agg #[.bool m, .int .i64 y, .int .i64 n]) 1).run Tryz.prog w = .ok (.int .i64 y) w := by
  have u48 := Tryz.underlying105
  have a4 := Tryz.isAgg3
  simp only [Instr.field, run_underlying u48, Sem.run_bind, Result.andThen_ok]
  go_simp
  rfl
theorem loadTermK {w : World} {K : Nat} {tm : PTerm} {is : Bool} {pu : ByteArray} {A : Option Addr} {n c : Nat} (l : LV w K (askCs tm is pu A n c) 102) : (Instr.loadAt 99 (.pointer (some ⟨K, 0, none⟩))).run Tryz.prog w = .ok (tVal tm) w := by
  have c0 := l.all
  go_simp
set_option maxHeartbeats 8000000 in
set_option maxRecDepth 100000 in
theorem wanted_any (N : Nat → Prop) (tm : PTerm) (pu : ByteArray) (A : Option Addr) (U : List Stm) (c : Nat) (at' : Int) (w : World) (hS : Sl rStm N w A U) (hn : U.length ≤ 1000000) (hri : U.Pairwise ahead) (hc : U.length ≤ c ∧ (A = none → c = 0) ∧ ∀ a, A = some a → a.spot = none) (hg : ∀ s ∈ U, 0 ≤ s.at' ∧ s.at' ≤ 4321439)
    (hd : (0 ≤ tm.days ∧ tm.days ≤ 2000) ∧ (0 ≤ tm.wait ∧ tm.wait ≤ 100000)) (hat : 0 ≤ at' ∧ at' ≤ 4321439) :
    Calls Tryz.prog 60 #[.agg (askCs tm true pu A U.length c), .int .i64 at'] w (GivesL (wantP tm pu at' U) w) := by
  have HAn : Hid (∀ w' (_ : Below w.heap.size w w'), Calls Tryz.prog 59 #[.agg (askCs tm true pu A U.length c), .int .i64 at'] w' fun e w'' => e = .returned (aVal (ansP (some tm) pu at' (upS at' U))) ∧ Below w'.heap.size w' w'') := fun w' h => answer_any N (some tm) pu A U c at' w' (hS.keepB h) hn hri hc hg (fun t ht => by cases ht; exact hd) (by omega)
  have Hu := Lib.hid (fun w' (h : Below w.heap.size w w') => upTo_any N A U c at' w' (hS.keepB h) hn hri hc (by omega))
  have hg2 : ∀ s ∈ upS at' U, 0 ≤ s.at' ∧ s.at' ≤ 4321439 := fun s hs => hg s (List.mem_filter.1 hs).1
  have hn2 : (upS at' U).length ≤ 1000000 := Nat.le_trans (List.length_filter_le ..) hn
  have HAl := Lib.hid (fun w' (h : Sl rStm N w' A (upS at' U)) => allowed_any N A (upS at' U) c tm pu at' w' h hn2 hg2 hd.1 hd.2)
  unfold wantP
  generalize ansP (some tm) pu at' (upS at' U) = an at *
  generalize allowP tm pu at' (upS at' U) = al at *
  generalize upS at' U = V at *
  obtain ⟨R, HR⟩ : ∃ R : List Int, Hid ((if an.2.1 = 6 then [5] else []) ++ (if al.1 = false then [1] else []) = R) := ⟨_, Lib.hid rfl⟩
  rw [HR.out]
  clear hS hn hri hc hg hg2 hn2 hd
  have S := ((Mem.start w).new' (askCs tm true pu A U.length c) 102).nil rInt w.heap.size 3
  replace S : Mem w (w.alloc (.cells (askCs tm true pu A U.length c) 102)) [.loc w.heap.size (askCs tm true pu A U.length c) 102, .own rInt w.heap.size 3 (.slice none 0 0) []] := S
  go_enter Tryz.func60, Tryz.ntmps60
  go_upto_region 2 with fail
  generalize w.alloc (.cells (askCs tm true pu A U.length c) 102) = w1 at *
  have c0 := (S.lv 0 rfl).all
  go_wp2_with fail
  ((with_reducible refine (HAn.out w1 S.b).mono ?_); rintro e w2 ⟨rfl, hl2⟩)
  replace S := S.below hl2
  rw [show aVal an = Value.agg #[.bool an.1, .int .i64 an.2.1, .int .i64 an.2.2] from rfl]
  clear hl2 HAn c0
  have hfy := fieldWhy
  by_cases h6 : an.2.1 = 6
  · have h6' : (an.2.1 == 6) = true := by simpa using h6
    have HR1 : Hid (([5] : List Int) ++ (if al.1 = false then [1] else []) = R) := by show _ = _; rw [← HR.out, if_pos h6]
    clear h6 HR
    have hsz := S.b.size
    go_upto_region 4 with (at_builtin; refine S.app 1 rfl tyIntP rfl _ _ rfl 5 1 rfl rfl rfl (oneI 5) hsz (by simp) (by decide) ?_; intro v3 w3 S3)
    replace S : Mem w w3 [.loc w.heap.size (askCs tm true pu A U.length c) 102, .own rInt w.heap.size 3 v3 [5]] := S3
    clear hfy S3
    have ho1l : ([5] : List Int).length ≤ 1 := Nat.le_refl _
    generalize ([5] : List Int) = o1 at *
    obtain ⟨am, ay, ao⟩ := al
    rw [show aVal (am, ay, ao) = Value.agg #[.bool am, .int .i64 ay, .int .i64 ao] from rfl] at HAl
    cases am
    · have HR2 : Hid (o1 ++ [1] = R) := by show _ = _; rw [← HR1.out]; simp
      clear HR1
      refine wp_region_mix (fun wx => LV wx w.heap.size (askCs tm true pu A U.length c) 102) [(true, 0), (true, 1), (true, 2), (true, 4), (true, 5), (true, 6), (true, 7), (true, 8), (false, 3), (false, 9), (true, 10), (true, 11)] (by kernel_rfl) (by kernel_rfl) (fun w' hd => (S.below (hd.below _)).lv 0 rfl) (fun KK hKK wd hd => ?_)
      replace S := S.below (hd.below _)
      clear hd
      repeat (refine mix_p rfl (fun K hK => ?_); go_simp; (try go_bits); (try simp (disch := omega) only [if_pos]); (try simp (disch := omega) only [if_neg]); (try simp (disch := omega) only [dif_pos]); (try simp (disch := omega) only [dif_neg]); (try go_simp); (refine hK _ ?_; clear hK K))
      refine mix_load (.slice A U.length c) rfl rfl rfl rfl (fun _ => rfl) (fun w' h => h.cell 7 _ rfl) ?_
      repeat (refine mix_p rfl (fun K hK => ?_); go_simp; (try go_bits); (try simp (disch := omega) only [if_pos]); (try simp (disch := omega) only [if_neg]); (try simp (disch := omega) only [dif_pos]); (try simp (disch := omega) only [dif_neg]); (try go_simp); (refine hK _ ?_; clear hK K))
      refine mix_loadR (tVal tm) rfl rfl rfl rfl (fun w' h => loadTermK h) ?_
      repeat (refine mix_p rfl (fun K hK => ?_); go_simp; (try go_bits); (try simp (disch := omega) only [if_pos]); (try simp (disch := omega) only [if_neg]); (try simp (disch := omega) only [dif_pos]); (try simp (disch := omega) only [dif_neg]); (try go_simp); (refine hK _ ?_; clear hK K))
      refine mix_load (.string pu) rfl rfl rfl rfl (fun _ => rfl) (fun w' h => h.cell 6 _ rfl) ?_
      repeat (refine mix_p rfl (fun K hK => ?_); go_simp; (try go_bits); (try simp (disch := omega) only [if_pos]); (try simp (disch := omega) only [if_neg]); (try simp (disch := omega) only [dif_pos]); (try simp (disch := omega) only [dif_neg]); (try go_simp); (refine hK _ ?_; clear hK K))
      refine mix_l rfl (fun K hK => ?_) (S.lv 0 rfl)
      go_wp2_with fail
      ((with_reducible refine (Hu.out wd S.b).mono ?_); rintro e w5 ⟨rfl, hV, hl5⟩)
      replace S := S.below hl5
      have HV := Lib.hid hV
      clear hl5 Hu hV
      have hC := S.lv 0 rfl
      go_wp2_with fail
      refine ⟨hC, ?_⟩
      clear hC
      have hfm := fieldMay
      refine mix_l rfl (fun K hK => ?_) (S.lv 0 rfl)
      go_wp2_with fail
      ((with_reducible refine (HAl.out w5 HV.out).mono ?_); rintro e w6 ⟨rfl, hl6⟩)
      replace S := S.below hl6
      clear hl6 HAl HV
      have hC := S.lv 0 rfl
      go_wp2_with fail
      refine ⟨hC, ?_⟩
      clear hC
      repeat (refine mix_p rfl (fun K hK => ?_); go_simp; (try go_bits); (try simp (disch := omega) only [if_pos]); (try simp (disch := omega) only [if_neg]); (try simp (disch := omega) only [dif_pos]); (try simp (disch := omega) only [dif_neg]); (try go_simp); (refine hK _ ?_; clear hK K))
      refine mix_nil ?_
      simp only [Exit.then]
      refine hKK _ _ ?_
      clear hfm
      have hsz := S.b.size
      go_wp2_with (at_builtin; refine S.app 1 rfl tyIntP rfl _ _ rfl 1 1 rfl rfl rfl (oneI 1) hsz (by omega) (by decide) ?_; intro v7 w7 S7)
      obtain ⟨A2, c2, e2, hS⟩ := ((S7.ow 1 rfl).flatM flatInt (M' := Lt w.heap.size)).toSlC (fun k h1 h2 => by unfold Lt at h2; omega)
      have He := Lib.hid e2
      have HS2 := Lib.hid hS.2
      rw [HR2.out] at He HS2
      clear hS e2
      go_ret
      exact ⟨A2, c2, congrArg Ending.returned He.out, HS2.out, S7.b⟩
    · have HR2 : Hid (o1 = R) := by show _ = _; rw [← HR1.out]; simp
      clear HR1
      refine wp_region_mix (fun wx => LV wx w.heap.size (askCs tm true pu A U.length c) 102) [(true, 0), (true, 1), (true, 2), (true, 4), (true, 5), (true, 6), (true, 7), (true, 8), (false, 3), (false, 9), (true, 10), (true, 11)] (by kernel_rfl) (by kernel_rfl) (fun w' hd => (S.below (hd.below _)).lv 0 rfl) (fun KK hKK wd hd => ?_)
      replace S := S.below (hd.below _)
      clear hd
      repeat (refine mix_p rfl (fun K hK => ?_); go_simp; (try go_bits); (try simp (disch := omega) only [if_pos]); (try simp (disch := omega) only [if_neg]); (try simp (disch := omega) only [dif_pos]); (try simp (disch := omega) only [dif_neg]); (try go_simp); (refine hK _ ?_; clear hK K))
      refine mix_load (.slice A U.length c) rfl rfl rfl rfl (fun _ => rfl) (fun w' h => h.cell 7 _ rfl) ?_
      repeat (refine mix_p rfl (fun K hK => ?_); go_simp; (try go_bits); (try simp (disch := omega) only [if_pos]); (try simp (disch := omega) only [if_neg]); (try simp (disch := omega) only [dif_pos]); (try simp (disch := omega) only [dif_neg]); (try go_simp); (refine hK _ ?_; clear hK K))
      refine mix_loadR (tVal tm) rfl rfl rfl rfl (fun w' h => loadTermK h) ?_
      repeat (refine mix_p rfl (fun K hK => ?_); go_simp; (try go_bits); (try simp (disch := omega) only [if_pos]); (try simp (disch := omega) only [if_neg]); (try simp (disch := omega) only [dif_pos]); (try simp (disch := omega) only [dif_neg]); (try go_simp); (refine hK _ ?_; clear hK K))
      refine mix_load (.string pu) rfl rfl rfl rfl (fun _ => rfl) (fun w' h => h.cell 6 _ rfl) ?_
      repeat (refine mix_p rfl (fun K hK => ?_); go_simp; (try go_bits); (try simp (disch := omega) only [if_pos]); (try simp (disch := omega) only [if_neg]); (try simp (disch := omega) only [dif_pos]); (try simp (disch := omega) only [dif_neg]); (try go_simp); (refine hK _ ?_; clear hK K))
      refine mix_l rfl (fun K hK => ?_) (S.lv 0 rfl)
      go_wp2_with fail
      ((with_reducible refine (Hu.out wd S.b).mono ?_); rintro e w5 ⟨rfl, hV, hl5⟩)
      replace S := S.below hl5
      have HV := Lib.hid hV
      clear hl5 Hu hV
      have hC := S.lv 0 rfl
      go_wp2_with fail
      refine ⟨hC, ?_⟩
      clear hC
      have hfm := fieldMay
      refine mix_l rfl (fun K hK => ?_) (S.lv 0 rfl)
      go_wp2_with fail
      ((with_reducible refine (HAl.out w5 HV.out).mono ?_); rintro e w6 ⟨rfl, hl6⟩)
      replace S := S.below hl6
      clear hl6 HAl HV
      have hC := S.lv 0 rfl
      go_wp2_with fail
      refine ⟨hC, ?_⟩
      clear hC
      repeat (refine mix_p rfl (fun K hK => ?_); go_simp; (try go_bits); (try simp (disch := omega) only [if_pos]); (try simp (disch := omega) only [if_neg]); (try simp (disch := omega) only [dif_pos]); (try simp (disch := omega) only [dif_neg]); (try go_simp); (refine hK _ ?_; clear hK K))
      refine mix_nil ?_
      simp only [Exit.then]
      refine hKK _ _ ?_
      clear hfm
      obtain ⟨A2, c2, e2, hS⟩ := ((S.ow 1 rfl).flatM flatInt (M' := Lt w.heap.size)).toSlC (fun k h1 h2 => by unfold Lt at h2; omega)
      have He := Lib.hid e2
      have HS2 := Lib.hid hS.2
      rw [HR2.out] at He HS2
      clear hS e2
      go_wp2_with fail
      go_ret
      exact ⟨A2, c2, congrArg Ending.returned He.out, HS2.out, S.b⟩
  · have h6' : (an.2.1 == 6) = false := by simpa using h6
    obtain ⟨o1, ho1⟩ : ∃ o1 : List Int, o1 = [] := ⟨_, rfl⟩
    have HR1 : Hid (o1 ++ (if al.1 = false then [1] else []) = R) := by show _ = _; rw [← HR.out, if_neg h6, ho1]
    have ho1l : o1.length ≤ 1 := by rw [ho1]; exact Nat.zero_le _
    clear h6 HR
    obtain ⟨v3, hv3⟩ : ∃ v, v = Value.slice none 0 0 := ⟨_, rfl⟩
    rw [← hv3, ← ho1] at S
    go_upto_region 4 with fail
    rw [← hv3]
    clear hfy hv3 ho1
    obtain ⟨am, ay, ao⟩ := al
    rw [show aVal (am, ay, ao) = Value.agg #[.bool am, .int .i64 ay, .int .i64 ao] from rfl] at HAl
    cases am
    · have HR2 : Hid (o1 ++ [1] = R) := by show _ = _; rw [← HR1.out]; simp
      clear HR1
      refine wp_region_mix (fun wx => LV wx w.heap.size (askCs tm true pu A U.length c) 102) [(true, 0), (true, 1), (true, 2), (true, 4), (true, 5), (true, 6), (true, 7), (true, 8), (false, 3), (false, 9), (true, 10), (true, 11)] (by kernel_rfl) (by kernel_rfl) (fun w' hd => (S.below (hd.below _)).lv 0 rfl) (fun KK hKK wd hd => ?_)
      replace S := S.below (hd.below _)
      clear hd
      repeat (refine mix_p rfl (fun K hK => ?_); go_simp; (try go_bits); (try simp (disch := omega) only [if_pos]); (try simp (disch := omega) only [if_neg]); (try simp (disch := omega) only [dif_pos]); (try simp (disch := omega) only [dif_neg]); (try go_simp); (refine hK _ ?_; clear hK K))
      refine mix_load (.slice A U.length c) rfl rfl rfl rfl (fun _ => rfl) (fun w' h => h.cell 7 _ rfl) ?_
      repeat (refine mix_p rfl (fun K hK => ?_); go_simp; (try go_bits); (try simp (disch := omega) only [if_pos]); (try simp (disch := omega) only [if_neg]); (try simp (disch := omega) only [dif_pos]); (try simp (disch := omega) only [dif_neg]); (try go_simp); (refine hK _ ?_; clear hK K))
      refine mix_loadR (tVal tm) rfl rfl rfl rfl (fun w' h => loadTermK h) ?_
      repeat (refine mix_p rfl (fun K hK => ?_); go_simp; (try go_bits); (try simp (disch := omega) only [if_pos]); (try simp (disch := omega) only [if_neg]); (try simp (disch := omega) only [dif_pos]); (try simp (disch := omega) only [dif_neg]); (try go_simp); (refine hK _ ?_; clear hK K))
      refine mix_load (.string pu) rfl rfl rfl rfl (fun _ => rfl) (fun w' h => h.cell 6 _ rfl) ?_
      repeat (refine mix_p rfl (fun K hK => ?_); go_simp; (try go_bits); (try simp (disch := omega) only [if_pos]); (try simp (disch := omega) only [if_neg]); (try simp (disch := omega) only [dif_pos]); (try simp (disch := omega) only [dif_neg]); (try go_simp); (refine hK _ ?_; clear hK K))
      refine mix_l rfl (fun K hK => ?_) (S.lv 0 rfl)
      go_wp2_with fail
      ((with_reducible refine (Hu.out wd S.b).mono ?_); rintro e w5 ⟨rfl, hV, hl5⟩)
      replace S := S.below hl5
      have HV := Lib.hid hV
      clear hl5 Hu hV
      have hC := S.lv 0 rfl
      go_wp2_with fail
      refine ⟨hC, ?_⟩
      clear hC
      have hfm := fieldMay
      refine mix_l rfl (fun K hK => ?_) (S.lv 0 rfl)
      go_wp2_with fail
      ((with_reducible refine (HAl.out w5 HV.out).mono ?_); rintro e w6 ⟨rfl, hl6⟩)
      replace S := S.below hl6
      clear hl6 HAl HV
      have hC := S.lv 0 rfl
      go_wp2_with fail
      refine ⟨hC, ?_⟩
      clear hC
      repeat (refine mix_p rfl (fun K hK => ?_); go_simp; (try go_bits); (try simp (disch := omega) only [if_pos]); (try simp (disch := omega) only [if_neg]); (try simp (disch := omega) only [dif_pos]); (try simp (disch := omega) only [dif_neg]); (try go_simp); (refine hK _ ?_; clear hK K))
      refine mix_nil ?_
      simp only [Exit.then]
      refine hKK _ _ ?_
      clear hfm
      have hsz := S.b.size
      go_wp2_with (at_builtin; refine S.app 1 rfl tyIntP rfl _ _ rfl 1 1 rfl rfl rfl (oneI 1) hsz (by omega) (by decide) ?_; intro v7 w7 S7)
      obtain ⟨A2, c2, e2, hS⟩ := ((S7.ow 1 rfl).flatM flatInt (M' := Lt w.heap.size)).toSlC (fun k h1 h2 => by unfold Lt at h2; omega)
      have He := Lib.hid e2
      have HS2 := Lib.hid hS.2
      rw [HR2.out] at He HS2
      clear hS e2
      go_ret
      exact ⟨A2, c2, congrArg Ending.returned He.out, HS2.out, S7.b⟩
    · have HR2 : Hid (o1 = R) := by show _ = _; rw [← HR1.out]; simp
      clear HR1
      refine wp_region_mix (fun wx => LV wx w.heap.size (askCs tm true pu A U.length c) 102) [(true, 0), (true, 1), (true, 2), (true, 4), (true, 5), (true, 6), (true, 7), (true, 8), (false, 3), (false, 9), (true, 10), (true, 11)] (by kernel_rfl) (by kernel_rfl) (fun w' hd => (S.below (hd.below _)).lv 0 rfl) (fun KK hKK wd hd => ?_)
      replace S := S.below (hd.below _)
      clear hd
      repeat (refine mix_p rfl (fun K hK => ?_); go_simp; (try go_bits); (try simp (disch := omega) only [if_pos]); (try simp (disch := omega) only [if_neg]); (try simp (disch := omega) only [dif_pos]); (try simp (disch := omega) only [dif_neg]); (try go_simp); (refine hK _ ?_; clear hK K))
      refine mix_load (.slice A U.length c) rfl rfl rfl rfl (fun _ => rfl) (fun w' h => h.cell 7 _ rfl) ?_
      repeat (refine mix_p rfl (fun K hK => ?_); go_simp; (try go_bits); (try simp (disch := omega) only [if_pos]); (try simp (disch := omega) only [if_neg]); (try simp (disch := omega) only [dif_pos]); (try simp (disch := omega) only [dif_neg]); (try go_simp); (refine hK _ ?_; clear hK K))
      refine mix_loadR (tVal tm) rfl rfl rfl rfl (fun w' h => loadTermK h) ?_
      repeat (refine mix_p rfl (fun K hK => ?_); go_simp; (try go_bits); (try simp (disch := omega) only [if_pos]); (try simp (disch := omega) only [if_neg]); (try simp (disch := omega) only [dif_pos]); (try simp (disch := omega) only [dif_neg]); (try go_simp); (refine hK _ ?_; clear hK K))
      refine mix_load (.string pu) rfl rfl rfl rfl (fun _ => rfl) (fun w' h => h.cell 6 _ rfl) ?_
      repeat (refine mix_p rfl (fun K hK => ?_); go_simp; (try go_bits); (try simp (disch := omega) only [if_pos]); (try simp (disch := omega) only [if_neg]); (try simp (disch := omega) only [dif_pos]); (try simp (disch := omega) only [dif_neg]); (try go_simp); (refine hK _ ?_; clear hK K))
      refine mix_l rfl (fun K hK => ?_) (S.lv 0 rfl)
      go_wp2_with fail
      ((with_reducible refine (Hu.out wd S.b).mono ?_); rintro e w5 ⟨rfl, hV, hl5⟩)
      replace S := S.below hl5
      have HV := Lib.hid hV
      clear hl5 Hu hV
      have hC := S.lv 0 rfl
      go_wp2_with fail
      refine ⟨hC, ?_⟩
      clear hC
      have hfm := fieldMay
      refine mix_l rfl (fun K hK => ?_) (S.lv 0 rfl)
      go_wp2_with fail
      ((with_reducible refine (HAl.out w5 HV.out).mono ?_); rintro e w6 ⟨rfl, hl6⟩)
      replace S := S.below hl6
      clear hl6 HAl HV
      have hC := S.lv 0 rfl
      go_wp2_with fail
      refine ⟨hC, ?_⟩
      clear hC
      repeat (refine mix_p rfl (fun K hK => ?_); go_simp; (try go_bits); (try simp (disch := omega) only [if_pos]); (try simp (disch := omega) only [if_neg]); (try simp (disch := omega) only [dif_pos]); (try simp (disch := omega) only [dif_neg]); (try go_simp); (refine hK _ ?_; clear hK K))
      refine mix_nil ?_
      simp only [Exit.then]
      refine hKK _ _ ?_
      clear hfm
      obtain ⟨A2, c2, e2, hS⟩ := ((S.ow 1 rfl).flatM flatInt (M' := Lt w.heap.size)).toSlC (fun k h1 h2 => by unfold Lt at h2; omega)
      have He := Lib.hid e2
      have HS2 := Lib.hid hS.2
      rw [HR2.out] at He HS2
      clear hS e2
      go_wp2_with fail
      go_ret
      exact ⟨A2, c2, congrArg Ending.returned He.out, HS2.out, S.b⟩
end Go.Proofs.YthmkphmciiiagaaGreatDoor
