/- What CompareIds and handref2.Order return. -/
import Derived.Test.YthmkphmciiiagaaGreatDoorPackW
import Derived.Test.YthmkphmciiiagaaGreatDoorPackM
import Derived.WalkLawsBesides
import Derived.Sort.Walk0
namespace Go.Proofs.YthmkphmciiiagaaGreatDoor
open Go.RowKit
def idCmp (k1 : Int) (t1 : ByteArray) (k2 : Int) (t2 : ByteArray) : Int := if k1 < k2 then -1 else if k1 = k2 then cmpS t1 t2 else 1
/-- two ids lie boxed in these blocks -/
def TwoIds (X Y : Nat) (k1 : Int) (t1 : ByteArray) (k2 : Int) (t2 : ByteArray) (w : World) : Prop := LV w X #[.int .i64 k1, .string t1] 29 ∧ LV w Y #[.int .i64 k2, .string t2] 29
set_option maxHeartbeats 2000000 in
set_option maxRecDepth 100000 in
theorem compareIds_any (k1 k2 : Int) (t1 t2 : ByteArray) (w : World) :
    Calls Tryz.prog 180 #[.agg #[.int .i64 k1, .string t1], .agg #[.int .i64 k2, .string t2]] w fun e w' => e = .returned (.int .i64 (idCmp k1 t1 k2 t2)) ∧ Below w.heap.size w w' := by
  obtain ⟨R, HR⟩ : ∃ R, Hid (idCmp k1 t1 k2 t2 = R) := ⟨_, Lib.hid rfl⟩
  rw [HR.out]
  have lv1 := (LV.new w w.heap.size #[.int .i64 k1, .string t1] 29 rfl).alloc (.cells #[.int .i64 k2, .string t2] 29)
  have lv2 := LV.new (w.alloc (.cells #[.int .i64 k1, .string t1] 29)) (w.heap.size + 1) #[.int .i64 k2, .string t2] 29 (by simp)
  have Hb : Hid (Below w.heap.size w ((w.alloc (.cells #[.int .i64 k1, .string t1] 29)).alloc (.cells #[.int .i64 k2, .string t2] 29))) := ((Below.refl _ _).alloc (Nat.le_refl _) _).alloc (by simp) _
  go_enter Tryz.func180, Tryz.ntmps180
  go_wp2_with fail
  refine wp_region_mix (TwoIds w.heap.size (w.heap.size + 1) k1 t1 k2 t2) [(true, 0), (true, 1), (true, 2), (true, 3), (true, 5), (true, 6), (true, 7), (true, 8), (false, 4), (false, 9), (false, 10), (false, 11), (true, 12)] (by kernel_rfl) (by kernel_rfl) (fun w' hd => ⟨lv1.keep (SK.ofBelow (b := w.heap.size + 2) (hd.below _)) (by omega), lv2.keep (SK.ofBelow (b := w.heap.size + 2) (hd.below _)) (by omega)⟩) (fun KK hKK wd hd_wd => ?_)
  have hC : TwoIds w.heap.size (w.heap.size + 1) k1 t1 k2 t2 wd := ⟨lv1.keep (SK.ofBelow (b := w.heap.size + 2) (hd_wd.below _)) (by omega), lv2.keep (SK.ofBelow (b := w.heap.size + 2) (hd_wd.below _)) (by omega)⟩
  have Hbd : Hid (Below w.heap.size w wd) := Hb.out.trans (hd_wd.below _)
  clear lv1 lv2 Hb hd_wd
  repeat (refine mix_p rfl (fun K hK => ?_); go_simp; (try go_bits); (try simp (disch := omega) only [if_pos]); (try simp (disch := omega) only [if_neg]); (try simp (disch := omega) only [dif_pos]); (try simp (disch := omega) only [dif_neg]); (try go_simp); (refine hK _ ?_; clear hK K))
  refine mix_load (.int .i64 k1) rfl rfl rfl rfl (fun _ => rfl) (fun w' h => h.1.cell 0 _ rfl) ?_
  repeat (refine mix_p rfl (fun K hK => ?_); go_simp; (try go_bits); (try simp (disch := omega) only [if_pos]); (try simp (disch := omega) only [if_neg]); (try simp (disch := omega) only [dif_pos]); (try simp (disch := omega) only [dif_neg]); (try go_simp); (refine hK _ ?_; clear hK K))
  refine mix_load (.int .i64 k2) rfl rfl rfl rfl (fun _ => rfl) (fun w' h => h.2.cell 0 _ rfl) ?_
  repeat (refine mix_p rfl (fun K hK => ?_); go_simp; (try go_bits); (try simp (disch := omega) only [if_pos]); (try simp (disch := omega) only [if_neg]); (try simp (disch := omega) only [dif_pos]); (try simp (disch := omega) only [dif_neg]); (try go_simp); (refine hK _ ?_; clear hK K))
  refine mix_load (.string t1) rfl rfl rfl rfl (fun _ => rfl) (fun w' h => h.1.cell 1 _ rfl) ?_
  repeat (refine mix_p rfl (fun K hK => ?_); go_simp; (try go_bits); (try simp (disch := omega) only [if_pos]); (try simp (disch := omega) only [if_neg]); (try simp (disch := omega) only [dif_pos]); (try simp (disch := omega) only [dif_neg]); (try go_simp); (refine hK _ ?_; clear hK K))
  refine mix_load (.string t2) rfl rfl rfl rfl (fun _ => rfl) (fun w' h => h.2.cell 1 _ rfl) ?_
  refine mix_l rfl (fun K hK => ?_) hC
  go_wp2_with fail
  ((with_reducible refine (cmpInt_any k1 k2 _).mono ?_); rintro e _ ⟨rfl, rfl⟩)
  go_wp2_with fail
  refine ⟨hC, ?_⟩
  refine mix_l rfl (fun K hK => ?_) hC
  go_wp2_with fail
  ((with_reducible refine (compareS_any t1 t2 _).mono ?_); rintro e _ ⟨rfl, rfl⟩)
  go_wp2_with fail
  refine ⟨hC, ?_⟩
  refine mix_l rfl (fun K hK => ?_) hC
  go_wp2_with fail
  have hC2 : TwoIds w.heap.size (w.heap.size + 1) k1 t1 k2 t2 (wd.alloc (.cells #[.int .i64 (Lib.compareInt k1 k2), .int .i64 (cmpS t1 t2)] 3)) := ⟨hC.1.alloc _, hC.2.alloc _⟩
  refine ⟨hC2, ?_⟩
  refine mix_l rfl (fun K hK => ?_) hC2
  have c0 : (wd.alloc (.cells #[.int .i64 (Lib.compareInt k1 k2), .int .i64 (cmpS t1 t2)] 3)).cell? ⟨wd.heap.size, 0, none⟩ = some (.int .i64 (Lib.compareInt k1 k2)) := by rw [World.cell?_alloc_at _ _ _ _ rfl]; rfl
  have c1 : (wd.alloc (.cells #[.int .i64 (Lib.compareInt k1 k2), .int .i64 (cmpS t1 t2)] 3)).cell? ⟨wd.heap.size, 1, none⟩ = some (.int .i64 (cmpS t1 t2)) := by rw [World.cell?_alloc_at _ _ _ _ rfl]; rfl
  have Hor := Lib.hid (or_any wd.heap.size _ _ _ c0 c1)
  clear c0 c1
  have HR2 : Hid ((if Lib.compareInt k1 k2 ≠ 0 then Lib.compareInt k1 k2 else cmpS t1 t2) = R) := by
    show _ = _
    rw [← HR.out, idCmp, Lib.compareInt]
    by_cases h1 : k1 < k2
    · simp [h1]
    · by_cases h2 : k1 = k2
      · simp [h2]
      · have h3 : k2 < k1 := by omega
        simp [h1, h2, h3]
  rw [HR2.out] at Hor
  clear HR HR2
  go_wp2_with fail
  ((with_reducible refine (Hor.out).mono ?_); rintro e _ ⟨rfl, rfl⟩)
  go_wp2_with fail
  refine ⟨hC2, ?_⟩
  repeat (refine mix_p rfl (fun K hK => ?_); go_simp; (try go_bits); (try simp (disch := omega) only [if_pos]); (try simp (disch := omega) only [if_neg]); (try simp (disch := omega) only [dif_pos]); (try simp (disch := omega) only [dif_neg]); (try go_simp); (refine hK _ ?_; clear hK K))
  refine mix_nil ?_
  simp only [Exit.then]
  refine hKK _ _ ?_
  go_wp2_with fail
  go_ret
  exact ⟨rfl, Hbd.out.alloc Hbd.out.size _⟩
set_option maxHeartbeats 2000000 in
set_option maxRecDepth 100000 in
theorem order_any (k1 k2 : Int) (t1 t2 : ByteArray) (w : World) :
    Calls Tryz.prog 122 #[.agg #[.int .i64 k1, .string t1], .agg #[.int .i64 k2, .string t2]] w fun e w' => e = .returned (.int .i64 (idCmp k1 t1 k2 t2)) ∧ Below w.heap.size w w' := by
  by_cases hk : k1 = k2
  · subst hk
    obtain ⟨R, HR⟩ : ∃ R, Hid (idCmp k1 t1 k1 t2 = R) := ⟨_, Lib.hid rfl⟩
    rw [HR.out]
    have Hb : Hid (Below w.heap.size w ((w.alloc (.cells #[.int .i64 k1, .string t1] 29)).alloc (.cells #[.int .i64 k1, .string t2] 29))) := ((Below.refl _ _).alloc (Nat.le_refl _) _).alloc (by simp) _
    go_enter Tryz.func122, Tryz.ntmps122
    go_wp2_with fail
    all_goals (go_ret; refine ⟨ret_i ?_, Hb.out⟩; rw [← HR.out]; unfold idCmp cmpS; clear HR Hb; simp_all)
  · have hk' : (k1 == k2) = false := by simpa using hk
    obtain ⟨R, HR⟩ : ∃ R, Hid (idCmp k1 t1 k2 t2 = R) := ⟨_, Lib.hid rfl⟩
    rw [HR.out]
    have Hb : Hid (Below w.heap.size w ((w.alloc (.cells #[.int .i64 k1, .string t1] 29)).alloc (.cells #[.int .i64 k2, .string t2] 29))) := ((Below.refl _ _).alloc (Nat.le_refl _) _).alloc (by simp) _
    go_enter Tryz.func122, Tryz.ntmps122
    go_wp2_with fail
    all_goals
      go_ret
      refine ⟨ret_i ?_, Hb.out⟩
      rw [← HR.out]
      unfold idCmp
      first
        | (rw [if_pos (by assumption)]; done)
        | (rw [if_neg (by omega), if_neg hk]; done)
end Go.Proofs.YthmkphmciiiagaaGreatDoor
