/- Several texts in one: CmpLaw, Grew, StmOrd, StmOrdR, CmpctS, MrgLaw, SortFn, IdxS, SortS, Merge, MrgRef, LawMrg. -/
import Derived.Test.YthmkphmciiiagaaGreatDoorIdOrder
import Derived.Shelf.SlSortCmp.InsertionK
import Derived.Test.YthmkphmciiiagaaGreatDoorPackA
import Derived.WalkLawsBesides
import Derived.Sort.Walk0
import Derived.Test.YthmkphmciiiagaaGreatDoorPackE
import Derived.Test.YthmkphmciiiagaaGreatDoorPackM
import Derived.Test.YthmkphmciiiagaaGreatDoorPackB
import Derived.Test.YthmkphmciiiagaaGreatDoorShelf
import Derived.Test.YthmkphmciiiagaaGreatDoorPackK
import Derived.Test.YthmkphmciiiagaaGreatDoorPackH
import Derived.Shelf.SlSortCmp.NoneTotal
import Derived.Test.YthmkphmciiiagaaGreatDoorSf
import Derived.Test.YthmkphmciiiagaaGreatDoorStmChk
import Derived.Test.YthmkphmciiiagaaGreatDoorLawAsk
import Derived.Test.YthmkphmciiiagaaGreatDoorPackS
/- Orders by comparing: laws of a comparison, one behind another, and what they say of sorted lists. -/
namespace Go.Proofs.YthmkphmciiiagaaGreatDoor
open Go Go.RowKit Go.Sort Go.Shelf
/-- a comparison: a total order of classes of equals -/
structure CmpOk {α : Type} (c : α → α → Int) : Prop where
  anti : ∀ a b, c a b < 0 ↔ 0 < c b a
  trans : ∀ a b d, c a b ≤ 0 → c b d ≤ 0 → c a d ≤ 0
theorem CmpOk.refl {α : Type} {c : α → α → Int} (h : CmpOk c) (a : α) : c a a = 0 := by
  have := h.anti a a
  omega
theorem CmpOk.zero {α : Type} {c : α → α → Int} (h : CmpOk c) {a b : α} (e : c a b = 0) : c b a = 0 := by
  have h1 := h.anti a b
  have h2 := h.anti b a
  omega
theorem CmpOk.lt {α : Type} {c : α → α → Int} (h : CmpOk c) {a b d : α} (h1 : c a b < 0) (h2 : c b d ≤ 0) : c a d < 0 := by
  have h3 := h.trans a b d (by omega) h2
  have h4 := h.anti a b
  have h5 := h.anti a d
  have h6 := h.anti d a
  have h7 := h.trans b d a h2
  omega
theorem CmpOk.lt' {α : Type} {c : α → α → Int} (h : CmpOk c) {a b d : α} (h1 : c a b ≤ 0) (h2 : c b d < 0) : c a d < 0 := by
  have h3 := h.trans a b d h1 (by omega)
  have h4 := h.anti b d
  have h5 := h.anti a d
  have h6 := h.anti d a
  have h7 := h.trans d a b
  omega
/-- one comparison, and where it is level another one -/
def lexC {α : Type} (c d : α → α → Int) (a b : α) : Int := if c a b ≠ 0 then c a b else d a b
theorem CmpOk.lex {α : Type} {c d : α → α → Int} (hc : CmpOk c) (hd : CmpOk d) : CmpOk (lexC c d) where
  anti a b := by
    have h1 := hc.anti a b
    have h2 := hc.anti b a
    have h3 := hd.anti a b
    unfold lexC
    split <;> split <;> omega
  trans a b e h1 h2 := by
    unfold lexC at h1 h2 ⊢
    by_cases e1 : c a b = 0
    · rw [if_neg (by omega)] at h1
      by_cases e2 : c b e = 0
      · rw [if_neg (by omega)] at h2
        have h3 := hc.trans a b e (by omega) (by omega)
        have h4 := hc.trans e b a (by have := hc.zero e2; omega) (by have := hc.zero e1; omega)
        have h5 := hc.anti e a
        have h6 := hc.anti a e
        rw [if_neg (by omega)]
        exact hd.trans a b e h1 h2
      · rw [if_pos e2] at h2
        have := hc.lt' (a := a) (b := b) (d := e) (by omega) (by omega)
        rw [if_pos (by omega)]; omega
    · rw [if_pos e1] at h1
      by_cases e2 : c b e = 0
      · have := hc.lt (a := a) (b := b) (d := e) (by omega) (by omega)
        rw [if_pos (by omega)]; omega
      · rw [if_pos e2] at h2
        have := hc.lt (a := a) (b := b) (d := e) (by omega) (by omega)
        rw [if_pos (by omega)]; omega
theorem CmpOk.of {α β : Type} {c : β → β → Int} (h : CmpOk c) (f : α → β) : CmpOk (fun a b => c (f a) (f b)) := ⟨fun _ _ => h.anti _ _, fun _ _ _ => h.trans _ _ _⟩
theorem cmpOkI : CmpOk Lib.compareInt where
  anti a b := by unfold Lib.compareInt; split <;> split <;> (try split) <;> (try split) <;> omega
  trans a b d h1 h2 := by unfold Lib.compareInt at *; split at h1 <;> split at h2 <;> (try split at h1) <;> (try split at h2) <;> split <;> (try split) <;> omega
theorem compareInt_zero {a b : Int} (h : Lib.compareInt a b = 0) : a = b := by unfold Lib.compareInt at h; split at h <;> (try split at h) <;> omega
theorem CmpOk.swo {α : Type} {c : α → α → Int} (h : CmpOk c) : Go.Sort.SWO (ltOf c) where
  irrefl a := by unfold ltOf; simp [h.refl a]
  trans a b d h1 h2 := by
    unfold ltOf at *
    simp only [decide_eq_true_eq] at *
    exact h.lt h1 (by omega)
  ntrans a b d h1 h2 := by
    unfold ltOf at *
    simp only [decide_eq_false_iff_not] at *
    intro h3
    have h4 := h.anti a b
    have h5 := h.anti b a
    have h6 := h.anti b d
    have h7 := h.anti d b
    have h8 := h.lt' (a := b) (b := a) (d := d) (by omega) h3
    omega
theorem strict_eq {α : Type} (lt : α → α → Prop) (irr : ∀ x, ¬ lt x x) (tr : ∀ x y z, lt x y → lt y z → lt x z) : ∀ (l m : List α), l.Pairwise lt → m.Pairwise lt → (∀ x, x ∈ l ↔ x ∈ m) → l = m
  | [], [], _, _, _ => rfl
  | [], y :: s, _, _, h => absurd ((h y).2 (by simp)) (by simp)
  | x :: r, [], _, _, h => absurd ((h x).1 (by simp)) (by simp)
  | x :: r, y :: s, hl, hm, h => by
    obtain ⟨h1, h2⟩ := List.pairwise_cons.1 hl
    obtain ⟨h3, h4⟩ := List.pairwise_cons.1 hm
    have hxy : x = y := by
      rcases List.mem_cons.1 ((h x).1 (by simp)) with e | hx
      · exact e
      · rcases List.mem_cons.1 ((h y).2 (by simp)) with e | hy
        · exact e.symm
        · exact absurd (tr x y x (h1 y hy) (h3 x hx)) (irr x)
    subst hxy
    congr 1
    refine strict_eq lt irr tr r s h2 h4 fun z => ?_
    constructor
    · intro hz
      rcases List.mem_cons.1 ((h z).1 (by simp [hz])) with rfl | e
      · exact absurd (h1 z hz) (irr z)
      · exact e
    · intro hz
      rcases List.mem_cons.1 ((h z).2 (by simp [hz])) with rfl | e
      · exact absurd (h3 z hz) (irr z)
      · exact e
end Go.Proofs.YthmkphmciiiagaaGreatDoor

/- Calls that only draw and make blocks; CompareIds and handref2.Order so told. -/
namespace Go.Proofs.YthmkphmciiiagaaGreatDoor
open Go Go.RowKit Go.Sort Go.Shelf
/-- draws and new blocks, and nothing else -/
def Grew (w w' : World) : Prop := ∃ (q : Nat) (os : Array Obj), w' = grow (w.drewN q) os
theorem Grew.refl (w : World) : Grew w w := ⟨0, #[], by rw [grow_empty]; rfl⟩
theorem Grew.alloc {w w' : World} (h : Grew w w') (o : Obj) : Grew w (w'.alloc o) := by
  obtain ⟨q, os, rfl⟩ := h
  refine ⟨q, os.push o, ?_⟩
  unfold grow World.alloc
  simp only [Array.append_push]
theorem Grew.drew {w w' : World} (h : Grew w w') : Grew w w'.drew := by
  obtain ⟨q, os, rfl⟩ := h
  exact ⟨q + 1, os, rfl⟩
theorem Grew.trans {u v w : World} (h : Grew u v) (k : Grew v w) : Grew u w := by
  obtain ⟨q, os, rfl⟩ := h
  obtain ⟨p, os', rfl⟩ := k
  refine ⟨q + p, os ++ os', ?_⟩
  unfold grow World.drewN
  simp only [Array.append_assoc, Nat.add_assoc]
theorem Grew.below {w w' : World} (h : Grew w w') : Below w.heap.size w w' := by
  obtain ⟨q, os, rfl⟩ := h
  refine ⟨rfl, rfl, rfl, ?_, fun k hk => ?_⟩
  · show w.heap.size ≤ (w.heap ++ os).size
    simp
  · show (w.heap ++ os)[k]? = w.heap[k]?
    exact Array.getElem?_append_left hk
theorem Grew.ofDrewn {u w w' : World} (h : Grew u w) (hd : Drewn w w') : Grew u w' := by
  rw [show w' = w.drew from hd]; exact h.drew
set_option maxHeartbeats 1000000 in
theorem orN_any (blk : Nat) (es : List Int) (w : World) (h : LV w blk (es.map (Value.int .i64)).toArray 3) (hn : es.length ≤ 1000) :
    Calls Tryz.prog 178 #[.slice (some ⟨blk, 0, none⟩) es.length es.length] w fun e w' => e = .returned (.int .i64 (firstErr es)) ∧ w = w' := by
  obtain ⟨R, HR⟩ : ∃ R, Hid (firstErr es = R) := ⟨_, Lib.hid rfl⟩
  rw [HR.out]
  go_enter Tryz.func178, Tryz.ntmps178
  go_wp2_with fail
  go_loopw [8] (fun i wr => ∃ k : Nat, k ≤ es.length ∧ i = .int .i64 k ∧ firstErr (es.drop k) = R ∧ w = wr) (fun i _ => es.length - (intOf i).toNat)
  case atStart => exact ⟨0, Nat.zero_le _, rfl, HR.out, rfl⟩
  case round =>
    clear HR
    obtain ⟨k, hk, rfl, hr, rfl⟩ := hrel
    have Hr := Lib.hid hr
    clear hr
    by_cases hlt : k < es.length
    · have c0 : w.cell? ⟨blk, k, none⟩ = some (.int .i64 es[k]) := h.cell k _ (by simp [hlt])
      have Hs : Hid (firstErr (es[k] :: es.drop (k + 1)) = R) := by show _ = _; rw [← Hr.out, List.drop_eq_getElem_cons hlt]
      clear Hr
      generalize es[k] = x at *
      by_cases hx : x = 0
      · subst hx
        go_wp2_with fail
        go_roundw
        case rel => exact ⟨k + 1, by omega, by go_num, by rw [← Hs.out, firstErr, if_neg (by simp)], by first | rfl | trivial⟩
        case measure => simp [intOf]; omega
      · have hx' : (x != 0) = true := by simpa using hx
        have Hn : Hid (x = R) := by show _ = _; rw [← Hs.out, firstErr, if_pos hx]
        clear Hs hx
        go_wp2_with fail
        go_ret
        exact ⟨ret_i Hn.out, rfl⟩
    · have Hn : Hid (0 = R) := by show _ = _; rw [← Hr.out, List.drop_eq_nil_of_le (by omega)]; rfl
      clear Hr
      go_wp2_with fail
      go_ret
      exact ⟨ret_i Hn.out, rfl⟩
set_option maxHeartbeats 2000000 in
set_option maxRecDepth 100000 in
theorem compareIdsG_any (k1 k2 : Int) (t1 t2 : ByteArray) (w : World) :
    Calls Tryz.prog 180 #[.agg #[.int .i64 k1, .string t1], .agg #[.int .i64 k2, .string t2]] w fun e w' => e = .returned (.int .i64 (idCmp k1 t1 k2 t2)) ∧ Grew w w' := by
  obtain ⟨R, HR⟩ : ∃ R, Hid (idCmp k1 t1 k2 t2 = R) := ⟨_, Lib.hid rfl⟩
  rw [HR.out]
  have lv1 := (LV.new w w.heap.size #[.int .i64 k1, .string t1] 29 rfl).alloc (.cells #[.int .i64 k2, .string t2] 29)
  have lv2 := LV.new (w.alloc (.cells #[.int .i64 k1, .string t1] 29)) (w.heap.size + 1) #[.int .i64 k2, .string t2] 29 (by simp)
  have Hb : Hid (Grew w ((w.alloc (.cells #[.int .i64 k1, .string t1] 29)).alloc (.cells #[.int .i64 k2, .string t2] 29))) := ((Grew.refl _).alloc _).alloc _
  go_enter Tryz.func180, Tryz.ntmps180
  go_wp2_with fail
  refine wp_region_mix (TwoIds w.heap.size (w.heap.size + 1) k1 t1 k2 t2) [(true, 0), (true, 1), (true, 2), (true, 3), (true, 5), (true, 6), (true, 7), (true, 8), (false, 4), (false, 9), (false, 10), (false, 11), (true, 12)] (by kernel_rfl) (by kernel_rfl) (fun w' hd => ⟨lv1.keep (SK.ofBelow (b := w.heap.size + 2) (hd.below _)) (by omega), lv2.keep (SK.ofBelow (b := w.heap.size + 2) (hd.below _)) (by omega)⟩) (fun KK hKK wd hd_wd => ?_)
  have hC : TwoIds w.heap.size (w.heap.size + 1) k1 t1 k2 t2 wd := ⟨lv1.keep (SK.ofBelow (b := w.heap.size + 2) (hd_wd.below _)) (by omega), lv2.keep (SK.ofBelow (b := w.heap.size + 2) (hd_wd.below _)) (by omega)⟩
  have Hbd : Hid (Grew w wd) := Hb.out.ofDrewn hd_wd
  clear lv1 lv2 Hb hd_wd
  repeat (refine mix_p rfl (fun K hK => ?_); go_simp; (try go_bits); (try simp (disch := omega) only [if_pos]); (try simp (disch := omega) only [if_neg]); (try simp (disch := omega) only [dif_pos]); (try simp (disch := omega) only [dif_neg]); (try go_simp); (refine hK _ ?_; clear hK K))
  refine mix_load (.int .i64 k1) rfl rfl rfl rfl (fun _ => rfl) (fun w' h => h.1.cell 0 _ rfl) ?_
  repeat (refine mix_p rfl (fun K hK => ?_); go_simp; (try go_bits); (try simp (disch := omega) only [if_pos]); (try simp (disch := omega) only [if_neg]); (try simp (disch := omega) only [dif_pos]); (try simp (disch := omega) only [dif_neg]); (try go_simp); (refine hK _ ?_; clear hK K))
  refine mix_load (.int .i64 k2) rfl rfl rfl rfl (fun _ => rfl) (fun w' h => h.2.cell 0 _ rfl) ?_
  repeat (refine mix_p rfl (fun K hK => ?_); go_simp; (try go_bits); (try simp (disch := omega) only [if_pos]); (try simp (disch := omega) only [if_neg]); (try simp (disch := omega) only [dif_pos]); (try simp (disch := omega) only [dif_neg]); (try go_simp); (refine hK _ ?_; clear hK K))
  refine mix_load (.string t1) rfl rfl rfl rfl (fun _ => rfl) (fun w' h => h.1.cell 1 _ rfl) ?_
  repeat (refine mix_p rfl (fun K hK => ?_); go_simp; (try go_bits); (try simp (disch := omega) only [if_pos]); (try simp (disch := omega) only [if_neg]); (try simp (disch := omega) only [dif_pos]); (try simp (disch := omega) only [dif_neg]); (try go_simp); (refine hK _ ?_; clear hK K))
  refine mix_load (.string t2) rfl rfl rfl rfl (fun _ => rfl) (fun w' h => h.2.cell 1 _ rfl) ?_
  refine mix_l rfl (fun K hK => ?_) hC
  go_wp2_with fail
  ((with_reducible refine (cmpInt_any k1 k2 _).mono ?_); rintro e _ ⟨rfl, rfl⟩)
  go_wp2_with fail
  refine ⟨hC, ?_⟩
  refine mix_l rfl (fun K hK => ?_) hC
  go_wp2_with fail
  ((with_reducible refine (compareS_any t1 t2 _).mono ?_); rintro e _ ⟨rfl, rfl⟩)
  go_wp2_with fail
  refine ⟨hC, ?_⟩
  refine mix_l rfl (fun K hK => ?_) hC
  go_wp2_with fail
  have hC2 : TwoIds w.heap.size (w.heap.size + 1) k1 t1 k2 t2 (wd.alloc (.cells #[.int .i64 (Lib.compareInt k1 k2), .int .i64 (cmpS t1 t2)] 3)) := ⟨hC.1.alloc _, hC.2.alloc _⟩
  refine ⟨hC2, ?_⟩
  refine mix_l rfl (fun K hK => ?_) hC2
  have c0 : (wd.alloc (.cells #[.int .i64 (Lib.compareInt k1 k2), .int .i64 (cmpS t1 t2)] 3)).cell? ⟨wd.heap.size, 0, none⟩ = some (.int .i64 (Lib.compareInt k1 k2)) := by rw [World.cell?_alloc_at _ _ _ _ rfl]; rfl
  have c1 : (wd.alloc (.cells #[.int .i64 (Lib.compareInt k1 k2), .int .i64 (cmpS t1 t2)] 3)).cell? ⟨wd.heap.size, 1, none⟩ = some (.int .i64 (cmpS t1 t2)) := by rw [World.cell?_alloc_at _ _ _ _ rfl]; rfl
  have Hor := Lib.hid (or_any wd.heap.size _ _ _ c0 c1)
  clear c0 c1
  have HR2 : Hid ((if Lib.compareInt k1 k2 ≠ 0 then Lib.compareInt k1 k2 else cmpS t1 t2) = R) := by
    show _ = _
    rw [← HR.out, idCmp, Lib.compareInt]
    by_cases h1 : k1 < k2
    · simp [h1]
    · by_cases h2 : k1 = k2
      · simp [h2]
      · have h3 : k2 < k1 := by omega
        simp [h1, h2, h3]
  rw [HR2.out] at Hor
  clear HR HR2
  go_wp2_with fail
  ((with_reducible refine (Hor.out).mono ?_); rintro e _ ⟨rfl, rfl⟩)
  go_wp2_with fail
  refine ⟨hC2, ?_⟩
  repeat (refine mix_p rfl (fun K hK => ?_); go_simp; (try go_bits); (try simp (disch := omega) only [if_pos]); (try simp (disch := omega) only [if_neg]); (try simp (disch := omega) only [dif_pos]); (try simp (disch := omega) only [dif_neg]); (try go_simp); (refine hK _ ?_; clear hK K))
  refine mix_nil ?_
  simp only [Exit.then]
  refine hKK _ _ ?_
  go_wp2_with fail
  go_ret
  exact ⟨rfl, Hbd.out.alloc _⟩
set_option maxHeartbeats 2000000 in
set_option maxRecDepth 100000 in
theorem orderG_any (k1 k2 : Int) (t1 t2 : ByteArray) (w : World) :
    Calls Tryz.prog 122 #[.agg #[.int .i64 k1, .string t1], .agg #[.int .i64 k2, .string t2]] w fun e w' => e = .returned (.int .i64 (idCmp k1 t1 k2 t2)) ∧ Grew w w' := by
  by_cases hk : k1 = k2
  · subst hk
    obtain ⟨R, HR⟩ : ∃ R, Hid (idCmp k1 t1 k1 t2 = R) := ⟨_, Lib.hid rfl⟩
    rw [HR.out]
    have Hb : Hid (Grew w ((w.alloc (.cells #[.int .i64 k1, .string t1] 29)).alloc (.cells #[.int .i64 k1, .string t2] 29))) := ((Grew.refl _).alloc _).alloc _
    go_enter Tryz.func122, Tryz.ntmps122
    go_wp2_with fail
    all_goals (go_ret; refine ⟨ret_i ?_, Hb.out⟩; rw [← HR.out]; unfold idCmp cmpS; clear HR Hb; simp_all)
  · have hk' : (k1 == k2) = false := by simpa using hk
    obtain ⟨R, HR⟩ : ∃ R, Hid (idCmp k1 t1 k2 t2 = R) := ⟨_, Lib.hid rfl⟩
    rw [HR.out]
    have Hb : Hid (Grew w ((w.alloc (.cells #[.int .i64 k1, .string t1] 29)).alloc (.cells #[.int .i64 k2, .string t2] 29))) := ((Grew.refl _).alloc _).alloc _
    go_enter Tryz.func122, Tryz.ntmps122
    go_wp2_with fail
    all_goals
      go_ret
      refine ⟨ret_i ?_, Hb.out⟩
      rw [← HR.out]
      unfold idCmp
      first
        | (rw [if_pos (by assumption)]; done)
        | (rw [if_neg (by omega), if_neg hk]; done)
end Go.Proofs.YthmkphmciiiagaaGreatDoor

/- How consent.order and handref2.StatementOrder order statements. -/
namespace Go.Proofs.YthmkphmciiiagaaGreatDoor
open Go Go.RowKit Go.Sort Go.Shelf
theorem cmpOkS : CmpOk cmpS where
  anti a b := by rw [cmpS_neg, cmpS_pos]
  trans a b d h1 h2 := by
    have e1 := cmpS_neg a b
    have e2 := cmpS_neg b d
    have e3 := cmpS_neg a d
    have z1 := cmpS_zero a b
    have z2 := cmpS_zero b d
    by_cases h3 : cmpS a b = 0
    · rw [z1.1 h3]; exact h2
    · by_cases h4 : cmpS b d = 0
      · rw [← z2.1 h4]; exact h1
      · have := e3.2 (ltS_trans (e1.1 (by omega)) (e2.1 (by omega)))
        omega
theorem idCmp_lex (k1 : Int) (t1 : ByteArray) (k2 : Int) (t2 : ByteArray) : idCmp k1 t1 k2 t2 = if Lib.compareInt k1 k2 ≠ 0 then Lib.compareInt k1 k2 else cmpS t1 t2 := by
  unfold idCmp Lib.compareInt
  by_cases h1 : k1 < k2
  · simp [h1]
  · by_cases h2 : k1 = k2
    · simp [h2]
    · have h3 : k2 < k1 := by omega
      simp [h1, h2, h3]
def ordP (a b : Stm) : Int := firstErr [Lib.compareInt a.at' b.at', idCmp a.kind a.text b.kind b.text, cmpS a.purpose b.purpose, Lib.compareInt a.channel b.channel, Lib.compareInt a.what b.what, cmpS a.region b.region]
theorem firstErr1 (a : Int) : firstErr [a] = a := by
  unfold firstErr
  split
  · rfl
  · rename_i h; exact (Decidable.not_not.1 h).symm
theorem ordP_lex : ordP = lexC (fun a b => Lib.compareInt a.at' b.at') (lexC (lexC (fun a b => Lib.compareInt a.kind b.kind) (fun a b => cmpS a.text b.text)) (lexC (fun a b => cmpS a.purpose b.purpose) (lexC (fun a b => Lib.compareInt a.channel b.channel) (lexC (fun a b => Lib.compareInt a.what b.what) (fun a b => cmpS a.region b.region))))) := by
  funext a b
  unfold ordP
  rw [firstErr, firstErr, firstErr, firstErr, firstErr, firstErr1, idCmp_lex]
  rfl
theorem ordP_ok : CmpOk ordP := by
  rw [ordP_lex]
  exact (cmpOkI.of Stm.at').lex (((cmpOkI.of Stm.kind).lex (cmpOkS.of Stm.text)).lex ((cmpOkS.of Stm.purpose).lex ((cmpOkI.of Stm.channel).lex ((cmpOkI.of Stm.what).lex (cmpOkS.of Stm.region)))))
theorem lexC_zero {α : Type} {c d : α → α → Int} {a b : α} (h : lexC c d a b = 0) : c a b = 0 ∧ d a b = 0 := by
  unfold lexC at h
  split at h
  · rename_i h1; exact absurd h h1
  · rename_i h1; exact ⟨Decidable.not_not.1 h1, h⟩
/-- a statement without its number -/
def keyS (s : Stm) : Stm := { s with no := 0 }
theorem ordP_key {a b : Stm} (h : ordP a b = 0) : keyS a = keyS b := by
  rw [ordP_lex] at h
  obtain ⟨h1, h⟩ := lexC_zero h
  obtain ⟨h2, h⟩ := lexC_zero h
  obtain ⟨h2, h3⟩ := lexC_zero h2
  obtain ⟨h4, h⟩ := lexC_zero h
  obtain ⟨h5, h⟩ := lexC_zero h
  obtain ⟨h6, h7⟩ := lexC_zero h
  obtain ⟨n1, a1, k1, t1, p1, r1, c1, w1⟩ := a
  obtain ⟨n2, a2, k2, t2, p2, r2, c2, w2⟩ := b
  obtain rfl : a1 = a2 := compareInt_zero h1
  obtain rfl : k1 = k2 := compareInt_zero h2
  obtain rfl : t1 = t2 := (cmpS_zero _ _).1 h3
  obtain rfl : p1 = p2 := (cmpS_zero _ _).1 h4
  obtain rfl : c1 = c2 := compareInt_zero h5
  obtain rfl : w1 = w2 := compareInt_zero h6
  obtain rfl : r1 = r2 := (cmpS_zero _ _).1 h7
  rfl
theorem ordP_keys (a b : Stm) : ordP (keyS a) (keyS b) = ordP a b := rfl
theorem loadIdS {w : World} {X : Nat} {s : Stm} (h : LV w X (stmCs s) 38) : (Instr.loadAt 29 (.pointer (some ⟨X, 2, none⟩))).run Tryz.prog w = .ok (.agg #[.int .i64 s.kind, .string s.text]) w := by
  have c := h.all
  go_simp
theorem TwoStms.grew {X Y : Nat} {a b : Stm} {w w' : World} (h : TwoStms X Y a b w) (k : Grew w w') : TwoStms X Y a b w' := ⟨LV.kb3 h.1 k.below h.1.lt, LV.kb3 h.2 k.below h.2.lt⟩
set_option maxHeartbeats 4000000 in
set_option maxRecDepth 100000 in
theorem ordP_any (a b : Stm) (w : World) :
    Calls Tryz.prog 91 #[.agg (stmCs a), .agg (stmCs b)] w fun e w' => e = .returned (.int .i64 (ordP a b)) ∧ Grew w w' := by
  obtain ⟨R, HR⟩ : ∃ R, Hid (ordP a b = R) := ⟨_, Lib.hid rfl⟩
  rw [HR.out]
  have hC0 : TwoStms w.heap.size (w.heap.size + 1) a b ((w.alloc (.cells (stmCs a) 38)).alloc (.cells (stmCs b) 38)) :=
    ⟨(LV.new w w.heap.size (stmCs a) 38 rfl).alloc _, LV.new (w.alloc (.cells (stmCs a) 38)) (w.heap.size + 1) (stmCs b) 38 (by simp)⟩
  have Hb0 : Hid (Grew w ((w.alloc (.cells (stmCs a) 38)).alloc (.cells (stmCs b) 38))) := ((Grew.refl _).alloc _).alloc _
  go_enter Tryz.func91, Tryz.ntmps91
  go_wp2_with fail
  generalize (w.alloc (.cells (stmCs a) 38)).alloc (.cells (stmCs b) 38) = w1 at *
  refine wp_region_mixG 33 (TwoStms w.heap.size (w.heap.size + 1) a b) [.q 0, .q 1, .q 2, .q 3, .q 5, .q 6, .q 7, .q 8, .q 10, .q 11, .q 12, .q 13, .q 15, .q 16, .q 17, .q 18, .q 20, .q 21, .q 22, .q 23, .q 25, .q 26, .q 27, .q 28, .e 4, .e 9, .e 14, .e 19, .e 24, .e 29, .e 30, .e 31, .q 32] (by kernel_rfl) (by kernel_rfl) (fun w' hd => hC0.grew ((Grew.refl _).ofDrewn hd)) (fun KK hKK wd hd => ?_)
  have hC : TwoStms w.heap.size (w.heap.size + 1) a b wd := hC0.grew ((Grew.refl _).ofDrewn hd)
  have Hbd : Hid (Grew w wd) := Hb0.out.ofDrewn hd
  clear hd hC0 Hb0
  repeat (refine mixG_p rfl (fun K hK => ?_); go_simp; (try go_bits); (try simp (disch := omega) only [if_pos]); (try simp (disch := omega) only [if_neg]); (try simp (disch := omega) only [dif_pos]); (try simp (disch := omega) only [dif_neg]); (try go_simp); (refine hK _ ?_; clear hK K))
  refine mixG_load (.int .i64 a.at') rfl rfl rfl rfl (fun _ => rfl) (fun w' h => h.1.cell 1 _ rfl) ?_
  repeat (refine mixG_p rfl (fun K hK => ?_); go_simp; (try go_bits); (try simp (disch := omega) only [if_pos]); (try simp (disch := omega) only [if_neg]); (try simp (disch := omega) only [dif_pos]); (try simp (disch := omega) only [dif_neg]); (try go_simp); (refine hK _ ?_; clear hK K))
  refine mixG_load (.int .i64 b.at') rfl rfl rfl rfl (fun _ => rfl) (fun w' h => h.2.cell 1 _ rfl) ?_
  repeat (refine mixG_p rfl (fun K hK => ?_); go_simp; (try go_bits); (try simp (disch := omega) only [if_pos]); (try simp (disch := omega) only [if_neg]); (try simp (disch := omega) only [dif_pos]); (try simp (disch := omega) only [dif_neg]); (try go_simp); (refine hK _ ?_; clear hK K))
  refine mixG_loadR (.agg #[.int .i64 a.kind, .string a.text]) rfl rfl rfl rfl (fun w' h => loadIdS h.1) ?_
  repeat (refine mixG_p rfl (fun K hK => ?_); go_simp; (try go_bits); (try simp (disch := omega) only [if_pos]); (try simp (disch := omega) only [if_neg]); (try simp (disch := omega) only [dif_pos]); (try simp (disch := omega) only [dif_neg]); (try go_simp); (refine hK _ ?_; clear hK K))
  refine mixG_loadR (.agg #[.int .i64 b.kind, .string b.text]) rfl rfl rfl rfl (fun w' h => loadIdS h.2) ?_
  repeat (refine mixG_p rfl (fun K hK => ?_); go_simp; (try go_bits); (try simp (disch := omega) only [if_pos]); (try simp (disch := omega) only [if_neg]); (try simp (disch := omega) only [dif_pos]); (try simp (disch := omega) only [dif_neg]); (try go_simp); (refine hK _ ?_; clear hK K))
  refine mixG_load (.string a.purpose) rfl rfl rfl rfl (fun _ => rfl) (fun w' h => h.1.cell 4 _ rfl) ?_
  repeat (refine mixG_p rfl (fun K hK => ?_); go_simp; (try go_bits); (try simp (disch := omega) only [if_pos]); (try simp (disch := omega) only [if_neg]); (try simp (disch := omega) only [dif_pos]); (try simp (disch := omega) only [dif_neg]); (try go_simp); (refine hK _ ?_; clear hK K))
  refine mixG_load (.string b.purpose) rfl rfl rfl rfl (fun _ => rfl) (fun w' h => h.2.cell 4 _ rfl) ?_
  repeat (refine mixG_p rfl (fun K hK => ?_); go_simp; (try go_bits); (try simp (disch := omega) only [if_pos]); (try simp (disch := omega) only [if_neg]); (try simp (disch := omega) only [dif_pos]); (try simp (disch := omega) only [dif_neg]); (try go_simp); (refine hK _ ?_; clear hK K))
  refine mixG_load (.int .i64 a.channel) rfl rfl rfl rfl (fun _ => rfl) (fun w' h => h.1.cell 6 _ rfl) ?_
  repeat (refine mixG_p rfl (fun K hK => ?_); go_simp; (try go_bits); (try simp (disch := omega) only [if_pos]); (try simp (disch := omega) only [if_neg]); (try simp (disch := omega) only [dif_pos]); (try simp (disch := omega) only [dif_neg]); (try go_simp); (refine hK _ ?_; clear hK K))
  refine mixG_load (.int .i64 b.channel) rfl rfl rfl rfl (fun _ => rfl) (fun w' h => h.2.cell 6 _ rfl) ?_
  repeat (refine mixG_p rfl (fun K hK => ?_); go_simp; (try go_bits); (try simp (disch := omega) only [if_pos]); (try simp (disch := omega) only [if_neg]); (try simp (disch := omega) only [dif_pos]); (try simp (disch := omega) only [dif_neg]); (try go_simp); (refine hK _ ?_; clear hK K))
  refine mixG_load (.int .i64 a.what) rfl rfl rfl rfl (fun _ => rfl) (fun w' h => h.1.cell 7 _ rfl) ?_
  repeat (refine mixG_p rfl (fun K hK => ?_); go_simp; (try go_bits); (try simp (disch := omega) only [if_pos]); (try simp (disch := omega) only [if_neg]); (try simp (disch := omega) only [dif_pos]); (try simp (disch := omega) only [dif_neg]); (try go_simp); (refine hK _ ?_; clear hK K))
  refine mixG_load (.int .i64 b.what) rfl rfl rfl rfl (fun _ => rfl) (fun w' h => h.2.cell 7 _ rfl) ?_
  repeat (refine mixG_p rfl (fun K hK => ?_); go_simp; (try go_bits); (try simp (disch := omega) only [if_pos]); (try simp (disch := omega) only [if_neg]); (try simp (disch := omega) only [dif_pos]); (try simp (disch := omega) only [dif_neg]); (try go_simp); (refine hK _ ?_; clear hK K))
  refine mixG_load (.string a.region) rfl rfl rfl rfl (fun _ => rfl) (fun w' h => h.1.cell 5 _ rfl) ?_
  repeat (refine mixG_p rfl (fun K hK => ?_); go_simp; (try go_bits); (try simp (disch := omega) only [if_pos]); (try simp (disch := omega) only [if_neg]); (try simp (disch := omega) only [dif_pos]); (try simp (disch := omega) only [dif_neg]); (try go_simp); (refine hK _ ?_; clear hK K))
  refine mixG_load (.string b.region) rfl rfl rfl rfl (fun _ => rfl) (fun w' h => h.2.cell 5 _ rfl) ?_
  refine mixG_l rfl rfl (fun K hK => ?_)
  go_wp2_with fail
  ((with_reducible refine (cmpInt_any _ _ _).mono ?_); rintro e _ ⟨rfl, rfl⟩)
  go_wp2_with fail
  refine ⟨fun _ => hC, ?_⟩
  refine mixG_l rfl rfl (fun K hK => ?_)
  go_wp2_with fail
  ((with_reducible refine (compareIdsG_any _ _ _ _ _).mono ?_); rintro e w3 ⟨rfl, hg⟩)
  replace hC := hC.grew hg
  have Hb3 : Hid (Grew w w3) := Hbd.out.trans hg
  clear hg Hbd
  go_wp2_with fail
  refine ⟨fun _ => hC, ?_⟩
  refine mixG_l rfl rfl (fun K hK => ?_)
  go_wp2_with fail
  ((with_reducible refine (compareS_any _ _ _).mono ?_); rintro e _ ⟨rfl, rfl⟩)
  go_wp2_with fail
  refine ⟨fun _ => hC, ?_⟩
  refine mixG_l rfl rfl (fun K hK => ?_)
  go_wp2_with fail
  ((with_reducible refine (cmpInt_any _ _ _).mono ?_); rintro e _ ⟨rfl, rfl⟩)
  go_wp2_with fail
  refine ⟨fun _ => hC, ?_⟩
  refine mixG_l rfl rfl (fun K hK => ?_)
  go_wp2_with fail
  ((with_reducible refine (cmpInt_any _ _ _).mono ?_); rintro e _ ⟨rfl, rfl⟩)
  go_wp2_with fail
  refine ⟨fun _ => hC, ?_⟩
  refine mixG_l rfl rfl (fun K hK => ?_)
  go_wp2_with fail
  ((with_reducible refine (compareS_any _ _ _).mono ?_); rintro e _ ⟨rfl, rfl⟩)
  go_wp2_with fail
  refine ⟨fun _ => hC, ?_⟩
  refine mixG_l rfl rfl (fun K hK => ?_)
  go_wp2_with fail
  have hC2 := hC.grew ((Grew.refl _).alloc (.cells #[.int .i64 (Lib.compareInt a.at' b.at'), .int .i64 (idCmp a.kind a.text b.kind b.text), .int .i64 (cmpS a.purpose b.purpose), .int .i64 (Lib.compareInt a.channel b.channel), .int .i64 (Lib.compareInt a.what b.what), .int .i64 (cmpS a.region b.region)] 3))
  refine ⟨fun _ => hC2, ?_⟩
  have Hor := Lib.hid (orN_any w3.heap.size [Lib.compareInt a.at' b.at', idCmp a.kind a.text b.kind b.text, cmpS a.purpose b.purpose, Lib.compareInt a.channel b.channel, Lib.compareInt a.what b.what, cmpS a.region b.region] _ (LV.new w3 w3.heap.size _ 3 rfl) (by simp))
  rw [show firstErr [Lib.compareInt a.at' b.at', idCmp a.kind a.text b.kind b.text, cmpS a.purpose b.purpose, Lib.compareInt a.channel b.channel, Lib.compareInt a.what b.what, cmpS a.region b.region] = R from HR.out] at Hor
  simp only [List.length_cons, List.length_nil, List.map_cons, List.map_nil, Nat.zero_add, Nat.reduceAdd] at Hor
  refine mixG_l rfl rfl (fun K hK => ?_)
  go_wp2_with fail
  ((with_reducible refine (Hor.out).mono ?_); rintro e _ ⟨rfl, rfl⟩)
  go_wp2_with fail
  refine ⟨fun _ => hC2, ?_⟩
  repeat (refine mixG_p rfl (fun K hK => ?_); go_simp; (try go_bits); (try simp (disch := omega) only [if_pos]); (try simp (disch := omega) only [if_neg]); (try simp (disch := omega) only [dif_pos]); (try simp (disch := omega) only [dif_neg]); (try go_simp); (refine hK _ ?_; clear hK K))
  refine mixG_nil ?_
  simp only [Exit.then]
  refine hKK _ _ ?_
  go_wp2_with fail
  go_ret
  exact ⟨rfl, Hb3.out.alloc _⟩
end Go.Proofs.YthmkphmciiiagaaGreatDoor

/- What handref2.StatementOrder returns, and that it orders as consent.order does. -/
namespace Go.Proofs.YthmkphmciiiagaaGreatDoor
open Go Go.RowKit Go.Sort Go.Shelf
theorem cmpBytes_is : ∀ l m : List UInt8, Lib.compareBytes l m = if l < m then -1 else if l = m then 0 else 1
  | [], [] => by simp [Lib.compareBytes]
  | [], b :: s => by simp [Lib.compareBytes]
  | a :: r, [] => by simp [Lib.compareBytes]
  | a :: r, b :: s => by
    unfold Lib.compareBytes
    by_cases h1 : a < b
    · rw [if_pos h1, if_pos (List.cons_lt_cons_iff.2 (.inl h1))]
    · rw [if_neg h1]
      by_cases h2 : b < a
      · have hne : a ≠ b := fun e => by subst e; exact h1 h2
        rw [if_pos h2, if_neg (fun h => ?_), if_neg (fun e => hne (List.cons.inj e).1)]
        rcases List.cons_lt_cons_iff.1 h with h | ⟨h, _⟩
        · exact h1 h
        · exact hne h
      · have he : a = b := by
          have h3 : ¬ a.toNat < b.toNat := h1
          have h4 : ¬ b.toNat < a.toNat := h2
          exact UInt8.toNat_inj.1 (by omega)
        subst he
        rw [if_neg h2, cmpBytes_is r s]
        simp
theorem cmpS_bytes (a b : ByteArray) : Lib.compareBytes a.data.toList b.data.toList = cmpS a b := by
  rw [cmpBytes_is]
  unfold cmpS
  rw [bytesLess_eq, ByteArray.toList_eq, ByteArray.toList_eq]
  by_cases h1 : a.data.toList < b.data.toList
  · simp [h1]
  · by_cases h2 : a.data.toList = b.data.toList
    · simp [h2]
    · simp [h1, h2, show ¬ a.data = b.data from fun h => h2 (by rw [h])]
theorem strCmp_any (a b : ByteArray) (w : World) : Calls Tryz.prog 123 #[.string a, .string b] w fun e w' => e = .returned (.int .i64 (cmpS a b)) ∧ w = w' :=
  (Tryz.strings_Compare a b w).mono fun _ _ ⟨h1, h2⟩ => ⟨by rw [h1, cmpS_bytes], h2.symm⟩
theorem bytesNe {a b : ByteArray} (h : a ≠ b) : (a.toList == b.toList) = false := by
  rw [ByteArray.toList_eq, ByteArray.toList_eq]
  exact beq_false_of_ne fun e => h (WideShapes.bytes_inj e)
/-- a statement of small numbers -/
structure StmB (s : Stm) : Prop where
  at' : 0 ≤ s.at' ∧ s.at' ≤ 4321439
  ch : 0 ≤ s.channel ∧ s.channel ≤ 100
  wh : 0 ≤ s.what ∧ s.what ≤ 100
def ordR (a b : Stm) : Int :=
  if a.at' ≠ b.at' then a.at' - b.at' else if ¬ (a.kind = b.kind ∧ a.text = b.text) then idCmp a.kind a.text b.kind b.text else if a.purpose ≠ b.purpose then cmpS a.purpose b.purpose
  else if a.channel ≠ b.channel then a.channel - b.channel else if a.what ≠ b.what then a.what - b.what else cmpS a.region b.region
theorem cmpI_sub (x y : Int) : (Lib.compareInt x y < 0 ↔ x - y < 0) ∧ (Lib.compareInt x y = 0 ↔ x = y) := by
  unfold Lib.compareInt
  constructor <;> split <;> (try split) <;> omega
theorem idCmp_zero {k1 k2 : Int} {t1 t2 : ByteArray} : idCmp k1 t1 k2 t2 = 0 ↔ k1 = k2 ∧ t1 = t2 := by
  rw [idCmp_lex]
  have h := cmpI_sub k1 k2
  have h2 := cmpS_zero t1 t2
  split
  · rename_i h3
    exact ⟨fun h4 => absurd h4 h3, fun h4 => absurd (h.2.2 h4.1) h3⟩
  · rename_i h3
    rw [h2, h.2.1 (Decidable.not_not.1 h3)]
    simp
theorem step_neg {x y u v : Int} {e : Prop} [Decidable (¬ e)] [Decidable (x ≠ 0)] (h0 : x = 0 ↔ e) (hx : x < 0 ↔ u < 0) (hr : v < 0 ↔ y < 0) : (if ¬ e then u else v) < 0 ↔ (if x ≠ 0 then x else y) < 0 := by
  by_cases he : e
  · rw [if_neg (not_not_intro he), if_neg (by rw [h0.2 he]; simp)]; exact hr
  · rw [if_pos he, if_pos (fun h => he (h0.1 h))]; exact hx.symm
theorem ordR_neg (a b : Stm) : ordR a b < 0 ↔ ordP a b < 0 := by
  have h1 := cmpI_sub a.at' b.at'
  have h2 := @idCmp_zero a.kind b.kind a.text b.text
  have h3 := cmpS_zero a.purpose b.purpose
  have h4 := cmpI_sub a.channel b.channel
  have h5 := cmpI_sub a.what b.what
  unfold ordR ordP
  rw [firstErr, firstErr, firstErr, firstErr, firstErr, firstErr1]
  exact step_neg h1.2 h1.1 (step_neg h2 Iff.rfl (step_neg h3 Iff.rfl (step_neg h4.2 h4.1 (step_neg h5.2 h5.1 Iff.rfl))))
set_option maxHeartbeats 4000000 in
set_option maxRecDepth 100000 in
theorem ordR_any (a b : Stm) (ha : StmB a) (hb : StmB b) (w : World) :
    Calls Tryz.prog 97 #[.agg (stmCs a), .agg (stmCs b)] w fun e w' => e = .returned (.int .i64 (ordR a b)) ∧ Grew w w' := by
  obtain ⟨R, HR⟩ : ∃ R, Hid (ordR a b = R) := ⟨_, Lib.hid rfl⟩
  rw [HR.out]
  have hC0 : TwoStms w.heap.size (w.heap.size + 1) a b ((w.alloc (.cells (stmCs a) 38)).alloc (.cells (stmCs b) 38)) :=
    ⟨(LV.new w w.heap.size (stmCs a) 38 rfl).alloc _, LV.new (w.alloc (.cells (stmCs a) 38)) (w.heap.size + 1) (stmCs b) 38 (by simp)⟩
  have Hb0 : Hid (Grew w ((w.alloc (.cells (stmCs a) 38)).alloc (.cells (stmCs b) 38))) := ((Grew.refl _).alloc _).alloc _
  have HA := Lib.hid ha
  have HB := Lib.hid hb
  clear ha hb
  go_enter Tryz.func97, Tryz.ntmps97
  go_upto_region 1 with fail
  generalize (w.alloc (.cells (stmCs a) 38)).alloc (.cells (stmCs b) 38) = w1 at *
  have c0 := hC0.1.all
  have c1 := hC0.2.all
  clear hC0
  obtain ⟨n1, a1, k1, t1, p1, r1, ch1, u1⟩ := a
  obtain ⟨n2, a2, k2, t2, p2, r2, ch2, u2⟩ := b
  obtain ⟨hat1, hch1, hwh1⟩ := HA.out
  obtain ⟨hat2, hch2, hwh2⟩ := HB.out
  dsimp only [ordR] at *
  by_cases e1 : a1 = a2
  · have b1 : (a1 != a2) = false := by simpa using e1
    have HR1 : Hid ((if ¬ (k1 = k2 ∧ t1 = t2) then idCmp k1 t1 k2 t2 else if p1 ≠ p2 then cmpS p1 p2 else if ch1 ≠ ch2 then ch1 - ch2 else if u1 ≠ u2 then u1 - u2 else cmpS r1 r2) = R) := Eq.trans (Eq.symm (if_neg (by simpa using e1))) HR.out
    clear e1 HR
    by_cases e2 : k1 = k2 ∧ t1 = t2
    · obtain ⟨rfl, rfl⟩ := e2
      have HR2 : Hid ((if p1 ≠ p2 then cmpS p1 p2 else if ch1 ≠ ch2 then ch1 - ch2 else if u1 ≠ u2 then u1 - u2 else cmpS r1 r2) = R) := Eq.trans (Eq.symm (if_neg (by simp))) HR1.out
      clear HR1
      by_cases e3 : p1 = p2
      · subst e3
        have HR3 : Hid ((if ch1 ≠ ch2 then ch1 - ch2 else if u1 ≠ u2 then u1 - u2 else cmpS r1 r2) = R) := Eq.trans (Eq.symm (if_neg (by simp))) HR2.out
        clear HR2
        by_cases e4 : ch1 = ch2
        · have b4 : (ch1 != ch2) = false := by simpa using e4
          have HR4 : Hid ((if u1 ≠ u2 then u1 - u2 else cmpS r1 r2) = R) := Eq.trans (Eq.symm (if_neg (by simpa using e4))) HR3.out
          clear e4 HR3
          by_cases e5 : u1 = u2
          · have b5 : (u1 != u2) = false := by simpa using e5
            have HR5 : Hid (cmpS r1 r2 = R) := Eq.trans (Eq.symm (if_neg (by simpa using e5))) HR4.out
            clear e5 HR4
            go_wp2_with fail
            ((with_reducible refine (strCmp_any _ _ _).mono ?_); rintro e _ ⟨rfl, rfl⟩)
            rw [HR5.out]
            go_wp2_with fail
            go_ret
            exact ⟨rfl, Hb0.out⟩
          · have b5 : (u1 != u2) = true := by simpa using e5
            obtain rfl : u1 - u2 = R := Eq.trans (Eq.symm (if_pos e5)) HR4.out
            clear e5 HR4
            go_wp2_with fail
            go_ret
            exact ⟨rfl, Hb0.out⟩
        · have b4 : (ch1 != ch2) = true := by simpa using e4
          obtain rfl : ch1 - ch2 = R := Eq.trans (Eq.symm (if_pos e4)) HR3.out
          clear e4 HR3
          go_wp2_with fail
          go_ret
          exact ⟨rfl, Hb0.out⟩
      · have b3 := bytesNe e3
        have HR3 : Hid (cmpS p1 p2 = R) := Eq.trans (Eq.symm (if_pos e3)) HR2.out
        clear HR2 e3
        go_wp2_with fail
        ((with_reducible refine (strCmp_any _ _ _).mono ?_); rintro e _ ⟨rfl, rfl⟩)
        rw [HR3.out]
        go_wp2_with fail
        go_ret
        exact ⟨rfl, Hb0.out⟩
    · have HR2 : Hid (idCmp k1 t1 k2 t2 = R) := Eq.trans (Eq.symm (if_pos e2)) HR1.out
      have Hor := Lib.hid (fun w => HR2.out ▸ orderG_any k1 k2 t1 t2 w)
      clear HR1 HR2
      by_cases ek : k1 = k2
      · subst ek
        have b2 := bytesNe (fun e => e2 ⟨rfl, e⟩)
        clear e2
        go_wp2_with fail
        ((with_reducible refine (Hor.out _).mono ?_); rintro e w2 ⟨rfl, hg⟩)
        go_wp2_with fail
        go_ret
        exact ⟨rfl, Hb0.out.trans hg⟩
      · have b2 : (k1 == k2) = false := by simpa using ek
        clear e2 ek
        go_wp2_with fail
        ((with_reducible refine (Hor.out _).mono ?_); rintro e w2 ⟨rfl, hg⟩)
        go_wp2_with fail
        go_ret
        exact ⟨rfl, Hb0.out.trans hg⟩
  · have b1 : (a1 != a2) = true := by simpa using e1
    obtain rfl : a1 - a2 = R := Eq.trans (Eq.symm (if_pos e1)) HR.out
    clear e1 HR
    go_wp2_with fail
    go_ret
    exact ⟨rfl, Hb0.out⟩
end Go.Proofs.YthmkphmciiiagaaGreatDoor

/- What slices.CompactFunc makes of statements in order, with the condition of consent.Merge. -/
namespace Go.Proofs.YthmkphmciiiagaaGreatDoor
open Go Go.RowKit Go.Sort Go.Shelf
theorem eqS_any (a b : Stm) (w : World) : Calls Tryz.prog 93 #[.agg (stmCs a), .agg (stmCs b)] w fun e w' => e = .returned (.bool (decide (ordP a b = 0))) ∧ Below w.heap.size w w' := by
  have S := ((Mem.start w).new' (stmCs a) 38).new' (stmCs b) 38
  replace S : Mem w ((w.alloc (.cells (stmCs a) 38)).alloc (.cells (stmCs b) 38)) [.loc w.heap.size (stmCs a) 38, .loc (w.heap.size + 1) (stmCs b) 38] := by simpa using S
  obtain ⟨o, ho⟩ : ∃ o, ordP a b = o := ⟨_, rfl⟩
  have Hor := Lib.hid (fun w => ho ▸ ordP_any a b w)
  rw [ho]
  clear ho
  go_enter Tryz.func93, Tryz.ntmps93
  go_upto_region 1 with fail
  generalize (w.alloc (.cells (stmCs a) 38)).alloc (.cells (stmCs b) 38) = w1 at *
  have c0 := (S.lv 0 rfl).all
  have c1 := (S.lv 1 rfl).all
  go_wp2_with fail
  ((with_reducible refine (Hor.out w1).mono ?_); rintro e w2 ⟨rfl, hg⟩)
  replace S := S.below hg.below
  go_wp2_with fail
  go_ret
  refine ⟨ret_b ?_, S.b⟩
  rw [Bool.eq_iff_iff]
  simp
/-- each that is not level with the one ahead of it -/
def compB (prev : Option Stm) (x : Stm) : Bool := !(prev.any fun p => decide (ordP x p = 0))
def compS (prev : Option Stm) : List Stm → List Stm
  | [] => []
  | x :: r => (if compB prev x = true then [x] else []) ++ compS (some x) r
theorem compS_snoc : ∀ (l : List Stm) (prev : Option Stm) (x : Stm), compS prev (l ++ [x]) = compS prev l ++ (if compB (l.getLast?.or prev) x = true then [x] else [])
  | [], prev, x => by
    show (if compB prev x = true then [x] else []) ++ [] = _
    rw [List.append_nil]; rfl
  | y :: r, prev, x => by
    rw [List.cons_append, compS, compS_snoc r (some y) x, compS, List.append_assoc]
    congr 3
    rw [List.getLast?_cons]
    cases r.getLast? <;> rfl
theorem compS_take {l : List Stm} {j : Nat} {p x : Stm} (hp : l[j]? = some p) (hx : l[j + 1]? = some x) : compS none (l.take (j + 2)) = compS none (l.take (j + 1)) ++ (if decide (ordP x p = 0) = true then [] else [x]) := by
  rw [take_snoc hx, compS_snoc]
  congr 1
  have e : (l.take (j + 1)).getLast? = some p := by
    rw [take_snoc hp, List.getLast?_concat]
  rw [e]
  have e2 : compB ((some p).or none) x = !decide (ordP x p = 0) := rfl
  rw [e2]
  cases decide (ordP x p = 0) <;> rfl
/-- in order: strictly so once compacted, and with the same keys -/
theorem compS_ord : ∀ (l : List Stm) (prev : Option Stm), l.Pairwise (fun a b => ordP a b ≤ 0) → (∀ p, prev = some p → ∀ x ∈ l, ordP p x ≤ 0) → (compS prev l).Pairwise (fun a b => ordP a b < 0) ∧ (∀ p, prev = some p → ∀ x ∈ compS prev l, ordP p x < 0) ∧ (∀ x ∈ compS prev l, x ∈ l) ∧ ∀ x ∈ l, (∃ y ∈ compS prev l, keyS y = keyS x) ∨ ∃ p, prev = some p ∧ keyS p = keyS x
  | [], _, _, _ => ⟨List.Pairwise.nil, (fun _ _ _ h => by cases h), (fun _ h => by cases h), (fun _ h => by cases h)⟩
  | x :: r, prev, ho, hp => by
    obtain ⟨h1, h2⟩ := List.pairwise_cons.1 ho
    obtain ⟨g1, g2, g3, g4⟩ := compS_ord r (some x) h2 (fun p e y hy => by cases e; exact h1 y hy)
    have g2' := g2 x rfl
    rw [compS]
    by_cases hb : compB prev x = true
    · rw [if_pos hb]
      refine ⟨List.pairwise_cons.2 ⟨g2', g1⟩, fun p e y hy => ?_, fun y hy => ?_, fun y hy => ?_⟩
      · subst e
        have hpx : ordP p x < 0 := by
          have h3 := hp p rfl x (by simp)
          have h4 : ¬ ordP x p = 0 := by simpa [compB] using hb
          have h5 : ordP p x ≠ 0 := fun e => h4 (ordP_ok.zero e)
          omega
        rcases List.mem_cons.1 hy with rfl | hy
        · exact hpx
        · exact ordP_ok.lt hpx (by have := g2' y hy; omega)
      · rcases List.mem_cons.1 hy with rfl | hy
        · simp
        · simp [g3 y hy]
      · rcases List.mem_cons.1 hy with rfl | hy
        · exact .inl ⟨y, by simp, rfl⟩
        · rcases g4 y hy with ⟨z, hz, e⟩ | ⟨p, e1, e2⟩
          · exact .inl ⟨z, by simp [hz], e⟩
          · cases e1; exact .inl ⟨x, by simp, e2⟩
    · rw [if_neg hb, List.nil_append]
      obtain ⟨p, rfl, hpx⟩ : ∃ p, prev = some p ∧ ordP x p = 0 := by
        cases prev with
        | none => simp [compB] at hb
        | some p => exact ⟨p, rfl, by simpa [compB] using hb⟩
      have hk := ordP_key hpx
      refine ⟨g1, fun p' e y hy => ?_, fun y hy => by simp [g3 y hy], fun y hy => ?_⟩
      · cases e
        have h6 := g2' y hy
        exact ordP_ok.lt' (a := p) (b := x) (by have := ordP_ok.zero hpx; omega) h6
      · rcases List.mem_cons.1 hy with rfl | hy
        · exact .inr ⟨p, rfl, hk.symm⟩
        · rcases g4 y hy with ⟨z, hz, e⟩ | ⟨p', e1, e2⟩
          · exact .inl ⟨z, hz, e⟩
          · cases e1; exact .inr ⟨p, rfl, hk.symm.trans e2⟩
/-- the front that is settled, and the rest as it was, from the one ahead of j on -/
structure CompAt (xs ys : List Stm) (i j : Nat) : Prop where
  len : ys.length = xs.length
  front : ys.take i = compS none (xs.take j)
  rest : ys.drop (j - 1) = xs.drop (j - 1)
  le : i < j
theorem CompAt.get {xs ys : List Stm} {i j : Nat} (h : CompAt xs ys i j) {k : Nat} (hk : j ≤ k + 1) : ys[k]? = xs[k]? := by
  have h1 := congrArg (fun l : List Stm => l[k - (j - 1)]?) h.rest
  simp only [List.getElem?_drop] at h1
  rw [show j - 1 + (k - (j - 1)) = k by omega] at h1
  exact h1
theorem CompAt.skip {xs ys : List Stm} {i j : Nat} (h : CompAt xs ys i (j + 1)) {p x : Stm} (hp : ys[j]? = some p) (hx : ys[j + 1]? = some x) (he : decide (ordP x p = 0) = true) : CompAt xs ys i (j + 2) := by
  have e1 := h.get (k := j) (by omega)
  have e2 := h.get (k := j + 1) (by omega)
  refine ⟨h.len, ?_, ?_, by have := h.le; omega⟩
  · rw [compS_take (e1 ▸ hp) (e2 ▸ hx), if_pos he, List.append_nil, h.front]
  · have h1 := congrArg (List.drop 1) h.rest
    rw [List.drop_drop, List.drop_drop] at h1
    exact h1
theorem CompAt.put {xs ys : List Stm} {i j : Nat} (h : CompAt xs ys i (j + 1)) {p x : Stm} (hp : ys[j]? = some p) (hx : ys[j + 1]? = some x) (he : decide (ordP x p = 0) = false) : CompAt xs (ys.set i x) (i + 1) (j + 2) := by
  have e1 := h.get (k := j) (by omega)
  have e2 := h.get (k := j + 1) (by omega)
  have hle := h.le
  have hi : i < ys.length := by have := lt_of_get hx; omega
  refine ⟨by rw [List.length_set, h.len], ?_, ?_, by omega⟩
  · rw [compS_take (e1 ▸ hp) (e2 ▸ hx), if_neg (by simp [he]), ← h.front, List.take_set, take_snoc (x := ys[i]) (List.getElem?_eq_getElem hi)]
    have hl : (ys.take i).length = i := by rw [List.length_take]; omega
    rw [List.set_append_right _ _ (by omega), hl, Nat.sub_self]
    simp
  · rw [List.drop_set_of_lt (by omega)]
    have h1 := congrArg (List.drop 1) h.rest
    rw [List.drop_drop, List.drop_drop] at h1
    exact h1
theorem Mem.ldStm {w0 w : World} {cs : List Chunk} {B g n cap : Nat} {xs : List Stm} (S : Mem w0 w (.own rStm B 38 (.slice (some ⟨g, 0, none⟩) n cap) xs :: cs)) (hn : n = xs.length) (k : Nat) (x : Stm) (hk : xs[k]? = some x) :
    (Instr.loadAt 38 (.pointer (some ⟨g, k * 8, none⟩))).run Tryz.prog w = .ok (.agg (stmCs x)) w := by
  obtain ⟨⟨d0, d1, d2, d3, d4, d5, d6, d7⟩, _⟩ := (S.ow 0 rfl).stmAt hn k x hk
  go_simp
def GivesComp (xs : List Stm) (B g cap : Nat) (w0 : World) (cs : List Chunk) (e : Ending) (w' : World) : Prop :=
  e = .returned (.slice (some ⟨g, 0, none⟩) (compS none xs).length cap) ∧ Mem w0 w' (.own rStm B 38 (.slice (some ⟨g, 0, none⟩) (compS none xs).length cap) (compS none xs) :: cs)
set_option maxHeartbeats 8000000 in
set_option maxRecDepth 100000 in
theorem compS_any {w0 w : World} {cs : List Chunk} {B g n cap : Nat} {xs : List Stm} (S : Mem w0 w (.own rStm B 38 (.slice (some ⟨g, 0, none⟩) n cap) xs :: cs)) (hn : n = xs.length) (hl : n ≤ 1000000) :
    Calls Tryz.prog 92 #[.slice (some ⟨g, 0, none⟩) n cap, .func (.func 93) #[] #[]] w (GivesComp xs B g cap w0 cs) := by
  have Hn := Lib.hid hn
  clear hn
  have heq := eqS_any
  by_cases h2 : n < 2
  · have Hx : Hid (compS none xs = xs) := by
      have hl2 : xs.length < 2 := by have := Hn.out; omega
      show _ = _
      match xs, hl2 with
      | [], _ => rfl
      | [x], _ => rfl
    go_enter Tryz.func92, Tryz.ntmps92
    go_wp2_with fail
    go_ret
    refine ⟨?_, ?_⟩
    · rw [Hx.out, ← Hn.out]; rfl
    · rw [Hx.out, ← Hn.out]; exact S
  · go_enter Tryz.func92, Tryz.ntmps92
    go_wp2_with fail
    go_loopw [5] (fun s5 wr => ∃ k : Nat, s5 = .int .i64 (k + 1 : Nat) ∧ k + 1 ≤ n ∧ Hid (compS none (xs.take (k + 1)) = xs.take (k + 1)) ∧ Mem w0 wr (.own rStm B 38 (.slice (some ⟨g, 0, none⟩) n cap) xs :: cs)) (fun s5 _ => n - (intOf s5).toNat)
    case atStart =>
      refine ⟨0, by go_num, by omega, ?_, S⟩
      show _ = _
      have hl2 : 1 ≤ xs.length := by have := Hn.out; omega
      match xs, hl2 with
      | x :: r, _ => rfl
    case round =>
      clear S
      obtain ⟨k, rfl, hk, HP, S⟩ := hrel
      by_cases hlt : k + 1 < n
      · obtain ⟨x, hx⟩ : ∃ x, xs[k + 1]? = some x := ⟨_, List.getElem?_eq_getElem (by have := Hn.out; omega)⟩
        obtain ⟨p, hp⟩ : ∃ p, xs[k]? = some p := ⟨_, List.getElem?_eq_getElem (by have := Hn.out; omega)⟩
        have Hx := Lib.hid hx
        have Hp := Lib.hid hp
        clear hx hp
        go_upto_region 6 with fail
        refine wp_region_mixG 11 (fun w' => Mem w0 w' (.own rStm B 38 (.slice (some ⟨g, 0, none⟩) n cap) xs :: cs)) [.q 0, .q 1, .q 2, .q 3, .q 4, .q 5, .q 6, .q 7, .q 8, .q 9, .e 10] (by kernel_rfl) (by kernel_rfl) (fun w' hd => S.below (hd.below _)) (fun KK hKK wd hd => ?_)
        replace S := S.below (hd.below _)
        clear hd
        repeat (refine mixG_p rfl (fun K hK => ?_); go_simp; (try go_bits); (try simp (disch := omega) only [if_pos]); (try simp (disch := omega) only [if_neg]); (try simp (disch := omega) only [dif_pos]); (try simp (disch := omega) only [dif_neg]); (try go_simp); (refine hK _ ?_; clear hK K))
        refine mixG_loadR (.agg (stmCs x)) rfl rfl rfl rfl (fun w' h => h.ldStm Hn.out (k + 1) x Hx.out) ?_
        repeat (refine mixG_p rfl (fun K hK => ?_); go_simp; (try go_bits); (try simp (disch := omega) only [if_pos]); (try simp (disch := omega) only [if_neg]); (try simp (disch := omega) only [dif_pos]); (try simp (disch := omega) only [dif_neg]); (try go_simp); (refine hK _ ?_; clear hK K))
        refine mixG_loadR (.agg (stmCs p)) rfl rfl rfl rfl (fun w' h => h.ldStm Hn.out k p Hp.out) ?_
        refine mixG_l rfl rfl (fun K hK => ?_)
        have HS := Lib.hid S
        clear S
        go_wp2_with fail
        ((with_reducible refine (heq x p wd).mono ?_); rintro e w3 ⟨rfl, hl3⟩)
        have S := HS.out.below hl3
        clear hl3 HS
        go_wp2_with fail
        refine ⟨fun _ => S, ?_⟩
        repeat (refine mixG_p rfl (fun K hK => ?_); go_simp; (try go_bits); (try simp (disch := omega) only [if_pos]); (try simp (disch := omega) only [if_neg]); (try simp (disch := omega) only [dif_pos]); (try simp (disch := omega) only [dif_neg]); (try go_simp); (refine hK _ ?_; clear hK K))
        refine mixG_nil ?_
        simp only [Exit.then]
        refine hKK _ _ ?_
        have Ht := Lib.hid (compS_take Hp.out Hx.out)
        cases he : decide (ordP x p = 0) with
        | false =>
          have HP2 : Hid (compS none (xs.take (k + 1 + 1)) = xs.take (k + 1 + 1)) := by
            show _ = _
            rw [Ht.out, HP.out, he, if_neg (by simp), ← take_snoc Hx.out]
          clear he HP Ht
          go_wp2_with fail
          go_roundw
          case rel => exact ⟨k + 1, by go_num, by omega, HP2, S⟩
          case measure => simp [intOf]; omega
        | true =>
          have HD : Hid (CompAt xs xs (k + 1) (k + 2)) := by
            refine ⟨rfl, ?_, rfl, by omega⟩
            rw [Ht.out, HP.out, he, if_pos rfl, List.append_nil]
          have hcap : n ≤ cap := by
            obtain ⟨g2, cap2, e2, h3⟩ := (S.ow 0 rfl).form (by have := Hn.out; omega)
            have := Hn.out
            simp only [Value.slice.injEq] at e2
            omega
          clear he HP Ht
          go_upto_region 9 with fail
          obtain ⟨q, hq⟩ : ∃ q, k + 1 = q := ⟨_, rfl⟩
          have hq2 : (k : Int) + 1 = (q : Int) := by omega
          rw [hq2, hq]
          rw [hq, show k + 2 = q + 1 by omega] at HD
          have hqn : q < n := by omega
          clear hq hq2 hk hlt h2 Hx Hp
          go_loopw [5, 7] (fun s5 s7 wr => ∃ (i m : Nat) (ys : List Stm), s5 = .int .i64 i ∧ s7 = .int .i64 (m + 1 : Nat) ∧ q + m + 1 ≤ n ∧ Hid (CompAt xs ys i (q + m + 1)) ∧ Mem w0 wr (.own rStm B 38 (.slice (some ⟨g, 0, none⟩) n cap) ys :: cs)) (fun _ s7 _ => n - (intOf s7).toNat)
          case atStart => exact ⟨q, 0, xs, rfl, by go_num, by omega, HD, S⟩
          case round =>
            clear S HD
            obtain ⟨i, m, ys, rfl, rfl, hm, HD, S⟩ := hrel
            have hyl : Hid (n = ys.length) := by show _ = _; have := Hn.out; have := HD.out.len; omega
            have hle := HD.out.le
            by_cases hlt : m + 1 < n - q
            · obtain ⟨x, hx⟩ : ∃ x, ys[q + m + 1]? = some x := ⟨_, List.getElem?_eq_getElem (by have := hyl.out; omega)⟩
              obtain ⟨p, hp⟩ : ∃ p, ys[q + m]? = some p := ⟨_, List.getElem?_eq_getElem (by have := hyl.out; omega)⟩
              have Hx := Lib.hid hx
              have Hp := Lib.hid hp
              clear hx hp
              go_upto_region 11 with fail
              refine wp_region_mixG 12 (fun w' => Mem w0 w' (.own rStm B 38 (.slice (some ⟨g, 0, none⟩) n cap) ys :: cs)) [.q 0, .q 1, .q 2, .q 3, .q 4, .q 5, .q 6, .q 7, .q 8, .q 9, .e 10, .q 11] (by kernel_rfl) (by kernel_rfl) (fun w' hd => S.below (hd.below _)) (fun KK hKK wd hd => ?_)
              replace S := S.below (hd.below _)
              clear hd
              repeat (refine mixG_p rfl (fun K hK => ?_); go_simp; (try go_bits); (try simp (disch := omega) only [if_pos]); (try simp (disch := omega) only [if_neg]); (try simp (disch := omega) only [dif_pos]); (try simp (disch := omega) only [dif_neg]); (try go_simp); (refine hK _ ?_; clear hK K))
              refine mixG_loadR (.agg (stmCs x)) rfl rfl rfl rfl (fun w' h => by have e := h.ldStm hyl.out (q + m + 1) x Hx.out; rwa [show (q + m + 1) * 8 = q * 8 + (m + 1) * 8 by omega] at e) ?_
              repeat (refine mixG_p rfl (fun K hK => ?_); go_simp; (try go_bits); (try simp (disch := omega) only [if_pos]); (try simp (disch := omega) only [if_neg]); (try simp (disch := omega) only [dif_pos]); (try simp (disch := omega) only [dif_neg]); (try go_simp); (refine hK _ ?_; clear hK K))
              refine mixG_loadR (.agg (stmCs p)) rfl rfl rfl rfl (fun w' h => by have e := h.ldStm hyl.out (q + m) p Hp.out; rwa [show (q + m) * 8 = q * 8 + m * 8 by omega] at e) ?_
              refine mixG_l rfl rfl (fun K hK => ?_)
              have HS := Lib.hid S
              clear S
              go_wp2_with fail
              ((with_reducible refine (heq x p wd).mono ?_); rintro e w3 ⟨rfl, hl3⟩)
              have HS4 := Lib.hid (HS.out.below hl3)
              clear hl3 HS
              go_wp2_with fail
              refine ⟨fun _ => HS4.out, ?_⟩
              repeat (refine mixG_p rfl (fun K hK => ?_); go_simp; (try go_bits); (try simp (disch := omega) only [if_pos]); (try simp (disch := omega) only [if_neg]); (try simp (disch := omega) only [dif_pos]); (try simp (disch := omega) only [dif_neg]); (try go_simp); (refine hK _ ?_; clear hK K))
              refine mixG_nil ?_
              simp only [Exit.then]
              refine hKK _ _ ?_
              cases he : decide (ordP x p = 0) with
              | true =>
                have HD2 := Lib.hid (HD.out.skip Hp.out Hx.out he)
                clear he HD
                go_wp2_with fail
                go_roundw
                case rel => exact ⟨i, m + 1, ys, rfl, by go_num, by omega, HD2, HS4.out⟩
                case measure => simp [intOf]; omega
              | false =>
                have HD2 := Lib.hid (HD.out.put Hp.out Hx.out he)
                clear he HD
                obtain ⟨z, hz⟩ : ∃ z, ys[i]? = some z := ⟨_, List.getElem?_eq_getElem (by have := hyl.out; omega)⟩
                obtain ⟨⟨e0, e1, e2, e3, e4, e5, e6, e7⟩, f0, f1, f2, f3, f4, f5, f6, f7⟩ := (HS4.out.ow 0 rfl).stmAt hyl.out i z hz
                obtain ⟨⟨d0, d1, d2, d3, d4, d5, d6, d7⟩, _⟩ := (HS4.out.ow 0 rfl).stmAt hyl.out (q + m + 1) x Hx.out
                rw [show (q + m + 1) * 8 = q * 8 + (m + 1) * 8 by omega] at d0 d1 d2 d3 d4 d5 d6 d7
                have Hz := Lib.hid hz
                clear hz
                go_wp2_with fail
                have S1 := HS4.out.put flatStm 0 rfl hyl.out i z (⟨x.no, z.at', z.kind, z.text, z.purpose, z.region, z.channel, z.what⟩ : Stm) Hz.out 0 (by decide) (.int .i64 x.no) rfl
                simp only [List.set_cons_zero] at S1
                have S2 := S1.put flatStm 0 rfl (by rw [List.length_set]; exact hyl.out) i (⟨x.no, z.at', z.kind, z.text, z.purpose, z.region, z.channel, z.what⟩ : Stm) (⟨x.no, x.at', z.kind, z.text, z.purpose, z.region, z.channel, z.what⟩ : Stm) (by rw [List.getElem?_set_self (by have := hyl.out; omega)]) 1 (by decide) (.int .i64 x.at') rfl
                simp only [List.set_cons_zero, List.set_set] at S2
                have S3 := S2.put flatStm 0 rfl (by rw [List.length_set]; exact hyl.out) i (⟨x.no, x.at', z.kind, z.text, z.purpose, z.region, z.channel, z.what⟩ : Stm) (⟨x.no, x.at', x.kind, z.text, z.purpose, z.region, z.channel, z.what⟩ : Stm) (by rw [List.getElem?_set_self (by have := hyl.out; omega)]) 2 (by decide) (.int .i64 x.kind) rfl
                simp only [List.set_cons_zero, List.set_set] at S3
                have S4 := S3.put flatStm 0 rfl (by rw [List.length_set]; exact hyl.out) i (⟨x.no, x.at', x.kind, z.text, z.purpose, z.region, z.channel, z.what⟩ : Stm) (⟨x.no, x.at', x.kind, x.text, z.purpose, z.region, z.channel, z.what⟩ : Stm) (by rw [List.getElem?_set_self (by have := hyl.out; omega)]) 3 (by decide) (.string x.text) rfl
                simp only [List.set_cons_zero, List.set_set] at S4
                have S5 := S4.put flatStm 0 rfl (by rw [List.length_set]; exact hyl.out) i (⟨x.no, x.at', x.kind, x.text, z.purpose, z.region, z.channel, z.what⟩ : Stm) (⟨x.no, x.at', x.kind, x.text, x.purpose, z.region, z.channel, z.what⟩ : Stm) (by rw [List.getElem?_set_self (by have := hyl.out; omega)]) 4 (by decide) (.string x.purpose) rfl
                simp only [List.set_cons_zero, List.set_set] at S5
                have S6 := S5.put flatStm 0 rfl (by rw [List.length_set]; exact hyl.out) i (⟨x.no, x.at', x.kind, x.text, x.purpose, z.region, z.channel, z.what⟩ : Stm) (⟨x.no, x.at', x.kind, x.text, x.purpose, x.region, z.channel, z.what⟩ : Stm) (by rw [List.getElem?_set_self (by have := hyl.out; omega)]) 5 (by decide) (.string x.region) rfl
                simp only [List.set_cons_zero, List.set_set] at S6
                have S7 := S6.put flatStm 0 rfl (by rw [List.length_set]; exact hyl.out) i (⟨x.no, x.at', x.kind, x.text, x.purpose, x.region, z.channel, z.what⟩ : Stm) (⟨x.no, x.at', x.kind, x.text, x.purpose, x.region, x.channel, z.what⟩ : Stm) (by rw [List.getElem?_set_self (by have := hyl.out; omega)]) 6 (by decide) (.int .i64 x.channel) rfl
                simp only [List.set_cons_zero, List.set_set] at S7
                have S8 := S7.put flatStm 0 rfl (by rw [List.length_set]; exact hyl.out) i (⟨x.no, x.at', x.kind, x.text, x.purpose, x.region, x.channel, z.what⟩ : Stm) x (by rw [List.getElem?_set_self (by have := hyl.out; omega)]) 7 (by decide) (.int .i64 x.what) rfl
                simp only [List.set_cons_zero, List.set_set] at S8
                rw [show rStm.size = 8 from rfl] at S8
                go_roundw
                case rel => exact ⟨i + 1, m + 1, ys.set i x, by go_num, by go_num, by omega, HD2, S8⟩
                case measure => simp [intOf]; omega
            · have HT : Hid (ys.take i = compS none xs) := by
                show _ = _
                rw [HD.out.front, List.take_of_length_le (by have := Hn.out; omega)]
              have HTl : Hid (i = (compS none xs).length) := by show _ = _; rw [← HT.out, List.length_take]; have := hyl.out; omega
              clear HD
              go_wp2_with (refine S.clearTail 0 rfl hyl.out tyStmS zeroStm oneZS i (cap - i) (by omega) rfl _ rfl (i * 8) (n - i) rfl rfl rfl ?_; intro w5 S5)
              go_ret
              refine ⟨?_, ?_⟩
              · rw [← HTl.out]; rfl
              · rw [HT.out] at S5
                rw [← HTl.out]
                exact S5
      · have Hx : Hid (compS none xs = xs) := by
          have h3 := HP.out
          rw [List.take_of_length_le (by have := Hn.out; omega)] at h3
          exact h3
        go_wp2_with fail
        go_ret
        refine ⟨?_, ?_⟩
        · rw [Hx.out, ← Hn.out]; rfl
        · rw [Hx.out, ← Hn.out]; exact S
end Go.Proofs.YthmkphmciiiagaaGreatDoor

/- The plain law of merging: sorting and compacting makes what sorting of each once makes. -/
namespace Go.Proofs.YthmkphmciiiagaaGreatDoor
open Go Go.RowKit Go.Sort Go.Shelf
def stmEq (a b : Stm) : Bool := decide (a.no = b.no) && decide (a.at' = b.at') && decide (a.kind = b.kind) && decide (a.text = b.text) && decide (a.purpose = b.purpose) && decide (a.region = b.region) && decide (a.channel = b.channel) && decide (a.what = b.what)
theorem stmEq_iff {a b : Stm} : stmEq a b = true ↔ a = b := by
  obtain ⟨n1, a1, k1, t1, p1, r1, c1, w1⟩ := a
  obtain ⟨n2, a2, k2, t2, p2, r2, c2, w2⟩ := b
  unfold stmEq
  simp only [Bool.and_eq_true, decide_eq_true_eq]
  constructor
  · rintro ⟨⟨⟨⟨⟨⟨⟨rfl, rfl⟩, rfl⟩, rfl⟩, rfl⟩, rfl⟩, rfl⟩, rfl⟩; rfl
  · intro h; cases h; simp
/-- is it there? -/
def hasS (l : List Stm) (x : Stm) : Bool := l.any (stmEq x)
theorem hasS_iff {l : List Stm} {x : Stm} : hasS l x = true ↔ x ∈ l := by
  unfold hasS
  rw [List.any_eq_true]
  constructor
  · rintro ⟨y, hy, e⟩; rw [stmEq_iff.1 e]; exact hy
  · intro h; exact ⟨x, h, stmEq_iff.2 rfl⟩
/-- each key once, as they come -/
def ddS (out : List Stm) : List Stm → List Stm
  | [] => out
  | s :: r => ddS (if hasS out (keyS s) = true then out else out ++ [keyS s]) r
theorem ddS_len : ∀ (l out : List Stm), (ddS out l).length ≤ out.length + l.length
  | [], out => by simp [ddS]
  | s :: r, out => by
    rw [ddS]
    have h := ddS_len r (if hasS out (keyS s) = true then out else out ++ [keyS s])
    rw [List.length_cons]
    split at h
    · rename_i h1; rw [if_pos h1]; omega
    · rename_i h1; rw [if_neg h1]; rw [List.length_append, List.length_singleton] at h; omega
theorem ddS_spec : ∀ (l out : List Stm), out.Nodup → (∀ x ∈ out, keyS x = x) → (ddS out l).Nodup ∧ (∀ x ∈ ddS out l, keyS x = x) ∧ ∀ x, x ∈ ddS out l ↔ x ∈ out ∨ ∃ y ∈ l, keyS y = x
  | [], out, h1, h2 => ⟨h1, h2, fun x => by simp [ddS]⟩
  | s :: r, out, h1, h2 => by
    rw [ddS]
    by_cases hh : hasS out (keyS s) = true
    · rw [if_pos hh]
      obtain ⟨g1, g2, g3⟩ := ddS_spec r out h1 h2
      refine ⟨g1, g2, fun x => (g3 x).trans ⟨?_, ?_⟩⟩
      · rintro (h | ⟨y, hy, e⟩)
        · exact .inl h
        · exact .inr ⟨y, by simp [hy], e⟩
      · rintro (h | ⟨y, hy, e⟩)
        · exact .inl h
        · rcases List.mem_cons.1 hy with rfl | hy
          · left; rw [← e]; exact hasS_iff.1 hh
          · exact .inr ⟨y, hy, e⟩
    · rw [if_neg hh]
      have hn : keyS s ∉ out := fun h => hh (hasS_iff.2 h)
      obtain ⟨g1, g2, g3⟩ := ddS_spec r (out ++ [keyS s]) (List.nodup_append.2 ⟨h1, by simp, fun a ha b hb e => by
        rw [List.mem_singleton.1 hb] at e; subst e; exact hn ha⟩) (fun x hx => by
        rcases List.mem_append.1 hx with hx | hx
        · exact h2 x hx
        · rw [List.mem_singleton.1 hx]; rfl)
      refine ⟨g1, g2, fun x => (g3 x).trans ⟨?_, ?_⟩⟩
      · rintro (h | ⟨y, hy, e⟩)
        · rcases List.mem_append.1 h with h | h
          · exact .inl h
          · exact .inr ⟨s, by simp, (List.mem_singleton.1 h).symm⟩
        · exact .inr ⟨y, by simp [hy], e⟩
      · rintro (h | ⟨y, hy, e⟩)
        · exact .inl (List.mem_append_left _ h)
        · rcases List.mem_cons.1 hy with rfl | hy
          · left; rw [← e]; simp
          · exact .inr ⟨y, hy, e⟩
/-- numbers from one on -/
def renumS (i : Int) : List Stm → List Stm
  | [] => []
  | s :: r => { s with no := i + 1 } :: renumS (i + 1) r
theorem renumS_key : ∀ (l : List Stm) (i : Int), renumS i l = renumS i (l.map keyS)
  | [], _ => rfl
  | s :: r, i => by
    rw [List.map_cons, renumS, renumS, renumS_key r (i + 1)]
    rfl
theorem renumS_len : ∀ (l : List Stm) (i : Int), (renumS i l).length = l.length
  | [], _ => rfl
  | s :: r, i => by rw [renumS, List.length_cons, List.length_cons, renumS_len]
theorem renumS_app : ∀ (l m : List Stm) (i : Int), renumS i (l ++ m) = renumS i l ++ renumS (i + l.length) m
  | [], m, i => by simp [renumS]
  | s :: r, m, i => by
    rw [List.cons_append, renumS, renumS, renumS_app r m, List.cons_append, List.length_cons]
    congr 3
    omega
theorem mrg_eq {l ys zs : List Stm} (h1 : ys.Perm l) (h2 : ys.Pairwise (fun a b => ordP a b ≤ 0)) (h3 : zs.Perm (ddS [] l)) (h4 : zs.Pairwise (fun a b => ordP a b ≤ 0)) : renumS 0 (compS none ys) = renumS 0 zs := by
  obtain ⟨c1, _, c3, c4⟩ := compS_ord ys none h2 (fun _ e => by cases e)
  obtain ⟨d1, d2, d3⟩ := ddS_spec l [] List.nodup_nil (fun _ h => by cases h)
  have z1 : zs.Nodup := h3.nodup_iff.2 d1
  have z2 : ∀ x ∈ zs, keyS x = x := fun x hx => d2 x (h3.mem_iff.1 hx)
  have z3 : zs.Pairwise (fun a b => ordP a b < 0) := by
    have h5 : zs.Pairwise (fun a b => ordP a b ≤ 0 ∧ a ≠ b) := h4.and z1
    refine List.Pairwise.imp_of_mem (fun {a b} ha hb h => ?_) h5
    rcases Int.lt_or_eq_of_le h.1 with h6 | h6
    · exact h6
    · have := ordP_key h6
      rw [z2 a ha, z2 b hb] at this
      exact absurd this h.2
  have c5 : ((compS none ys).map keyS).Pairwise (fun a b => ordP a b < 0) := by
    rw [List.pairwise_map]; exact c1
  have e : (compS none ys).map keyS = zs := by
    refine strict_eq (fun a b => ordP a b < 0) (fun x h => ?_) (fun x y z h h' => ordP_ok.lt h (by omega)) _ _ c5 z3 fun x => ?_
    · have h' : ordP x x < 0 := h
      have := ordP_ok.refl x; omega
    · rw [List.mem_map, h3.mem_iff, d3]
      constructor
      · rintro ⟨y, hy, rfl⟩
        exact .inr ⟨y, h1.mem_iff.1 (c3 y hy), rfl⟩
      · rintro (h | ⟨y, hy, rfl⟩)
        · cases h
        · rcases c4 y (h1.mem_iff.2 hy) with ⟨z, hz, e⟩ | ⟨p, e, _⟩
          · exact ⟨z, hz, e⟩
          · cases e
  rw [renumS_key (compS none ys), e]
end Go.Proofs.YthmkphmciiiagaaGreatDoor

/- slices.SortFunc at a slice of structs of the call's own: what was there, in order. -/
namespace Go.Proofs.YthmkphmciiiagaaGreatDoor
open Go Go.RowKit Go.Sort Go.Shelf
theorem flatK_val {T : Type} [Inhabited T] {P : T → Prop} [Inhabited {x // P x}] (f : T → List Value) (k : Nat) (d : Array {x // P x}) : flatK (fun x : {x // P x} => f x.1) k d = flatK f k (d.map Subtype.val) := by
  unfold flatK
  rw [Array.size_map]
  refine Array.map_congr_left fun t ht => ?_
  have h1 : t < d.size * k := by simpa using ht
  have hk : 0 < k := by
    rcases Nat.eq_zero_or_pos k with h | h
    · subst h; simp at h1
    · exact h
  have h2 : t / k < d.size := Nat.div_lt_of_lt_mul (by rw [Nat.mul_comm]; exact h1)
  rw [getElem!_pos d _ h2, getElem!_pos (d.map Subtype.val) _ (by simpa using h2), Array.getElem_map]
/-- what a sort hands back -/
def GivesSorted {T : Type} (r : Rep T) (c : T → T → Int) (w0 : World) (cs : List Chunk) (i B E : Nat) (v : Value) (xs : List T) (e : Ending) (w' : World) : Prop :=
  e = .returned (.tuple #[]) ∧ ∃ ys : List T, ys.Perm xs ∧ ys.Pairwise (fun a b => c a b ≤ 0) ∧ Mem w0 w' (cs.set i (.own r B E v ys))
theorem sortFn_own {T : Type} [Inhabited T] {r : Rep T} {f : T → List Value} (hf : r.Flat f) (hk0 : 0 < r.size) (hk : ∀ x, (f x).length = r.size) (h1 : ∀ x, ∀ v ∈ f x, v.oneCell' = true) {ρ : Go.Shelf.Ren} (L : SlLaysF0.n6 Tryz.prog ρ)
    (aE : ∀ w, (isAgg (ρ.t 24)).run Tryz.prog w = .ok true w) (zE : ∀ w, (Go.sizeOf (ρ.t 24)).run Tryz.prog w = .ok r.size w) (P : T → Prop) (cf c : T → T → Int) (hc : CmpOk c) (hcf : ∀ a b, cf a b < 0 ↔ c a b < 0) (g : Nat)
    (eg : ∀ args w, (callFunc g args).run Tryz.prog w = .ok (.enter g args) w)
    (hcmp : ∀ a b, P a → P b → ∀ w, Calls Tryz.prog g #[.agg (f a).toArray, .agg (f b).toArray] w fun e w' => e = .returned (.int .i64 (cf a b)) ∧ Grew w w')
    {w0 w : World} {cs : List Chunk} (S : Mem w0 w cs) (i : Nat) {B E : Nat} {v : Value} {xs : List T} (hi : cs[i]? = some (.own r B E v xs)) (hP : ∀ x ∈ xs, P x) (hl : xs.length ≤ 1000000) :
    Calls Tryz.prog (ρ.f 6) #[v, .func (.func g) #[] #[]] w (GivesSorted r c w0 cs i B E v xs) := by
  cases hxs : xs with
  | nil =>
    subst hxs
    obtain ⟨A, c1, rfl⟩ := (S.ow i hi).len
    refine (AnyF.slices_SortFunc_none L A c1 _ w).mono ?_
    rintro e w' ⟨rfl, rfl⟩
    exact ⟨rfl, [], List.Perm.refl _, List.Pairwise.nil, by
      have : cs.set i (.own r B E (.slice A ([] : List T).length c1) []) = cs := by
        obtain ⟨h2, h3⟩ := List.getElem?_eq_some_iff.1 hi
        rw [← h3]; exact List.set_getElem_self h2
      rw [this]; exact S⟩
  | cons x0 r0 =>
    rw [← hxs]
    have hx0 : P x0 := hP x0 (by rw [hxs]; simp)
    haveI : Inhabited {x // P x} := ⟨⟨x0, hx0⟩⟩
    have hne : 1 ≤ xs.length := by rw [hxs]; simp
    obtain ⟨gb, cap, rfl, hcap⟩ := (S.ow i hi).form hne
    have hg := S.lt (List.mem_of_getElem? hi) (k := gb) rfl
    have hH := Own.holdsK hf hk0 (S.ow i hi) rfl hk
    obtain ⟨d, hd⟩ : ∃ d : Array {x // P x}, d.map Subtype.val = xs.toArray := ⟨(xs.attach.map fun x => (⟨x.1, hP x.1 x.2⟩ : {x // P x})).toArray, by simp [Function.comp_def]⟩
    have hds : d.size = xs.length := by have := congrArg Array.size hd; simpa using this
    have hH2 : HoldsK (fun x : {x // P x} => f x.1) r.size w gb 0 d := by
      unfold HoldsK at hH ⊢
      rw [flatK_val, hd]; exact hH
    have hcon := AnyQ.slices_SortFunc L r.size aE zE (fun x : {x // P x} => f x.1) (fun x => hk x.1) (fun x => h1 x.1) (fun a b => cf a.1 b.1)
      (by
        have h2 : ltOf (fun a b : {x // P x} => cf a.1 b.1) = ltOf (fun a b : {x // P x} => c a.1 b.1) := by
          funext a b
          unfold ltOf
          rw [decide_eq_decide]; exact hcf a.1 b.1
        rw [h2]
        exact (hc.of (Subtype.val : {x // P x} → T)).swo)
      g #[] gb 0 cap d w eg (fun m os dk hs x y => hcmp x.1 y.1 x.2 y.2 _) hH2 hg (by omega)
    rw [hds] at hcon
    refine hcon.mono ?_
    rintro e w' ⟨rfl, d', n, os, hp, hs, rfl⟩
    obtain ⟨hp1, _, hp2⟩ := hp
    have hds' : d'.size = xs.length := hp1.trans hds
    have hpl : d'.toList.Perm d.toList := by
      have e1 : d'.extract 0 xs.length = d' := by rw [← hds']; simp
      have e2 : d.extract 0 xs.length = d := by rw [← hds]; simp
      rw [e1, e2] at hp2; exact hp2
    refine ⟨rfl, d'.toList.map Subtype.val, ?_, ?_, ?_⟩
    · have h3 := hpl.map Subtype.val
      have h4 : d.toList.map Subtype.val = xs := by
        have := congrArg Array.toList hd
        simpa using this
      rw [h4] at h3; exact h3
    · rw [List.pairwise_map, List.pairwise_iff_getElem]
      intro p q hp' hq hpq
      have hp3 : p < d'.size := by simpa using hp'
      have hq3 : q < d'.size := by simpa using hq
      have h5 := hs p q (Nat.zero_le _) hpq (by omega)
      rw [getElem!_pos d' q hq3, getElem!_pos d' p hp3] at h5
      unfold ltOf at h5
      simp only [decide_eq_false_iff_not] at h5
      rw [hcf] at h5
      have h6 := hc.anti d'[q].1 d'[p].1
      have h7 := hc.anti d'[p].1 d'[q].1
      simp only [Array.getElem_toList]
      omega
    · have h8 : sortWorldK (fun x : {x // P x} => f x.1) r.size w gb 0 n d' os = sortWorldK f r.size w gb 0 n (d'.toList.map Subtype.val).toArray os := by
        unfold sortWorldK putRowK
        rw [flatK_val]
        rw [← Array.toList_map, Array.toArray_toList]
      rw [h8]
      exact S.sortedK hf hk0 hk i hi (by rw [List.length_map, Array.length_toList, hds'])
end Go.Proofs.YthmkphmciiiagaaGreatDoor

/- What slices.Contains of statements returns. -/
namespace Go.Proofs.YthmkphmciiiagaaGreatDoor
open Go Go.RowKit Go.Sort Go.Shelf
theorem loadStmL {w : World} {X : Nat} {s : Stm} (h : LV w X (stmCs s) 38) : (Instr.loadAt 38 (.pointer (some ⟨X, 0, none⟩))).run Tryz.prog w = .ok (.agg (stmCs s)) w := by
  have c := h.all
  go_simp
theorem stm_ne {x y : Stm} (h : x ≠ y) : (x.no == y.no) = false ∨ ((x.no == y.no) = true ∧ ((x.at' == y.at') = false ∨ ((x.at' == y.at') = true ∧ ((x.kind == y.kind) = false ∨ ((x.kind == y.kind) = true ∧ ((x.text.toList == y.text.toList) = false ∨ ((x.text.toList == y.text.toList) = true ∧ ((x.purpose.toList == y.purpose.toList) = false ∨ ((x.purpose.toList == y.purpose.toList) = true ∧ ((x.region.toList == y.region.toList) = false ∨ ((x.region.toList == y.region.toList) = true ∧ ((x.channel == y.channel) = false ∨ ((x.channel == y.channel) = true ∧ ((x.what == y.what) = false)))))))))))))) := by
  by_cases h0 : x.no = y.no
  · refine .inr ⟨by rw [h0]; exact beq_self_eq_true _, ?_⟩
    by_cases h1 : x.at' = y.at'
    · refine .inr ⟨by rw [h1]; exact beq_self_eq_true _, ?_⟩
      by_cases h2 : x.kind = y.kind
      · refine .inr ⟨by rw [h2]; exact beq_self_eq_true _, ?_⟩
        by_cases h3 : x.text = y.text
        · refine .inr ⟨by rw [h3]; exact beq_self_eq_true _, ?_⟩
          by_cases h4 : x.purpose = y.purpose
          · refine .inr ⟨by rw [h4]; exact beq_self_eq_true _, ?_⟩
            by_cases h5 : x.region = y.region
            · refine .inr ⟨by rw [h5]; exact beq_self_eq_true _, ?_⟩
              by_cases h6 : x.channel = y.channel
              · refine .inr ⟨by rw [h6]; exact beq_self_eq_true _, ?_⟩
                have h7 : ¬ x.what = y.what := fun e => h (by cases x; cases y; simp_all)
                exact by simpa using h7
              · exact .inl (by simpa using h6)
            · exact .inl (bytesNe h5)
          · exact .inl (bytesNe h4)
        · exact .inl (bytesNe h3)
      · exact .inl (by simpa using h2)
    · exact .inl (by simpa using h1)
  · exact .inl (by simpa using h0)
theorem stm_eq {x y : Stm} (h : x = y) : (x.no == y.no) = true ∧ (x.at' == y.at') = true ∧ (x.kind == y.kind) = true ∧ (x.text.toList == y.text.toList) = true ∧ (x.purpose.toList == y.purpose.toList) = true ∧ (x.region.toList == y.region.toList) = true ∧ (x.channel == y.channel) = true ∧ (x.what == y.what) = true := by subst h; exact ⟨beq_self_eq_true _, beq_self_eq_true _, beq_self_eq_true _, beq_self_eq_true _, beq_self_eq_true _, beq_self_eq_true _, beq_self_eq_true _, beq_self_eq_true _⟩
set_option maxHeartbeats 4000000 in
set_option maxRecDepth 100000 in
theorem idxStm_any {w0 w : World} {cs : List Chunk} {B g n cap : Nat} {xs : List Stm} (S : Mem w0 w (.own rStm B 38 (.slice (some ⟨g, 0, none⟩) n cap) xs :: cs)) (x : Stm) (hn : n = xs.length) (hl : n ≤ 1000000) :
    Calls Tryz.prog 184 #[.slice (some ⟨g, 0, none⟩) n cap, .agg (stmCs x)] w fun e w' => (∃ i : Int, e = .returned (.int .i64 i) ∧ (0 ≤ i ↔ hasS xs x = true)) ∧ Below w.heap.size w w' := by
  have Hn := Lib.hid hn
  clear hn
  have HSb := Lib.hid (fun w' (h : Below w.heap.size w w') => S.below h)
  have T := (Mem.start w).new' (stmCs x) 38
  replace T : Mem w (w.alloc (.cells (stmCs x) 38)) [.loc w.heap.size (stmCs x) 38] := T
  clear S
  go_enter Tryz.func184, Tryz.ntmps184
  go_wp2_with fail
  generalize w.alloc (.cells (stmCs x) 38) = w1 at *
  go_loopw [8] (fun i wr => ∃ j : Nat, j ≤ n ∧ i = .int .i64 j ∧ Hid (hasS (xs.take j) x = false) ∧ Mem w wr [.loc w.heap.size (stmCs x) 38]) (fun i _ => n - (intOf i).toNat)
  case atStart => exact ⟨0, Nat.zero_le _, rfl, Lib.hid rfl, T⟩
  case round =>
    clear T
    obtain ⟨j, hj, rfl, HP, T⟩ := hrel
    by_cases hlt : j < n
    · obtain ⟨y, hy⟩ : ∃ y, xs[j]? = some y := ⟨_, List.getElem?_eq_getElem (by have := Hn.out; omega)⟩
      have Hy := Lib.hid hy
      clear hy
      have e0 := (T.lv 0 rfl).all
      obtain ⟨⟨d0, d1, d2, d3, d4, d5, d6, d7⟩, _⟩ := ((HSb.out wr T.b).ow 0 rfl).stmAt Hn.out j y Hy.out
      by_cases hxy : x = y
      · have HG : Hid (hasS xs x = true) := hasS_iff.2 (by rw [hxy]; exact List.mem_of_getElem? Hy.out)
        obtain ⟨h0, h1, h2, h3, h4, h5, h6, h7⟩ := stm_eq hxy
        clear hxy HP Hy
        go_wp2_with fail
        go_quiet (fail)
        go_wp2_with fail
        go_ret
        exact ⟨⟨j, rfl, by rw [HG.out]; simp⟩, (T.below (below_drewN _ _ _)).b⟩
      · have HE : Hid (hasS (xs.take (j + 1)) x = false) := by
          show _ = _
          rw [take_snoc Hy.out]
          unfold hasS
          rw [List.any_append, show (xs.take j).any (stmEq x) = false from HP.out]
          have : stmEq x y = false := by
            cases h : stmEq x y with
            | false => rfl
            | true => exact absurd (stmEq_iff.1 h) hxy
          simp [this]
        have hne := stm_ne hxy
        clear hxy HP Hy
        rcases hne with h0 | ⟨h0, h1 | ⟨h1, h2 | ⟨h2, h3 | ⟨h3, h4 | ⟨h4, h5 | ⟨h5, h6 | ⟨h6, h7⟩⟩⟩⟩⟩⟩⟩
        all_goals
          go_wp2_with fail
          go_quiet (fail)
          go_wp2_with fail
          go_roundw
          case rel => exact ⟨j + 1, by omega, by go_num, HE, T.below (below_drewN _ _ _)⟩
          case measure => simp [intOf]; omega
    · have HG : Hid (hasS xs x = false) := by
        have h1 := HP.out
        rw [List.take_of_length_le (by have := Hn.out; omega)] at h1
        exact h1
      go_wp2_with fail
      go_ret
      exact ⟨⟨-1, rfl, by rw [HG.out]; simp⟩, T.b⟩
end Go.Proofs.YthmkphmciiiagaaGreatDoor

/- slices.Concat of two lists of statements: the slice is the call's own. slices.SortFunc and slices.Contains of statements. -/
namespace Go.Proofs.YthmkphmciiiagaaGreatDoor
open Go Go.RowKit Go.Sort Go.Shelf
def GivesOwnS (l : List Stm) (w : World) (e : Ending) (w' : World) : Prop := ∃ v, e = .returned v ∧ Mem w w' [.own rStm w.heap.size 38 v l]
set_option maxHeartbeats 4000000 in
set_option maxRecDepth 100000 in
theorem concatO_any (X : Nat) (A1 A2 : Option Addr) (l1 l2 : List Stm) (c1 c2 : Nat) (w : World) (hX : LV w X #[.slice A1 l1.length c1, .slice A2 l2.length c2] 27) (h1 : Sl rStm (fun _ => False) w A1 l1) (h2 : Sl rStm (fun _ => False) w A2 l2) (hl1 : l1.length ≤ 1000) (hl2 : l2.length ≤ 1000) :
    Calls Tryz.prog 62 #[.slice (some ⟨X, 0, none⟩) 2 2] w (GivesOwnS (l1 ++ l2) w) := by
  obtain ⟨n1, hn1⟩ : ∃ n1, l1.length = n1 := ⟨_, rfl⟩
  obtain ⟨n2, hn2⟩ : ∃ n2, l2.length = n2 := ⟨_, rfl⟩
  rw [hn1] at hX hl1
  rw [hn2] at hX hl2
  have HX : Hid (∀ w', Below w.heap.size w w' → LV w' X #[.slice A1 n1 c1, .slice A2 n2 c2] 27) := fun w' h => (h.block X hX.lt).trans hX
  have H1 := Lib.hid (fun w' (h : Below w.heap.size w w') => h1.keepB h)
  have H2 := Lib.hid (fun w' (h : Below w.heap.size w w') => h2.keepB h)
  have c0 := hX.all
  clear hX h1 h2
  obtain ⟨n3, hn3⟩ : ∃ n3 : Nat, n3 = n1 + n2 := ⟨_, rfl⟩
  have Hn1 := Lib.hid hn1
  have Hn2 := Lib.hid hn2
  have hn31 : n3 ≤ 2000 := by omega
  have HG := Lib.hid (growS_any n3 (by omega) w)
  have hw1 : IntKind.i64.wrap (n1 : Int) = n1 := IntWalk.i64_in _ (by omega)
  have hw2 : IntKind.i64.wrap ((n1 : Int) + n2) = n3 := by rw [hn3]; exact IntWalk.i64_in _ (by omega)
  have hd1 : decide ((n1 : Int) < 0) = false := decide_eq_false (by omega)
  have hd3 : decide ((n3 : Int) < 0) = false := decide_eq_false (by omega)
  clear hn1 hn2 hn3
  go_enter Tryz.func62, Tryz.ntmps62
  go_wp2_with fail
  go_loopw [3, 11] (fun a i wr => ∃ j : Nat, j ≤ 2 ∧ i = .int .i64 j ∧ a = .int .i64 (sum2 n1 n3 j) ∧ w = wr) (fun _ i _ => 2 - (intOf i).toNat)
  case atStart => exact ⟨0, by omega, rfl, rfl, rfl⟩
  case round =>
    obtain ⟨j, hj, rfl, rfl, rfl⟩ := hrel
    rcases (by omega : j = 0 ∨ j = 1 ∨ j = 2) with rfl | rfl | rfl
    · simp only [sum2]
      go_wp2_with fail
      go_roundw
      case rel => exact ⟨1, by omega, by go_num, rfl, trivial⟩
      case measure => simp [intOf]
    · simp only [sum2]
      go_wp2_with fail
      go_roundw
      case rel => exact ⟨2, by omega, by go_num, rfl, trivial⟩
      case measure => simp [intOf]
    · simp only [sum2]
      clear c0
      go_wp2_with fail
      ((with_reducible refine (HG.out).mono ?_); rintro e w2 ⟨v, rfl, S⟩)
      clear HG
      go_wp2_with fail
      go_loopw [6, 27] (fun v i wr => ∃ j : Nat, j ≤ 2 ∧ i = .int .i64 j ∧ Mem w wr [.own rStm w.heap.size 38 v (app2 l1 l2 j)]) (fun _ i _ => 2 - (intOf i).toNat)
      case atStart => exact ⟨0, by omega, rfl, S⟩
      case round =>
        clear S
        obtain ⟨j, hj, rfl, S⟩ := hrel
        have c0 := (HX.out wr S.b).all
        have hsz := S.b.size
        rcases (by omega : j = 0 ∨ j = 1 ∨ j = 2) with rfl | rfl | rfl
        · have HS := Lib.hid S
          clear S
          cases A1 with
          | none =>
            obtain rfl := sl_none (H1.out wr HS.out.b)
            obtain rfl : n1 = 0 := Hn1.out.symm
            rcases (HS.out.ow 0 rfl).shape2 with ⟨rfl, _⟩ | ⟨g, cap, rfl, _⟩
            · go_wp2_with fail
              go_roundw
              case rel => exact ⟨1, by omega, by go_num, HS.out⟩
              case measure => simp [intOf]
            · simp only [app2, List.length_nil]
              go_wp2_with fail
              go_roundw
              case rel => exact ⟨1, by omega, by go_num, HS.out⟩
              case measure => simp [intOf]
          | some ad =>
            have Hc := Lib.hid (cells_sl (H1.out wr HS.out.b))
            go_wp2_with (at_builtin; refine HS.out.appN flatStm 0 rfl tyStmS rfl _ _ rfl l1 n1 c1 Hn1.out.symm rfl ad rfl Hc.out (fun y _ => oneStmS y) (fun _ => rfl) hsz (by simp only [app2, List.length_nil]; rw [Hn1.out]; omega) (by decide) ?_; intro v5 w5 S5)
            go_roundw
            case rel => exact ⟨1, by omega, by go_num, S5⟩
            case measure => simp [intOf]
        · have HS := Lib.hid S
          clear S
          cases A2 with
          | none =>
            obtain rfl := sl_none (H2.out wr HS.out.b)
            obtain rfl : n2 = 0 := Hn2.out.symm
            have HS1 : Hid (∀ {v : Value}, Mem w wr [.own rStm w.heap.size 38 v (app2 l1 [] 1)] → Mem w wr [.own rStm w.heap.size 38 v (app2 l1 [] 2)]) := fun {v} h => by rw [show app2 l1 [] 2 = app2 l1 [] 1 by simp [app2]]; exact h
            rcases (HS.out.ow 0 rfl).shape2 with ⟨hv, _⟩ | ⟨g, cap, hv, hc⟩
            · subst hv
              go_wp2_with fail
              go_roundw
              case rel => exact ⟨2, by omega, by go_num, HS1.out HS.out⟩
              case measure => simp [intOf]
            · rw [show (app2 l1 [] 1).length = n1 from Hn1.out] at hv hc
              subst hv
              go_wp2_with fail
              go_roundw
              case rel => exact ⟨2, by omega, by go_num, HS1.out HS.out⟩
              case measure => simp [intOf]
          | some ad =>
            have Hc := Lib.hid (cells_sl (H2.out wr HS.out.b))
            go_wp2_with (at_builtin; refine HS.out.appN flatStm 0 rfl tyStmS rfl _ _ rfl l2 n2 c2 Hn2.out.symm rfl ad rfl Hc.out (fun y _ => oneStmS y) (fun _ => rfl) hsz (by simp only [app2]; rw [Hn1.out, Hn2.out]; omega) (by decide) ?_; intro v5 w5 S5)
            go_roundw
            case rel => exact ⟨2, by omega, by go_num, S5⟩
            case measure => simp [intOf]
        · go_wp2_with fail
          go_ret
          exact ⟨_, rfl, S⟩
theorem idxNilStm_any (x : Stm) (w : World) : Calls Tryz.prog 184 #[.slice none 0 0, .agg (stmCs x)] w fun e w' => e = .returned (.int .i64 (-1)) ∧ Below w.heap.size w w' := by
  have T := (Mem.start w).new' (stmCs x) 38
  go_enter Tryz.func184, Tryz.ntmps184
  go_wp2_with fail
  generalize w.alloc (.cells (stmCs x) 38) = w1 at *
  go_loopw [8] (fun i wr => i = .int .i64 0 ∧ w1 = wr) (fun _ _ => 0)
  case atStart => exact ⟨rfl, rfl⟩
  case round =>
    obtain ⟨rfl, rfl⟩ := hrel
    go_wp2_with fail
    go_ret
    exact ⟨rfl, T.b⟩
theorem containsStm_any {w0 w : World} {cs : List Chunk} {B : Nat} {v : Value} {xs : List Stm} (S : Mem w0 w (.own rStm B 38 v xs :: cs)) (x : Stm) (hl : xs.length ≤ 1000000) :
    Calls Tryz.prog 96 #[v, .agg (stmCs x)] w fun e w' => e = .returned (.bool (hasS xs x)) ∧ Below w.heap.size w w' := by
  have T := (Mem.start w).new' (stmCs x) 38
  replace T : Mem w (w.alloc (.cells (stmCs x) 38)) [.loc w.heap.size (stmCs x) 38] := T
  obtain ⟨A, c, rfl⟩ := (S.ow 0 rfl).len
  have Hix : Hid (∀ w', Below w.heap.size w w' → Calls Tryz.prog 184 #[.slice A xs.length c, .agg (stmCs x)] w' fun e w'' => (∃ i : Int, e = .returned (.int .i64 i) ∧ (0 ≤ i ↔ hasS xs x = true)) ∧ Below w'.heap.size w' w'') := fun w' h => by
    have S' := S.below h
    rcases (S'.ow 0 rfl).shape2 with ⟨e, e2⟩ | ⟨g, cap, e, _⟩
    · rw [e]
      refine (idxNilStm_any x w').mono ?_
      rintro e w'' ⟨rfl, hb⟩
      exact ⟨⟨-1, rfl, by rw [e2]; simp [hasS]⟩, hb⟩
    · simp only [Value.slice.injEq] at e
      obtain ⟨rfl, _, rfl⟩ := e
      exact idxStm_any S' x rfl hl
  obtain ⟨bb, hbb⟩ : ∃ bb, hasS xs x = bb := ⟨_, rfl⟩
  rw [hbb] at Hix ⊢
  clear S hbb
  go_enter Tryz.func96, Tryz.ntmps96
  go_upto_region 1 with fail
  generalize w.alloc (.cells (stmCs x) 38) = w1 at *
  have c0 := (T.lv 0 rfl).all
  go_wp2_with fail
  ((with_reducible refine (Hix.out w1 T.b).mono ?_); rintro e w2 ⟨⟨i, rfl, hi⟩, hl2⟩)
  have Hi := Lib.hid hi
  clear hi
  go_wp2_with fail
  go_ret
  refine ⟨ret_b ?_, (T.below hl2).b⟩
  rw [Bool.eq_iff_iff, ← Hi.out]
  simp
theorem sortP_any {w0 w : World} {cs : List Chunk} (S : Mem w0 w cs) (i : Nat) {B : Nat} {v : Value} {xs : List Stm} (hi : cs[i]? = some (.own rStm B 38 v xs)) (hl : xs.length ≤ 1000000) :
    Calls Tryz.prog 90 #[v, .func (.func 91) #[] #[]] w (GivesSorted rStm ordP w0 cs i B 38 v xs) :=
  haveI : Inhabited Stm := ⟨stmZ⟩
  sortFn_own flatStm (by decide) (fun _ => rfl) oneStmS Tryz.laysSf90 Tryz.isAgg38 Tryz.sizeOf38 (fun _ => True) ordP ordP ordP_ok (fun _ _ => Iff.rfl) 91 (enters_of Tryz.func91 (by kernel_rfl) rfl) (fun a b _ _ w => ordP_any a b w) S i hi (fun _ _ => trivial) hl
theorem sortR_any {w0 w : World} {cs : List Chunk} (S : Mem w0 w cs) (i : Nat) {B : Nat} {v : Value} {xs : List Stm} (hi : cs[i]? = some (.own rStm B 38 v xs)) (hP : ∀ x ∈ xs, StmB x) (hl : xs.length ≤ 1000000) :
    Calls Tryz.prog 90 #[v, .func (.func 97) #[] #[]] w (GivesSorted rStm ordP w0 cs i B 38 v xs) :=
  haveI : Inhabited Stm := ⟨stmZ⟩
  sortFn_own flatStm (by decide) (fun _ => rfl) oneStmS Tryz.laysSf90 Tryz.isAgg38 Tryz.sizeOf38 StmB ordR ordP ordP_ok ordR_neg 97 (enters_of Tryz.func97 (by kernel_rfl) rfl) (fun a b ha hb w => ordR_any a b ha hb w) S i hi hP hl
end Go.Proofs.YthmkphmciiiagaaGreatDoor

/- What consent.Merge returns. -/
namespace Go.Proofs.YthmkphmciiiagaaGreatDoor
open Go Go.RowKit Go.Sort Go.Shelf
theorem renum_len (zs : List Stm) (j : Nat) (hj : j ≤ zs.length) : (renumS 0 (zs.take j) ++ zs.drop j).length = zs.length := by
  rw [List.length_append, renumS_len, List.length_take, List.length_drop]; omega
theorem renum_at {zs : List Stm} {j : Nat} {z : Stm} (hz : zs[j]? = some z) : (renumS 0 (zs.take j) ++ zs.drop j)[j]? = some z := by
  have hj := lt_of_get hz
  have hl : (renumS 0 (zs.take j)).length = j := by rw [renumS_len, List.length_take]; omega
  rw [List.getElem?_append_right (by omega), hl, Nat.sub_self, List.getElem?_drop]; simpa using hz
theorem renum_set {zs : List Stm} {j : Nat} {z : Stm} (hz : zs[j]? = some z) : (renumS 0 (zs.take j) ++ zs.drop j).set j { z with no := (j : Int) + 1 } = renumS 0 (zs.take (j + 1)) ++ zs.drop (j + 1) := by
  have hj := lt_of_get hz
  have hl : (renumS 0 (zs.take j)).length = j := by rw [renumS_len, List.length_take]; omega
  have hlt : (zs.take j).length = j := by rw [List.length_take]; omega
  obtain ⟨_, rfl⟩ := List.getElem?_eq_some_iff.1 hz
  rw [List.set_append_right _ _ (by omega), hl, Nat.sub_self, List.drop_eq_getElem_cons hj, List.set_cons_zero, take_snoc hz, renumS_app, hlt, List.append_assoc]
  simp [renumS]
def leK (a b : Stm) : Bool := decide (ordP a b ≤ 0)
def srtS (l : List Stm) : List Stm := l.mergeSort leK
theorem srtS_ok (l : List Stm) : (srtS l).Perm l ∧ (srtS l).Pairwise (fun a b => ordP a b ≤ 0) := by
  refine ⟨List.mergeSort_perm l leK, ?_⟩
  have h := List.pairwise_mergeSort (le := leK) (fun a b d h1 h2 => by
    unfold leK at *
    simp only [decide_eq_true_eq] at *
    exact ordP_ok.trans a b d h1 h2) (fun a b => by
    unfold leK
    have := ordP_ok.anti a b
    have h2 := ordP_ok.anti b a
    simp only [Bool.or_eq_true, decide_eq_true_eq]
    omega) l
  exact h.imp fun h => by simpa [leK] using h
/-- both lists in one, in order, each once, numbered anew -/
def mrgC (l : List Stm) : List Stm := renumS 0 (compS none (srtS l))
theorem mrgC_ref {l zs : List Stm} (h3 : zs.Perm (ddS [] l)) (h4 : zs.Pairwise (fun a b => ordP a b ≤ 0)) : renumS 0 zs = mrgC l := (mrg_eq (srtS_ok l).1 (srtS_ok l).2 h3 h4).symm
theorem mrgC_prog {l ys : List Stm} (h1 : ys.Perm l) (h2 : ys.Pairwise (fun a b => ordP a b ≤ 0)) : renumS 0 (compS none ys) = mrgC l := by
  have hs : (ddS [] l).mergeSort leK |>.Perm (ddS [] l) := List.mergeSort_perm _ _
  rw [mrg_eq h1 h2 hs (srtS_ok (ddS [] l)).2]
  exact mrgC_ref hs (srtS_ok (ddS [] l)).2
theorem compS_len : ∀ (l : List Stm) (prev : Option Stm), (compS prev l).length ≤ l.length
  | [], _ => Nat.le_refl _
  | x :: r, prev => by
    rw [compS, List.length_append, List.length_cons]
    have h := compS_len r (some x)
    split
    · rw [List.length_singleton]; omega
    · rw [List.length_nil]; omega
def mrgR (p : List Purp) (a b : List Stm) : List Stm × Int := if stmsFault p a ≠ 0 then ([], stmsFault p a) else if stmsFault p b ≠ 0 then ([], stmsFault p b) else (mrgC (a ++ b), 0)
theorem compAnyS {w0 w : World} {cs : List Chunk} {B : Nat} {v : Value} {xs : List Stm} (S : Mem w0 w (.own rStm B 38 v xs :: cs)) (hl : xs.length ≤ 1000000) :
    Calls Tryz.prog 92 #[v, .func (.func 93) #[] #[]] w fun e w' => ∃ v', e = .returned v' ∧ Mem w0 w' (.own rStm B 38 v' (compS none xs) :: cs) := by
  rcases (S.ow 0 rfl).shape2 with ⟨rfl, rfl⟩ | ⟨g, cap, rfl, _⟩
  · have HS := Lib.hid S
    clear S
    go_enter Tryz.func92, Tryz.ntmps92
    go_wp2_with fail
    go_ret
    exact ⟨_, rfl, HS.out⟩
  · refine (compS_any S rfl hl).mono ?_
    rintro e w' ⟨rfl, S'⟩
    exact ⟨_, rfl, S'⟩
set_option maxHeartbeats 16000000 in
set_option maxRecDepth 100000 in
theorem merge_any (A Aa Ab : Option Addr) (p : List Purp) (a b : List Stm) (c ca cb : Nat) (w : World) (hS : Sl rPurp (fun _ => False) w A p) (hok : PolOk p) (hA : Sl rStm (fun _ => False) w Aa a) (hB : Sl rStm (fun _ => False) w Ab b) (hao : StmOk a) (hbo : StmOk b) (hal : a.length ≤ 100) (hbl : b.length ≤ 100) (hM : MaxL w) :
    Calls Tryz.prog 32 #[.slice A p.length c, .slice Aa a.length ca, .slice Ab b.length cb] w (GivesChg2 (mrgR p a b) w) := by
  have HA := Lib.hid (fun w' (h : Below w.heap.size w w') => hA.keepB h)
  have HB := Lib.hid (fun w' (h : Below w.heap.size w w') => hB.keepB h)
  have HCa := Lib.hid (fun w' (h : Below w.heap.size w w') => check_any (fun _ => False) A Aa p a c ca w' (hS.keepB h) hok (hA.keepB h) hao (hM.below h))
  have HCb := Lib.hid (fun w' (h : Below w.heap.size w w') => check_any (fun _ => False) A Ab p b c cb w' (hS.keepB h) hok (hB.keepB h) hbo (hM.below h))
  obtain ⟨R, HR⟩ : ∃ R, Hid (mrgR p a b = R) := ⟨_, Lib.hid rfl⟩
  rw [HR.out]
  have HR1 : Hid ((if stmsFault p a ≠ 0 then ([], stmsFault p a) else if stmsFault p b ≠ 0 then ([], stmsFault p b) else (mrgC (a ++ b), 0)) = R) := HR
  generalize stmsFault p a = Fa at *
  generalize stmsFault p b = Fb at *
  clear HR hS hok hA hB hao hbo hM
  have S := (Mem.start w).new' #[.slice Aa a.length ca, .slice Ab b.length cb] 27
  replace S : Mem w (w.alloc (.cells #[.slice Aa a.length ca, .slice Ab b.length cb] 27)) [.loc w.heap.size #[.slice Aa a.length ca, .slice Ab b.length cb] 27] := S
  go_enter Tryz.func32, Tryz.ntmps32
  go_wp2_with fail
  generalize w.alloc (.cells #[.slice Aa a.length ca, .slice Ab b.length cb] 27) = w1 at *
  go_loopw [17] (fun i wr => ∃ j : Nat, j ≤ 2 ∧ i = .int .i64 j ∧ Hid (1 ≤ j → Fa = 0) ∧ Hid (2 ≤ j → Fb = 0) ∧ Mem w wr [.loc w.heap.size #[.slice Aa a.length ca, .slice Ab b.length cb] 27]) (fun i _ => 2 - (intOf i).toNat)
  case atStart => exact ⟨0, by omega, rfl, (by show _ → _; omega), (by show _ → _; omega), S⟩
  case round =>
    clear S
    obtain ⟨j, hj, rfl, H1, H2, S⟩ := hrel
    have c0 := (S.lv 0 rfl).all
    rcases (by omega : j = 0 ∨ j = 1 ∨ j = 2) with rfl | rfl | rfl
    · go_wp2_with fail
      ((with_reducible refine (HCa.out wr S.b).mono ?_); rintro e w2 ⟨rfl, hl2⟩)
      replace S := S.below hl2
      clear hl2 c0
      by_cases hF : Fa = 0
      · have hF' : (Fa != 0) = false := by simpa using hF
        have HF := Lib.hid hF
        clear hF
        go_wp2_with fail
        go_roundw
        case rel => exact ⟨1, by omega, by go_num, fun _ => HF.out, (by show _ → _; omega), S⟩
        case measure => simp [intOf]
      · have hF' : (Fa != 0) = true := by simpa using hF
        obtain rfl : ([], Fa) = R := Eq.trans (Eq.symm (if_pos hF)) HR1.out
        clear hF HR1
        go_wp2_with fail
        exact bodyPost_ret (results_tt rfl rfl rfl) rfl ⟨none, 0, rfl, Sl.nil, S.b⟩
    · have h0 := H1.out (by omega)
      go_wp2_with fail
      ((with_reducible refine (HCb.out wr S.b).mono ?_); rintro e w2 ⟨rfl, hl2⟩)
      replace S := S.below hl2
      clear hl2 c0
      by_cases hF : Fb = 0
      · have hF' : (Fb != 0) = false := by simpa using hF
        have HF := Lib.hid hF
        clear hF h0
        go_wp2_with fail
        go_roundw
        case rel => exact ⟨2, by omega, by go_num, fun _ => H1.out (by omega), fun _ => HF.out, S⟩
        case measure => simp [intOf]
      · have hF' : (Fb != 0) = true := by simpa using hF
        obtain rfl : ([], Fb) = R := Eq.trans (Eq.symm (if_pos hF)) (Eq.trans (Eq.symm (if_neg (by simpa using h0))) HR1.out)
        clear hF HR1 h0
        go_wp2_with fail
        exact bodyPost_ret (results_tt rfl rfl rfl) rfl ⟨none, 0, rfl, Sl.nil, S.b⟩
    · have HR2 : Hid ((mrgC (a ++ b), 0) = R) := Eq.trans (Eq.symm (if_neg (by simpa using H2.out (by omega)))) (Eq.trans (Eq.symm (if_neg (by simpa using H1.out (by omega)))) HR1.out)
      clear H1 H2 HR1 HCa HCb c0
      have T := S.newAt #[.slice Aa a.length ca, .slice Ab b.length cb] 27 wr.heap.size rfl
      have HK := Lib.hid (concatO_any wr.heap.size Aa Ab a b ca cb _ (T.lv 1 rfl) (HA.out _ T.b) (HB.out _ T.b) (by omega) (by omega))
      go_wp2_with fail
      generalize wr.alloc (.cells #[.slice Aa a.length ca, .slice Ab b.length cb] 27) = w2 at *
      ((with_reducible refine (HK.out).mono ?_); rintro e w3 ⟨v, rfl, U⟩)
      have HB0 := T.b.size
      obtain ⟨B2, hB2⟩ : ∃ B2, B2 = w2.heap.size := ⟨_, rfl⟩
      rw [← hB2] at U HB0
      have S : Mem w w3 (.own rStm B2 38 v (a ++ b) :: [.loc w.heap.size #[.slice Aa a.length ca, .slice Ab b.length cb] 27, .loc wr.heap.size #[.slice Aa a.length ca, .slice Ab b.length cb] 27]) := (T.join U).perm (List.perm_append_comm)
      clear T HK U hB2
      obtain ⟨cs, hcs⟩ : ∃ cs, [Chunk.loc w.heap.size #[.slice Aa a.length ca, .slice Ab b.length cb] 27, Chunk.loc wr.heap.size #[.slice Aa a.length ca, .slice Ab b.length cb] 27] = cs := ⟨_, rfl⟩
      rw [hcs] at S
      clear hcs
      have hab : (a ++ b).length ≤ 200 := by rw [List.length_append]; omega
      have Hso := Lib.hid (sortP_any S 0 rfl (by omega))
      generalize hl : a ++ b = l at *
      clear S hl
      go_wp2_with fail
      ((with_reducible refine (Hso.out).mono ?_); rintro e w4 ⟨rfl, ys, hp, hs, S⟩)
      replace S : Mem w w4 (.own rStm B2 38 v ys :: cs) := S
      have hyl : ys.length ≤ 200 := by rw [hp.length_eq]; exact hab
      have HR3 : Hid ((renumS 0 (compS none ys), 0) = R) := by show _ = _; rw [← HR2.out, mrgC_prog hp hs]
      have Hco := Lib.hid (compAnyS S (by omega))
      have hzl := compS_len ys none
      generalize compS none ys = zs at *
      clear S hp hs HR2 Hso
      go_wp2_with fail
      ((with_reducible refine (Hco.out).mono ?_); rintro e w5 ⟨v', rfl, S⟩)
      have hd3 : decide ((zs.length : Int) > 3000) = false := decide_eq_false (by omega)
      clear Hco
      obtain ⟨Az, cz, rfl⟩ := (S.ow 0 rfl).len
      go_wp2_with fail
      go_loopw [41] (fun i wr => ∃ j : Nat, j ≤ zs.length ∧ i = .int .i64 j ∧ Mem w wr (.own rStm B2 38 (.slice Az zs.length cz) (renumS 0 (zs.take j) ++ zs.drop j) :: cs)) (fun i _ => zs.length - (intOf i).toNat)
      case atStart => exact ⟨0, Nat.zero_le _, rfl, by simpa [renumS] using S⟩
      case round =>
        clear S
        obtain ⟨j, hj, rfl, S⟩ := hrel
        have Hyl := Lib.hid (renum_len zs j hj)
        by_cases hlt : j < zs.length
        · obtain ⟨z, hz⟩ : ∃ z, zs[j]? = some z := ⟨_, List.getElem?_eq_getElem hlt⟩
          have Hyz := Lib.hid (renum_at hz)
          have He := Lib.hid (renum_set hz)
          obtain ⟨g, cap, e1, _⟩ := (S.ow 0 rfl).form (by rw [Hyl.out]; omega)
          rw [Hyl.out] at e1
          simp only [Value.slice.injEq] at e1
          obtain ⟨rfl, _, rfl⟩ := e1
          have S2 := S.put flatStm 0 rfl Hyl.out.symm j z { z with no := (j : Int) + 1 } Hyz.out 0 (by decide) (.int .i64 ((j : Int) + 1)) rfl
          have hc := (S.ow 0 rfl).cellP flatStm Hyl.out.symm j z Hyz.out 0 _ rfl
          rw [show rStm.size = 8 from rfl, Nat.add_zero] at S2 hc
          rw [List.set_cons_zero, He.out] at S2
          clear hz
          go_wp2_with fail
          go_roundw
          case rel => exact ⟨j + 1, by omega, by go_num, S2⟩
          case measure => simp [intOf]; omega
        · rw [List.take_of_length_le (by omega), List.drop_eq_nil_of_le (by omega), List.append_nil] at S
          obtain rfl : (renumS 0 zs, 0) = R := HR3.out
          obtain ⟨A2, c2, e2, hSS⟩ := ((S.ow 0 rfl).flatM flatStm (M' := Lt w.heap.size)).toSlC (fun k h1 h2 => by unfold Lt at h2; omega)
          rw [renumS_len] at e2
          simp only [Value.slice.injEq] at e2
          obtain ⟨rfl, _, rfl⟩ := e2
          have HSS := Lib.hid hSS.2
          have HLn := Lib.hid (renumS_len zs 0)
          clear hSS
          go_wp2_with fail
          exact bodyPost_ret (results_tt rfl rfl rfl) rfl ⟨Az, cz, by rw [HLn.out]; rfl, HSS.out, S.b⟩
end Go.Proofs.YthmkphmciiiagaaGreatDoor

/- What handref2.MergeOf returns. -/
namespace Go.Proofs.YthmkphmciiiagaaGreatDoor
open Go Go.RowKit Go.Sort Go.Shelf
theorem ddS_snoc : ∀ (l out : List Stm) (s : Stm), ddS out (l ++ [s]) = if hasS (ddS out l) (keyS s) = true then ddS out l else ddS out l ++ [keyS s]
  | [], out, s => rfl
  | x :: r, out, s => by rw [List.cons_append, ddS, ddS_snoc r, ddS]
set_option maxHeartbeats 16000000 in
set_option maxRecDepth 100000 in
theorem refMerge_any (Aa Ab : Option Addr) (a b : List Stm) (ca cb : Nat) (w : World) (hA : Sl rStm (fun _ => False) w Aa a) (hB : Sl rStm (fun _ => False) w Ab b) (hal : a.length ≤ 100) (hbl : b.length ≤ 100) (hP : ∀ s ∈ a ++ b, StmB s) :
    Calls Tryz.prog 34 #[.slice Aa a.length ca, .slice Ab b.length cb] w (GivesChg2 (mrgC (a ++ b), 0) w) := by
  have HA := Lib.hid (fun w' (h : Below w.heap.size w w') => hA.keepB h)
  have HB := Lib.hid (fun w' (h : Below w.heap.size w w') => hB.keepB h)
  obtain ⟨R, HR⟩ : ∃ R, Hid ((mrgC (a ++ b), (0 : Int)) = R) := ⟨_, Lib.hid rfl⟩
  rw [HR.out]
  clear hA hB
  have S := ((Mem.start w).nil rStm w.heap.size 38).new' #[.slice Aa a.length ca, .slice Ab b.length cb] 27
  replace S : Mem w (w.alloc (.cells #[.slice Aa a.length ca, .slice Ab b.length cb] 27)) [.own rStm w.heap.size 38 (.slice none 0 0) [], .loc w.heap.size #[.slice Aa a.length ca, .slice Ab b.length cb] 27] := S
  have HK := Lib.hid (concatO_any w.heap.size Aa Ab a b ca cb _ (S.lv 1 rfl) (HA.out _ S.b) (HB.out _ S.b) (by omega) (by omega))
  go_enter Tryz.func34, Tryz.ntmps34
  go_wp2_with fail
  generalize w.alloc (.cells #[.slice Aa a.length ca, .slice Ab b.length cb] 27) = w2 at *
  ((with_reducible refine (HK.out).mono ?_); rintro e w3 ⟨v, rfl, U⟩)
  replace S := S.join U
  replace S : Mem w w3 [.own rStm w.heap.size 38 (.slice none 0 0) [], .loc w.heap.size #[.slice Aa a.length ca, .slice Ab b.length cb] 27, .own rStm w2.heap.size 38 v (a ++ b)] := S
  clear U HK
  obtain ⟨A3, c3, rfl, S⟩ := S.frz 2 rfl
  have hab : (a ++ b).length ≤ 200 := by rw [List.length_append]; omega
  generalize hl : a ++ b = l at *
  clear hl
  replace S : Mem w w3 [.own rStm w.heap.size 38 (.slice none 0 0) [], .loc w.heap.size #[.slice Aa a.length ca, .slice Ab b.length cb] 27, .sl rStm A3 l] := S
  have HP := Lib.hid hP
  clear hP
  go_wp2_with fail
  go_loopw [6, 15] (fun v i wr => ∃ (j : Nat) (out : List Stm), j ≤ l.length ∧ i = .int .i64 j ∧ Hid (ddS [] (l.take j) = out) ∧ out.length ≤ j ∧ Mem w wr [.own rStm w.heap.size 38 v out, .loc w.heap.size #[.slice Aa a.length ca, .slice Ab b.length cb] 27, .sl rStm A3 l]) (fun _ i _ => l.length - (intOf i).toNat)
  case atStart => exact ⟨0, [], Nat.zero_le _, rfl, Lib.hid rfl, Nat.le_refl _, S⟩
  case round =>
    clear S
    obtain ⟨j, out, hj, rfl, HO, hol, S⟩ := hrel
    by_cases hlt : j < l.length
    · obtain ⟨s, hf⟩ : ∃ s, l[j]? = some s := ⟨_, List.getElem?_eq_getElem hlt⟩
      obtain ⟨blk, off, rfl, hblk, d0, d1, d2, d3, d4, d5, d6, d7⟩ := (S.slc 2 rfl).stm j s hf
      have HO2 : Hid (ddS [] (l.take (j + 1)) = if hasS out (keyS s) = true then out else out ++ [keyS s]) := by show _ = _; rw [take_snoc hf, ddS_snoc, HO.out]
      clear hf HO
      go_upto_region 5 with fail
      clear d0 d1 d2 d3 d4 d5 d6 d7
      obtain ⟨Y, hY⟩ : ∃ Y, Y = wr.heap.size := ⟨_, rfl⟩
      replace S := S.newAt (stmCs s) 38 Y hY
      rw [← hY]
      clear hY
      generalize wr.alloc (.cells (stmCs s) 38) = w4 at *
      have c3 := (S.lv 3 rfl).all
      go_upto_region 6 with fail
      clear c3
      have S5 : Mem w (w4.setCell ⟨Y, 0, none⟩ (.int .i64 0)) [.own rStm w.heap.size 38 _ out, .loc w.heap.size #[.slice Aa a.length ca, .slice Ab b.length cb] 27, .sl rStm (some ⟨blk, off, none⟩) l, .loc Y (stmCs (keyS s)) 38] := S.set 3 0 (.int .i64 0) rfl
      clear S
      generalize w4.setCell ⟨Y, 0, none⟩ (.int .i64 0) = w5 at *
      obtain ⟨k, hk⟩ : ∃ k, keyS s = k := ⟨_, rfl⟩
      rw [hk] at S5 HO2
      clear hk
      have Hct := Lib.hid (containsStm_any S5 k (by omega))
      have c3 := (S5.lv 3 rfl).all
      have HS := Lib.hid S5
      clear S5
      go_wp2_with fail
      ((with_reducible refine (Hct.out).mono ?_); rintro e w6 ⟨rfl, hl6⟩)
      have S := HS.out.below hl6
      clear hl6 HS Hct c3
      have c3 := (S.lv 3 rfl).all
      have hsz := S.b.size
      cases hh : hasS out k with
      | true =>
        have HO3 : Hid (ddS [] (l.take (j + 1)) = out) := by show _ = _; rw [HO2.out, if_pos hh]
        clear hh HO2
        go_wp2_with fail
        go_roundw
        case rel => exact ⟨j + 1, out, by omega, by go_num, HO3, by omega, S.del 3⟩
        case measure => simp [intOf]; omega
      | false =>
        have HO3 : Hid (ddS [] (l.take (j + 1)) = out ++ [k]) := by show _ = _; rw [HO2.out, if_neg (by simp [hh])]
        clear hh HO2
        go_wp2_with (at_builtin; refine S.app 0 rfl tyStmS rfl _ _ rfl k 1 rfl rfl rfl (oneStmS k) hsz (by omega) (by decide) ?_; intro v' w7 S7)
        go_roundw
        case rel => exact ⟨j + 1, _, by omega, by go_num, HO3, by rw [List.length_append, List.length_singleton]; omega, S7.del 3⟩
        case measure => simp [intOf]; omega
    · have HO2 : Hid (ddS [] l = out) := by show _ = _; rw [← HO.out, List.take_of_length_le (by omega)]
      have hPk : ∀ x ∈ out, StmB x := fun x hx => by
        rw [← HO2.out, (ddS_spec l [] List.nodup_nil (fun _ h => by cases h)).2.2] at hx
        rcases hx with hx | ⟨y, hy, rfl⟩
        · cases hx
        · have h := HP.out y hy
          exact ⟨h.at', h.ch, h.wh⟩
      clear HO
      obtain ⟨cs, hcs⟩ : ∃ cs, [Chunk.loc w.heap.size #[.slice Aa a.length ca, .slice Ab b.length cb] 27, Chunk.sl rStm A3 l] = cs := ⟨_, rfl⟩
      rw [hcs] at S
      obtain ⟨Ao, co, rfl⟩ := (S.ow 0 rfl).len
      have Hso := Lib.hid (sortR_any S 0 rfl hPk (by omega))
      have hd3 : decide ((out.length : Int) > 3000) = false := decide_eq_false (by omega)
      clear S hcs hPk
      go_wp2_with fail
      ((with_reducible refine (Hso.out).mono ?_); rintro e w4 ⟨rfl, zs, hp, hs, S⟩)
      replace S : Mem w w4 (.own rStm w.heap.size 38 (.slice Ao out.length co) zs :: cs) := S
      have hzl : zs.length = out.length := hp.length_eq
      have HR3 : Hid ((renumS 0 zs, 0) = R) := by
        show _ = _
        rw [← HO2.out] at hp
        rw [← HR.out, mrgC_ref hp hs]
      rw [← hzl]
      rw [← hzl] at S
      have hz200 : zs.length ≤ 200 := by omega
      clear hp hs hzl Hso HO2 hol hd3
      obtain ⟨vv, hvv⟩ : ∃ vv, Value.slice Ao zs.length co = vv := ⟨_, rfl⟩
      rw [hvv] at S ⊢
      clear hvv
      obtain ⟨Az, cz, rfl⟩ := (S.ow 0 rfl).len
      go_wp2_with fail
      go_loopw [36] (fun i wr => ∃ j : Nat, j ≤ zs.length ∧ i = .int .i64 j ∧ Mem w wr (.own rStm w.heap.size 38 (.slice Az zs.length cz) (renumS 0 (zs.take j) ++ zs.drop j) :: cs)) (fun i _ => zs.length - (intOf i).toNat)
      case atStart => exact ⟨0, Nat.zero_le _, rfl, by simpa [renumS] using S⟩
      case round =>
        clear S
        obtain ⟨j, hj, rfl, S⟩ := hrel
        have Hyl := Lib.hid (renum_len zs j hj)
        by_cases hlt : j < zs.length
        · obtain ⟨z, hz⟩ : ∃ z, zs[j]? = some z := ⟨_, List.getElem?_eq_getElem hlt⟩
          have Hyz := Lib.hid (renum_at hz)
          have He := Lib.hid (renum_set hz)
          obtain ⟨g, cap, e1, _⟩ := (S.ow 0 rfl).form (by rw [Hyl.out]; omega)
          rw [Hyl.out] at e1
          simp only [Value.slice.injEq] at e1
          obtain ⟨rfl, _, rfl⟩ := e1
          have S2 := S.put flatStm 0 rfl Hyl.out.symm j z { z with no := (j : Int) + 1 } Hyz.out 0 (by decide) (.int .i64 ((j : Int) + 1)) rfl
          have hc := (S.ow 0 rfl).cellP flatStm Hyl.out.symm j z Hyz.out 0 _ rfl
          rw [show rStm.size = 8 from rfl, Nat.add_zero] at S2 hc
          rw [List.set_cons_zero, He.out] at S2
          clear hz
          go_wp2_with fail
          go_roundw
          case rel => exact ⟨j + 1, by omega, by go_num, S2⟩
          case measure => simp [intOf]; omega
        · rw [List.take_of_length_le (by omega), List.drop_eq_nil_of_le (by omega), List.append_nil] at S
          obtain rfl : (renumS 0 zs, 0) = R := HR3.out
          obtain ⟨A2, c2, e2, hSS⟩ := ((S.ow 0 rfl).flatM flatStm (M' := Lt w.heap.size)).toSlC (fun k h1 h2 => by unfold Lt at h2; omega)
          rw [renumS_len] at e2
          simp only [Value.slice.injEq] at e2
          obtain ⟨rfl, _, rfl⟩ := e2
          have HSS := Lib.hid hSS.2
          have HLn := Lib.hid (renumS_len zs 0)
          clear hSS
          go_wp2_with fail
          exact bodyPost_ret (results_tt rfl rfl rfl) rfl ⟨Az, cz, by rw [HLn.out]; rfl, HSS.out, S.b⟩
end Go.Proofs.YthmkphmciiiagaaGreatDoor

/- The law ConsentMerges walked: it returns true, and nothing that was there has turned. -/
namespace Go.Proofs.YthmkphmciiiagaaGreatDoor
open Go Go.RowKit Go.Sort Go.Shelf
theorem mrg_sameKey {s t : Stm} (h : keyS s = keyS t) : s.text = t.text ∧ s.purpose = t.purpose ∧ s.region = t.region := by
  obtain ⟨n1, a1, k1, t1, p1, r1, c1, w1⟩ := s
  obtain ⟨n2, a2, k2, t2, p2, r2, c2, w2⟩ := t
  unfold keyS at h
  simp only [Stm.mk.injEq] at h
  exact ⟨h.2.2.2.1, h.2.2.2.2.1, h.2.2.2.2.2.1⟩
theorem renumS_from : ∀ (l : List Stm) (i : Int) (s : Stm), s ∈ renumS i l → ∃ t ∈ l, keyS s = keyS t
  | [], _, _, h => by cases h
  | x :: r, i, s, h => by
    rcases List.mem_cons.1 h with rfl | h
    · exact ⟨x, by simp, rfl⟩
    · obtain ⟨t, ht, e⟩ := renumS_from r (i + 1) s h
      exact ⟨t, by simp [ht], e⟩
theorem renumS_sm {l : List Stm} {i : Int} (h : ∀ s ∈ l, StmSm s) : ∀ s ∈ renumS i l, StmSm s := fun s hs => by
  obtain ⟨t, ht, e⟩ := renumS_from l i s hs
  obtain ⟨e1, e2, e3⟩ := mrg_sameKey e
  have h1 := h t ht
  exact ⟨by rw [e1]; exact h1.tx, by rw [e2]; exact h1.pu, by rw [e3]; exact h1.rg⟩
theorem stmF_B {p : List Purp} {prev : Option Stm} {s : Stm} (h : stmF p prev s = 0) : StmB s := by
  have h1 := (stmF_ok h).2.2.1
  unfold stmF stmE at h
  split at h
  · cases h
  · split at h
    · cases h
    · split at h
      · cases h
      · split at h
        · rename_i h4; exact absurd h h4
        · split at h
          · cases h
          · rename_i h5
            split at h
            · cases h
            · rename_i h6
              have h7 : isCh s.channel = true := by simpa using h5
              have h8 : (1 ≤ s.what ∧ s.what ≤ 5) := by simpa using h6
              unfold isCh at h7
              have h9 := of_decide_eq_true h7
              exact ⟨h1, by omega, by omega⟩
theorem stmsGo_B {p : List Purp} : ∀ (l : List Stm) (prev : Option Stm), stmsGo p prev l = 0 → ∀ s ∈ l, StmB s
  | [], _, _, s, h => by cases h
  | x :: r, prev, h, s, hs => by
    obtain ⟨h1, h2⟩ := stmsGo_cons h
    rcases List.mem_cons.1 hs with rfl | hs
    · exact stmF_B h1
    · exact stmsGo_B r (some x) h2 s hs
theorem stms_B {p : List Purp} {l : List Stm} (h : stmsFault p l = 0) : ∀ s ∈ l, StmB s := by
  unfold stmsFault at h
  split at h
  · rename_i h1; exact absurd h h1
  · split at h
    · cases h
    · exact stmsGo_B l none h
theorem mrgC_len (l : List Stm) : (mrgC l).length ≤ l.length := by
  unfold mrgC
  rw [renumS_len]
  exact Nat.le_trans (compS_len _ none) (Nat.le_of_eq (srtS_ok l).1.length_eq)
theorem mrgR_is (p : List Purp) (a b : List Stm) : mrgR p a b = if firstErr [stmsFault p a, stmsFault p b] = 0 then (mrgC (a ++ b), 0) else ([], firstErr [stmsFault p a, stmsFault p b]) := by
  have h2 : ∀ x y : Int, firstErr [x, y] = if x ≠ 0 then x else y := fun x y => by
    rw [firstErr, firstErr1]
  unfold mrgR
  rw [h2]
  generalize stmsFault p a = x
  generalize stmsFault p b = y
  by_cases hx : x = 0 <;> by_cases hy : y = 0 <;> simp [hx, hy]
theorem firstErr_zero {x y : Int} (h : firstErr [x, y] = 0) : x = 0 ∧ y = 0 := by
  rw [firstErr, firstErr1] at h
  split at h
  · rename_i h1; exact absurd h h1
  · rename_i h1; exact ⟨Decidable.not_not.1 h1, h⟩
def MrgRel (b M : Nat) (w0 : World) (B2 Q B : Nat) (va : Value) (l : List Stm) (qc : Array Value) (vp : Value) (q : List PQ) (v : Value) (w : World) : Prop :=
  ∃ (B3 : Nat) (l3 : List Stm), l3.length ≤ 20 ∧ (∀ s ∈ l3, StmSm s) ∧ St b M w0 w (.own rStm B3 38 v l3 :: .own rStm B2 38 va l :: .loc Q qc 31 :: polC B vp q)
set_option maxHeartbeats 16000000 in
set_option maxRecDepth 100000 in
theorem consentMerges_any (v : Value) (w : World) (hv : IntsIn v w) (hP : Pool w) (hM : MaxL w) :
    Calls Tryz.prog 5 #[v] w fun e w' => e = .returned (.bool true) ∧ Below w.heap.size w w' := by
  obtain ⟨va, vn, vc, rfl⟩ : ∃ a n c, v = .slice a n c := by
    rcases hv with ⟨a, c, rfl⟩ | ⟨k, off, len, cap, rfl, _⟩
    · exact ⟨_, _, _, rfl⟩
    · exact ⟨_, _, _, rfl⟩
  have g0 := G.start (Strm.start hv)
  clear hv
  have hPn : 0 ≠ w.heap.size := Nat.ne_of_lt hP.lt
  have hMl : 2 < w.heap.size := by
    obtain ⟨m, h⟩ := hM
    exact World.block_lt_of_cell? w _ h
  have hMn : 2 ≠ w.heap.size := Nat.ne_of_lt hMl
  have hk0 := (SK.refl w.heap.size w).alloc (.cells #[.slice va vn vc, .int .i64 0] 25)
  have HA := Lib.hid (asked_any w.heap.size 0 _ g0.s (by omega) (hP.keep hk0 hPn) hPn (hM.sk hk0 hMn) hMn)
  have HM := Lib.hid hM
  have HP := Lib.hid (hP.keep hk0 hPn)
  clear hP hM hk0 hMl
  go_enter Tryz.func5, Tryz.ntmps5
  go_wp2_with fail
  ((with_reducible refine (HA.out).mono ?_); rintro e w1 ⟨B, B2, A, c, q, v2, l, k, t, pu, rg, ch, at', rfl, hq, hl, hls, hqs, hB, hB2, S⟩)
  have hb0 := S.b0
  generalize hw0 : w.alloc (.cells #[.slice va vn vc, .int .i64 0] 25) = w0 at *
  have Hw0 := Lib.hid hw0
  have HB := Lib.hid hB
  have HB2 := Lib.hid hB2
  have Hq := Lib.hid hq
  have Hls := Lib.hid hls
  clear HA hB hB2 hls hqs hw0
  obtain ⟨Al, cl, rfl⟩ := (S.ow 0 rfl).len
  go_upto_region 3 with fail
  obtain ⟨Q, hQ⟩ : ∃ Q, Q = w1.heap.size := ⟨_, rfl⟩
  replace S : St w.heap.size (0 + 440) w0 (w1.alloc (.cells (qqCs k t pu rg ch at') 31)) (.own rStm B2 38 (.slice Al l.length cl) l :: .loc Q (qqCs k t pu rg ch at') 31 :: polC B (.slice A q.length c) q) := by
    rw [hQ]
    exact (S.new' (qqCs k t pu rg ch at') 31).perm (List.Perm.cons _ List.perm_append_comm)
  rw [← hQ]
  clear hQ
  generalize w1.alloc (.cells (qqCs k t pu rg ch at') 31) = w2 at *
  have hlen : (q.map PQ.purp).length = q.length := by simp
  have Hlen := Lib.hid hlen
  have hxl : (q.map PQ.purp).length ≤ 1000 := by have := hq.len; omega
  have Hnm := Lib.hid (purp_small hq)
  have HSp : Hid (∀ {m : Nat} {wx : World}, St w.heap.size m w0 wx (.own rStm B2 38 (.slice Al l.length cl) l :: .loc Q (qqCs k t pu rg ch at') 31 :: polC B (.slice A q.length c) q) → Sl rPurp (Off w.heap.size) wx A (q.map PQ.purp)) := fun {m wx} S => by
    have S' : St w.heap.size m w0 wx (.own rStm B2 38 (.slice Al l.length cl) l :: polC B (.slice A q.length c) q) := S.del 1
    obtain ⟨A', c', e', hS⟩ := S'.polFalse HB.out (List.mem_cons_of_mem _ (List.mem_cons_self ..)) (fun e he => List.mem_cons_of_mem _ (List.mem_cons_of_mem _ (List.mem_map.2 ⟨e, he, rfl⟩)))
    simp only [Value.slice.injEq] at e'
    obtain ⟨rfl, _, rfl⟩ := e'
    exact hS.mono (fun k _ e => by show k < _; rw [show k = w.heap.size from e]; exact hb0)
  clear hlen hq
  go_wp2_with fail
  ((with_reducible refine (range_any w.heap.size _ 0 8 _ S.g.s (by omega) (by omega) (by omega) (by omega)).mono ?_); rintro e w3 ⟨r, r0, r1, rfl, hk_w3, hs_w3⟩)
  replace S := S.step hk_w3 hs_w3
  clear hk_w3 hs_w3
  obtain ⟨n, rfl⟩ := Int.eq_ofNat_of_zero_le r0
  have hn : n ≤ 8 := by omega
  have Hr := Lib.hid (stms_any w.heap.size _ n A (q.map PQ.purp) c w3 S.g.s (by omega) (by omega) (HP.out.keep S.g.k hPn) hPn (HSp.out S) Hnm.out hxl)
  rw [Hlen.out] at Hr
  clear r0 r1
  go_wp2_with fail
  ((with_reducible refine (Hr.out).mono ?_); rintro e w4 ⟨v3, l3, rfl, hl3, hls3, S1⟩)
  have Hls3 := Lib.hid hls3
  obtain ⟨B3, hB3⟩ : ∃ B3, w3.heap.size = B3 := ⟨_, rfl⟩
  rw [hB3] at S1
  replace S : St w.heap.size 550 w0 w4 (.own rStm B3 38 v3 l3 :: .own rStm B2 38 (.slice Al l.length cl) l :: .loc Q (qqCs k t pu rg ch at') 31 :: polC B (.slice A q.length c) q) := ((S.join S1).front).mono (by omega)
  clear S1 Hr hls3 hB3
  go_wp2_with fail
  ((with_reducible refine (flip_any w.heap.size _ _ _ S.g.s (by omega) (by omega) (by omega)).mono ?_); rintro e w5 ⟨r5, rfl, hk_w5, hs_w5⟩)
  replace S := S.step hk_w5 hs_w5
  clear hk_w5 hs_w5
  obtain ⟨F0, HF0⟩ : ∃ F0, Hid (stmsFault (q.map PQ.purp) l = F0) := ⟨_, Lib.hid rfl⟩
  rw [HF0.out]
  go_upto_if 30 with fail
  have HS0 := Lib.hid S
  clear S
  go_cut [6, 8] (fun s6 s8 wx => s6 = .pointer (some ⟨Q, 0, none⟩) ∧ MrgRel w.heap.size 700 w0 B2 Q B (.slice Al l.length cl) l (qqCs k t pu rg ch at') (.slice A q.length c) q s8 wx)
  case first =>
    have S := HS0.out
    clear HS0
    cases r5
    · go_wp2_with fail
      go_meet
      exact ⟨rfl, B3, l3, by omega, Hls3.out, S.mono (by omega)⟩
    · have hcl : Al = none → cl = 0 := by
        rcases (S.ow 1 rfl).shape2 with ⟨e, _⟩ | ⟨g, cap, e, _⟩
        · simp only [Value.slice.injEq] at e
          exact fun _ => e.2.2
        · simp only [Value.slice.injEq] at e
          exact fun h => by rw [h] at e; cases e.1
      have HSl : Sl rStm (fun _ => False) w5 Al l := by
        obtain ⟨A', c', e', hS⟩ := ((S.ow 1 rfl).flatM flatStm (M' := fun _ => False)).toSlC (fun _ _ h => h)
        simp only [Value.slice.injEq] at e'
        obtain ⟨rfl, _, rfl⟩ := e'
        exact hS.2
      have Hcl := Lib.hid (cloneS_any Al l cl w5 HSl (by omega) hcl)
      clear HSl hcl
      go_wp2_with fail
      ((with_reducible refine (Hcl.out).mono ?_); rintro e w6 ⟨v6, rfl, T⟩)
      obtain ⟨wb, hwb, M, back⟩ := S.viaMem
      replace S := back _ _ (M.join T)
      obtain ⟨B6, hB6⟩ : ∃ B6, w5.heap.size = B6 := ⟨_, rfl⟩
      rw [hB6] at S
      replace S : St w.heap.size 551 w0 w6 (.own rStm B6 38 v6 l :: .own rStm B3 38 v3 l3 :: .own rStm B2 38 (.slice Al l.length cl) l :: .loc Q (qqCs k t pu rg ch at') 31 :: polC B (.slice A q.length c) q) := S.front
      have hs56 := T.b.size
      clear M back T Hcl hwb
      have Hr := Lib.hid (rightStms_any w.heap.size _ 2 A (q.map PQ.purp) c w6 S.g.s (by omega) (by omega) (HP.out.keep S.g.k hPn) hPn (HSp.out ((S.del 0).del 0)) Hnm.out hxl)
      rw [Hlen.out, show ((2 : Nat) : Int) = 2 from rfl] at Hr
      go_wp2_with fail
      ((with_reducible refine (Hr.out).mono ?_); rintro e w7 ⟨v7, l7, rfl, hl7, hls7, S1⟩)
      have Hls7 := Lib.hid hls7
      obtain ⟨A7, c7, e7, hS7⟩ := ((S1.ow 0 rfl).flatM flatStm (M' := fun _ => False)).toSlC (fun _ _ h => h)
      have HS7 := Lib.hid hS7.2
      subst e7
      replace S := (S.step S1.g.k S1.g.s).mono (show _ ≤ 600 by omega)
      have hs67 := S1.g.size
      clear S1 hS7 hls7 Hr
      have hsz : B6 ≤ w7.heap.size := by
        omega
      clear hB6
      have Hzs : Hid (∀ s ∈ l ++ l7, StmSm s) := fun s hs => by
        rcases List.mem_append.1 hs with hs | hs
        · exact Hls.out s hs
        · exact Hls7.out s hs
      have hzl : (l ++ l7).length ≤ 16 := by rw [List.length_append]; omega
      obtain ⟨zs, hzs⟩ : ∃ zs, Hid (l ++ l7 = zs) := ⟨_, Lib.hid rfl⟩
      have HS := Lib.hid S
      clear S
      cases A7 with
      | none =>
        obtain rfl := sl_none HS7.out
        rw [List.append_nil] at hzs hzl Hzs
        rw [hzs.out] at Hzs hzl
        rcases (HS.out.ow 0 rfl).shape2 with ⟨hv, _⟩ | ⟨g, cap, hv, hc⟩
        · subst hv
          simp only [List.length_nil]
          go_upto_region 6 with fail
          have S := HS.out
          obtain ⟨v8, hv8⟩ : ∃ v8, v8 = Value.slice none 0 0 := ⟨_, rfl⟩
          rw [← hv8] at S ⊢
          replace S : St w.heap.size 600 w0 w7 (.own rStm B6 38 v8 zs :: .own rStm B3 38 v3 l3 :: .own rStm B2 38 (.slice Al l.length cl) l :: .loc Q (qqCs k t pu rg ch at') 31 :: polC B (.slice A q.length c) q) := hzs.out ▸ S
          clear hzs HS hv8
          obtain ⟨Az, cz, rfl⟩ := (S.ow 0 rfl).len
          go_wp2_with fail
          go_loopw [39] (fun i wr => ∃ j : Nat, j ≤ zs.length ∧ i = .int .i64 j ∧ St w.heap.size 600 w0 wr (.own rStm B6 38 (.slice Az zs.length cz) (renumS 0 (zs.take j) ++ zs.drop j) :: (.own rStm B3 38 v3 l3 :: .own rStm B2 38 (.slice Al l.length cl) l :: .loc Q (qqCs k t pu rg ch at') 31 :: polC B (.slice A q.length c) q))) (fun i _ => zs.length - (intOf i).toNat)
          case atStart => exact ⟨0, Nat.zero_le _, rfl, by simpa [renumS] using S⟩
          case round =>
            clear S
            obtain ⟨j, hj, rfl, S⟩ := hrel
            have Hyl := Lib.hid (renum_len zs j hj)
            by_cases hlt : j < zs.length
            · obtain ⟨z, hz⟩ : ∃ z, zs[j]? = some z := ⟨_, List.getElem?_eq_getElem hlt⟩
              have Hyz := Lib.hid (renum_at hz)
              have He := Lib.hid (renum_set hz)
              obtain ⟨g, cap, e1, _⟩ := (S.ow 0 rfl).form (by rw [Hyl.out]; omega)
              rw [Hyl.out] at e1
              simp only [Value.slice.injEq] at e1
              obtain ⟨rfl, _, rfl⟩ := e1
              have S2 := S.put flatStm 0 rfl Hyl.out.symm j z { z with no := (j : Int) + 1 } Hyz.out 0 (by decide) (.int .i64 ((j : Int) + 1)) rfl
              have hc := (S.ow 0 rfl).cellP flatStm Hyl.out.symm j z Hyz.out 0 _ rfl
              rw [show rStm.size = 8 from rfl, Nat.add_zero] at S2 hc
              rw [List.set_cons_zero, He.out] at S2
              clear hz
              go_wp2_with fail
              go_roundw
              case rel => exact ⟨j + 1, by omega, by go_num, S2⟩
              case measure => simp [intOf]; omega
            · rw [List.take_of_length_le (by omega), List.drop_eq_nil_of_le (by omega), List.append_nil] at S
              go_wp2_with fail
              go_meet
              exact ⟨rfl, B6, renumS 0 zs, by rw [renumS_len]; omega, renumS_sm Hzs.out, (S.del 1).mono (by omega)⟩
        · subst hv
          simp only [List.length_nil]
          go_upto_region 6 with fail
          have S := HS.out
          obtain ⟨v8, hv8⟩ : ∃ v8, v8 = Value.slice (some ⟨g, 0, none⟩) l.length cap := ⟨_, rfl⟩
          rw [← hv8] at S ⊢
          replace S : St w.heap.size 600 w0 w7 (.own rStm B6 38 v8 zs :: .own rStm B3 38 v3 l3 :: .own rStm B2 38 (.slice Al l.length cl) l :: .loc Q (qqCs k t pu rg ch at') 31 :: polC B (.slice A q.length c) q) := hzs.out ▸ S
          clear hzs HS hv8
          obtain ⟨Az, cz, rfl⟩ := (S.ow 0 rfl).len
          go_wp2_with fail
          go_loopw [39] (fun i wr => ∃ j : Nat, j ≤ zs.length ∧ i = .int .i64 j ∧ St w.heap.size 600 w0 wr (.own rStm B6 38 (.slice Az zs.length cz) (renumS 0 (zs.take j) ++ zs.drop j) :: (.own rStm B3 38 v3 l3 :: .own rStm B2 38 (.slice Al l.length cl) l :: .loc Q (qqCs k t pu rg ch at') 31 :: polC B (.slice A q.length c) q))) (fun i _ => zs.length - (intOf i).toNat)
          case atStart => exact ⟨0, Nat.zero_le _, rfl, by simpa [renumS] using S⟩
          case round =>
            clear S
            obtain ⟨j, hj, rfl, S⟩ := hrel
            have Hyl := Lib.hid (renum_len zs j hj)
            by_cases hlt : j < zs.length
            · obtain ⟨z, hz⟩ : ∃ z, zs[j]? = some z := ⟨_, List.getElem?_eq_getElem hlt⟩
              have Hyz := Lib.hid (renum_at hz)
              have He := Lib.hid (renum_set hz)
              obtain ⟨g, cap, e1, _⟩ := (S.ow 0 rfl).form (by rw [Hyl.out]; omega)
              rw [Hyl.out] at e1
              simp only [Value.slice.injEq] at e1
              obtain ⟨rfl, _, rfl⟩ := e1
              have S2 := S.put flatStm 0 rfl Hyl.out.symm j z { z with no := (j : Int) + 1 } Hyz.out 0 (by decide) (.int .i64 ((j : Int) + 1)) rfl
              have hc := (S.ow 0 rfl).cellP flatStm Hyl.out.symm j z Hyz.out 0 _ rfl
              rw [show rStm.size = 8 from rfl, Nat.add_zero] at S2 hc
              rw [List.set_cons_zero, He.out] at S2
              clear hz
              go_wp2_with fail
              go_roundw
              case rel => exact ⟨j + 1, by omega, by go_num, S2⟩
              case measure => simp [intOf]; omega
            · rw [List.take_of_length_le (by omega), List.drop_eq_nil_of_le (by omega), List.append_nil] at S
              go_wp2_with fail
              go_meet
              exact ⟨rfl, B6, renumS 0 zs, by rw [renumS_len]; omega, renumS_sm Hzs.out, (S.del 1).mono (by omega)⟩
      | some ad =>
        have Hc := Lib.hid (cells_sl HS7.out)
        go_upto_region 6 with (at_builtin; refine HS.out.appN flatStm 0 rfl tyStmS rfl _ _ rfl l7 l7.length c7 rfl rfl ad rfl Hc.out (fun y _ => oneStmS y) (fun _ => rfl) hsz (by omega) (by decide) ?_; intro v8 w8 S)
        rw [hzs.out] at Hzs hzl
        replace S : St w.heap.size 600 w0 w8 (.own rStm B6 38 v8 zs :: .own rStm B3 38 v3 l3 :: .own rStm B2 38 (.slice Al l.length cl) l :: .loc Q (qqCs k t pu rg ch at') 31 :: polC B (.slice A q.length c) q) := hzs.out ▸ S
        clear hzs HS
        obtain ⟨Az, cz, rfl⟩ := (S.ow 0 rfl).len
        go_wp2_with fail
        go_loopw [39] (fun i wr => ∃ j : Nat, j ≤ zs.length ∧ i = .int .i64 j ∧ St w.heap.size 600 w0 wr (.own rStm B6 38 (.slice Az zs.length cz) (renumS 0 (zs.take j) ++ zs.drop j) :: (.own rStm B3 38 v3 l3 :: .own rStm B2 38 (.slice Al l.length cl) l :: .loc Q (qqCs k t pu rg ch at') 31 :: polC B (.slice A q.length c) q))) (fun i _ => zs.length - (intOf i).toNat)
        case atStart => exact ⟨0, Nat.zero_le _, rfl, by simpa [renumS] using S⟩
        case round =>
          clear S
          obtain ⟨j, hj, rfl, S⟩ := hrel
          have Hyl := Lib.hid (renum_len zs j hj)
          by_cases hlt : j < zs.length
          · obtain ⟨z, hz⟩ : ∃ z, zs[j]? = some z := ⟨_, List.getElem?_eq_getElem hlt⟩
            have Hyz := Lib.hid (renum_at hz)
            have He := Lib.hid (renum_set hz)
            obtain ⟨g, cap, e1, _⟩ := (S.ow 0 rfl).form (by rw [Hyl.out]; omega)
            rw [Hyl.out] at e1
            simp only [Value.slice.injEq] at e1
            obtain ⟨rfl, _, rfl⟩ := e1
            have S2 := S.put flatStm 0 rfl Hyl.out.symm j z { z with no := (j : Int) + 1 } Hyz.out 0 (by decide) (.int .i64 ((j : Int) + 1)) rfl
            have hc := (S.ow 0 rfl).cellP flatStm Hyl.out.symm j z Hyz.out 0 _ rfl
            rw [show rStm.size = 8 from rfl, Nat.add_zero] at S2 hc
            rw [List.set_cons_zero, He.out] at S2
            clear hz
            go_wp2_with fail
            go_roundw
            case rel => exact ⟨j + 1, by omega, by go_num, S2⟩
            case measure => simp [intOf]; omega
          · rw [List.take_of_length_le (by omega), List.drop_eq_nil_of_le (by omega), List.append_nil] at S
            go_wp2_with fail
            go_meet
            exact ⟨rfl, B6, renumS 0 zs, by rw [renumS_len]; omega, renumS_sm Hzs.out, (S.del 1).mono (by omega)⟩
  case rest =>
    clear HS0 Hls3
    obtain ⟨rfl, B3, l3, hl3, hls3, S⟩ := hcut
    generalize wc = w6 at *
    obtain ⟨A3, c3, rfl⟩ := (S.ow 0 rfl).len
    have Hb1 : Hid (Below w.heap.size w w6) := by
      have g := g0.step S.g.k S.g.s
      rw [← Hw0.out] at g
      exact Gg.toBelow g
    have HS3 : Hid (Sl rStm (fun _ => False) w6 A3 l3) := by
      obtain ⟨A', c', e', hS⟩ := ((S.ow 0 rfl).flatM flatStm (M' := fun _ => False)).toSlC (fun _ _ h => h)
      simp only [Value.slice.injEq] at e'
      obtain ⟨rfl, _, rfl⟩ := e'
      exact hS.2
    have S' : St w.heap.size 700 w0 w6 (.own rStm B2 38 (.slice Al l.length cl) l :: polC B (.slice A q.length c) q) := (S.del 0).del 1
    obtain ⟨hSp, Al', cl', e', hSl⟩ := DrawsAsked.mem HB.out S'
    simp only [Value.slice.injEq] at e'
    obtain ⟨rfl, _, rfl⟩ := e'
    have HM1 := Lib.hid (HM.out.below Hb1.out)
    have Hok := Lib.hid Hq.out.polOk
    have hql : (q.map PQ.purp).length ≤ 1000000 := by omega
    have Hlo := Lib.hid (StmSm.ok Hls.out (by omega))
    have Hlo3 := Lib.hid (StmSm.ok hls3 (by omega))
    have HSpp := Lib.hid hSp
    have HSl := Lib.hid hSl
    rw [← Hlen.out]
    rw [← HF0.out]
    clear S S' hSp hSl HB Hls Hq HSp HF0 hls3 Hlen Hnm
    generalize q.map PQ.purp = xs at *
    have S := Mem.start w6
    have HPr := Lib.hid (fun w' (h : Below w6.heap.size w6 w') => merge_any A Al A3 xs l l3 c cl c3 w' (HSpp.out.keepB h) Hok.out (HSl.out.keepB h) (HS3.out.keepB h) Hlo.out Hlo3.out (by omega) (by omega) (HM1.out.below h))
    have HQ := Lib.hid (fun w' (h : Below w6.heap.size w6 w') => refStms_any (fun _ => False) A A3 xs l3 c c3 w' (HSpp.out.keepB h) Hok.out (HS3.out.keepB h) Hlo3.out (HM1.out.below h))
    have HAs := Lib.hid (fun (h1 : stmsFault xs l = 0) (h2 : stmsFault xs l3 = 0) w' (h : Below w6.heap.size w6 w') => refMerge_any Al A3 l l3 cl c3 w' (HSl.out.keepB h) (HS3.out.keepB h) (by omega) (by omega) (fun s hs => by
      rcases List.mem_append.1 hs with hs | hs
      · exact stms_B h1 s hs
      · exact stms_B h2 s hs))
    have HLen : Hid ((mrgC (l ++ l3)).length ≤ 1000) := by
      have h := mrgC_len (l ++ l3)
      rw [List.length_append] at h
      show _ ≤ _
      omega
    rw [mrgR_is] at HPr
    have HC := Lib.hid (fun w' (h : Below w6.heap.size w6 w') => consents_any w' (HM1.out.below h))
    generalize stmsFault xs l = F0 at *
    generalize stmsFault xs l3 = F1 at *
    generalize mrgC (l ++ l3) = R at *
    clear HSpp HSl Hok Hlo Hlo3 HS3
    obtain ⟨E, HE⟩ : ∃ E, Hid (firstErr [F0, F1] = E) := ⟨_, Lib.hid rfl⟩
    rw [HE.out] at HPr
    go_wp2_with fail
    ((with_reducible refine (HPr.out w6 S.b).mono ?_); rintro e w7 ⟨Ac, cc, rfl, hSc, hl7⟩)
    obtain ⟨Rs, HRs⟩ : ∃ Rs, Hid ((if E = 0 then (R, 0) else ([], E)) = Rs) := ⟨_, Lib.hid rfl⟩
    rw [HRs.out] at hSc ⊢
    replace S := S.call hl7 (.sl rStm Ac Rs.1) hSc (fun k e => by cases e)
    clear hl7 HPr hSc
    go_wp2_with fail
    ((with_reducible refine (HQ.out w7 S.b).mono ?_); rintro e w8 ⟨rfl, hl8⟩)
    replace S := S.below hl8
    clear hl8 HQ
    have S2 := S.newAt #[.int .i64 F0, .int .i64 F1] 32 w8.heap.size rfl
    have Hwr := Lib.hid (wrongOr_any w8.heap.size [F0, F1] (w8.alloc (.cells #[.int .i64 F0, .int .i64 F1] 32)) (S2.lv 1 rfl) (by simp))
    rw [HE.out, show ([F0, F1] : List Int).length = 2 from rfl] at Hwr
    go_wp2_with fail
    ((with_reducible refine (Hwr.out).mono ?_); rintro e _ ⟨rfl, rfl⟩)
    generalize w8.alloc (.cells #[.int .i64 F0, .int .i64 F1] 32) = w9 at *
    clear Hwr S
    by_cases hE : E = 0
    · have e1 : Rs = (R, 0) := by rw [← HRs.out, if_pos hE]
      obtain ⟨z1, z2⟩ := firstErr_zero (HE.out.trans hE)
      have HAs1 := Lib.hid (HAs.out z1 z2)
      subst e1
      subst hE
      clear HAs HRs z1 z2 HE
      go_wp2_with fail
      ((with_reducible refine (HAs1.out w9 S2.b).mono ?_); rintro e w10 ⟨A2, c2, rfl, hS2, hl10⟩)
      replace S2 := S2.below hl10
      have HEq := Lib.hid (eqStm_any (fun _ => False) Ac A2 R cc c2 w10 ((S2.slc 0 rfl).mono (fun _ _ h => h.elim)) (hS2.mono (fun _ _ h => h.elim)) (Nat.le_trans HLen.out (by decide)))
      clear hl10 HAs1 hS2
      go_wp2_with fail
      ((with_reducible refine (HEq.out).mono ?_); rintro e w11 ⟨rfl, hl11⟩)
      replace S2 := S2.below hl11
      clear hl11 HEq
      go_wp2_with fail
      ((with_reducible refine (HC.out w11 S2.b).mono ?_); rintro e w12 ⟨rfl, hl12⟩)
      replace S2 := S2.below hl12
      go_wp2_with fail
      go_ret
      exact ⟨rfl, Hb1.out.trans (S2.b.mono Hb1.out.size)⟩
    · have hE' : (E != 0) = true := by simpa using hE
      obtain rfl : ([], E) = Rs := by rw [← HRs.out, if_neg hE]
      clear HAs HRs hE HE
      simp only [List.length_nil]
      go_wp2_with fail
      ((with_reducible refine (HC.out w9 S2.b).mono ?_); rintro e w10 ⟨rfl, hl10⟩)
      replace S2 := S2.below hl10
      go_wp2_with fail
      go_ret
      exact ⟨rfl, Hb1.out.trans (S2.b.mono Hb1.out.size)⟩
end Go.Proofs.YthmkphmciiiagaaGreatDoor
