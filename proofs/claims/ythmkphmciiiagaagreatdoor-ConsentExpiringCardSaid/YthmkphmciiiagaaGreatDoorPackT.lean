/- Several texts in one: CmpLaw, Grew, StmOrd, StmOrdR, DelS, CmpctS, MrgLaw, SortFn, IdxS, SortS, StmB, ExpOrd, PerLaw2, ExpLaw, MapX, IdxX. -/
import Derived.Test.YthmkphmciiiagaaGreatDoorIdOrder
import Derived.Shelf.SlSortCmp.InsertionK
import Derived.Test.YthmkphmciiiagaaGreatDoorPackA
import Derived.WalkLawsBesides
import Derived.Sort.Walk0
import Derived.Test.YthmkphmciiiagaaGreatDoorPackE
import Derived.Test.YthmkphmciiiagaaGreatDoorPackM
import Derived.Test.YthmkphmciiiagaaGreatDoorPackB
import Derived.Test.YthmkphmciiiagaaGreatDoorShelf
import Derived.Test.YthmkphmciiiagaaGreatDoorPackH
import Derived.Test.YthmkphmciiiagaaGreatDoorPackD
import Derived.Shelf.SlSortCmp.NoneTotal
import Derived.Test.YthmkphmciiiagaaGreatDoorSf
import Derived.Test.YthmkphmciiiagaaGreatDoorAnswer
import Derived.Test.YthmkphmciiiagaaGreatDoorMoms
import Derived.Test.YthmkphmciiiagaaGreatDoorPrfLaw
import Derived.Test.YthmkphmciiiagaaGreatDoorMap
import Derived.WideKeyRuns
/- Orders by comparing: laws of a comparison, one behind another, and what they say of sorted lists. -/
namespace Go.Proofs.YthmkphmciiiagaaGreatDoor
open Go Go.RowKit Go.Sort Go.Shelf
/-- a comparison: a total order of classes of equals -/
structure CmpOk {α : Type} (c : α → α → Int) : Prop where
  anti : ∀ a b, c a b < 0 ↔ 0 < c b a
  trans : ∀ a b d, c a b ≤ 0 → c b d ≤ 0 → c a d ≤ 0
theorem CmpOk.refl {α : Type} {c : α → α → Int} (h : CmpOk c) (a : α) : c a a = 0 := by
  have := h.anti a a
  omega
theorem CmpOk.zero {α : Type} {c : α → α → Int} (h : CmpOk c) {a b : α} (e : c a b = 0) : c b a = 0 := by
  have h1 := h.anti a b
  have h2 := h.anti b a
  omega
theorem CmpOk.lt {α : Type} {c : α → α → Int} (h : CmpOk c) {a b d : α} (h1 : c a b < 0) (h2 : c b d ≤ 0) : c a d < 0 := by
  have h3 := h.trans a b d (by omega) h2
  have h4 := h.anti a b
  have h5 := h.anti a d
  have h6 := h.anti d a
  have h7 := h.trans b d a h2
  omega
theorem CmpOk.lt' {α : Type} {c : α → α → Int} (h : CmpOk c) {a b d : α} (h1 : c a b ≤ 0) (h2 : c b d < 0) : c a d < 0 := by
  have h3 := h.trans a b d h1 (by omega)
  have h4 := h.anti b d
  have h5 := h.anti a d
  have h6 := h.anti d a
  have h7 := h.trans d a b
  omega
/-- one comparison, and where it is level another one -/
def lexC {α : Type} (c d : α → α → Int) (a b : α) : Int := if c a b ≠ 0 then c a b else d a b
theorem CmpOk.lex {α : Type} {c d : α → α → Int} (hc : CmpOk c) (hd : CmpOk d) : CmpOk (lexC c d) where
  anti a b := by
    have h1 := hc.anti a b
    have h2 := hc.anti b a
    have h3 := hd.anti a b
    unfold lexC
    split <;> split <;> omega
  trans a b e h1 h2 := by
    unfold lexC at h1 h2 ⊢
    by_cases e1 : c a b = 0
    · rw [if_neg (by omega)] at h1
      by_cases e2 : c b e = 0
      · rw [if_neg (by omega)] at h2
        have h3 := hc.trans a b e (by omega) (by omega)
        have h4 := hc.trans e b a (by have := hc.zero e2; omega) (by have := hc.zero e1; omega)
        have h5 := hc.anti e a
        have h6 := hc.anti a e
        rw [if_neg (by omega)]
        exact hd.trans a b e h1 h2
      · rw [if_pos e2] at h2
        have := hc.lt' (a := a) (b := b) (d := e) (by omega) (by omega)
        rw [if_pos (by omega)]; omega
    · rw [if_pos e1] at h1
      by_cases e2 : c b e = 0
      · have := hc.lt (a := a) (b := b) (d := e) (by omega) (by omega)
        rw [if_pos (by omega)]; omega
      · rw [if_pos e2] at h2
        have := hc.lt (a := a) (b := b) (d := e) (by omega) (by omega)
        rw [if_pos (by omega)]; omega
theorem CmpOk.of {α β : Type} {c : β → β → Int} (h : CmpOk c) (f : α → β) : CmpOk (fun a b => c (f a) (f b)) := ⟨fun _ _ => h.anti _ _, fun _ _ _ => h.trans _ _ _⟩
theorem cmpOkI : CmpOk Lib.compareInt where
  anti a b := by unfold Lib.compareInt; split <;> split <;> (try split) <;> (try split) <;> omega
  trans a b d h1 h2 := by unfold Lib.compareInt at *; split at h1 <;> split at h2 <;> (try split at h1) <;> (try split at h2) <;> split <;> (try split) <;> omega
theorem compareInt_zero {a b : Int} (h : Lib.compareInt a b = 0) : a = b := by unfold Lib.compareInt at h; split at h <;> (try split at h) <;> omega
theorem CmpOk.swo {α : Type} {c : α → α → Int} (h : CmpOk c) : Go.Sort.SWO (ltOf c) where
  irrefl a := by unfold ltOf; simp [h.refl a]
  trans a b d h1 h2 := by
    unfold ltOf at *
    simp only [decide_eq_true_eq] at *
    exact h.lt h1 (by omega)
  ntrans a b d h1 h2 := by
    unfold ltOf at *
    simp only [decide_eq_false_iff_not] at *
    intro h3
    have h4 := h.anti a b
    have h5 := h.anti b a
    have h6 := h.anti b d
    have h7 := h.anti d b
    have h8 := h.lt' (a := b) (b := a) (d := d) (by omega) h3
    omega
theorem strict_eq {α : Type} (lt : α → α → Prop) (irr : ∀ x, ¬ lt x x) (tr : ∀ x y z, lt x y → lt y z → lt x z) : ∀ (l m : List α), l.Pairwise lt → m.Pairwise lt → (∀ x, x ∈ l ↔ x ∈ m) → l = m
  | [], [], _, _, _ => rfl
  | [], y :: s, _, _, h => absurd ((h y).2 (by simp)) (by simp)
  | x :: r, [], _, _, h => absurd ((h x).1 (by simp)) (by simp)
  | x :: r, y :: s, hl, hm, h => by
    obtain ⟨h1, h2⟩ := List.pairwise_cons.1 hl
    obtain ⟨h3, h4⟩ := List.pairwise_cons.1 hm
    have hxy : x = y := by
      rcases List.mem_cons.1 ((h x).1 (by simp)) with e | hx
      · exact e
      · rcases List.mem_cons.1 ((h y).2 (by simp)) with e | hy
        · exact e.symm
        · exact absurd (tr x y x (h1 y hy) (h3 x hx)) (irr x)
    subst hxy
    congr 1
    refine strict_eq lt irr tr r s h2 h4 fun z => ?_
    constructor
    · intro hz
      rcases List.mem_cons.1 ((h z).1 (by simp [hz])) with rfl | e
      · exact absurd (h1 z hz) (irr z)
      · exact e
    · intro hz
      rcases List.mem_cons.1 ((h z).2 (by simp [hz])) with rfl | e
      · exact absurd (h3 z hz) (irr z)
      · exact e
end Go.Proofs.YthmkphmciiiagaaGreatDoor

/- Calls that only draw and make blocks; CompareIds and handref2.Order so told. -/
namespace Go.Proofs.YthmkphmciiiagaaGreatDoor
open Go Go.RowKit Go.Sort Go.Shelf
/-- draws and new blocks, and nothing else -/
def Grew (w w' : World) : Prop := ∃ (q : Nat) (os : Array Obj), w' = grow (w.drewN q) os
theorem Grew.refl (w : World) : Grew w w := ⟨0, #[], by rw [grow_empty]; rfl⟩
theorem Grew.alloc {w w' : World} (h : Grew w w') (o : Obj) : Grew w (w'.alloc o) := by
  obtain ⟨q, os, rfl⟩ := h
  refine ⟨q, os.push o, ?_⟩
  unfold grow World.alloc
  simp only [Array.append_push]
theorem Grew.drew {w w' : World} (h : Grew w w') : Grew w w'.drew := by
  obtain ⟨q, os, rfl⟩ := h
  exact ⟨q + 1, os, rfl⟩
theorem Grew.trans {u v w : World} (h : Grew u v) (k : Grew v w) : Grew u w := by
  obtain ⟨q, os, rfl⟩ := h
  obtain ⟨p, os', rfl⟩ := k
  refine ⟨q + p, os ++ os', ?_⟩
  unfold grow World.drewN
  simp only [Array.append_assoc, Nat.add_assoc]
theorem Grew.below {w w' : World} (h : Grew w w') : Below w.heap.size w w' := by
  obtain ⟨q, os, rfl⟩ := h
  refine ⟨rfl, rfl, rfl, ?_, fun k hk => ?_⟩
  · show w.heap.size ≤ (w.heap ++ os).size
    simp
  · show (w.heap ++ os)[k]? = w.heap[k]?
    exact Array.getElem?_append_left hk
theorem Grew.ofDrewn {u w w' : World} (h : Grew u w) (hd : Drewn w w') : Grew u w' := by
  rw [show w' = w.drew from hd]; exact h.drew
set_option maxHeartbeats 1000000 in
theorem orN_any (blk : Nat) (es : List Int) (w : World) (h : LV w blk (es.map (Value.int .i64)).toArray 3) (hn : es.length ≤ 1000) :
    Calls Tryz.prog 178 #[.slice (some ⟨blk, 0, none⟩) es.length es.length] w fun e w' => e = .returned (.int .i64 (firstErr es)) ∧ w = w' := by
  obtain ⟨R, HR⟩ : ∃ R, Hid (firstErr es = R) := ⟨_, Lib.hid rfl⟩
  rw [HR.out]
  go_enter Tryz.func178, Tryz.ntmps178
  go_wp2_with fail
  go_loopw [8] (fun i wr => ∃ k : Nat, k ≤ es.length ∧ i = .int .i64 k ∧ firstErr (es.drop k) = R ∧ w = wr) (fun i _ => es.length - (intOf i).toNat)
  case atStart => exact ⟨0, Nat.zero_le _, rfl, HR.out, rfl⟩
  case round =>
    clear HR
    obtain ⟨k, hk, rfl, hr, rfl⟩ := hrel
    have Hr := Lib.hid hr
    clear hr
    by_cases hlt : k < es.length
    · have c0 : w.cell? ⟨blk, k, none⟩ = some (.int .i64 es[k]) := h.cell k _ (by simp [hlt])
      have Hs : Hid (firstErr (es[k] :: es.drop (k + 1)) = R) := by show _ = _; rw [← Hr.out, List.drop_eq_getElem_cons hlt]
      clear Hr
      generalize es[k] = x at *
      by_cases hx : x = 0
      · subst hx
        go_wp2_with fail
        go_roundw
        case rel => exact ⟨k + 1, by omega, by go_num, by rw [← Hs.out, firstErr, if_neg (by simp)], by first | rfl | trivial⟩
        case measure => simp [intOf]; omega
      · have hx' : (x != 0) = true := by simpa using hx
        have Hn : Hid (x = R) := by show _ = _; rw [← Hs.out, firstErr, if_pos hx]
        clear Hs hx
        go_wp2_with fail
        go_ret
        exact ⟨ret_i Hn.out, rfl⟩
    · have Hn : Hid (0 = R) := by show _ = _; rw [← Hr.out, List.drop_eq_nil_of_le (by omega)]; rfl
      clear Hr
      go_wp2_with fail
      go_ret
      exact ⟨ret_i Hn.out, rfl⟩
set_option maxHeartbeats 2000000 in
set_option maxRecDepth 100000 in
theorem compareIdsG_any (k1 k2 : Int) (t1 t2 : ByteArray) (w : World) :
    Calls Tryz.prog 180 #[.agg #[.int .i64 k1, .string t1], .agg #[.int .i64 k2, .string t2]] w fun e w' => e = .returned (.int .i64 (idCmp k1 t1 k2 t2)) ∧ Grew w w' := by
  obtain ⟨R, HR⟩ : ∃ R, Hid (idCmp k1 t1 k2 t2 = R) := ⟨_, Lib.hid rfl⟩
  rw [HR.out]
  have lv1 := (LV.new w w.heap.size #[.int .i64 k1, .string t1] 29 rfl).alloc (.cells #[.int .i64 k2, .string t2] 29)
  have lv2 := LV.new (w.alloc (.cells #[.int .i64 k1, .string t1] 29)) (w.heap.size + 1) #[.int .i64 k2, .string t2] 29 (by simp)
  have Hb : Hid (Grew w ((w.alloc (.cells #[.int .i64 k1, .string t1] 29)).alloc (.cells #[.int .i64 k2, .string t2] 29))) := ((Grew.refl _).alloc _).alloc _
  go_enter Tryz.func180, Tryz.ntmps180
  go_wp2_with fail
  refine wp_region_mix (TwoIds w.heap.size (w.heap.size + 1) k1 t1 k2 t2) [(true, 0), (true, 1), (true, 2), (true, 3), (true, 5), (true, 6), (true, 7), (true, 8), (false, 4), (false, 9), (false, 10), (false, 11), (true, 12)] (by kernel_rfl) (by kernel_rfl) (fun w' hd => ⟨lv1.keep (SK.ofBelow (b := w.heap.size + 2) (hd.below _)) (by omega), lv2.keep (SK.ofBelow (b := w.heap.size + 2) (hd.below _)) (by omega)⟩) (fun KK hKK wd hd_wd => ?_)
  have hC : TwoIds w.heap.size (w.heap.size + 1) k1 t1 k2 t2 wd := ⟨lv1.keep (SK.ofBelow (b := w.heap.size + 2) (hd_wd.below _)) (by omega), lv2.keep (SK.ofBelow (b := w.heap.size + 2) (hd_wd.below _)) (by omega)⟩
  have Hbd : Hid (Grew w wd) := Hb.out.ofDrewn hd_wd
  clear lv1 lv2 Hb hd_wd
  repeat (refine mix_p rfl (fun K hK => ?_); go_simp; (try go_bits); (try simp (disch := omega) only [if_pos]); (try simp (disch := omega) only [if_neg]); (try simp (disch := omega) only [dif_pos]); (try simp (disch := omega) only [dif_neg]); (try go_simp); (refine hK _ ?_; clear hK K))
  refine mix_load (.int .i64 k1) rfl rfl rfl rfl (fun _ => rfl) (fun w' h => h.1.cell 0 _ rfl) ?_
  repeat (refine mix_p rfl (fun K hK => ?_); go_simp; (try go_bits); (try simp (disch := omega) only [if_pos]); (try simp (disch := omega) only [if_neg]); (try simp (disch := omega) only [dif_pos]); (try simp (disch := omega) only [dif_neg]); (try go_simp); (refine hK _ ?_; clear hK K))
  refine mix_load (.int .i64 k2) rfl rfl rfl rfl (fun _ => rfl) (fun w' h => h.2.cell 0 _ rfl) ?_
  repeat (refine mix_p rfl (fun K hK => ?_); go_simp; (try go_bits); (try simp (disch := omega) only [if_pos]); (try simp (disch := omega) only [if_neg]); (try simp (disch := omega) only [dif_pos]); (try simp (disch := omega) only [dif_neg]); (try go_simp); (refine hK _ ?_; clear hK K))
  refine mix_load (.string t1) rfl rfl rfl rfl (fun _ => rfl) (fun w' h => h.1.cell 1 _ rfl) ?_
  repeat (refine mix_p rfl (fun K hK => ?_); go_simp; (try go_bits); (try simp (disch := omega) only [if_pos]); (try simp (disch := omega) only [if_neg]); (try simp (disch := omega) only [dif_pos]); (try simp (disch := omega) only [dif_neg]); (try go_simp); (refine hK _ ?_; clear hK K))
  refine mix_load (.string t2) rfl rfl rfl rfl (fun _ => rfl) (fun w' h => h.2.cell 1 _ rfl) ?_
  refine mix_l rfl (fun K hK => ?_) hC
  go_wp2_with fail
  ((with_reducible refine (cmpInt_any k1 k2 _).mono ?_); rintro e _ ⟨rfl, rfl⟩)
  go_wp2_with fail
  refine ⟨hC, ?_⟩
  refine mix_l rfl (fun K hK => ?_) hC
  go_wp2_with fail
  ((with_reducible refine (compareS_any t1 t2 _).mono ?_); rintro e _ ⟨rfl, rfl⟩)
  go_wp2_with fail
  refine ⟨hC, ?_⟩
  refine mix_l rfl (fun K hK => ?_) hC
  go_wp2_with fail
  have hC2 : TwoIds w.heap.size (w.heap.size + 1) k1 t1 k2 t2 (wd.alloc (.cells #[.int .i64 (Lib.compareInt k1 k2), .int .i64 (cmpS t1 t2)] 3)) := ⟨hC.1.alloc _, hC.2.alloc _⟩
  refine ⟨hC2, ?_⟩
  refine mix_l rfl (fun K hK => ?_) hC2
  have c0 : (wd.alloc (.cells #[.int .i64 (Lib.compareInt k1 k2), .int .i64 (cmpS t1 t2)] 3)).cell? ⟨wd.heap.size, 0, none⟩ = some (.int .i64 (Lib.compareInt k1 k2)) := by rw [World.cell?_alloc_at _ _ _ _ rfl]; rfl
  have c1 : (wd.alloc (.cells #[.int .i64 (Lib.compareInt k1 k2), .int .i64 (cmpS t1 t2)] 3)).cell? ⟨wd.heap.size, 1, none⟩ = some (.int .i64 (cmpS t1 t2)) := by rw [World.cell?_alloc_at _ _ _ _ rfl]; rfl
  have Hor := Lib.hid (or_any wd.heap.size _ _ _ c0 c1)
  clear c0 c1
  have HR2 : Hid ((if Lib.compareInt k1 k2 ≠ 0 then Lib.compareInt k1 k2 else cmpS t1 t2) = R) := by
    show _ = _
    rw [← HR.out, idCmp, Lib.compareInt]
    by_cases h1 : k1 < k2
    · simp [h1]
    · by_cases h2 : k1 = k2
      · simp [h2]
      · have h3 : k2 < k1 := by omega
        simp [h1, h2, h3]
  rw [HR2.out] at Hor
  clear HR HR2
  go_wp2_with fail
  ((with_reducible refine (Hor.out).mono ?_); rintro e _ ⟨rfl, rfl⟩)
  go_wp2_with fail
  refine ⟨hC2, ?_⟩
  repeat (refine mix_p rfl (fun K hK => ?_); go_simp; (try go_bits); (try simp (disch := omega) only [if_pos]); (try simp (disch := omega) only [if_neg]); (try simp (disch := omega) only [dif_pos]); (try simp (disch := omega) only [dif_neg]); (try go_simp); (refine hK _ ?_; clear hK K))
  refine mix_nil ?_
  simp only [Exit.then]
  refine hKK _ _ ?_
  go_wp2_with fail
  go_ret
  exact ⟨rfl, Hbd.out.alloc _⟩
set_option maxHeartbeats 2000000 in
set_option maxRecDepth 100000 in
theorem orderG_any (k1 k2 : Int) (t1 t2 : ByteArray) (w : World) :
    Calls Tryz.prog 122 #[.agg #[.int .i64 k1, .string t1], .agg #[.int .i64 k2, .string t2]] w fun e w' => e = .returned (.int .i64 (idCmp k1 t1 k2 t2)) ∧ Grew w w' := by
  by_cases hk : k1 = k2
  · subst hk
    obtain ⟨R, HR⟩ : ∃ R, Hid (idCmp k1 t1 k1 t2 = R) := ⟨_, Lib.hid rfl⟩
    rw [HR.out]
    have Hb : Hid (Grew w ((w.alloc (.cells #[.int .i64 k1, .string t1] 29)).alloc (.cells #[.int .i64 k1, .string t2] 29))) := ((Grew.refl _).alloc _).alloc _
    go_enter Tryz.func122, Tryz.ntmps122
    go_wp2_with fail
    all_goals (go_ret; refine ⟨ret_i ?_, Hb.out⟩; rw [← HR.out]; unfold idCmp cmpS; clear HR Hb; simp_all)
  · have hk' : (k1 == k2) = false := by simpa using hk
    obtain ⟨R, HR⟩ : ∃ R, Hid (idCmp k1 t1 k2 t2 = R) := ⟨_, Lib.hid rfl⟩
    rw [HR.out]
    have Hb : Hid (Grew w ((w.alloc (.cells #[.int .i64 k1, .string t1] 29)).alloc (.cells #[.int .i64 k2, .string t2] 29))) := ((Grew.refl _).alloc _).alloc _
    go_enter Tryz.func122, Tryz.ntmps122
    go_wp2_with fail
    all_goals
      go_ret
      refine ⟨ret_i ?_, Hb.out⟩
      rw [← HR.out]
      unfold idCmp
      first
        | (rw [if_pos (by assumption)]; done)
        | (rw [if_neg (by omega), if_neg hk]; done)
end Go.Proofs.YthmkphmciiiagaaGreatDoor

/- How consent.order and handref2.StatementOrder order statements. -/
namespace Go.Proofs.YthmkphmciiiagaaGreatDoor
open Go Go.RowKit Go.Sort Go.Shelf
theorem cmpOkS : CmpOk cmpS where
  anti a b := by rw [cmpS_neg, cmpS_pos]
  trans a b d h1 h2 := by
    have e1 := cmpS_neg a b
    have e2 := cmpS_neg b d
    have e3 := cmpS_neg a d
    have z1 := cmpS_zero a b
    have z2 := cmpS_zero b d
    by_cases h3 : cmpS a b = 0
    · rw [z1.1 h3]; exact h2
    · by_cases h4 : cmpS b d = 0
      · rw [← z2.1 h4]; exact h1
      · have := e3.2 (ltS_trans (e1.1 (by omega)) (e2.1 (by omega)))
        omega
theorem idCmp_lex (k1 : Int) (t1 : ByteArray) (k2 : Int) (t2 : ByteArray) : idCmp k1 t1 k2 t2 = if Lib.compareInt k1 k2 ≠ 0 then Lib.compareInt k1 k2 else cmpS t1 t2 := by
  unfold idCmp Lib.compareInt
  by_cases h1 : k1 < k2
  · simp [h1]
  · by_cases h2 : k1 = k2
    · simp [h2]
    · have h3 : k2 < k1 := by omega
      simp [h1, h2, h3]
def ordP (a b : Stm) : Int := firstErr [Lib.compareInt a.at' b.at', idCmp a.kind a.text b.kind b.text, cmpS a.purpose b.purpose, Lib.compareInt a.channel b.channel, Lib.compareInt a.what b.what, cmpS a.region b.region]
theorem firstErr1 (a : Int) : firstErr [a] = a := by
  unfold firstErr
  split
  · rfl
  · rename_i h; exact (Decidable.not_not.1 h).symm
theorem ordP_lex : ordP = lexC (fun a b => Lib.compareInt a.at' b.at') (lexC (lexC (fun a b => Lib.compareInt a.kind b.kind) (fun a b => cmpS a.text b.text)) (lexC (fun a b => cmpS a.purpose b.purpose) (lexC (fun a b => Lib.compareInt a.channel b.channel) (lexC (fun a b => Lib.compareInt a.what b.what) (fun a b => cmpS a.region b.region))))) := by
  funext a b
  unfold ordP
  rw [firstErr, firstErr, firstErr, firstErr, firstErr, firstErr1, idCmp_lex]
  rfl
theorem ordP_ok : CmpOk ordP := by
  rw [ordP_lex]
  exact (cmpOkI.of Stm.at').lex (((cmpOkI.of Stm.kind).lex (cmpOkS.of Stm.text)).lex ((cmpOkS.of Stm.purpose).lex ((cmpOkI.of Stm.channel).lex ((cmpOkI.of Stm.what).lex (cmpOkS.of Stm.region)))))
theorem lexC_zero {α : Type} {c d : α → α → Int} {a b : α} (h : lexC c d a b = 0) : c a b = 0 ∧ d a b = 0 := by
  unfold lexC at h
  split at h
  · rename_i h1; exact absurd h h1
  · rename_i h1; exact ⟨Decidable.not_not.1 h1, h⟩
/-- a statement without its number -/
def keyS (s : Stm) : Stm := { s with no := 0 }
theorem ordP_key {a b : Stm} (h : ordP a b = 0) : keyS a = keyS b := by
  rw [ordP_lex] at h
  obtain ⟨h1, h⟩ := lexC_zero h
  obtain ⟨h2, h⟩ := lexC_zero h
  obtain ⟨h2, h3⟩ := lexC_zero h2
  obtain ⟨h4, h⟩ := lexC_zero h
  obtain ⟨h5, h⟩ := lexC_zero h
  obtain ⟨h6, h7⟩ := lexC_zero h
  obtain ⟨n1, a1, k1, t1, p1, r1, c1, w1⟩ := a
  obtain ⟨n2, a2, k2, t2, p2, r2, c2, w2⟩ := b
  obtain rfl : a1 = a2 := compareInt_zero h1
  obtain rfl : k1 = k2 := compareInt_zero h2
  obtain rfl : t1 = t2 := (cmpS_zero _ _).1 h3
  obtain rfl : p1 = p2 := (cmpS_zero _ _).1 h4
  obtain rfl : c1 = c2 := compareInt_zero h5
  obtain rfl : w1 = w2 := compareInt_zero h6
  obtain rfl : r1 = r2 := (cmpS_zero _ _).1 h7
  rfl
theorem ordP_keys (a b : Stm) : ordP (keyS a) (keyS b) = ordP a b := rfl
theorem loadIdS {w : World} {X : Nat} {s : Stm} (h : LV w X (stmCs s) 38) : (Instr.loadAt 29 (.pointer (some ⟨X, 2, none⟩))).run Tryz.prog w = .ok (.agg #[.int .i64 s.kind, .string s.text]) w := by
  have c := h.all
  go_simp
theorem TwoStms.grew {X Y : Nat} {a b : Stm} {w w' : World} (h : TwoStms X Y a b w) (k : Grew w w') : TwoStms X Y a b w' := ⟨LV.kb3 h.1 k.below h.1.lt, LV.kb3 h.2 k.below h.2.lt⟩
set_option maxHeartbeats 4000000 in
set_option maxRecDepth 100000 in
theorem ordP_any (a b : Stm) (w : World) :
    Calls Tryz.prog 91 #[.agg (stmCs a), .agg (stmCs b)] w fun e w' => e = .returned (.int .i64 (ordP a b)) ∧ Grew w w' := by
  obtain ⟨R, HR⟩ : ∃ R, Hid (ordP a b = R) := ⟨_, Lib.hid rfl⟩
  rw [HR.out]
  have hC0 : TwoStms w.heap.size (w.heap.size + 1) a b ((w.alloc (.cells (stmCs a) 38)).alloc (.cells (stmCs b) 38)) :=
    ⟨(LV.new w w.heap.size (stmCs a) 38 rfl).alloc _, LV.new (w.alloc (.cells (stmCs a) 38)) (w.heap.size + 1) (stmCs b) 38 (by simp)⟩
  have Hb0 : Hid (Grew w ((w.alloc (.cells (stmCs a) 38)).alloc (.cells (stmCs b) 38))) := ((Grew.refl _).alloc _).alloc _
  go_enter Tryz.func91, Tryz.ntmps91
  go_wp2_with fail
  generalize (w.alloc (.cells (stmCs a) 38)).alloc (.cells (stmCs b) 38) = w1 at *
  refine wp_region_mixG 33 (TwoStms w.heap.size (w.heap.size + 1) a b) [.q 0, .q 1, .q 2, .q 3, .q 5, .q 6, .q 7, .q 8, .q 10, .q 11, .q 12, .q 13, .q 15, .q 16, .q 17, .q 18, .q 20, .q 21, .q 22, .q 23, .q 25, .q 26, .q 27, .q 28, .e 4, .e 9, .e 14, .e 19, .e 24, .e 29, .e 30, .e 31, .q 32] (by kernel_rfl) (by kernel_rfl) (fun w' hd => hC0.grew ((Grew.refl _).ofDrewn hd)) (fun KK hKK wd hd => ?_)
  have hC : TwoStms w.heap.size (w.heap.size + 1) a b wd := hC0.grew ((Grew.refl _).ofDrewn hd)
  have Hbd : Hid (Grew w wd) := Hb0.out.ofDrewn hd
  clear hd hC0 Hb0
  repeat (refine mixG_p rfl (fun K hK => ?_); go_simp; (try go_bits); (try simp (disch := omega) only [if_pos]); (try simp (disch := omega) only [if_neg]); (try simp (disch := omega) only [dif_pos]); (try simp (disch := omega) only [dif_neg]); (try go_simp); (refine hK _ ?_; clear hK K))
  refine mixG_load (.int .i64 a.at') rfl rfl rfl rfl (fun _ => rfl) (fun w' h => h.1.cell 1 _ rfl) ?_
  repeat (refine mixG_p rfl (fun K hK => ?_); go_simp; (try go_bits); (try simp (disch := omega) only [if_pos]); (try simp (disch := omega) only [if_neg]); (try simp (disch := omega) only [dif_pos]); (try simp (disch := omega) only [dif_neg]); (try go_simp); (refine hK _ ?_; clear hK K))
  refine mixG_load (.int .i64 b.at') rfl rfl rfl rfl (fun _ => rfl) (fun w' h => h.2.cell 1 _ rfl) ?_
  repeat (refine mixG_p rfl (fun K hK => ?_); go_simp; (try go_bits); (try simp (disch := omega) only [if_pos]); (try simp (disch := omega) only [if_neg]); (try simp (disch := omega) only [dif_pos]); (try simp (disch := omega) only [dif_neg]); (try go_simp); (refine hK _ ?_; clear hK K))
  refine mixG_loadR (.agg #[.int .i64 a.kind, .string a.text]) rfl rfl rfl rfl (fun w' h => loadIdS h.1) ?_
  repeat (refine mixG_p rfl (fun K hK => ?_); go_simp; (try go_bits); (try simp (disch := omega) only [if_pos]); (try simp (disch := omega) only [if_neg]); (try simp (disch := omega) only [dif_pos]); (try simp (disch := omega) only [dif_neg]); (try go_simp); (refine hK _ ?_; clear hK K))
  refine mixG_loadR (.agg #[.int .i64 b.kind, .string b.text]) rfl rfl rfl rfl (fun w' h => loadIdS h.2) ?_
  repeat (refine mixG_p rfl (fun K hK => ?_); go_simp; (try go_bits); (try simp (disch := omega) only [if_pos]); (try simp (disch := omega) only [if_neg]); (try simp (disch := omega) only [dif_pos]); (try simp (disch := omega) only [dif_neg]); (try go_simp); (refine hK _ ?_; clear hK K))
  refine mixG_load (.string a.purpose) rfl rfl rfl rfl (fun _ => rfl) (fun w' h => h.1.cell 4 _ rfl) ?_
  repeat (refine mixG_p rfl (fun K hK => ?_); go_simp; (try go_bits); (try simp (disch := omega) only [if_pos]); (try simp (disch := omega) only [if_neg]); (try simp (disch := omega) only [dif_pos]); (try simp (disch := omega) only [dif_neg]); (try go_simp); (refine hK _ ?_; clear hK K))
  refine mixG_load (.string b.purpose) rfl rfl rfl rfl (fun _ => rfl) (fun w' h => h.2.cell 4 _ rfl) ?_
  repeat (refine mixG_p rfl (fun K hK => ?_); go_simp; (try go_bits); (try simp (disch := omega) only [if_pos]); (try simp (disch := omega) only [if_neg]); (try simp (disch := omega) only [dif_pos]); (try simp (disch := omega) only [dif_neg]); (try go_simp); (refine hK _ ?_; clear hK K))
  refine mixG_load (.int .i64 a.channel) rfl rfl rfl rfl (fun _ => rfl) (fun w' h => h.1.cell 6 _ rfl) ?_
  repeat (refine mixG_p rfl (fun K hK => ?_); go_simp; (try go_bits); (try simp (disch := omega) only [if_pos]); (try simp (disch := omega) only [if_neg]); (try simp (disch := omega) only [dif_pos]); (try simp (disch := omega) only [dif_neg]); (try go_simp); (refine hK _ ?_; clear hK K))
  refine mixG_load (.int .i64 b.channel) rfl rfl rfl rfl (fun _ => rfl) (fun w' h => h.2.cell 6 _ rfl) ?_
  repeat (refine mixG_p rfl (fun K hK => ?_); go_simp; (try go_bits); (try simp (disch := omega) only [if_pos]); (try simp (disch := omega) only [if_neg]); (try simp (disch := omega) only [dif_pos]); (try simp (disch := omega) only [dif_neg]); (try go_simp); (refine hK _ ?_; clear hK K))
  refine mixG_load (.int .i64 a.what) rfl rfl rfl rfl (fun _ => rfl) (fun w' h => h.1.cell 7 _ rfl) ?_
  repeat (refine mixG_p rfl (fun K hK => ?_); go_simp; (try go_bits); (try simp (disch := omega) only [if_pos]); (try simp (disch := omega) only [if_neg]); (try simp (disch := omega) only [dif_pos]); (try simp (disch := omega) only [dif_neg]); (try go_simp); (refine hK _ ?_; clear hK K))
  refine mixG_load (.int .i64 b.what) rfl rfl rfl rfl (fun _ => rfl) (fun w' h => h.2.cell 7 _ rfl) ?_
  repeat (refine mixG_p rfl (fun K hK => ?_); go_simp; (try go_bits); (try simp (disch := omega) only [if_pos]); (try simp (disch := omega) only [if_neg]); (try simp (disch := omega) only [dif_pos]); (try simp (disch := omega) only [dif_neg]); (try go_simp); (refine hK _ ?_; clear hK K))
  refine mixG_load (.string a.region) rfl rfl rfl rfl (fun _ => rfl) (fun w' h => h.1.cell 5 _ rfl) ?_
  repeat (refine mixG_p rfl (fun K hK => ?_); go_simp; (try go_bits); (try simp (disch := omega) only [if_pos]); (try simp (disch := omega) only [if_neg]); (try simp (disch := omega) only [dif_pos]); (try simp (disch := omega) only [dif_neg]); (try go_simp); (refine hK _ ?_; clear hK K))
  refine mixG_load (.string b.region) rfl rfl rfl rfl (fun _ => rfl) (fun w' h => h.2.cell 5 _ rfl) ?_
  refine mixG_l rfl rfl (fun K hK => ?_)
  go_wp2_with fail
  ((with_reducible refine (cmpInt_any _ _ _).mono ?_); rintro e _ ⟨rfl, rfl⟩)
  go_wp2_with fail
  refine ⟨fun _ => hC, ?_⟩
  refine mixG_l rfl rfl (fun K hK => ?_)
  go_wp2_with fail
  ((with_reducible refine (compareIdsG_any _ _ _ _ _).mono ?_); rintro e w3 ⟨rfl, hg⟩)
  replace hC := hC.grew hg
  have Hb3 : Hid (Grew w w3) := Hbd.out.trans hg
  clear hg Hbd
  go_wp2_with fail
  refine ⟨fun _ => hC, ?_⟩
  refine mixG_l rfl rfl (fun K hK => ?_)
  go_wp2_with fail
  ((with_reducible refine (compareS_any _ _ _).mono ?_); rintro e _ ⟨rfl, rfl⟩)
  go_wp2_with fail
  refine ⟨fun _ => hC, ?_⟩
  refine mixG_l rfl rfl (fun K hK => ?_)
  go_wp2_with fail
  ((with_reducible refine (cmpInt_any _ _ _).mono ?_); rintro e _ ⟨rfl, rfl⟩)
  go_wp2_with fail
  refine ⟨fun _ => hC, ?_⟩
  refine mixG_l rfl rfl (fun K hK => ?_)
  go_wp2_with fail
  ((with_reducible refine (cmpInt_any _ _ _).mono ?_); rintro e _ ⟨rfl, rfl⟩)
  go_wp2_with fail
  refine ⟨fun _ => hC, ?_⟩
  refine mixG_l rfl rfl (fun K hK => ?_)
  go_wp2_with fail
  ((with_reducible refine (compareS_any _ _ _).mono ?_); rintro e _ ⟨rfl, rfl⟩)
  go_wp2_with fail
  refine ⟨fun _ => hC, ?_⟩
  refine mixG_l rfl rfl (fun K hK => ?_)
  go_wp2_with fail
  have hC2 := hC.grew ((Grew.refl _).alloc (.cells #[.int .i64 (Lib.compareInt a.at' b.at'), .int .i64 (idCmp a.kind a.text b.kind b.text), .int .i64 (cmpS a.purpose b.purpose), .int .i64 (Lib.compareInt a.channel b.channel), .int .i64 (Lib.compareInt a.what b.what), .int .i64 (cmpS a.region b.region)] 3))
  refine ⟨fun _ => hC2, ?_⟩
  have Hor := Lib.hid (orN_any w3.heap.size [Lib.compareInt a.at' b.at', idCmp a.kind a.text b.kind b.text, cmpS a.purpose b.purpose, Lib.compareInt a.channel b.channel, Lib.compareInt a.what b.what, cmpS a.region b.region] _ (LV.new w3 w3.heap.size _ 3 rfl) (by simp))
  rw [show firstErr [Lib.compareInt a.at' b.at', idCmp a.kind a.text b.kind b.text, cmpS a.purpose b.purpose, Lib.compareInt a.channel b.channel, Lib.compareInt a.what b.what, cmpS a.region b.region] = R from HR.out] at Hor
  simp only [List.length_cons, List.length_nil, List.map_cons, List.map_nil, Nat.zero_add, Nat.reduceAdd] at Hor
  refine mixG_l rfl rfl (fun K hK => ?_)
  go_wp2_with fail
  ((with_reducible refine (Hor.out).mono ?_); rintro e _ ⟨rfl, rfl⟩)
  go_wp2_with fail
  refine ⟨fun _ => hC2, ?_⟩
  repeat (refine mixG_p rfl (fun K hK => ?_); go_simp; (try go_bits); (try simp (disch := omega) only [if_pos]); (try simp (disch := omega) only [if_neg]); (try simp (disch := omega) only [dif_pos]); (try simp (disch := omega) only [dif_neg]); (try go_simp); (refine hK _ ?_; clear hK K))
  refine mixG_nil ?_
  simp only [Exit.then]
  refine hKK _ _ ?_
  go_wp2_with fail
  go_ret
  exact ⟨rfl, Hb3.out.alloc _⟩
end Go.Proofs.YthmkphmciiiagaaGreatDoor

/- What handref2.StatementOrder returns, and that it orders as consent.order does. -/
namespace Go.Proofs.YthmkphmciiiagaaGreatDoor
open Go Go.RowKit Go.Sort Go.Shelf
theorem cmpBytes_is : ∀ l m : List UInt8, Lib.compareBytes l m = if l < m then -1 else if l = m then 0 else 1
  | [], [] => by simp [Lib.compareBytes]
  | [], b :: s => by simp [Lib.compareBytes]
  | a :: r, [] => by simp [Lib.compareBytes]
  | a :: r, b :: s => by
    unfold Lib.compareBytes
    by_cases h1 : a < b
    · rw [if_pos h1, if_pos (List.cons_lt_cons_iff.2 (.inl h1))]
    · rw [if_neg h1]
      by_cases h2 : b < a
      · have hne : a ≠ b := fun e => by subst e; exact h1 h2
        rw [if_pos h2, if_neg (fun h => ?_), if_neg (fun e => hne (List.cons.inj e).1)]
        rcases List.cons_lt_cons_iff.1 h with h | ⟨h, _⟩
        · exact h1 h
        · exact hne h
      · have he : a = b := by
          have h3 : ¬ a.toNat < b.toNat := h1
          have h4 : ¬ b.toNat < a.toNat := h2
          exact UInt8.toNat_inj.1 (by omega)
        subst he
        rw [if_neg h2, cmpBytes_is r s]
        simp
theorem cmpS_bytes (a b : ByteArray) : Lib.compareBytes a.data.toList b.data.toList = cmpS a b := by
  rw [cmpBytes_is]
  unfold cmpS
  rw [bytesLess_eq, ByteArray.toList_eq, ByteArray.toList_eq]
  by_cases h1 : a.data.toList < b.data.toList
  · simp [h1]
  · by_cases h2 : a.data.toList = b.data.toList
    · simp [h2]
    · simp [h1, h2, show ¬ a.data = b.data from fun h => h2 (by rw [h])]
theorem strCmp_any (a b : ByteArray) (w : World) : Calls Tryz.prog 123 #[.string a, .string b] w fun e w' => e = .returned (.int .i64 (cmpS a b)) ∧ w = w' :=
  (Tryz.strings_Compare a b w).mono fun _ _ ⟨h1, h2⟩ => ⟨by rw [h1, cmpS_bytes], h2.symm⟩
theorem bytesNe {a b : ByteArray} (h : a ≠ b) : (a.toList == b.toList) = false := by
  rw [ByteArray.toList_eq, ByteArray.toList_eq]
  exact beq_false_of_ne fun e => h (WideShapes.bytes_inj e)
/-- a statement of small numbers -/
structure StmB (s : Stm) : Prop where
  at' : 0 ≤ s.at' ∧ s.at' ≤ 4321439
  ch : 0 ≤ s.channel ∧ s.channel ≤ 100
  wh : 0 ≤ s.what ∧ s.what ≤ 100
def ordR (a b : Stm) : Int :=
  if a.at' ≠ b.at' then a.at' - b.at' else if ¬ (a.kind = b.kind ∧ a.text = b.text) then idCmp a.kind a.text b.kind b.text else if a.purpose ≠ b.purpose then cmpS a.purpose b.purpose
  else if a.channel ≠ b.channel then a.channel - b.channel else if a.what ≠ b.what then a.what - b.what else cmpS a.region b.region
theorem cmpI_sub (x y : Int) : (Lib.compareInt x y < 0 ↔ x - y < 0) ∧ (Lib.compareInt x y = 0 ↔ x = y) := by
  unfold Lib.compareInt
  constructor <;> split <;> (try split) <;> omega
theorem idCmp_zero {k1 k2 : Int} {t1 t2 : ByteArray} : idCmp k1 t1 k2 t2 = 0 ↔ k1 = k2 ∧ t1 = t2 := by
  rw [idCmp_lex]
  have h := cmpI_sub k1 k2
  have h2 := cmpS_zero t1 t2
  split
  · rename_i h3
    exact ⟨fun h4 => absurd h4 h3, fun h4 => absurd (h.2.2 h4.1) h3⟩
  · rename_i h3
    rw [h2, h.2.1 (Decidable.not_not.1 h3)]
    simp
theorem step_neg {x y u v : Int} {e : Prop} [Decidable (¬ e)] [Decidable (x ≠ 0)] (h0 : x = 0 ↔ e) (hx : x < 0 ↔ u < 0) (hr : v < 0 ↔ y < 0) : (if ¬ e then u else v) < 0 ↔ (if x ≠ 0 then x else y) < 0 := by
  by_cases he : e
  · rw [if_neg (not_not_intro he), if_neg (by rw [h0.2 he]; simp)]; exact hr
  · rw [if_pos he, if_pos (fun h => he (h0.1 h))]; exact hx.symm
theorem ordR_neg (a b : Stm) : ordR a b < 0 ↔ ordP a b < 0 := by
  have h1 := cmpI_sub a.at' b.at'
  have h2 := @idCmp_zero a.kind b.kind a.text b.text
  have h3 := cmpS_zero a.purpose b.purpose
  have h4 := cmpI_sub a.channel b.channel
  have h5 := cmpI_sub a.what b.what
  unfold ordR ordP
  rw [firstErr, firstErr, firstErr, firstErr, firstErr, firstErr1]
  exact step_neg h1.2 h1.1 (step_neg h2 Iff.rfl (step_neg h3 Iff.rfl (step_neg h4.2 h4.1 (step_neg h5.2 h5.1 Iff.rfl))))
set_option maxHeartbeats 4000000 in
set_option maxRecDepth 100000 in
theorem ordR_any (a b : Stm) (ha : StmB a) (hb : StmB b) (w : World) :
    Calls Tryz.prog 97 #[.agg (stmCs a), .agg (stmCs b)] w fun e w' => e = .returned (.int .i64 (ordR a b)) ∧ Grew w w' := by
  obtain ⟨R, HR⟩ : ∃ R, Hid (ordR a b = R) := ⟨_, Lib.hid rfl⟩
  rw [HR.out]
  have hC0 : TwoStms w.heap.size (w.heap.size + 1) a b ((w.alloc (.cells (stmCs a) 38)).alloc (.cells (stmCs b) 38)) :=
    ⟨(LV.new w w.heap.size (stmCs a) 38 rfl).alloc _, LV.new (w.alloc (.cells (stmCs a) 38)) (w.heap.size + 1) (stmCs b) 38 (by simp)⟩
  have Hb0 : Hid (Grew w ((w.alloc (.cells (stmCs a) 38)).alloc (.cells (stmCs b) 38))) := ((Grew.refl _).alloc _).alloc _
  have HA := Lib.hid ha
  have HB := Lib.hid hb
  clear ha hb
  go_enter Tryz.func97, Tryz.ntmps97
  go_upto_region 1 with fail
  generalize (w.alloc (.cells (stmCs a) 38)).alloc (.cells (stmCs b) 38) = w1 at *
  have c0 := hC0.1.all
  have c1 := hC0.2.all
  clear hC0
  obtain ⟨n1, a1, k1, t1, p1, r1, ch1, u1⟩ := a
  obtain ⟨n2, a2, k2, t2, p2, r2, ch2, u2⟩ := b
  obtain ⟨hat1, hch1, hwh1⟩ := HA.out
  obtain ⟨hat2, hch2, hwh2⟩ := HB.out
  dsimp only [ordR] at *
  by_cases e1 : a1 = a2
  · have b1 : (a1 != a2) = false := by simpa using e1
    have HR1 : Hid ((if ¬ (k1 = k2 ∧ t1 = t2) then idCmp k1 t1 k2 t2 else if p1 ≠ p2 then cmpS p1 p2 else if ch1 ≠ ch2 then ch1 - ch2 else if u1 ≠ u2 then u1 - u2 else cmpS r1 r2) = R) := Eq.trans (Eq.symm (if_neg (by simpa using e1))) HR.out
    clear e1 HR
    by_cases e2 : k1 = k2 ∧ t1 = t2
    · obtain ⟨rfl, rfl⟩ := e2
      have HR2 : Hid ((if p1 ≠ p2 then cmpS p1 p2 else if ch1 ≠ ch2 then ch1 - ch2 else if u1 ≠ u2 then u1 - u2 else cmpS r1 r2) = R) := Eq.trans (Eq.symm (if_neg (by simp))) HR1.out
      clear HR1
      by_cases e3 : p1 = p2
      · subst e3
        have HR3 : Hid ((if ch1 ≠ ch2 then ch1 - ch2 else if u1 ≠ u2 then u1 - u2 else cmpS r1 r2) = R) := Eq.trans (Eq.symm (if_neg (by simp))) HR2.out
        clear HR2
        by_cases e4 : ch1 = ch2
        · have b4 : (ch1 != ch2) = false := by simpa using e4
          have HR4 : Hid ((if u1 ≠ u2 then u1 - u2 else cmpS r1 r2) = R) := Eq.trans (Eq.symm (if_neg (by simpa using e4))) HR3.out
          clear e4 HR3
          by_cases e5 : u1 = u2
          · have b5 : (u1 != u2) = false := by simpa using e5
            have HR5 : Hid (cmpS r1 r2 = R) := Eq.trans (Eq.symm (if_neg (by simpa using e5))) HR4.out
            clear e5 HR4
            go_wp2_with fail
            ((with_reducible refine (strCmp_any _ _ _).mono ?_); rintro e _ ⟨rfl, rfl⟩)
            rw [HR5.out]
            go_wp2_with fail
            go_ret
            exact ⟨rfl, Hb0.out⟩
          · have b5 : (u1 != u2) = true := by simpa using e5
            obtain rfl : u1 - u2 = R := Eq.trans (Eq.symm (if_pos e5)) HR4.out
            clear e5 HR4
            go_wp2_with fail
            go_ret
            exact ⟨rfl, Hb0.out⟩
        · have b4 : (ch1 != ch2) = true := by simpa using e4
          obtain rfl : ch1 - ch2 = R := Eq.trans (Eq.symm (if_pos e4)) HR3.out
          clear e4 HR3
          go_wp2_with fail
          go_ret
          exact ⟨rfl, Hb0.out⟩
      · have b3 := bytesNe e3
        have HR3 : Hid (cmpS p1 p2 = R) := Eq.trans (Eq.symm (if_pos e3)) HR2.out
        clear HR2 e3
        go_wp2_with fail
        ((with_reducible refine (strCmp_any _ _ _).mono ?_); rintro e _ ⟨rfl, rfl⟩)
        rw [HR3.out]
        go_wp2_with fail
        go_ret
        exact ⟨rfl, Hb0.out⟩
    · have HR2 : Hid (idCmp k1 t1 k2 t2 = R) := Eq.trans (Eq.symm (if_pos e2)) HR1.out
      have Hor := Lib.hid (fun w => HR2.out ▸ orderG_any k1 k2 t1 t2 w)
      clear HR1 HR2
      by_cases ek : k1 = k2
      · subst ek
        have b2 := bytesNe (fun e => e2 ⟨rfl, e⟩)
        clear e2
        go_wp2_with fail
        ((with_reducible refine (Hor.out _).mono ?_); rintro e w2 ⟨rfl, hg⟩)
        go_wp2_with fail
        go_ret
        exact ⟨rfl, Hb0.out.trans hg⟩
      · have b2 : (k1 == k2) = false := by simpa using ek
        clear e2 ek
        go_wp2_with fail
        ((with_reducible refine (Hor.out _).mono ?_); rintro e w2 ⟨rfl, hg⟩)
        go_wp2_with fail
        go_ret
        exact ⟨rfl, Hb0.out.trans hg⟩
  · have b1 : (a1 != a2) = true := by simpa using e1
    obtain rfl : a1 - a2 = R := Eq.trans (Eq.symm (if_pos e1)) HR.out
    clear e1 HR
    go_wp2_with fail
    go_ret
    exact ⟨rfl, Hb0.out⟩
end Go.Proofs.YthmkphmciiiagaaGreatDoor

/- What slices.Clone and slices.DeleteFunc make of statements, with the condition of handref2.AskOf. -/
namespace Go.Proofs.YthmkphmciiiagaaGreatDoor
open Go Go.RowKit
theorem Own.stmAt {M : Nat → Prop} {B E g n cap : Nat} {w : World} {xs : List Stm} (h : Own rStm M B E w (.slice (some ⟨g, 0, none⟩) n cap) xs) (hn : n = xs.length) (k : Nat) (x : Stm) (hk : xs[k]? = some x) :
    (w.cell? ⟨g, k * 8, none⟩ = some (.int .i64 x.no) ∧ w.cell? ⟨g, k * 8 + 1, none⟩ = some (.int .i64 x.at') ∧ w.cell? ⟨g, k * 8 + 2, none⟩ = some (.int .i64 x.kind) ∧ w.cell? ⟨g, k * 8 + 3, none⟩ = some (.string x.text) ∧ w.cell? ⟨g, k * 8 + 4, none⟩ = some (.string x.purpose) ∧ w.cell? ⟨g, k * 8 + 5, none⟩ = some (.string x.region) ∧ w.cell? ⟨g, k * 8 + 6, none⟩ = some (.int .i64 x.channel) ∧ w.cell? ⟨g, k * 8 + 7, none⟩ = some (.int .i64 x.what)) ∧ (w.frozen? ⟨g, k * 8, none⟩ = false ∧ w.frozen? ⟨g, k * 8 + 1, none⟩ = false ∧ w.frozen? ⟨g, k * 8 + 2, none⟩ = false ∧ w.frozen? ⟨g, k * 8 + 3, none⟩ = false ∧ w.frozen? ⟨g, k * 8 + 4, none⟩ = false ∧ w.frozen? ⟨g, k * 8 + 5, none⟩ = false ∧ w.frozen? ⟨g, k * 8 + 6, none⟩ = false ∧ w.frozen? ⟨g, k * 8 + 7, none⟩ = false) :=
  ⟨⟨(h.cellP flatStm hn k x hk 0 _ rfl).1, (h.cellP flatStm hn k x hk 1 _ rfl).1, (h.cellP flatStm hn k x hk 2 _ rfl).1, (h.cellP flatStm hn k x hk 3 _ rfl).1, (h.cellP flatStm hn k x hk 4 _ rfl).1, (h.cellP flatStm hn k x hk 5 _ rfl).1, (h.cellP flatStm hn k x hk 6 _ rfl).1, (h.cellP flatStm hn k x hk 7 _ rfl).1⟩, (h.cellP flatStm hn k x hk 0 _ rfl).2, (h.cellP flatStm hn k x hk 1 _ rfl).2, (h.cellP flatStm hn k x hk 2 _ rfl).2, (h.cellP flatStm hn k x hk 3 _ rfl).2, (h.cellP flatStm hn k x hk 4 _ rfl).2, (h.cellP flatStm hn k x hk 5 _ rfl).2, (h.cellP flatStm hn k x hk 6 _ rfl).2, (h.cellP flatStm hn k x hk 7 _ rfl).2⟩
abbrev objB (s : Stm) : Bool := decide (s.what = 4)
def GivesSix (P : Stm → Bool) (xs : List Stm) (w0 : World) (cs : List Chunk) (e : Ending) (w' : World) : Prop :=
  ∃ i : Int, e = .returned (.int .i64 i) ∧ Mem w0 w' cs ∧ ((i = -1 ∧ ∀ y ∈ xs, P y = false) ∨ ∃ (j : Nat) (y : Stm), i = j ∧ xs[j]? = some y ∧ P y = true ∧ ∀ z ∈ xs.take j, P z = false)
def keepS (P : Stm → Bool) (x : Stm) : Bool := !P x
/-- the front that is settled, and the rest as it was -/
structure SelAt (P : Stm → Bool) (xs ys : List Stm) (i j : Nat) : Prop where
  len : ys.length = xs.length
  front : ys.take i = (xs.take j).filter (keepS P)
  rest : ys.drop j = xs.drop j
  le : i ≤ j
theorem SelAt.get {P : Stm → Bool} {xs ys : List Stm} {i j : Nat} (h : SelAt P xs ys i j) {x : Stm} (hx : ys[j]? = some x) : xs[j]? = some x := by
  have h1 := congrArg (fun l : List Stm => l[0]?) h.rest
  simp only [List.getElem?_drop, Nat.add_zero] at h1
  rw [← h1]; exact hx
theorem SelAt.skip {P : Stm → Bool} {xs ys : List Stm} {i j : Nat} (h : SelAt P xs ys i j) {x : Stm} (hx : ys[j]? = some x) (hp : P x = true) : SelAt P xs ys i (j + 1) := by
  refine ⟨h.len, ?_, ?_, Nat.le_succ_of_le h.le⟩
  · rw [take_snoc (h.get hx), List.filter_append, h.front]
    simp [keepS, hp]
  · have h1 := congrArg (List.drop 1) h.rest
    rw [List.drop_drop, List.drop_drop] at h1
    exact h1
theorem SelAt.put {P : Stm → Bool} {xs ys : List Stm} {i j : Nat} (h : SelAt P xs ys i j) (hij : i < j) {x : Stm} (hx : ys[j]? = some x) (hp : P x = false) : SelAt P xs (ys.set i x) (i + 1) (j + 1) := by
  have hi : i < ys.length := by have := lt_of_get hx; omega
  refine ⟨by rw [List.length_set, h.len], ?_, ?_, by omega⟩
  · rw [take_snoc (h.get hx), List.filter_append, ← h.front, List.take_set, take_snoc (x := ys[i]) (List.getElem?_eq_getElem hi)]
    have hl : (ys.take i).length = i := by rw [List.length_take]; omega
    rw [List.set_append_right _ _ (by omega), hl, Nat.sub_self]
    simp [keepS, hp]
  · rw [List.drop_set_of_lt (by omega)]
    have h1 := congrArg (List.drop 1) h.rest
    rw [List.drop_drop, List.drop_drop] at h1
    exact h1
def GivesSel (P : Stm → Bool) (xs : List Stm) (B g cap : Nat) (w0 : World) (cs : List Chunk) (e : Ending) (w' : World) : Prop :=
  e = .returned (.slice (some ⟨g, 0, none⟩) (xs.filter (keepS P)).length cap) ∧ Mem w0 w' (.own rStm B 38 (.slice (some ⟨g, 0, none⟩) (xs.filter (keepS P)).length cap) (xs.filter (keepS P)) :: cs)
end Go.Proofs.YthmkphmciiiagaaGreatDoor

/- What slices.CompactFunc makes of statements in order, with the condition of consent.Merge. -/
namespace Go.Proofs.YthmkphmciiiagaaGreatDoor
open Go Go.RowKit Go.Sort Go.Shelf
/-- each that is not level with the one ahead of it -/
def compB (prev : Option Stm) (x : Stm) : Bool := !(prev.any fun p => decide (ordP x p = 0))
def compS (prev : Option Stm) : List Stm → List Stm
  | [] => []
  | x :: r => (if compB prev x = true then [x] else []) ++ compS (some x) r
theorem compS_snoc : ∀ (l : List Stm) (prev : Option Stm) (x : Stm), compS prev (l ++ [x]) = compS prev l ++ (if compB (l.getLast?.or prev) x = true then [x] else [])
  | [], prev, x => by
    show (if compB prev x = true then [x] else []) ++ [] = _
    rw [List.append_nil]; rfl
  | y :: r, prev, x => by
    rw [List.cons_append, compS, compS_snoc r (some y) x, compS, List.append_assoc]
    congr 3
    rw [List.getLast?_cons]
    cases r.getLast? <;> rfl
theorem compS_take {l : List Stm} {j : Nat} {p x : Stm} (hp : l[j]? = some p) (hx : l[j + 1]? = some x) : compS none (l.take (j + 2)) = compS none (l.take (j + 1)) ++ (if decide (ordP x p = 0) = true then [] else [x]) := by
  rw [take_snoc hx, compS_snoc]
  congr 1
  have e : (l.take (j + 1)).getLast? = some p := by
    rw [take_snoc hp, List.getLast?_concat]
  rw [e]
  have e2 : compB ((some p).or none) x = !decide (ordP x p = 0) := rfl
  rw [e2]
  cases decide (ordP x p = 0) <;> rfl
/-- the front that is settled, and the rest as it was, from the one ahead of j on -/
structure CompAt (xs ys : List Stm) (i j : Nat) : Prop where
  len : ys.length = xs.length
  front : ys.take i = compS none (xs.take j)
  rest : ys.drop (j - 1) = xs.drop (j - 1)
  le : i < j
theorem CompAt.get {xs ys : List Stm} {i j : Nat} (h : CompAt xs ys i j) {k : Nat} (hk : j ≤ k + 1) : ys[k]? = xs[k]? := by
  have h1 := congrArg (fun l : List Stm => l[k - (j - 1)]?) h.rest
  simp only [List.getElem?_drop] at h1
  rw [show j - 1 + (k - (j - 1)) = k by omega] at h1
  exact h1
theorem CompAt.skip {xs ys : List Stm} {i j : Nat} (h : CompAt xs ys i (j + 1)) {p x : Stm} (hp : ys[j]? = some p) (hx : ys[j + 1]? = some x) (he : decide (ordP x p = 0) = true) : CompAt xs ys i (j + 2) := by
  have e1 := h.get (k := j) (by omega)
  have e2 := h.get (k := j + 1) (by omega)
  refine ⟨h.len, ?_, ?_, by have := h.le; omega⟩
  · rw [compS_take (e1 ▸ hp) (e2 ▸ hx), if_pos he, List.append_nil, h.front]
  · have h1 := congrArg (List.drop 1) h.rest
    rw [List.drop_drop, List.drop_drop] at h1
    exact h1
theorem CompAt.put {xs ys : List Stm} {i j : Nat} (h : CompAt xs ys i (j + 1)) {p x : Stm} (hp : ys[j]? = some p) (hx : ys[j + 1]? = some x) (he : decide (ordP x p = 0) = false) : CompAt xs (ys.set i x) (i + 1) (j + 2) := by
  have e1 := h.get (k := j) (by omega)
  have e2 := h.get (k := j + 1) (by omega)
  have hle := h.le
  have hi : i < ys.length := by have := lt_of_get hx; omega
  refine ⟨by rw [List.length_set, h.len], ?_, ?_, by omega⟩
  · rw [compS_take (e1 ▸ hp) (e2 ▸ hx), if_neg (by simp [he]), ← h.front, List.take_set, take_snoc (x := ys[i]) (List.getElem?_eq_getElem hi)]
    have hl : (ys.take i).length = i := by rw [List.length_take]; omega
    rw [List.set_append_right _ _ (by omega), hl, Nat.sub_self]
    simp
  · rw [List.drop_set_of_lt (by omega)]
    have h1 := congrArg (List.drop 1) h.rest
    rw [List.drop_drop, List.drop_drop] at h1
    exact h1
def GivesComp (xs : List Stm) (B g cap : Nat) (w0 : World) (cs : List Chunk) (e : Ending) (w' : World) : Prop :=
  e = .returned (.slice (some ⟨g, 0, none⟩) (compS none xs).length cap) ∧ Mem w0 w' (.own rStm B 38 (.slice (some ⟨g, 0, none⟩) (compS none xs).length cap) (compS none xs) :: cs)
end Go.Proofs.YthmkphmciiiagaaGreatDoor

/- The plain law of merging: sorting and compacting makes what sorting of each once makes. -/
namespace Go.Proofs.YthmkphmciiiagaaGreatDoor
open Go Go.RowKit Go.Sort Go.Shelf
def stmEq (a b : Stm) : Bool := decide (a.no = b.no) && decide (a.at' = b.at') && decide (a.kind = b.kind) && decide (a.text = b.text) && decide (a.purpose = b.purpose) && decide (a.region = b.region) && decide (a.channel = b.channel) && decide (a.what = b.what)
theorem stmEq_iff {a b : Stm} : stmEq a b = true ↔ a = b := by
  obtain ⟨n1, a1, k1, t1, p1, r1, c1, w1⟩ := a
  obtain ⟨n2, a2, k2, t2, p2, r2, c2, w2⟩ := b
  unfold stmEq
  simp only [Bool.and_eq_true, decide_eq_true_eq]
  constructor
  · rintro ⟨⟨⟨⟨⟨⟨⟨rfl, rfl⟩, rfl⟩, rfl⟩, rfl⟩, rfl⟩, rfl⟩, rfl⟩; rfl
  · intro h; cases h; simp
/-- is it there? -/
def hasS (l : List Stm) (x : Stm) : Bool := l.any (stmEq x)
theorem hasS_iff {l : List Stm} {x : Stm} : hasS l x = true ↔ x ∈ l := by
  unfold hasS
  rw [List.any_eq_true]
  constructor
  · rintro ⟨y, hy, e⟩; rw [stmEq_iff.1 e]; exact hy
  · intro h; exact ⟨x, h, stmEq_iff.2 rfl⟩
/-- each key once, as they come -/
def ddS (out : List Stm) : List Stm → List Stm
  | [] => out
  | s :: r => ddS (if hasS out (keyS s) = true then out else out ++ [keyS s]) r
/-- numbers from one on -/
def renumS (i : Int) : List Stm → List Stm
  | [] => []
  | s :: r => { s with no := i + 1 } :: renumS (i + 1) r
end Go.Proofs.YthmkphmciiiagaaGreatDoor

/- slices.SortFunc at a slice of structs of the call's own: what was there, in order. -/
namespace Go.Proofs.YthmkphmciiiagaaGreatDoor
open Go Go.RowKit Go.Sort Go.Shelf
theorem flatK_val {T : Type} [Inhabited T] {P : T → Prop} [Inhabited {x // P x}] (f : T → List Value) (k : Nat) (d : Array {x // P x}) : flatK (fun x : {x // P x} => f x.1) k d = flatK f k (d.map Subtype.val) := by
  unfold flatK
  rw [Array.size_map]
  refine Array.map_congr_left fun t ht => ?_
  have h1 : t < d.size * k := by simpa using ht
  have hk : 0 < k := by
    rcases Nat.eq_zero_or_pos k with h | h
    · subst h; simp at h1
    · exact h
  have h2 : t / k < d.size := Nat.div_lt_of_lt_mul (by rw [Nat.mul_comm]; exact h1)
  rw [getElem!_pos d _ h2, getElem!_pos (d.map Subtype.val) _ (by simpa using h2), Array.getElem_map]
/-- what a sort hands back -/
def GivesSorted {T : Type} (r : Rep T) (c : T → T → Int) (w0 : World) (cs : List Chunk) (i B E : Nat) (v : Value) (xs : List T) (e : Ending) (w' : World) : Prop :=
  e = .returned (.tuple #[]) ∧ ∃ ys : List T, ys.Perm xs ∧ ys.Pairwise (fun a b => c a b ≤ 0) ∧ Mem w0 w' (cs.set i (.own r B E v ys))
theorem sortFn_own {T : Type} [Inhabited T] {r : Rep T} {f : T → List Value} (hf : r.Flat f) (hk0 : 0 < r.size) (hk : ∀ x, (f x).length = r.size) (h1 : ∀ x, ∀ v ∈ f x, v.oneCell' = true) {ρ : Go.Shelf.Ren} (L : SlLaysF0.n6 Tryz.prog ρ)
    (aE : ∀ w, (isAgg (ρ.t 24)).run Tryz.prog w = .ok true w) (zE : ∀ w, (Go.sizeOf (ρ.t 24)).run Tryz.prog w = .ok r.size w) (P : T → Prop) (cf c : T → T → Int) (hc : CmpOk c) (hcf : ∀ a b, cf a b < 0 ↔ c a b < 0) (g : Nat)
    (eg : ∀ args w, (callFunc g args).run Tryz.prog w = .ok (.enter g args) w)
    (hcmp : ∀ a b, P a → P b → ∀ w, Calls Tryz.prog g #[.agg (f a).toArray, .agg (f b).toArray] w fun e w' => e = .returned (.int .i64 (cf a b)) ∧ Grew w w')
    {w0 w : World} {cs : List Chunk} (S : Mem w0 w cs) (i : Nat) {B E : Nat} {v : Value} {xs : List T} (hi : cs[i]? = some (.own r B E v xs)) (hP : ∀ x ∈ xs, P x) (hl : xs.length ≤ 1000000) :
    Calls Tryz.prog (ρ.f 6) #[v, .func (.func g) #[] #[]] w (GivesSorted r c w0 cs i B E v xs) := by
  cases hxs : xs with
  | nil =>
    subst hxs
    obtain ⟨A, c1, rfl⟩ := (S.ow i hi).len
    refine (AnyF.slices_SortFunc_none L A c1 _ w).mono ?_
    rintro e w' ⟨rfl, rfl⟩
    exact ⟨rfl, [], List.Perm.refl _, List.Pairwise.nil, by
      have : cs.set i (.own r B E (.slice A ([] : List T).length c1) []) = cs := by
        obtain ⟨h2, h3⟩ := List.getElem?_eq_some_iff.1 hi
        rw [← h3]; exact List.set_getElem_self h2
      rw [this]; exact S⟩
  | cons x0 r0 =>
    rw [← hxs]
    have hx0 : P x0 := hP x0 (by rw [hxs]; simp)
    haveI : Inhabited {x // P x} := ⟨⟨x0, hx0⟩⟩
    have hne : 1 ≤ xs.length := by rw [hxs]; simp
    obtain ⟨gb, cap, rfl, hcap⟩ := (S.ow i hi).form hne
    have hg := S.lt (List.mem_of_getElem? hi) (k := gb) rfl
    have hH := Own.holdsK hf hk0 (S.ow i hi) rfl hk
    obtain ⟨d, hd⟩ : ∃ d : Array {x // P x}, d.map Subtype.val = xs.toArray := ⟨(xs.attach.map fun x => (⟨x.1, hP x.1 x.2⟩ : {x // P x})).toArray, by simp [Function.comp_def]⟩
    have hds : d.size = xs.length := by have := congrArg Array.size hd; simpa using this
    have hH2 : HoldsK (fun x : {x // P x} => f x.1) r.size w gb 0 d := by
      unfold HoldsK at hH ⊢
      rw [flatK_val, hd]; exact hH
    have hcon := AnyQ.slices_SortFunc L r.size aE zE (fun x : {x // P x} => f x.1) (fun x => hk x.1) (fun x => h1 x.1) (fun a b => cf a.1 b.1)
      (by
        have h2 : ltOf (fun a b : {x // P x} => cf a.1 b.1) = ltOf (fun a b : {x // P x} => c a.1 b.1) := by
          funext a b
          unfold ltOf
          rw [decide_eq_decide]; exact hcf a.1 b.1
        rw [h2]
        exact (hc.of (Subtype.val : {x // P x} → T)).swo)
      g #[] gb 0 cap d w eg (fun m os dk hs x y => hcmp x.1 y.1 x.2 y.2 _) hH2 hg (by omega)
    rw [hds] at hcon
    refine hcon.mono ?_
    rintro e w' ⟨rfl, d', n, os, hp, hs, rfl⟩
    obtain ⟨hp1, _, hp2⟩ := hp
    have hds' : d'.size = xs.length := hp1.trans hds
    have hpl : d'.toList.Perm d.toList := by
      have e1 : d'.extract 0 xs.length = d' := by rw [← hds']; simp
      have e2 : d.extract 0 xs.length = d := by rw [← hds]; simp
      rw [e1, e2] at hp2; exact hp2
    refine ⟨rfl, d'.toList.map Subtype.val, ?_, ?_, ?_⟩
    · have h3 := hpl.map Subtype.val
      have h4 : d.toList.map Subtype.val = xs := by
        have := congrArg Array.toList hd
        simpa using this
      rw [h4] at h3; exact h3
    · rw [List.pairwise_map, List.pairwise_iff_getElem]
      intro p q hp' hq hpq
      have hp3 : p < d'.size := by simpa using hp'
      have hq3 : q < d'.size := by simpa using hq
      have h5 := hs p q (Nat.zero_le _) hpq (by omega)
      rw [getElem!_pos d' q hq3, getElem!_pos d' p hp3] at h5
      unfold ltOf at h5
      simp only [decide_eq_false_iff_not] at h5
      rw [hcf] at h5
      have h6 := hc.anti d'[q].1 d'[p].1
      have h7 := hc.anti d'[p].1 d'[q].1
      simp only [Array.getElem_toList]
      omega
    · have h8 : sortWorldK (fun x : {x // P x} => f x.1) r.size w gb 0 n d' os = sortWorldK f r.size w gb 0 n (d'.toList.map Subtype.val).toArray os := by
        unfold sortWorldK putRowK
        rw [flatK_val]
        rw [← Array.toList_map, Array.toArray_toList]
      rw [h8]
      exact S.sortedK hf hk0 hk i hi (by rw [List.length_map, Array.length_toList, hds'])
end Go.Proofs.YthmkphmciiiagaaGreatDoor

/- What slices.Contains of statements returns. -/
namespace Go.Proofs.YthmkphmciiiagaaGreatDoor
open Go Go.RowKit Go.Sort Go.Shelf
theorem loadStmL {w : World} {X : Nat} {s : Stm} (h : LV w X (stmCs s) 38) : (Instr.loadAt 38 (.pointer (some ⟨X, 0, none⟩))).run Tryz.prog w = .ok (.agg (stmCs s)) w := by
  have c := h.all
  go_simp
theorem stm_ne {x y : Stm} (h : x ≠ y) : (x.no == y.no) = false ∨ ((x.no == y.no) = true ∧ ((x.at' == y.at') = false ∨ ((x.at' == y.at') = true ∧ ((x.kind == y.kind) = false ∨ ((x.kind == y.kind) = true ∧ ((x.text.toList == y.text.toList) = false ∨ ((x.text.toList == y.text.toList) = true ∧ ((x.purpose.toList == y.purpose.toList) = false ∨ ((x.purpose.toList == y.purpose.toList) = true ∧ ((x.region.toList == y.region.toList) = false ∨ ((x.region.toList == y.region.toList) = true ∧ ((x.channel == y.channel) = false ∨ ((x.channel == y.channel) = true ∧ ((x.what == y.what) = false)))))))))))))) := by
  by_cases h0 : x.no = y.no
  · refine .inr ⟨by rw [h0]; exact beq_self_eq_true _, ?_⟩
    by_cases h1 : x.at' = y.at'
    · refine .inr ⟨by rw [h1]; exact beq_self_eq_true _, ?_⟩
      by_cases h2 : x.kind = y.kind
      · refine .inr ⟨by rw [h2]; exact beq_self_eq_true _, ?_⟩
        by_cases h3 : x.text = y.text
        · refine .inr ⟨by rw [h3]; exact beq_self_eq_true _, ?_⟩
          by_cases h4 : x.purpose = y.purpose
          · refine .inr ⟨by rw [h4]; exact beq_self_eq_true _, ?_⟩
            by_cases h5 : x.region = y.region
            · refine .inr ⟨by rw [h5]; exact beq_self_eq_true _, ?_⟩
              by_cases h6 : x.channel = y.channel
              · refine .inr ⟨by rw [h6]; exact beq_self_eq_true _, ?_⟩
                have h7 : ¬ x.what = y.what := fun e => h (by cases x; cases y; simp_all)
                exact by simpa using h7
              · exact .inl (by simpa using h6)
            · exact .inl (bytesNe h5)
          · exact .inl (bytesNe h4)
        · exact .inl (bytesNe h3)
      · exact .inl (by simpa using h2)
    · exact .inl (by simpa using h1)
  · exact .inl (by simpa using h0)
theorem stm_eq {x y : Stm} (h : x = y) : (x.no == y.no) = true ∧ (x.at' == y.at') = true ∧ (x.kind == y.kind) = true ∧ (x.text.toList == y.text.toList) = true ∧ (x.purpose.toList == y.purpose.toList) = true ∧ (x.region.toList == y.region.toList) = true ∧ (x.channel == y.channel) = true ∧ (x.what == y.what) = true := by subst h; exact ⟨beq_self_eq_true _, beq_self_eq_true _, beq_self_eq_true _, beq_self_eq_true _, beq_self_eq_true _, beq_self_eq_true _, beq_self_eq_true _, beq_self_eq_true _⟩
set_option maxHeartbeats 4000000 in
set_option maxRecDepth 100000 in
theorem idxStm_any {w0 w : World} {cs : List Chunk} {B g n cap : Nat} {xs : List Stm} (S : Mem w0 w (.own rStm B 38 (.slice (some ⟨g, 0, none⟩) n cap) xs :: cs)) (x : Stm) (hn : n = xs.length) (hl : n ≤ 1000000) :
    Calls Tryz.prog 184 #[.slice (some ⟨g, 0, none⟩) n cap, .agg (stmCs x)] w fun e w' => (∃ i : Int, e = .returned (.int .i64 i) ∧ (0 ≤ i ↔ hasS xs x = true)) ∧ Below w.heap.size w w' := by
  have Hn := Lib.hid hn
  clear hn
  have HSb := Lib.hid (fun w' (h : Below w.heap.size w w') => S.below h)
  have T := (Mem.start w).new' (stmCs x) 38
  replace T : Mem w (w.alloc (.cells (stmCs x) 38)) [.loc w.heap.size (stmCs x) 38] := T
  clear S
  go_enter Tryz.func184, Tryz.ntmps184
  go_wp2_with fail
  generalize w.alloc (.cells (stmCs x) 38) = w1 at *
  go_loopw [8] (fun i wr => ∃ j : Nat, j ≤ n ∧ i = .int .i64 j ∧ Hid (hasS (xs.take j) x = false) ∧ Mem w wr [.loc w.heap.size (stmCs x) 38]) (fun i _ => n - (intOf i).toNat)
  case atStart => exact ⟨0, Nat.zero_le _, rfl, Lib.hid rfl, T⟩
  case round =>
    clear T
    obtain ⟨j, hj, rfl, HP, T⟩ := hrel
    by_cases hlt : j < n
    · obtain ⟨y, hy⟩ : ∃ y, xs[j]? = some y := ⟨_, List.getElem?_eq_getElem (by have := Hn.out; omega)⟩
      have Hy := Lib.hid hy
      clear hy
      have e0 := (T.lv 0 rfl).all
      obtain ⟨⟨d0, d1, d2, d3, d4, d5, d6, d7⟩, _⟩ := ((HSb.out wr T.b).ow 0 rfl).stmAt Hn.out j y Hy.out
      by_cases hxy : x = y
      · have HG : Hid (hasS xs x = true) := hasS_iff.2 (by rw [hxy]; exact List.mem_of_getElem? Hy.out)
        obtain ⟨h0, h1, h2, h3, h4, h5, h6, h7⟩ := stm_eq hxy
        clear hxy HP Hy
        go_wp2_with fail
        go_quiet (fail)
        go_wp2_with fail
        go_ret
        exact ⟨⟨j, rfl, by rw [HG.out]; simp⟩, (T.below (below_drewN _ _ _)).b⟩
      · have HE : Hid (hasS (xs.take (j + 1)) x = false) := by
          show _ = _
          rw [take_snoc Hy.out]
          unfold hasS
          rw [List.any_append, show (xs.take j).any (stmEq x) = false from HP.out]
          have : stmEq x y = false := by
            cases h : stmEq x y with
            | false => rfl
            | true => exact absurd (stmEq_iff.1 h) hxy
          simp [this]
        have hne := stm_ne hxy
        clear hxy HP Hy
        rcases hne with h0 | ⟨h0, h1 | ⟨h1, h2 | ⟨h2, h3 | ⟨h3, h4 | ⟨h4, h5 | ⟨h5, h6 | ⟨h6, h7⟩⟩⟩⟩⟩⟩⟩
        all_goals
          go_wp2_with fail
          go_quiet (fail)
          go_wp2_with fail
          go_roundw
          case rel => exact ⟨j + 1, by omega, by go_num, HE, T.below (below_drewN _ _ _)⟩
          case measure => simp [intOf]; omega
    · have HG : Hid (hasS xs x = false) := by
        have h1 := HP.out
        rw [List.take_of_length_le (by have := Hn.out; omega)] at h1
        exact h1
      go_wp2_with fail
      go_ret
      exact ⟨⟨-1, rfl, by rw [HG.out]; simp⟩, T.b⟩
end Go.Proofs.YthmkphmciiiagaaGreatDoor

/- slices.Concat of two lists of statements: the slice is the call's own. slices.SortFunc and slices.Contains of statements. -/
namespace Go.Proofs.YthmkphmciiiagaaGreatDoor
open Go Go.RowKit Go.Sort Go.Shelf
def GivesOwnS (l : List Stm) (w : World) (e : Ending) (w' : World) : Prop := ∃ v, e = .returned v ∧ Mem w w' [.own rStm w.heap.size 38 v l]
set_option maxHeartbeats 4000000 in
set_option maxRecDepth 100000 in
theorem concatO_any (X : Nat) (A1 A2 : Option Addr) (l1 l2 : List Stm) (c1 c2 : Nat) (w : World) (hX : LV w X #[.slice A1 l1.length c1, .slice A2 l2.length c2] 27) (h1 : Sl rStm (fun _ => False) w A1 l1) (h2 : Sl rStm (fun _ => False) w A2 l2) (hl1 : l1.length ≤ 1000) (hl2 : l2.length ≤ 1000) :
    Calls Tryz.prog 62 #[.slice (some ⟨X, 0, none⟩) 2 2] w (GivesOwnS (l1 ++ l2) w) := by
  obtain ⟨n1, hn1⟩ : ∃ n1, l1.length = n1 := ⟨_, rfl⟩
  obtain ⟨n2, hn2⟩ : ∃ n2, l2.length = n2 := ⟨_, rfl⟩
  rw [hn1] at hX hl1
  rw [hn2] at hX hl2
  have HX : Hid (∀ w', Below w.heap.size w w' → LV w' X #[.slice A1 n1 c1, .slice A2 n2 c2] 27) := fun w' h => (h.block X hX.lt).trans hX
  have H1 := Lib.hid (fun w' (h : Below w.heap.size w w') => h1.keepB h)
  have H2 := Lib.hid (fun w' (h : Below w.heap.size w w') => h2.keepB h)
  have c0 := hX.all
  clear hX h1 h2
  obtain ⟨n3, hn3⟩ : ∃ n3 : Nat, n3 = n1 + n2 := ⟨_, rfl⟩
  have Hn1 := Lib.hid hn1
  have Hn2 := Lib.hid hn2
  have hn31 : n3 ≤ 2000 := by omega
  have HG := Lib.hid (growS_any n3 (by omega) w)
  have hw1 : IntKind.i64.wrap (n1 : Int) = n1 := IntWalk.i64_in _ (by omega)
  have hw2 : IntKind.i64.wrap ((n1 : Int) + n2) = n3 := by rw [hn3]; exact IntWalk.i64_in _ (by omega)
  have hd1 : decide ((n1 : Int) < 0) = false := decide_eq_false (by omega)
  have hd3 : decide ((n3 : Int) < 0) = false := decide_eq_false (by omega)
  clear hn1 hn2 hn3
  go_enter Tryz.func62, Tryz.ntmps62
  go_wp2_with fail
  go_loopw [3, 11] (fun a i wr => ∃ j : Nat, j ≤ 2 ∧ i = .int .i64 j ∧ a = .int .i64 (sum2 n1 n3 j) ∧ w = wr) (fun _ i _ => 2 - (intOf i).toNat)
  case atStart => exact ⟨0, by omega, rfl, rfl, rfl⟩
  case round =>
    obtain ⟨j, hj, rfl, rfl, rfl⟩ := hrel
    rcases (by omega : j = 0 ∨ j = 1 ∨ j = 2) with rfl | rfl | rfl
    · simp only [sum2]
      go_wp2_with fail
      go_roundw
      case rel => exact ⟨1, by omega, by go_num, rfl, trivial⟩
      case measure => simp [intOf]
    · simp only [sum2]
      go_wp2_with fail
      go_roundw
      case rel => exact ⟨2, by omega, by go_num, rfl, trivial⟩
      case measure => simp [intOf]
    · simp only [sum2]
      clear c0
      go_wp2_with fail
      ((with_reducible refine (HG.out).mono ?_); rintro e w2 ⟨v, rfl, S⟩)
      clear HG
      go_wp2_with fail
      go_loopw [6, 27] (fun v i wr => ∃ j : Nat, j ≤ 2 ∧ i = .int .i64 j ∧ Mem w wr [.own rStm w.heap.size 38 v (app2 l1 l2 j)]) (fun _ i _ => 2 - (intOf i).toNat)
      case atStart => exact ⟨0, by omega, rfl, S⟩
      case round =>
        clear S
        obtain ⟨j, hj, rfl, S⟩ := hrel
        have c0 := (HX.out wr S.b).all
        have hsz := S.b.size
        rcases (by omega : j = 0 ∨ j = 1 ∨ j = 2) with rfl | rfl | rfl
        · have HS := Lib.hid S
          clear S
          cases A1 with
          | none =>
            obtain rfl := sl_none (H1.out wr HS.out.b)
            obtain rfl : n1 = 0 := Hn1.out.symm
            rcases (HS.out.ow 0 rfl).shape2 with ⟨rfl, _⟩ | ⟨g, cap, rfl, _⟩
            · go_wp2_with fail
              go_roundw
              case rel => exact ⟨1, by omega, by go_num, HS.out⟩
              case measure => simp [intOf]
            · simp only [app2, List.length_nil]
              go_wp2_with fail
              go_roundw
              case rel => exact ⟨1, by omega, by go_num, HS.out⟩
              case measure => simp [intOf]
          | some ad =>
            have Hc := Lib.hid (cells_sl (H1.out wr HS.out.b))
            go_wp2_with (at_builtin; refine HS.out.appN flatStm 0 rfl tyStmS rfl _ _ rfl l1 n1 c1 Hn1.out.symm rfl ad rfl Hc.out (fun y _ => oneStmS y) (fun _ => rfl) hsz (by simp only [app2, List.length_nil]; rw [Hn1.out]; omega) (by decide) ?_; intro v5 w5 S5)
            go_roundw
            case rel => exact ⟨1, by omega, by go_num, S5⟩
            case measure => simp [intOf]
        · have HS := Lib.hid S
          clear S
          cases A2 with
          | none =>
            obtain rfl := sl_none (H2.out wr HS.out.b)
            obtain rfl : n2 = 0 := Hn2.out.symm
            have HS1 : Hid (∀ {v : Value}, Mem w wr [.own rStm w.heap.size 38 v (app2 l1 [] 1)] → Mem w wr [.own rStm w.heap.size 38 v (app2 l1 [] 2)]) := fun {v} h => by rw [show app2 l1 [] 2 = app2 l1 [] 1 by simp [app2]]; exact h
            rcases (HS.out.ow 0 rfl).shape2 with ⟨hv, _⟩ | ⟨g, cap, hv, hc⟩
            · subst hv
              go_wp2_with fail
              go_roundw
              case rel => exact ⟨2, by omega, by go_num, HS1.out HS.out⟩
              case measure => simp [intOf]
            · rw [show (app2 l1 [] 1).length = n1 from Hn1.out] at hv hc
              subst hv
              go_wp2_with fail
              go_roundw
              case rel => exact ⟨2, by omega, by go_num, HS1.out HS.out⟩
              case measure => simp [intOf]
          | some ad =>
            have Hc := Lib.hid (cells_sl (H2.out wr HS.out.b))
            go_wp2_with (at_builtin; refine HS.out.appN flatStm 0 rfl tyStmS rfl _ _ rfl l2 n2 c2 Hn2.out.symm rfl ad rfl Hc.out (fun y _ => oneStmS y) (fun _ => rfl) hsz (by simp only [app2]; rw [Hn1.out, Hn2.out]; omega) (by decide) ?_; intro v5 w5 S5)
            go_roundw
            case rel => exact ⟨2, by omega, by go_num, S5⟩
            case measure => simp [intOf]
        · go_wp2_with fail
          go_ret
          exact ⟨_, rfl, S⟩
theorem idxNilStm_any (x : Stm) (w : World) : Calls Tryz.prog 184 #[.slice none 0 0, .agg (stmCs x)] w fun e w' => e = .returned (.int .i64 (-1)) ∧ Below w.heap.size w w' := by
  have T := (Mem.start w).new' (stmCs x) 38
  go_enter Tryz.func184, Tryz.ntmps184
  go_wp2_with fail
  generalize w.alloc (.cells (stmCs x) 38) = w1 at *
  go_loopw [8] (fun i wr => i = .int .i64 0 ∧ w1 = wr) (fun _ _ => 0)
  case atStart => exact ⟨rfl, rfl⟩
  case round =>
    obtain ⟨rfl, rfl⟩ := hrel
    go_wp2_with fail
    go_ret
    exact ⟨rfl, T.b⟩
theorem containsStm_any {w0 w : World} {cs : List Chunk} {B : Nat} {v : Value} {xs : List Stm} (S : Mem w0 w (.own rStm B 38 v xs :: cs)) (x : Stm) (hl : xs.length ≤ 1000000) :
    Calls Tryz.prog 96 #[v, .agg (stmCs x)] w fun e w' => e = .returned (.bool (hasS xs x)) ∧ Below w.heap.size w w' := by
  have T := (Mem.start w).new' (stmCs x) 38
  replace T : Mem w (w.alloc (.cells (stmCs x) 38)) [.loc w.heap.size (stmCs x) 38] := T
  obtain ⟨A, c, rfl⟩ := (S.ow 0 rfl).len
  have Hix : Hid (∀ w', Below w.heap.size w w' → Calls Tryz.prog 184 #[.slice A xs.length c, .agg (stmCs x)] w' fun e w'' => (∃ i : Int, e = .returned (.int .i64 i) ∧ (0 ≤ i ↔ hasS xs x = true)) ∧ Below w'.heap.size w' w'') := fun w' h => by
    have S' := S.below h
    rcases (S'.ow 0 rfl).shape2 with ⟨e, e2⟩ | ⟨g, cap, e, _⟩
    · rw [e]
      refine (idxNilStm_any x w').mono ?_
      rintro e w'' ⟨rfl, hb⟩
      exact ⟨⟨-1, rfl, by rw [e2]; simp [hasS]⟩, hb⟩
    · simp only [Value.slice.injEq] at e
      obtain ⟨rfl, _, rfl⟩ := e
      exact idxStm_any S' x rfl hl
  obtain ⟨bb, hbb⟩ : ∃ bb, hasS xs x = bb := ⟨_, rfl⟩
  rw [hbb] at Hix ⊢
  clear S hbb
  go_enter Tryz.func96, Tryz.ntmps96
  go_upto_region 1 with fail
  generalize w.alloc (.cells (stmCs x) 38) = w1 at *
  have c0 := (T.lv 0 rfl).all
  go_wp2_with fail
  ((with_reducible refine (Hix.out w1 T.b).mono ?_); rintro e w2 ⟨⟨i, rfl, hi⟩, hl2⟩)
  have Hi := Lib.hid hi
  clear hi
  go_wp2_with fail
  go_ret
  refine ⟨ret_b ?_, (T.below hl2).b⟩
  rw [Bool.eq_iff_iff, ← Hi.out]
  simp
theorem sortP_any {w0 w : World} {cs : List Chunk} (S : Mem w0 w cs) (i : Nat) {B : Nat} {v : Value} {xs : List Stm} (hi : cs[i]? = some (.own rStm B 38 v xs)) (hl : xs.length ≤ 1000000) :
    Calls Tryz.prog 90 #[v, .func (.func 91) #[] #[]] w (GivesSorted rStm ordP w0 cs i B 38 v xs) :=
  haveI : Inhabited Stm := ⟨stmZ⟩
  sortFn_own flatStm (by decide) (fun _ => rfl) oneStmS Tryz.laysSf90 Tryz.isAgg38 Tryz.sizeOf38 (fun _ => True) ordP ordP ordP_ok (fun _ _ => Iff.rfl) 91 (enters_of Tryz.func91 (by kernel_rfl) rfl) (fun a b _ _ w => ordP_any a b w) S i hi (fun _ _ => trivial) hl
theorem sortR_any {w0 w : World} {cs : List Chunk} (S : Mem w0 w cs) (i : Nat) {B : Nat} {v : Value} {xs : List Stm} (hi : cs[i]? = some (.own rStm B 38 v xs)) (hP : ∀ x ∈ xs, StmB x) (hl : xs.length ≤ 1000000) :
    Calls Tryz.prog 90 #[v, .func (.func 97) #[] #[]] w (GivesSorted rStm ordP w0 cs i B 38 v xs) :=
  haveI : Inhabited Stm := ⟨stmZ⟩
  sortFn_own flatStm (by decide) (fun _ => rfl) oneStmS Tryz.laysSf90 Tryz.isAgg38 Tryz.sizeOf38 StmB ordR ordP ordP_ok ordR_neg 97 (enters_of Tryz.func97 (by kernel_rfl) rfl) (fun a b ha hb w => ordR_any a b ha hb w) S i hi hP hl
end Go.Proofs.YthmkphmciiiagaaGreatDoor

/- Right statements hold small numbers. -/
namespace Go.Proofs.YthmkphmciiiagaaGreatDoor
open Go Go.RowKit Go.Sort Go.Shelf
theorem stmsGo_cut {p : List Purp} {prev : Option Stm} {x : Stm} {r : List Stm} (h : stmsGo p prev (x :: r) = 0) : stmF p prev x = 0 ∧ stmsGo p (some x) r = 0 := by
  rw [stmsGo] at h
  split at h
  · rename_i h1; exact absurd h h1
  · rename_i h1; exact ⟨Decidable.not_not.1 h1, h⟩
theorem stmF_B {p : List Purp} {prev : Option Stm} {s : Stm} (h : stmF p prev s = 0) : StmB s := by
  have h1 := (stmF_ok h).2.2.1
  unfold stmF stmE at h
  split at h
  · cases h
  · split at h
    · cases h
    · split at h
      · cases h
      · split at h
        · rename_i h4; exact absurd h h4
        · split at h
          · cases h
          · rename_i h5
            split at h
            · cases h
            · rename_i h6
              have h7 : isCh s.channel = true := by simpa using h5
              have h8 : (1 ≤ s.what ∧ s.what ≤ 5) := by simpa using h6
              unfold isCh at h7
              have h9 := of_decide_eq_true h7
              exact ⟨h1, by omega, by omega⟩
theorem stmsGo_B {p : List Purp} : ∀ (l : List Stm) (prev : Option Stm), stmsGo p prev l = 0 → ∀ s ∈ l, StmB s
  | [], _, _, s, h => by cases h
  | x :: r, prev, h, s, hs => by
    obtain ⟨h1, h2⟩ := stmsGo_cut h
    rcases List.mem_cons.1 hs with rfl | hs
    · exact stmF_B h1
    · exact stmsGo_B r (some x) h2 s hs
theorem stms_B {p : List Purp} {l : List Stm} (h : stmsFault p l = 0) : ∀ s ∈ l, StmB s := by
  unfold stmsFault at h
  split at h
  · rename_i h1; exact absurd h h1
  · split at h
    · cases h
    · exact stmsGo_B l none h
end Go.Proofs.YthmkphmciiiagaaGreatDoor

/- Expiries: how consent.expiryOrder and the order in handref2.ExpiringOf order them. -/
namespace Go.Proofs.YthmkphmciiiagaaGreatDoor
open Go Go.RowKit Go.Sort Go.Shelf
/-- when a grant of an id ends -/
structure Xpy where
  at' : Int
  kind : Int
  text : ByteArray
  purpose : ByteArray
  channel : Int
def Xpy.cells (e : Xpy) : List Value := [.int .i64 e.at', .int .i64 e.kind, .string e.text, .string e.purpose, .int .i64 e.channel]
abbrev xCs (e : Xpy) : Array Value := #[.int .i64 e.at', .int .i64 e.kind, .string e.text, .string e.purpose, .int .i64 e.channel]
def rXpy : Rep Xpy := .flat 5 Xpy.cells (fun _ => rfl)
theorem flatXpy : rXpy.Flat Xpy.cells := fun _ _ _ _ => Iff.rfl
theorem oneXpy (t : Xpy) : ∀ u ∈ t.cells, u.oneCell' = true := fun u hu => by
  simp only [Xpy.cells, List.mem_cons, List.not_mem_nil, or_false] at hu
  rcases hu with rfl | rfl | rfl | rfl | rfl <;> rfl
def xordP (a b : Xpy) : Int := firstErr [Lib.compareInt a.at' b.at', idCmp a.kind a.text b.kind b.text, cmpS a.purpose b.purpose, Lib.compareInt a.channel b.channel]
theorem xordP_lex : xordP = lexC (fun a b => Lib.compareInt a.at' b.at') (lexC (lexC (fun a b => Lib.compareInt a.kind b.kind) (fun a b => cmpS a.text b.text)) (lexC (fun a b => cmpS a.purpose b.purpose) (fun a b => Lib.compareInt a.channel b.channel))) := by
  funext a b
  unfold xordP
  rw [firstErr, firstErr, firstErr, firstErr1, idCmp_lex]
  rfl
theorem xordP_ok : CmpOk xordP := by
  rw [xordP_lex]
  exact (cmpOkI.of Xpy.at').lex (((cmpOkI.of Xpy.kind).lex (cmpOkS.of Xpy.text)).lex ((cmpOkS.of Xpy.purpose).lex (cmpOkI.of Xpy.channel)))
theorem xordP_eq {a b : Xpy} (h : xordP a b = 0) : a = b := by
  rw [xordP_lex] at h
  obtain ⟨h1, h⟩ := lexC_zero h
  obtain ⟨h2, h⟩ := lexC_zero h
  obtain ⟨h2, h3⟩ := lexC_zero h2
  obtain ⟨h4, h5⟩ := lexC_zero h
  obtain ⟨a1, k1, t1, p1, c1⟩ := a
  obtain ⟨a2, k2, t2, p2, c2⟩ := b
  obtain rfl : a1 = a2 := compareInt_zero h1
  obtain rfl : k1 = k2 := compareInt_zero h2
  obtain rfl : t1 = t2 := (cmpS_zero _ _).1 h3
  obtain rfl : p1 = p2 := (cmpS_zero _ _).1 h4
  obtain rfl : c1 = c2 := compareInt_zero h5
  rfl
def TwoX (X Y : Nat) (a b : Xpy) (w : World) : Prop := LV w X (xCs a) 87 ∧ LV w Y (xCs b) 87
theorem TwoX.grew {X Y : Nat} {a b : Xpy} {w w' : World} (h : TwoX X Y a b w) (k : Grew w w') : TwoX X Y a b w' := ⟨LV.kb3 h.1 k.below h.1.lt, LV.kb3 h.2 k.below h.2.lt⟩
theorem loadIdX {w : World} {X : Nat} {s : Xpy} (h : LV w X (xCs s) 87) : (Instr.loadAt 29 (.pointer (some ⟨X, 1, none⟩))).run Tryz.prog w = .ok (.agg #[.int .i64 s.kind, .string s.text]) w := by
  have c := h.all
  go_simp
set_option maxHeartbeats 4000000 in
set_option maxRecDepth 100000 in
theorem xordP_any (a b : Xpy) (w : World) :
    Calls Tryz.prog 118 #[.agg (xCs a), .agg (xCs b)] w fun e w' => e = .returned (.int .i64 (xordP a b)) ∧ Grew w w' := by
  obtain ⟨R, HR⟩ : ∃ R, Hid (xordP a b = R) := ⟨_, Lib.hid rfl⟩
  rw [HR.out]
  have hC0 : TwoX w.heap.size (w.heap.size + 1) a b ((w.alloc (.cells (xCs a) 87)).alloc (.cells (xCs b) 87)) :=
    ⟨(LV.new w w.heap.size (xCs a) 87 rfl).alloc _, LV.new (w.alloc (.cells (xCs a) 87)) (w.heap.size + 1) (xCs b) 87 (by simp)⟩
  have Hb0 : Hid (Grew w ((w.alloc (.cells (xCs a) 87)).alloc (.cells (xCs b) 87))) := ((Grew.refl _).alloc _).alloc _
  go_enter Tryz.func118, Tryz.ntmps118
  go_wp2_with fail
  generalize (w.alloc (.cells (xCs a) 87)).alloc (.cells (xCs b) 87) = w1 at *
  refine wp_region_mixG 23 (TwoX w.heap.size (w.heap.size + 1) a b) [.q 0, .q 1, .q 2, .q 3, .q 5, .q 6, .q 7, .q 8, .q 10, .q 11, .q 12, .q 13, .q 15, .q 16, .q 17, .q 18, .e 4, .e 9, .e 14, .e 19, .e 20, .e 21, .q 22] (by kernel_rfl) (by kernel_rfl) (fun w' hd => hC0.grew ((Grew.refl _).ofDrewn hd)) (fun KK hKK wd hd => ?_)
  have hC : TwoX w.heap.size (w.heap.size + 1) a b wd := hC0.grew ((Grew.refl _).ofDrewn hd)
  have Hbd : Hid (Grew w wd) := Hb0.out.ofDrewn hd
  clear hd hC0 Hb0
  repeat (refine mixG_p rfl (fun K hK => ?_); go_simp; (try go_bits); (try simp (disch := omega) only [if_pos]); (try simp (disch := omega) only [if_neg]); (try simp (disch := omega) only [dif_pos]); (try simp (disch := omega) only [dif_neg]); (try go_simp); (refine hK _ ?_; clear hK K))
  refine mixG_load (.int .i64 a.at') rfl rfl rfl rfl (fun _ => rfl) (fun w' h => h.1.cell 0 _ rfl) ?_
  repeat (refine mixG_p rfl (fun K hK => ?_); go_simp; (try go_bits); (try simp (disch := omega) only [if_pos]); (try simp (disch := omega) only [if_neg]); (try simp (disch := omega) only [dif_pos]); (try simp (disch := omega) only [dif_neg]); (try go_simp); (refine hK _ ?_; clear hK K))
  refine mixG_load (.int .i64 b.at') rfl rfl rfl rfl (fun _ => rfl) (fun w' h => h.2.cell 0 _ rfl) ?_
  repeat (refine mixG_p rfl (fun K hK => ?_); go_simp; (try go_bits); (try simp (disch := omega) only [if_pos]); (try simp (disch := omega) only [if_neg]); (try simp (disch := omega) only [dif_pos]); (try simp (disch := omega) only [dif_neg]); (try go_simp); (refine hK _ ?_; clear hK K))
  refine mixG_loadR (.agg #[.int .i64 a.kind, .string a.text]) rfl rfl rfl rfl (fun w' h => loadIdX h.1) ?_
  repeat (refine mixG_p rfl (fun K hK => ?_); go_simp; (try go_bits); (try simp (disch := omega) only [if_pos]); (try simp (disch := omega) only [if_neg]); (try simp (disch := omega) only [dif_pos]); (try simp (disch := omega) only [dif_neg]); (try go_simp); (refine hK _ ?_; clear hK K))
  refine mixG_loadR (.agg #[.int .i64 b.kind, .string b.text]) rfl rfl rfl rfl (fun w' h => loadIdX h.2) ?_
  repeat (refine mixG_p rfl (fun K hK => ?_); go_simp; (try go_bits); (try simp (disch := omega) only [if_pos]); (try simp (disch := omega) only [if_neg]); (try simp (disch := omega) only [dif_pos]); (try simp (disch := omega) only [dif_neg]); (try go_simp); (refine hK _ ?_; clear hK K))
  refine mixG_load (.string a.purpose) rfl rfl rfl rfl (fun _ => rfl) (fun w' h => h.1.cell 3 _ rfl) ?_
  repeat (refine mixG_p rfl (fun K hK => ?_); go_simp; (try go_bits); (try simp (disch := omega) only [if_pos]); (try simp (disch := omega) only [if_neg]); (try simp (disch := omega) only [dif_pos]); (try simp (disch := omega) only [dif_neg]); (try go_simp); (refine hK _ ?_; clear hK K))
  refine mixG_load (.string b.purpose) rfl rfl rfl rfl (fun _ => rfl) (fun w' h => h.2.cell 3 _ rfl) ?_
  repeat (refine mixG_p rfl (fun K hK => ?_); go_simp; (try go_bits); (try simp (disch := omega) only [if_pos]); (try simp (disch := omega) only [if_neg]); (try simp (disch := omega) only [dif_pos]); (try simp (disch := omega) only [dif_neg]); (try go_simp); (refine hK _ ?_; clear hK K))
  refine mixG_load (.int .i64 a.channel) rfl rfl rfl rfl (fun _ => rfl) (fun w' h => h.1.cell 4 _ rfl) ?_
  repeat (refine mixG_p rfl (fun K hK => ?_); go_simp; (try go_bits); (try simp (disch := omega) only [if_pos]); (try simp (disch := omega) only [if_neg]); (try simp (disch := omega) only [dif_pos]); (try simp (disch := omega) only [dif_neg]); (try go_simp); (refine hK _ ?_; clear hK K))
  refine mixG_load (.int .i64 b.channel) rfl rfl rfl rfl (fun _ => rfl) (fun w' h => h.2.cell 4 _ rfl) ?_
  refine mixG_l rfl rfl (fun K hK => ?_)
  go_wp2_with fail
  ((with_reducible refine (cmpInt_any _ _ _).mono ?_); rintro e _ ⟨rfl, rfl⟩)
  go_wp2_with fail
  refine ⟨fun _ => hC, ?_⟩
  refine mixG_l rfl rfl (fun K hK => ?_)
  go_wp2_with fail
  ((with_reducible refine (compareIdsG_any _ _ _ _ _).mono ?_); rintro e w3 ⟨rfl, hg⟩)
  replace hC := hC.grew hg
  have Hb3 : Hid (Grew w w3) := Hbd.out.trans hg
  clear hg Hbd
  go_wp2_with fail
  refine ⟨fun _ => hC, ?_⟩
  refine mixG_l rfl rfl (fun K hK => ?_)
  go_wp2_with fail
  ((with_reducible refine (compareS_any _ _ _).mono ?_); rintro e _ ⟨rfl, rfl⟩)
  go_wp2_with fail
  refine ⟨fun _ => hC, ?_⟩
  refine mixG_l rfl rfl (fun K hK => ?_)
  go_wp2_with fail
  ((with_reducible refine (cmpInt_any _ _ _).mono ?_); rintro e _ ⟨rfl, rfl⟩)
  go_wp2_with fail
  refine ⟨fun _ => hC, ?_⟩
  refine mixG_l rfl rfl (fun K hK => ?_)
  go_wp2_with fail
  have hC2 := hC.grew ((Grew.refl _).alloc (.cells #[.int .i64 (Lib.compareInt a.at' b.at'), .int .i64 (idCmp a.kind a.text b.kind b.text), .int .i64 (cmpS a.purpose b.purpose), .int .i64 (Lib.compareInt a.channel b.channel)] 3))
  refine ⟨fun _ => hC2, ?_⟩
  have Hor := Lib.hid (orN_any w3.heap.size [Lib.compareInt a.at' b.at', idCmp a.kind a.text b.kind b.text, cmpS a.purpose b.purpose, Lib.compareInt a.channel b.channel] _ (LV.new w3 w3.heap.size _ 3 rfl) (by simp))
  rw [show firstErr [Lib.compareInt a.at' b.at', idCmp a.kind a.text b.kind b.text, cmpS a.purpose b.purpose, Lib.compareInt a.channel b.channel] = R from HR.out] at Hor
  simp only [List.length_cons, List.length_nil, List.map_cons, List.map_nil, Nat.zero_add, Nat.reduceAdd] at Hor
  refine mixG_l rfl rfl (fun K hK => ?_)
  go_wp2_with fail
  ((with_reducible refine (Hor.out).mono ?_); rintro e _ ⟨rfl, rfl⟩)
  go_wp2_with fail
  refine ⟨fun _ => hC2, ?_⟩
  repeat (refine mixG_p rfl (fun K hK => ?_); go_simp; (try go_bits); (try simp (disch := omega) only [if_pos]); (try simp (disch := omega) only [if_neg]); (try simp (disch := omega) only [dif_pos]); (try simp (disch := omega) only [dif_neg]); (try go_simp); (refine hK _ ?_; clear hK K))
  refine mixG_nil ?_
  simp only [Exit.then]
  refine hKK _ _ ?_
  go_wp2_with fail
  go_ret
  exact ⟨rfl, Hb3.out.alloc _⟩
/-- an expiry of small numbers -/
structure XpyB (s : Xpy) : Prop where
  at' : 0 ≤ s.at' ∧ s.at' ≤ 4321439
  ch : 0 ≤ s.channel ∧ s.channel ≤ 100
def xordR (a b : Xpy) : Int :=
  if a.at' ≠ b.at' then a.at' - b.at' else if ¬ (a.kind = b.kind ∧ a.text = b.text) then idCmp a.kind a.text b.kind b.text else if a.purpose ≠ b.purpose then cmpS a.purpose b.purpose
  else a.channel - b.channel
theorem xordR_neg (a b : Xpy) : xordR a b < 0 ↔ xordP a b < 0 := by
  have h1 := cmpI_sub a.at' b.at'
  have h2 := @idCmp_zero a.kind b.kind a.text b.text
  have h3 := cmpS_zero a.purpose b.purpose
  have h4 := cmpI_sub a.channel b.channel
  unfold xordR xordP
  rw [firstErr, firstErr, firstErr, firstErr1]
  exact step_neg h1.2 h1.1 (step_neg h2 Iff.rfl (step_neg h3 Iff.rfl h4.1.symm))
set_option maxHeartbeats 4000000 in
set_option maxRecDepth 100000 in
theorem xordR_any (a b : Xpy) (ha : XpyB a) (hb : XpyB b) (w : World) :
    Calls Tryz.prog 121 #[.agg (xCs a), .agg (xCs b)] w fun e w' => e = .returned (.int .i64 (xordR a b)) ∧ Grew w w' := by
  obtain ⟨R, HR⟩ : ∃ R, Hid (xordR a b = R) := ⟨_, Lib.hid rfl⟩
  rw [HR.out]
  have hC0 : TwoX w.heap.size (w.heap.size + 1) a b ((w.alloc (.cells (xCs a) 87)).alloc (.cells (xCs b) 87)) :=
    ⟨(LV.new w w.heap.size (xCs a) 87 rfl).alloc _, LV.new (w.alloc (.cells (xCs a) 87)) (w.heap.size + 1) (xCs b) 87 (by simp)⟩
  have Hb0 : Hid (Grew w ((w.alloc (.cells (xCs a) 87)).alloc (.cells (xCs b) 87))) := ((Grew.refl _).alloc _).alloc _
  have HA := Lib.hid ha
  have HB := Lib.hid hb
  clear ha hb
  go_enter Tryz.func121, Tryz.ntmps121
  go_upto_region 1 with fail
  generalize (w.alloc (.cells (xCs a) 87)).alloc (.cells (xCs b) 87) = w1 at *
  have c0 := hC0.1.all
  have c1 := hC0.2.all
  clear hC0
  obtain ⟨a1, k1, t1, p1, ch1⟩ := a
  obtain ⟨a2, k2, t2, p2, ch2⟩ := b
  obtain ⟨hat1, hch1⟩ := HA.out
  obtain ⟨hat2, hch2⟩ := HB.out
  dsimp only [xordR] at *
  by_cases e1 : a1 = a2
  · have b1 : (a1 != a2) = false := by simpa using e1
    have HR1 : Hid ((if ¬ (k1 = k2 ∧ t1 = t2) then idCmp k1 t1 k2 t2 else if p1 ≠ p2 then cmpS p1 p2 else ch1 - ch2) = R) := Eq.trans (Eq.symm (if_neg (by simpa using e1))) HR.out
    clear e1 HR
    by_cases e2 : k1 = k2 ∧ t1 = t2
    · obtain ⟨rfl, rfl⟩ := e2
      have HR2 : Hid ((if p1 ≠ p2 then cmpS p1 p2 else ch1 - ch2) = R) := Eq.trans (Eq.symm (if_neg (by simp))) HR1.out
      clear HR1
      by_cases e3 : p1 = p2
      · subst e3
        obtain rfl : ch1 - ch2 = R := Eq.trans (Eq.symm (if_neg (by simp))) HR2.out
        clear HR2
        go_wp2_with fail
        go_ret
        exact ⟨rfl, Hb0.out⟩
      · have b3 := bytesNe e3
        have HR3 : Hid (cmpS p1 p2 = R) := Eq.trans (Eq.symm (if_pos e3)) HR2.out
        clear HR2 e3
        go_wp2_with fail
        ((with_reducible refine (strCmp_any _ _ _).mono ?_); rintro e _ ⟨rfl, rfl⟩)
        rw [HR3.out]
        go_wp2_with fail
        go_ret
        exact ⟨rfl, Hb0.out⟩
    · have HR2 : Hid (idCmp k1 t1 k2 t2 = R) := Eq.trans (Eq.symm (if_pos e2)) HR1.out
      have Hor := Lib.hid (fun w => HR2.out ▸ orderG_any k1 k2 t1 t2 w)
      clear HR1 HR2
      by_cases ek : k1 = k2
      · subst ek
        have b2 := bytesNe (fun e => e2 ⟨rfl, e⟩)
        clear e2
        go_wp2_with fail
        ((with_reducible refine (Hor.out _).mono ?_); rintro e w2 ⟨rfl, hg⟩)
        go_wp2_with fail
        go_ret
        exact ⟨rfl, Hb0.out.trans hg⟩
      · have b2 : (k1 == k2) = false := by simpa using ek
        clear e2 ek
        go_wp2_with fail
        ((with_reducible refine (Hor.out _).mono ?_); rintro e w2 ⟨rfl, hg⟩)
        go_wp2_with fail
        go_ret
        exact ⟨rfl, Hb0.out.trans hg⟩
  · have b1 : (a1 != a2) = true := by simpa using e1
    obtain rfl : a1 - a2 = R := Eq.trans (Eq.symm (if_pos e1)) HR.out
    clear e1 HR
    go_wp2_with fail
    go_ret
    exact ⟨rfl, Hb0.out⟩
theorem sortX_any {w0 w : World} {cs : List Chunk} (S : Mem w0 w cs) (i : Nat) {B : Nat} {v : Value} {xs : List Xpy} (hi : cs[i]? = some (.own rXpy B 87 v xs)) (hl : xs.length ≤ 1000000) :
    Calls Tryz.prog 117 #[v, .func (.func 118) #[] #[]] w (GivesSorted rXpy xordP w0 cs i B 87 v xs) :=
  haveI : Inhabited Xpy := ⟨⟨0, 0, ⟨#[]⟩, ⟨#[]⟩, 0⟩⟩
  sortFn_own flatXpy (by decide) (fun _ => rfl) oneXpy Tryz.laysSf117 Tryz.isAgg87 Tryz.sizeOf87 (fun _ => True) xordP xordP xordP_ok (fun _ _ => Iff.rfl) 118 (enters_of Tryz.func118 (by kernel_rfl) rfl) (fun a b _ _ w => xordP_any a b w) S i hi (fun _ _ => trivial) hl
theorem sortXR_any {w0 w : World} {cs : List Chunk} (S : Mem w0 w cs) (i : Nat) {B : Nat} {v : Value} {xs : List Xpy} (hi : cs[i]? = some (.own rXpy B 87 v xs)) (hP : ∀ x ∈ xs, XpyB x) (hl : xs.length ≤ 1000000) :
    Calls Tryz.prog 117 #[v, .func (.func 121) #[] #[]] w (GivesSorted rXpy xordP w0 cs i B 87 v xs) :=
  haveI : Inhabited Xpy := ⟨⟨0, 0, ⟨#[]⟩, ⟨#[]⟩, 0⟩⟩
  sortFn_own flatXpy (by decide) (fun _ => rfl) oneXpy Tryz.laysSf117 Tryz.isAgg87 Tryz.sizeOf87 XpyB xordR xordP xordP_ok xordR_neg 121 (enters_of Tryz.func121 (by kernel_rfl) rfl) (fun a b ha hb w => xordR_any a b ha hb w) S i hi hP hl
end Go.Proofs.YthmkphmciiiagaaGreatDoor

/- The moments of the program and those of the reference hold all turns of an answer. -/
namespace Go.Proofs.YthmkphmciiiagaaGreatDoor
open Go.RowKit
/-- the moments that one statement brings, as the reference says it -/
def turnS (tm : PTerm) (k : Int) (t : ByteArray) (ch : Int) (s : Stm) : List Int := if ofB k t ch s = true then s.at' :: (s.at' + tm.wait + 1) :: (if 0 < tm.days then [s.at' + tm.days * 1440] else []) else []
def rawR (tm : PTerm) (k : Int) (t : ByteArray) (ch : Int) (l : List Stm) : List Int := 0 :: l.flatMap (turnS tm k t ch)
theorem said_of {k : Int} {t : ByteArray} {ch : Int} {l U : List Stm} (ho : U.Pairwise ahead) (hm : ∀ s, s ∈ U ↔ s ∈ l ∧ ofB k t ch s = true) (at' : Int) : IsSaid k t ch at' l (upS at' U) where
  ord := ho.filter _
  mem := fun s => by rw [upS, List.mem_filter, hm]; simp [and_assoc]
theorem turn_mom {o : Option PTerm} {k : Int} {t : ByteArray} {ch : Int} {pu : ByteArray} {l U : List Stm} (ho : U.Pairwise ahead) (hU : ∀ s, s ∈ U ↔ s ∈ l ∧ ofB k t ch s = true) (h0 : ∀ s ∈ l, 0 ≤ s.at') (hw : ∀ s ∈ l, whole s.what = true → (s.purpose.toList == []) = true) (hd : ∀ t, o = some t → 0 ≤ t.days) {m : Int} (h : askR o k t ch m pu l ≠ askR o k t ch (m - 1) pu l) : IsMom (o.getD tZero) pu U m := by
  refine Classical.byContradiction fun hn => h ?_
  rw [← ans_is (said_of ho hU m) h0 hw hd, ← ans_is (said_of ho hU (m - 1)) h0 hw hd]
  exact ansP_still hn
theorem momsP {o : Option PTerm} {k : Int} {t : ByteArray} {ch : Int} {pu : ByteArray} {l U : List Stm} (ho : U.Pairwise ahead) (hU : ∀ s, s ∈ U ↔ s ∈ l ∧ ofB k t ch s = true) (h0 : ∀ s ∈ l, 0 ≤ s.at') (hw : ∀ s ∈ l, whole s.what = true → (s.purpose.toList == []) = true) (hd : ∀ t, o = some t → 0 ≤ t.days) (hdw : 0 ≤ (o.getD tZero).days ∧ 0 ≤ (o.getD tZero).wait) : Moms (fun m => askR o k t ch m pu l) (momL (rawP (o.getD tZero) pu U)) where
  ord := momL_ord _
  lo := fun m hm => by
    obtain ⟨s, hs, hm⟩ := List.mem_flatMap.1 ((momL_mem _ m).1 hm).1
    have := h0 s ((hU s).1 hs).1
    unfold momS at hm
    rcases List.mem_cons.1 hm with rfl | hm
    · exact this
    · split at hm
      · simp only [List.mem_cons, List.not_mem_nil, or_false] at hm
        rcases hm with rfl | rfl <;> omega
      · cases hm
  hi := fun m hm => ((momL_mem _ m).1 hm).2
  all := fun m _ hm hne => by
    refine (momL_mem _ m).2 ⟨?_, hm⟩
    obtain ⟨s, hs, e⟩ := turn_mom ho hU h0 hw hd hne
    refine List.mem_flatMap.2 ⟨s, hs, ?_⟩
    unfold momS
    rcases e with rfl | ⟨hk, e⟩
    · simp
    · rw [if_pos hk]
      rcases e with rfl | ⟨_, rfl⟩ <;> simp
theorem momsR {o : Option PTerm} {k : Int} {t : ByteArray} {ch : Int} {pu : ByteArray} {l U : List Stm} (ho : U.Pairwise ahead) (hU : ∀ s, s ∈ U ↔ s ∈ l ∧ ofB k t ch s = true) (h0 : ∀ s ∈ l, 0 ≤ s.at') (hw : ∀ s ∈ l, whole s.what = true → (s.purpose.toList == []) = true) (hd : ∀ t, o = some t → 0 ≤ t.days) (hdw : 0 ≤ (o.getD tZero).days ∧ 0 ≤ (o.getD tZero).wait) : Moms (fun m => askR o k t ch m pu l) (momL (rawR (o.getD tZero) k t ch l)) where
  ord := momL_ord _
  lo := fun m hm => by
    rcases List.mem_cons.1 ((momL_mem _ m).1 hm).1 with rfl | hm
    · exact Int.le_refl _
    · obtain ⟨s, hs, hm⟩ := List.mem_flatMap.1 hm
      have := h0 s hs
      unfold turnS at hm
      split at hm
      · rcases List.mem_cons.1 hm with rfl | hm
        · exact this
        · rcases List.mem_cons.1 hm with rfl | hm
          · omega
          · split at hm
            · rw [List.mem_singleton.1 hm]; omega
            · cases hm
      · cases hm
  hi := fun m hm => ((momL_mem _ m).1 hm).2
  all := fun m _ hm hne => by
    refine (momL_mem _ m).2 ⟨List.mem_cons.2 (.inr ?_), hm⟩
    obtain ⟨s, hs, e⟩ := turn_mom ho hU h0 hw hd hne
    have hs2 := (hU s).1 hs
    refine List.mem_flatMap.2 ⟨s, hs2.1, ?_⟩
    unfold turnS
    rw [if_pos hs2.2]
    rcases e with rfl | ⟨_, rfl | ⟨hd0, rfl⟩⟩
    · simp
    · simp
    · rw [if_pos (by omega)]; simp
theorem isOf_ex (k : Int) (t : ByteArray) (ch : Int) {l : List Stm} (hn : l.Pairwise (fun a b => a.no < b.no)) (hr : ∀ s ∈ l, s.at' ≤ 4321439) : ∃ U : List Stm, U.Pairwise ahead ∧ ∀ s, s ∈ U ↔ s ∈ l ∧ ofB k t ch s = true := by
  obtain ⟨U, hU⟩ := isSaid_ex k t ch 4321439 hn
  exact ⟨U, hU.ord, fun s => by rw [hU.mem]; exact ⟨fun h => ⟨h.1, h.2.1⟩, fun h => ⟨h.1, h.2, hr s h.1⟩⟩⟩
/-- the first moment is 0 -/
theorem rawR_head (tm : PTerm) (k : Int) (t : ByteArray) (ch : Int) (l : List Stm) (h : ∀ m ∈ momL (rawR tm k t ch l), 0 ≤ m) : ∃ r, momL (rawR tm k t ch l) = 0 :: r := by
  have h0 : (0 : Int) ∈ momL (rawR tm k t ch l) := (momL_mem _ 0).2 ⟨by simp [rawR], by decide⟩
  have ho := momL_ord (rawR tm k t ch l)
  generalize momL (rawR tm k t ch l) = M at *
  cases M with
  | nil => cases h0
  | cons x r =>
    rcases List.mem_cons.1 h0 with rfl | h1
    · exact ⟨r, rfl⟩
    · have := (List.pairwise_cons.1 ho).1 0 h1
      have := h x (by simp)
      omega
/-- all periods, and the next moment: one for every list that holds all turns -/
def perAns (f : Int → Ans) (L : List Int) : List Per := pers (0, f 0) (steps f (f 0) L)
theorem perAns_same {f : Int → Ans} {L M : List Int} (h : Moms f L) (k : Moms f M) : perAns f L = perAns f M := by
  rw [perAns, perAns, h.steps, k.steps, h.same k]
theorem nextP_same {f : Int → Ans} {L M : List Int} (h : Moms f L) (k : Moms f M) {at' : Int} (hat : 0 ≤ at') : nextP f at' L = nextP f at' M := by
  rw [h.next hat, k.next hat, h.same k]
end Go.Proofs.YthmkphmciiiagaaGreatDoor

/- The plain law of expiries: the moments where a grant ends by time, told from moments or from periods. -/
namespace Go.Proofs.YthmkphmciiiagaaGreatDoor
open Go.RowKit
def endB (f : Int → Ans) (lo hi m : Int) : Bool := decide ((f (m - 1)).2.1 = 2 ∧ (f m).2.1 = 7 ∧ lo ≤ m ∧ m < hi)
/-- the ends among moments -/
def expP (f : Int → Ans) (lo hi : Int) (L : List Int) : List Int := L.filter (fun m => decide (0 < m) && endB f lo hi m)
/-- the ends among periods -/
def expR (lo hi : Int) (last : Int) : List Per → List Int
  | [] => []
  | x :: r => if last = 2 ∧ x.a.2.1 = 7 ∧ lo ≤ x.from' ∧ x.from' ≤ hi - 1 then x.from' :: expR lo hi x.a.2.1 r else expR lo hi x.a.2.1 r
def tailR (f : Int → Ans) (lo hi a : Int) : List Int → List Int
  | [] => []
  | y :: r => expR lo hi (f a).2.1 (pers (y, f y) (r.map (fun m => (m, f m))))
theorem expR_pers (f : Int → Ans) (lo hi last : Int) (x : Int) (T : List Int) :
    expR lo hi last (pers (x, f x) (T.map (fun m => (m, f m)))) = if last = 2 ∧ (f x).2.1 = 7 ∧ lo ≤ x ∧ x ≤ hi - 1 then x :: tailR f lo hi x T else tailR f lo hi x T := by
  cases T with
  | nil => rfl
  | cons y r => rfl
theorem tailR_is {f : Int → Ans} {lo hi E : Int} : ∀ (T : List Int) (a : Int), (∀ m ∈ T, a < m) → T.Pairwise (· < ·) → (∀ m, a < m → m < E → f m ≠ f (m - 1) → m ∈ T) → (∀ m ∈ T, m < E) → tailR f lo hi a T = T.filter (endB f lo hi)
  | [], _, _, _, _, _ => rfl
  | x :: r, a, h1, h2, h3, h4 => by
    have hx := h1 x (by simp)
    have h2' := List.pairwise_cons.1 h2
    have e : f (x - 1) = f a := const_to (by omega) fun m hm hm2 => Decidable.byContradiction fun hne => by
      have := h3 m hm (by have := h4 x (by simp); omega) hne
      rcases List.mem_cons.1 this with rfl | h
      · omega
      · have := h2'.1 m h; omega
    have h3' : ∀ m, x < m → m < E → f m ≠ f (m - 1) → m ∈ r := fun m hm hm2 hne => by
      rcases List.mem_cons.1 (h3 m (by omega) hm2 hne) with rfl | h
      · omega
      · exact h
    have ih := tailR_is (f := f) (lo := lo) (hi := hi) r x h2'.1 h2'.2 h3' (fun m hm => h4 m (by simp [hm]))
    rw [tailR, expR_pers, ih]
    by_cases hc : (f a).2.1 = 2 ∧ (f x).2.1 = 7 ∧ lo ≤ x ∧ x ≤ hi - 1
    · rw [if_pos hc, List.filter_cons_of_pos (by unfold endB; rw [e]; exact decide_eq_true ⟨hc.1, hc.2.1, hc.2.2.1, by omega⟩)]
    · rw [if_neg hc, List.filter_cons_of_neg (by unfold endB; rw [e]; intro h; have := of_decide_eq_true h; exact hc ⟨this.1, this.2.1, this.2.2.1, by omega⟩)]
theorem Moms.expR {f : Int → Ans} {L : List Int} (h : Moms f L) (lo hi : Int) : Go.Proofs.YthmkphmciiiagaaGreatDoor.expR lo hi 0 (perAns f L) = (turnsOf f L).filter (endB f lo hi) := by
  rw [perAns, h.steps, expR_pers, if_neg (by omega)]
  refine tailR_is (E := 4321440) _ 0 (fun m hm => ?_) ((h.ord.filter _).filter _) (fun m h1 h2 h3 => ?_) (fun m hm => ?_)
  · simp only [turnsOf, List.mem_filter, decide_eq_true_eq] at hm; exact hm.1.2
  · simp only [turnsOf, List.mem_filter, turnB, decide_eq_true_eq]; exact ⟨⟨h.all m h1 h2 h3, h1⟩, h3⟩
  · simp only [turnsOf, List.mem_filter] at hm; exact h.hi m hm.1.1
theorem expP_turns (f : Int → Ans) (L : List Int) (lo hi : Int) : expP f lo hi L = (turnsOf f L).filter (endB f lo hi) := by
  rw [turnsOf, List.filter_filter, List.filter_filter, expP]
  refine List.filter_congr fun m _ => ?_
  by_cases hc : endB f lo hi m = true
  · have ht : turnB f m = true := decide_eq_true fun he => by
      have := of_decide_eq_true hc
      rw [he] at this
      omega
    rw [hc, ht]; simp
  · rw [Bool.eq_false_iff.2 hc]; simp
theorem exp_same {f : Int → Ans} {L M : List Int} (h : Moms f L) (k : Moms f M) (lo hi : Int) : expP f lo hi L = expR lo hi 0 (perAns f M) := by
  rw [k.expR, expP_turns, h.same k]
/-- an expiry of a statement's key -/
abbrev mkX (s : Stm) (m : Int) : Xpy := ⟨m, s.kind, s.text, s.purpose, s.channel⟩
instance : DecidableEq Xpy := fun a b => decidable_of_iff (a.at' = b.at' ∧ a.kind = b.kind ∧ a.text = b.text ∧ a.purpose = b.purpose ∧ a.channel = b.channel) (by cases a; cases b; simp)
/-- what the program gathers: each key once -/
def expGo (E : Stm → List Int) (done : List Xpy) : List Stm → List Xpy
  | [] => []
  | s :: r => if (s.purpose.toList == []) = true ∨ mkX s 0 ∈ done then expGo E done r else (E s).map (mkX s) ++ expGo E (done ++ [mkX s 0]) r
/-- what the reference gathers: what is not there yet -/
def addX (out : List Xpy) (y : Xpy) : List Xpy := if y ∈ out then out else out ++ [y]
def refGo (E : Stm → List Int) (out : List Xpy) : List Stm → List Xpy
  | [] => out
  | s :: r => if (s.purpose.toList == []) = true then refGo E out r else refGo E (((E s).map (mkX s)).foldl addX out) r
/-- the inner loop of the reference -/
def refIn (s : Stm) (lo hi last : Int) (out : List Xpy) : List Per → List Xpy
  | [] => out
  | x :: r => refIn s lo hi x.a.2.1 (if last = 2 ∧ x.a.2.1 = 7 ∧ lo ≤ x.from' ∧ x.from' ≤ hi - 1 ∧ mkX s x.from' ∉ out then out ++ [mkX s x.from'] else out) r
theorem refIn_is (s : Stm) (lo hi : Int) : ∀ (P : List Per) (last : Int) (out : List Xpy), refIn s lo hi last out P = ((expR lo hi last P).map (mkX s)).foldl addX out
  | [], _, _ => rfl
  | x :: r, last, out => by
    rw [refIn, refIn_is s lo hi r, expR]
    by_cases hc : last = 2 ∧ x.a.2.1 = 7 ∧ lo ≤ x.from' ∧ x.from' ≤ hi - 1
    · rw [if_pos hc, List.map_cons, List.foldl_cons]
      by_cases hm : mkX s x.from' ∈ out
      · rw [if_neg (fun h => h.2.2.2.2 hm), show addX out (mkX s x.from') = out from if_pos hm]
      · rw [if_pos ⟨hc.1, hc.2.1, hc.2.2.1, hc.2.2.2, hm⟩, show addX out (mkX s x.from') = out ++ [mkX s x.from'] from if_neg hm]
    · rw [if_neg hc, if_neg (fun h => hc ⟨h.1, h.2.1, h.2.2.1, h.2.2.2.1⟩)]
theorem addX_old : ∀ (ys out : List Xpy), (∀ y ∈ ys, y ∈ out) → ys.foldl addX out = out
  | [], _, _ => rfl
  | y :: r, out, h => by rw [List.foldl_cons, show addX out y = out from if_pos (h y (by simp)), addX_old r out fun z hz => h z (by simp [hz])]
theorem addX_new : ∀ (ys out : List Xpy), ys.Pairwise (· ≠ ·) → (∀ y ∈ ys, y ∉ out) → ys.foldl addX out = out ++ ys
  | [], out, _, _ => by simp
  | y :: r, out, hp, h => by
    have hp' := List.pairwise_cons.1 hp
    rw [List.foldl_cons, show addX out y = out ++ [y] from if_neg (h y (by simp)), addX_new r _ hp'.2 fun z hz hm => ?_, List.append_assoc]
    · rfl
    · rcases List.mem_append.1 hm with hm | hm
      · exact h z (by simp [hz]) hm
      · exact hp'.1 z hz (by simpa using (List.mem_singleton.1 hm).symm)
theorem mkX_key {s d : Stm} {m n : Int} (h : mkX s m = mkX d n) : mkX s 0 = mkX d 0 := by
  simp only [mkX, Xpy.mk.injEq] at h ⊢
  exact ⟨trivial, h.2⟩
/-- both gather the same list -/
theorem exp_go (E : Stm → List Int) (hE : ∀ s d, mkX s 0 = mkX d 0 → E s = E d) (hP : ∀ s, (E s).Pairwise (· < ·)) : ∀ (r : List Stm) (done out : List Xpy),
    (∀ y ∈ out, ∃ s m, y = mkX s m ∧ mkX s 0 ∈ done) → (∀ s, mkX s 0 ∈ done → ∀ m ∈ E s, mkX s m ∈ out) → refGo E out r = out ++ expGo E done r
  | [], _, out, _, _ => by simp [refGo, expGo]
  | s :: r, done, out, h1, h2 => by
    rw [refGo, expGo]
    by_cases hp : (s.purpose.toList == []) = true
    · rw [if_pos hp, if_pos (.inl hp)]
      exact exp_go E hE hP r done out h1 h2
    · rw [if_neg hp]
      by_cases hd : mkX s 0 ∈ done
      · rw [if_pos (.inr hd), addX_old _ _ fun y hy => ?_]
        · exact exp_go E hE hP r done out h1 h2
        · obtain ⟨m, hm, rfl⟩ := List.mem_map.1 hy
          exact h2 s hd m hm
      · rw [if_neg (by rintro (h | h); exact hp h; exact hd h), addX_new _ _ ?_ fun y hy hm => ?_, ← List.append_assoc]
        · refine exp_go E hE hP r (done ++ [mkX s 0]) _ (fun y hy => ?_) (fun d hd2 m hm => ?_)
          · rcases List.mem_append.1 hy with hy | hy
            · obtain ⟨d, m, e, hm⟩ := h1 y hy
              exact ⟨d, m, e, by simp [hm]⟩
            · obtain ⟨m, hm, rfl⟩ := List.mem_map.1 hy
              exact ⟨s, m, rfl, by simp⟩
          · rcases List.mem_append.1 hd2 with hd2 | hd2
            · exact List.mem_append_left _ (h2 d hd2 m hm)
            · have e := List.mem_singleton.1 hd2
              refine List.mem_append_right _ (List.mem_map.2 ⟨m, (hE d s e) ▸ hm, ?_⟩)
              simp only [mkX, Xpy.mk.injEq] at e ⊢
              exact ⟨trivial, e.2.1.symm, e.2.2.1.symm, e.2.2.2.1.symm, e.2.2.2.2.symm⟩
        · refine List.pairwise_map.2 ((hP s).imp fun {a b} hab he => ?_)
          simp only [mkX, Xpy.mk.injEq] at he
          omega
        · obtain ⟨m, hm2, rfl⟩ := List.mem_map.1 hy
          obtain ⟨d, n, e, hdn⟩ := h1 _ hm
          exact hd (mkX_key e ▸ hdn)
end Go.Proofs.YthmkphmciiiagaaGreatDoor

/- A map of the call's own, keyed by expiries, that holds true for those that were put: a piece of memory. -/
namespace Go.Proofs.YthmkphmciiiagaaGreatDoor
open Go Go.RowKit Go.MapKept
abbrev xVal (x : Xpy) : Value := .agg (xCs x)
abbrev kvX (x : Xpy) : Value × Value := (xVal x, Value.bool true)
def MapX (w : World) (X : Nat) (L : List Xpy) : Prop := ∃ es clock, w.heap[X]? = some (.map es clock) ∧ es.toList.map kvOf = L.map kvX
def Chunk.mapX (X : Nat) (L : List Xpy) : Chunk :=
  ⟨some X, fun _ w => MapX w X L, fun k _ hd ⟨es, c, h, e⟩ => ⟨es, c, (k.block X (Array.getElem?_eq_some_iff.1 h).1 (hd X rfl)).trans h, e⟩, fun _ h => h, fun ⟨_, _, h, _⟩ k e => by cases e; exact (Array.getElem?_eq_some_iff.1 h).1⟩
theorem eqX_run (x y : Xpy) (w : World) : (Op.equal 87 (xVal x) (xVal y)).run Tryz.prog w = .ok (x.at' == y.at' && (x.kind == y.kind && (x.text.toList == y.text.toList) && (x.purpose.toList == y.purpose.toList && x.channel == y.channel))) w := by
  have u1 := Tryz.underlying3
  have u2 := Tryz.underlying9
  have u3 := Tryz.underlying29
  have a1 := Tryz.isAgg3
  have a2 := Tryz.isAgg9
  have a3 := Tryz.isAgg29
  show (Op.equalIn (9999 + 1) 87 (.agg (xCs x)) (.agg (xCs y))).run Tryz.prog w = _
  rw [run_equalIn_agg w 9999 87 _ _ (by kernel_rfl) (by kernel_rfl)]
  simp only [Program.fieldsOf, Tryz.underlying87]
  go_simp
  by_cases h0 : x.at' = y.at' <;> by_cases h1 : x.kind = y.kind <;> by_cases h2 : x.text.toList = y.text.toList <;> by_cases h3 : x.purpose.toList = y.purpose.toList <;> by_cases h4 : x.channel = y.channel <;> simp [h0, h1, h2, h3, h4]
theorem chkX_n (x : Xpy) (b : Bool) (n : Nat) (w : World) : (Instr.checkKey b (n + 3) 87 (xVal x)).run Tryz.prog w = .ok () w := by
  have u1 := Tryz.underlying3
  have u2 := Tryz.underlying9
  have u3 := Tryz.underlying87
  have u4 := Tryz.underlying29
  have a1 := Tryz.isAgg3
  have a2 := Tryz.isAgg9
  have a3 := Tryz.isAgg29
  simp only [Instr.checkKey, run_underlying u3, Sem.run_bind, Result.andThen_ok]
  simp [run_underlying u1, run_underlying u2, run_underlying u4]
  go_simp
theorem eqX_dec (x y : Xpy) : (x.at' == y.at' && (x.kind == y.kind && (x.text.toList == y.text.toList) && (x.purpose.toList == y.purpose.toList && x.channel == y.channel))) = decide (x = y) := by
  by_cases h : x = y
  · subst h; simp
  · rw [decide_eq_false h]
    by_cases h0 : x.at' = y.at'
    · by_cases h1 : x.kind = y.kind
      · by_cases h2 : x.text = y.text
        · by_cases h3 : x.purpose = y.purpose
          · have h4 : ¬ x.channel = y.channel := fun e => h (by cases x; cases y; simp_all)
            rw [beq_false_of_ne h4]; simp
          · rw [bytesNe h3]; simp
        · rw [bytesNe h2]; simp
      · rw [beq_false_of_ne h1]; simp
    · rw [beq_false_of_ne h0]; simp
theorem askX_run (x : Xpy) : ∀ (es : List MapEntry) (L : List Xpy) (i : Nat) (w : World), es.map kvOf = L.map kvX → ∃ r, (Instr.findAsking 87 (xVal x) es i).run Tryz.prog w = .ok r w ∧ ((x ∉ L ∧ r = none) ∨ (x ∈ L ∧ ∃ j, r = some (j, .bool true)))
  | [], L, i, w, h => by
    cases L with
    | nil => exact ⟨none, by simp [Instr.findAsking], .inl ⟨by simp, rfl⟩⟩
    | cons p r => simp at h
  | e :: es, [], i, w, h => by simp at h
  | e :: es, p :: r, i, w, h => by
    simp only [List.map_cons, List.cons.injEq, kvOf, kvX, Prod.mk.injEq] at h
    obtain ⟨⟨h1, h2⟩, h3⟩ := h
    have hq := eqX_run x p w
    rw [eqX_dec] at hq
    by_cases hx : x = p
    · refine ⟨some (i, .bool true), ?_, .inr ⟨by simp [hx], i, rfl⟩⟩
      rw [decide_eq_true hx] at hq
      simp [Instr.findAsking, h1, hq, h2]
    · rw [decide_eq_false hx] at hq
      obtain ⟨r', hr, hc⟩ := askX_run x es r (i + 1) w h3
      refine ⟨r', by simp [Instr.findAsking, h1, hq, hr], ?_⟩
      rcases hc with ⟨h4, h5⟩ | ⟨h4, h5⟩
      · exact .inl ⟨by simp [hx, h4], h5⟩
      · exact .inr ⟨by simp [h4], h5⟩
theorem findX_run (x : Xpy) (es : List MapEntry) (L : List Xpy) (w : World) (h : es.map kvOf = L.map kvX) : ∃ r, (Instr.findKey 87 (xVal x) es).run Tryz.prog w = .ok r w ∧ ((x ∉ L ∧ r = none) ∨ (x ∈ L ∧ ∃ j, r = some (j, .bool true))) := by
  have e := run_findKey_eq (P := Tryz.prog) (w := w) (k := 87) (by kernel_rfl) (xVal x) es
  rw [e]
  exact askX_run x es L 0 w h
theorem lookX_run {w : World} {X : Nat} {L : List Xpy} {T E : TypeId} (h : MapX w X L) (hT : Tryz.prog.underlying T = some (.map 87 E)) (hz : ∀ w, (zeroValue E).run Tryz.prog w = .ok (.bool false) w) (x : Xpy) :
    (Instr.lookup T (.map (some X)) (xVal x) false).run Tryz.prog w = .ok (.bool (decide (x ∈ L))) w := by
  obtain ⟨es, clock, hb, he⟩ := h
  have hck := chkX_n x es.isEmpty 9997 w
  obtain ⟨r, hr, hc⟩ := findX_run x es.toList L w he
  rcases hc with ⟨h4, rfl⟩ | ⟨h4, j, rfl⟩
  · simp [Instr.lookup, run_underlying hT, Go.MapKept.run_getObj_map hb, hck, hr, hz, h4, Result.andThen]
  · simp [Instr.lookup, run_underlying hT, Go.MapKept.run_getObj_map hb, hck, hr, h4, Result.andThen]
theorem putX_run {w : World} {X : Nat} {L : List Xpy} {T E : TypeId} (h : MapX w X L) (hT : Tryz.prog.underlying T = some (.map 87 E)) (x : Xpy) (hx : x ∉ L) :
    ∃ w', (Instr.mapUpdate T (.map (some X)) (xVal x) (.bool true)).run Tryz.prog w = .ok () w' ∧ MapX w' X (L ++ [x]) ∧ w.grownBy w' (some X) := by
  obtain ⟨es, clock, hb, he⟩ := h
  have hck := chkX_n x false 9997 w
  have gr : ∀ o, w.grownBy { w with heap := w.heap.setIfInBounds X o } (some X) := fun o => ⟨rfl, rfl, rfl, by simp, fun j hj hne => (heap_set hb).2 j (fun e => hne (by rw [e]))⟩
  obtain ⟨r, hr, hc⟩ := findX_run x es.toList L w he
  rcases hc with ⟨h4, rfl⟩ | ⟨h4, _⟩
  · refine ⟨{ w with heap := w.heap.setIfInBounds X (.map (es.push ⟨xVal x, .bool true, clock⟩) (clock + 1)) }, ?_, ⟨_, _, (heap_set hb).1, ?_⟩, gr _⟩
    · simp [Instr.mapUpdate, run_underlying hT, Go.MapKept.run_getObj_map hb, hck, hr, run_setObj_map _ hb, Result.andThen]
    · rw [Array.toList_push, List.map_append, he, List.map_append]
      rfl
  · exact absurd h4 hx
section
variable {ops : Array Oper} {rest : List Oper} {o : Oper} {a : Act} {Q : Exit → Act → World → Prop}
theorem Mem.lookX {w0 w : World} {cs : List Chunk} (S : Mem w0 w cs) (i : Nat) {X : Nat} {L : List Xpy} (hi : cs[i]? = some (.mapX X L)) {T E : TypeId} (hT : Tryz.prog.underlying T = some (.map 87 E)) (hz : ∀ w, (zeroValue E).run Tryz.prog w = .ok (.bool false) w)
    (hgd : o.guard = none) (m x : Operand) (hop : o.op = .lookup T m x false) (hm : a.eval m = .map (some X)) (y : Xpy) (hx : a.eval x = xVal y) (h : wpList Tryz.prog ops Q rest (a.put o.dst (.bool (decide (y ∈ L)))) w) : wpList Tryz.prog ops Q (o :: rest) a w := by
  have hrun := lookX_run (S.ok _ (List.mem_of_getElem? hi)) hT hz y
  refine wpList_plain hgd fun K' hK' => ?_
  unfold Oper.wp
  simp [execOp, hop, hm, hx, hrun, Result.andThen]
  exact hK' _ _ h
theorem Mem.putX {w0 w : World} {cs : List Chunk} (S : Mem w0 w cs) (i : Nat) {X : Nat} {L : List Xpy} (hi : cs[i]? = some (.mapX X L)) {T E : TypeId} (hT : Tryz.prog.underlying T = some (.map 87 E))
    (hgd : o.guard = none) (m x v : Operand) (hop : o.op = .mapUpdate T m x v) (hm : a.eval m = .map (some X)) (y : Xpy) (hx : a.eval x = xVal y) (hv : a.eval v = .bool true) (hy : y ∉ L)
    (h : ∀ w', Mem w0 w' (cs.set i (.mapX X (L ++ [y]))) → wpList Tryz.prog ops Q rest (a.put o.dst undef) w') : wpList Tryz.prog ops Q (o :: rest) a w := by
  obtain ⟨w', hrun, hm', hgr⟩ := putX_run (S.ok _ (List.mem_of_getElem? hi)) hT y hy
  have hX := S.new _ (List.mem_of_getElem? hi) X rfl
  have hbl : Below w0.heap.size w w' := (Below.refl _ w).grown hgr S.b.size (fun k hk => by cases hk; exact hX)
  have S2 := S.upd i hi (.mapX X (L ++ [y])) ⟨hgr.size, fun k hk hn => hgr.block k hk (fun e => hn e.symm)⟩ (S.b.trans hbl) (fun k e => .inl e) hm'
  refine wpList_plain hgd fun K' hK' => ?_
  unfold Oper.wp
  simp [execOp, hop, hm, hx, hv, hrun, Result.andThen]
  exact hK' _ _ (h w' S2)
/-- a new map -/
theorem Mem.newMapX {w0 w : World} {cs : List Chunk} (S : Mem w0 w cs) (X : Nat) (hX : X = w.heap.size) : Mem w0 (w.alloc (.map #[] 0)) (cs ++ [.mapX X []]) := by
  subst hX
  exact S.call ((Below.refl _ _).alloc (Nat.le_refl _) _) _ ⟨#[], 0, by show (w.heap.push (.map #[] 0))[w.heap.size]? = _; simp, rfl⟩ (fun k e => by cases e; exact Nat.le_refl _)
end
end Go.Proofs.YthmkphmciiiagaaGreatDoor

/- What slices.Contains of expiries returns. -/
namespace Go.Proofs.YthmkphmciiiagaaGreatDoor
open Go Go.RowKit Go.Sort Go.Shelf
theorem xpy_ne {x y : Xpy} (h : x ≠ y) : (x.at' == y.at') = false ∨ ((x.at' == y.at') = true ∧ ((x.kind == y.kind) = false ∨ ((x.kind == y.kind) = true ∧ ((x.text.toList == y.text.toList) = false ∨ ((x.text.toList == y.text.toList) = true ∧ ((x.purpose.toList == y.purpose.toList) = false ∨ ((x.purpose.toList == y.purpose.toList) = true ∧ (x.channel == y.channel) = false))))))) := by
  by_cases h1 : x.at' = y.at'
  · refine .inr ⟨by rw [h1]; exact beq_self_eq_true _, ?_⟩
    by_cases h2 : x.kind = y.kind
    · refine .inr ⟨by rw [h2]; exact beq_self_eq_true _, ?_⟩
      by_cases h3 : x.text = y.text
      · refine .inr ⟨by rw [h3]; exact beq_self_eq_true _, ?_⟩
        by_cases h4 : x.purpose = y.purpose
        · refine .inr ⟨by rw [h4]; exact beq_self_eq_true _, ?_⟩
          have h7 : ¬ x.channel = y.channel := fun e => h (by cases x; cases y; simp_all)
          exact by simpa using h7
        · exact .inl (bytesNe h4)
      · exact .inl (bytesNe h3)
    · exact .inl (by simpa using h2)
  · exact .inl (by simpa using h1)
theorem xpy_eq {x y : Xpy} (h : x = y) : (x.at' == y.at') = true ∧ (x.kind == y.kind) = true ∧ (x.text.toList == y.text.toList) = true ∧ (x.purpose.toList == y.purpose.toList) = true ∧ (x.channel == y.channel) = true := by subst h; exact ⟨beq_self_eq_true _, beq_self_eq_true _, beq_self_eq_true _, beq_self_eq_true _, beq_self_eq_true _⟩
theorem Own.xpyAt {M : Nat → Prop} {B E g n cap : Nat} {w : World} {xs : List Xpy} (h : Own rXpy M B E w (.slice (some ⟨g, 0, none⟩) n cap) xs) (hn : n = xs.length) (k : Nat) (x : Xpy) (hk : xs[k]? = some x) :
    w.cell? ⟨g, k * 5, none⟩ = some (.int .i64 x.at') ∧ w.cell? ⟨g, k * 5 + 1, none⟩ = some (.int .i64 x.kind) ∧ w.cell? ⟨g, k * 5 + 2, none⟩ = some (.string x.text) ∧ w.cell? ⟨g, k * 5 + 3, none⟩ = some (.string x.purpose) ∧ w.cell? ⟨g, k * 5 + 4, none⟩ = some (.int .i64 x.channel) :=
  ⟨(h.cellP flatXpy hn k x hk 0 _ rfl).1, (h.cellP flatXpy hn k x hk 1 _ rfl).1, (h.cellP flatXpy hn k x hk 2 _ rfl).1, (h.cellP flatXpy hn k x hk 3 _ rfl).1, (h.cellP flatXpy hn k x hk 4 _ rfl).1⟩
set_option maxHeartbeats 4000000 in
set_option maxRecDepth 100000 in
theorem idxXpy_any {w0 w : World} {cs : List Chunk} {B g n cap : Nat} {xs : List Xpy} (S : Mem w0 w (.own rXpy B 87 (.slice (some ⟨g, 0, none⟩) n cap) xs :: cs)) (x : Xpy) (hn : n = xs.length) (hl : n ≤ 1000000) :
    Calls Tryz.prog 202 #[.slice (some ⟨g, 0, none⟩) n cap, .agg (xCs x)] w fun e w' => (∃ i : Int, e = .returned (.int .i64 i) ∧ (0 ≤ i ↔ x ∈ xs)) ∧ Below w.heap.size w w' := by
  have Hn := Lib.hid hn
  clear hn
  have HSb := Lib.hid (fun w' (h : Below w.heap.size w w') => S.below h)
  have T := (Mem.start w).new' (xCs x) 87
  replace T : Mem w (w.alloc (.cells (xCs x) 87)) [.loc w.heap.size (xCs x) 87] := T
  clear S
  go_enter Tryz.func202, Tryz.ntmps202
  go_wp2_with fail
  generalize w.alloc (.cells (xCs x) 87) = w1 at *
  go_loopw [8] (fun i wr => ∃ j : Nat, j ≤ n ∧ i = .int .i64 j ∧ Hid (x ∉ xs.take j) ∧ Mem w wr [.loc w.heap.size (xCs x) 87]) (fun i _ => n - (intOf i).toNat)
  case atStart => exact ⟨0, Nat.zero_le _, rfl, Lib.hid (by simp), T⟩
  case round =>
    clear T
    obtain ⟨j, hj, rfl, HP, T⟩ := hrel
    by_cases hlt : j < n
    · obtain ⟨y, hy⟩ : ∃ y, xs[j]? = some y := ⟨_, List.getElem?_eq_getElem (by have := Hn.out; omega)⟩
      have Hy := Lib.hid hy
      clear hy
      have e0 := (T.lv 0 rfl).all
      obtain ⟨d0, d1, d2, d3, d4⟩ := ((HSb.out wr T.b).ow 0 rfl).xpyAt Hn.out j y Hy.out
      by_cases hxy : x = y
      · have HG : Hid (x ∈ xs) := by rw [hxy]; exact List.mem_of_getElem? Hy.out
        obtain ⟨h0, h1, h2, h3, h4⟩ := xpy_eq hxy
        clear hxy HP Hy
        go_wp2_with fail
        go_quiet (fail)
        go_wp2_with fail
        go_ret
        exact ⟨⟨j, rfl, ⟨fun _ => HG.out, fun _ => by omega⟩⟩, (T.below (below_drewN _ _ _)).b⟩
      · have HE : Hid (x ∉ xs.take (j + 1)) := by
          show ¬ _
          rw [take_snoc Hy.out, List.mem_append, List.mem_singleton]
          rintro (h | h)
          · exact HP.out h
          · exact hxy h
        have hne := xpy_ne hxy
        clear hxy HP Hy
        rcases hne with h0 | ⟨h0, h1 | ⟨h1, h2 | ⟨h2, h3 | ⟨h3, h4⟩⟩⟩⟩
        all_goals
          go_wp2_with fail
          go_quiet (fail)
          go_wp2_with fail
          go_roundw
          case rel => exact ⟨j + 1, by omega, by go_num, HE, T.below (below_drewN _ _ _)⟩
          case measure => simp [intOf]; omega
    · have HG : Hid (x ∉ xs) := by
        have h1 := HP.out
        rw [List.take_of_length_le (by have := Hn.out; omega)] at h1
        exact h1
      go_wp2_with fail
      go_ret
      exact ⟨⟨-1, rfl, ⟨fun h => by omega, fun h => absurd h HG.out⟩⟩, T.b⟩
set_option maxRecDepth 100000 in
theorem idxNilXpy_any (x : Xpy) (w : World) :
    Calls Tryz.prog 202 #[.slice none 0 0, .agg (xCs x)] w fun e w' => e = .returned (.int .i64 (-1)) ∧ Below w.heap.size w w' := by
  have T := (Mem.start w).new' (xCs x) 87
  replace T : Mem w (w.alloc (.cells (xCs x) 87)) [.loc w.heap.size (xCs x) 87] := T
  go_enter Tryz.func202, Tryz.ntmps202
  go_wp2_with fail
  generalize w.alloc (.cells (xCs x) 87) = w1 at *
  go_loopw [8] (fun i wr => i = .int .i64 0 ∧ w1 = wr) (fun _ _ => 0)
  case atStart => exact ⟨rfl, rfl⟩
  case round =>
    obtain ⟨rfl, rfl⟩ := hrel
    go_wp2_with fail
    go_ret
    exact ⟨rfl, T.b⟩
set_option maxHeartbeats 4000000 in
theorem containsXpy_any {w0 w : World} {cs : List Chunk} {B : Nat} {v : Value} {xs : List Xpy} (S : Mem w0 w (.own rXpy B 87 v xs :: cs)) (x : Xpy) (hl : xs.length ≤ 1000000) :
    Calls Tryz.prog 120 #[v, .agg (xCs x)] w fun e w' => e = .returned (.bool (decide (x ∈ xs))) ∧ Below w.heap.size w w' := by
  have T := (Mem.start w).new' (xCs x) 87
  replace T : Mem w (w.alloc (.cells (xCs x) 87)) [.loc w.heap.size (xCs x) 87] := T
  obtain ⟨A, c, rfl⟩ := (S.ow 0 rfl).len
  have Hix : Hid (∀ w', Below w.heap.size w w' → Calls Tryz.prog 202 #[.slice A xs.length c, .agg (xCs x)] w' fun e w'' => (∃ i : Int, e = .returned (.int .i64 i) ∧ (0 ≤ i ↔ x ∈ xs)) ∧ Below w'.heap.size w' w'') := fun w' h => by
    have S' := S.below h
    rcases (S'.ow 0 rfl).shape2 with ⟨e, e2⟩ | ⟨g, cap, e, _⟩
    · rw [e]
      refine (idxNilXpy_any x w').mono ?_
      rintro e w'' ⟨rfl, hb⟩
      exact ⟨⟨-1, rfl, by rw [e2]; simp⟩, hb⟩
    · simp only [Value.slice.injEq] at e
      obtain ⟨rfl, _, rfl⟩ := e
      exact idxXpy_any S' x rfl hl
  obtain ⟨bb, hbb⟩ : ∃ bb, decide (x ∈ xs) = bb := ⟨_, rfl⟩
  have Hbb : Hid (x ∈ xs ↔ bb = true) := by show _ ↔ _; rw [← hbb]; simp
  rw [hbb]
  clear S hbb
  go_enter Tryz.func120, Tryz.ntmps120
  go_upto_region 1 with fail
  generalize w.alloc (.cells (xCs x) 87) = w1 at *
  have c0 := (T.lv 0 rfl).all
  go_wp2_with fail
  ((with_reducible refine (Hix.out w1 T.b).mono ?_); rintro e w2 ⟨⟨i, rfl, hi⟩, hl2⟩)
  have Hi := Lib.hid hi
  clear hi
  go_wp2_with fail
  go_ret
  refine ⟨ret_b ?_, (T.below hl2).b⟩
  rw [Bool.eq_iff_iff, ← Hbb.out, ← Hi.out]
  simp
end Go.Proofs.YthmkphmciiiagaaGreatDoor
