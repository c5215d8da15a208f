/- Several texts in one: CheckId, ZoneLaw, Zone. -/
import Derived.Test.YtmlpkejeglpciaaGreatDoorPkAI
import Derived.Test.YtmlpkejeglpciaaGreatDoorPkAC
import Derived.Test.YtmlpkejeglpciaaGreatDoorPkAA
import Derived.Test.YtmlpkejeglpciaaGreatDoorPkAB
import Derived.WalkLawsBesides
/- What isMail, checkSign and CheckId of package person return. -/
namespace Go.Proofs.YtmlpkejeglpciaaGreatDoor
open Go.RowKit
theorem indexByte_any (s : ByteArray) (c : UInt8) (w : World) : Calls Tryz.prog 281 #[.string s, .int .u8 (c.toNat : Int)] w fun e w' => e = .returned (.int .i64 (Lib.indexByte s.data.toList c)) ∧ w = w' :=
  (Tryz.strings_IndexByte s c.toNat w).mono fun e w' ⟨h1, h2⟩ => ⟨by rw [h1]; simp, h2.symm⟩
set_option maxRecDepth 100000 in
theorem signs_at (n : Nat) (h : n < (⟨#[48, 49, 50, 51, 52, 53, 54, 55, 56, 57, 65, 66, 67, 68, 69, 70, 71, 72, 73, 74, 75, 76, 77, 78, 79, 80, 81, 82, 83, 84, 85, 86, 87, 88, 89, 90]⟩ : ByteArray).size) : (⟨#[48, 49, 50, 51, 52, 53, 54, 55, 56, 57, 65, 66, 67, 68, 69, 70, 71, 72, 73, 74, 75, 76, 77, 78, 79, 80, 81, 82, 83, 84, 85, 86, 87, 88, 89, 90]⟩ : ByteArray)[n] = L.signAt n := by
  have : ∀ i : Fin 36, (⟨#[48, 49, 50, 51, 52, 53, 54, 55, 56, 57, 65, 66, 67, 68, 69, 70, 71, 72, 73, 74, 75, 76, 77, 78, 79, 80, 81, 82, 83, 84, 85, 86, 87, 88, 89, 90]⟩ : ByteArray)[i.val]'i.isLt = L.signAt i.val := by decide +kernel
  exact this ⟨n, h⟩
set_option maxHeartbeats 1000000 in
set_option maxRecDepth 100000 in
theorem checkSign_any (s : ByteArray) (w : World) (hs : s.size ≤ 1000) (hmb : s.data.toList.all L.memberByte = true) :
    Calls Tryz.prog 237 #[.string s] w fun e w' => e = .returned (.int .u8 ((L.signAt (L.checkNo s.data.toList)).toNat : Int)) ∧ w = w' := by
  have Hmb := Lib.hid hmb
  have hsum := L.sgnSum_le s.data.toList hmb
  rw [show s.data.toList.length = s.size from rfl] at hsum
  clear hmb
  obtain ⟨R, HR⟩ : ∃ R, Hid (L.checkNo s.data.toList = R) := ⟨_, Lib.hid rfl⟩
  rw [HR.out]
  obtain ⟨T, HT⟩ : ∃ T, Hid (L.sgnSum s.data.toList = T) := ⟨_, Lib.hid rfl⟩
  rw [HT.out] at hsum
  have HR2 : Hid (R = (36 - T % 36) % 36) := by show _ = _; rw [← HR.out, L.checkNo, HT.out]
  clear HR
  go_enter Tryz.func237, Tryz.ntmps237
  go_wp2_with fail
  go_loopw [3, 4, 5] (fun a b i wr => ∃ (k u t : Nat), k ≤ s.size ∧ i = .int .i64 ((k : Int) - 1) ∧ a = .int .i64 u ∧ L.sgnSum (s.data.toList.drop k) = u ∧ u ≤ 36 * (s.size - k) ∧ b = .int .i64 (t : Int) ∧ t = (if (s.size - k) % 2 = 0 then 2 else 1) ∧ wr = w) (fun _ _ i _ => (intOf i + 1).toNat)
  case atStart => exact ⟨s.size, 0, 2, Nat.le_refl _, rfl, rfl, by rw [show s.data.toList.drop s.size = [] from List.drop_eq_nil_of_le (Nat.le_refl s.size)]; rfl, by omega, rfl, by simp, rfl⟩
  case round =>
    obtain ⟨k, u, t, hk, rfl, rfl, hu, hu2, rfl, ht, rfl⟩ := hrel
    have Hu := Lib.hid hu
    have Ht := Lib.hid ht
    clear hu ht
    by_cases h0 : k = 0
    · subst h0
      have Hx : Hid (u = T) := by show _ = _; rw [← Hu.out, List.drop_zero, HT.out]
      have hr36 : R < 36 := by rw [HR2.out]; omega
      have e1 : (36 : Int) - (u : Int) % 36 = ((36 - u % 36 : Nat) : Int) := by omega
      have e2 : ((36 - u % 36 : Nat) : Int) % 36 = (R : Int) := by rw [HR2.out, ← Hx.out]; omega
      have Hs := Lib.hid (signs_at R hr36)
      clear Hx
      go_wp2_with fail
      go_ret
      exact ⟨by rw [← Hs.out]; rfl, rfl⟩
    · obtain ⟨j, rfl⟩ : ∃ j, k = j + 1 := ⟨k - 1, by omega⟩
      have ej : ((j + 1 : Nat) : Int) - 1 = (j : Int) := by omega
      rw [ej]
      have hjs : j < s.size := by omega
      have hjl : j < s.data.toList.length := hjs
      have hmj : L.memberByte s[j] = true := List.all_eq_true.1 Hmb.out _ (List.getElem_mem (l := s.data.toList) hjl)
      have hlt := L.sgn_lt s[j] hmj
      have Hstep : Hid (L.sgnSum (s.data.toList.drop j) = L.q36 (if (s.size - (j + 1)) % 2 = 0 then 2 * L.sgn s[j] else L.sgn s[j]) + u) := by
        show _ = _
        rw [List.drop_eq_getElem_cons hjl, L.sgnSum, Hu.out, List.length_drop]
        rfl
      obtain ⟨v, hv⟩ : ∃ v : Nat, Lib.indexByte L.signs s[j] = (v : Int) := Int.eq_ofNat_of_zero_le hlt.1
      have hv36 : v < 36 := by omega
      have Hv2 : Hid (L.sgn s[j] = v) := by show _ = _; rw [L.sgn, hv]; rfl
      have Hix : Hid (∀ w, Calls Tryz.prog 281 #[.string ⟨#[48, 49, 50, 51, 52, 53, 54, 55, 56, 57, 65, 66, 67, 68, 69, 70, 71, 72, 73, 74, 75, 76, 77, 78, 79, 80, 81, 82, 83, 84, 85, 86, 87, 88, 89, 90]⟩, .int .u8 (s[j].toNat : Int)] w fun e w' => e = .returned (.int .i64 (v : Int)) ∧ w = w') := fun w => hv ▸ indexByte_any ⟨#[48, 49, 50, 51, 52, 53, 54, 55, 56, 57, 65, 66, 67, 68, 69, 70, 71, 72, 73, 74, 75, 76, 77, 78, 79, 80, 81, 82, 83, 84, 85, 86, 87, 88, 89, 90]⟩ s[j] w
      have hq := L.q36_le (2 * v) (by omega)
      clear hv hlt hmj h0 Hu ej
      rw [Hv2.out] at Hstep
      by_cases hp : (s.size - (j + 1)) % 2 = 0
      · rw [if_pos hp] at Hstep
        have Hp := Lib.hid hp
        obtain rfl : 2 = t := by rw [Ht.out, if_pos hp]
        clear hp Ht hq
        go_wp2_with fail
        refine (Hix.out _).mono ?_
        rintro e _ ⟨rfl, rfl⟩
        clear Hix
        go_wp2_with fail
        go_roundw
        case rel => exact ⟨j, u + L.q36 (2 * v), 1, by omega, by go_num, by unfold L.q36; go_num, by rw [Hstep.out, Nat.add_comm], by have := L.q36_le (2 * v) (by omega); omega, rfl, by rw [if_neg (by have := Hp.out; omega)], trivial⟩
        case measure => simp [intOf]
      · rw [if_neg hp] at Hstep
        have Hp := Lib.hid hp
        obtain rfl : 1 = t := by rw [Ht.out, if_neg hp]
        clear hp Ht hq
        go_wp2_with fail
        refine (Hix.out _).mono ?_
        rintro e _ ⟨rfl, rfl⟩
        clear Hix
        go_wp2_with fail
        go_roundw
        case rel => exact ⟨j, u + L.q36 v, 2, by omega, by go_num, by unfold L.q36; go_num, by rw [Hstep.out, Nat.add_comm], by have := L.q36_le v (by omega); omega, rfl, by rw [if_pos (by have := Hp.out; omega)], trivial⟩
        case measure => simp [intOf]
set_option maxHeartbeats 2000000 in
set_option maxRecDepth 100000 in
theorem isMail_any (s : ByteArray) (w : World) (hs : s.size ≤ 1000000) (hM : MaxL w) :
    Calls Tryz.prog 233 #[.string s] w fun e w' => e = .returned (.bool (L.mailOk s)) ∧ Below w.heap.size w w' := by
  have HM := Lib.hid hM
  have hcl := cut_le s.data.toList [64]
  have Hcut : Hid (∀ w, MaxL w → Calls Tryz.prog 151 #[.string s, .string ⟨#[64]⟩] w fun e w' => e = .returned (.tuple #[.string ⟨(Lib.cut s.data.toList [64]).1.toArray⟩, .string ⟨(Lib.cut s.data.toList [64]).2.1.toArray⟩, .bool (Lib.cut s.data.toList [64]).2.2]) ∧ Below w.heap.size w w') := fun w h => cut_any s w (by omega) h ⟨#[64]⟩
  unfold L.mailOk at *
  generalize Lib.cut s.data.toList [64] = ct at *
  obtain ⟨ll, dl, ok⟩ := ct
  dsimp only at *
  have hlo : (ByteArray.mk ll.toArray).size ≤ 1000000 := Nat.le_trans hcl.1 hs
  have hdo : (ByteArray.mk dl.toArray).size ≤ 1000000 := Nat.le_trans hcl.2 hs
  clear hM hcl
  generalize ByteArray.mk ll.toArray = lo at *
  generalize ByteArray.mk dl.toArray = dom at *
  obtain ⟨R, HR⟩ : ∃ R, Hid ((ok && decide (s.size ≤ 80) && L.localOk lo && (L.labels dom).all L.labelOk && decide (2 ≤ (L.labels dom).length)) = R) := ⟨_, Lib.hid rfl⟩
  rw [HR.out]
  obtain ⟨C, HC⟩ : ∃ C, Hid (Lib.contains lo.data.toList [46, 46] = C) := ⟨_, Lib.hid rfl⟩
  obtain ⟨M, HB⟩ : ∃ M, Hid (lo.data.toList.all L.mailByte = M) := ⟨_, Lib.hid rfl⟩
  have Hcon : Hid (∀ w, MaxL w → Calls Tryz.prog 241 #[.string lo, .string ⟨#[46, 46]⟩] w fun e w' => e = .returned (.bool C) ∧ w = w') := fun w h => HC.out ▸ contains_any lo ⟨#[46, 46]⟩ w (by omega) h
  have Hall : Hid (∀ w, Calls Tryz.prog 161 #[.string lo, .func (.func 276) #[] #[]] w fun e w' => e = .returned (.bool M) ∧ w = w') := fun w => HB.out ▸ all_any _ _ isMail1_pb lo w (by omega) (fun _ _ => by kernel_rfl)
  by_cases hz : 1 ≤ lo.size ∧ lo.size ≤ 64
  · have e1 : decide ((1 : Int) ≤ lo.size ∧ (lo.size : Int) ≤ 64) = true := by simp; omega
    have Hh := Lib.hid (headD_at lo (by omega))
    have Hl := Lib.hid (lastD_at lo (by omega))
    have hz1 : lo.size - 1 < lo.size := by omega
    have hz0 : 0 < lo.size := by omega
    have ez : (lo.size : Int) - 1 = ((lo.size - 1 : Nat) : Int) := by omega
    have Hlok : Hid (L.localOk lo = (((lo[0].toNat : Int) != 46) && ((lo[lo.size - 1].toNat : Int) != 46) && !C && M)) := by
      show _ = _
      unfold L.localOk L.ends
      rw [HC.out, HB.out, Hh.out, Hl.out, u8_ne _ 46 46 rfl, u8_ne _ 46 46 rfl]
      simp [hz]
    clear Hh Hl HC HB
    rw [Hlok.out] at HR
    clear Hlok
    go_enter Tryz.func233, Tryz.ntmps233
    go_wp2_with fail
    refine (Hcut.out _ HM.out).mono ?_
    rintro e w1 ⟨rfl, hl_w1⟩
    have hz_w1 := hl_w1.size
    have HM1 := Lib.hid (HM.out.below hl_w1)
    have Hb1 := Lib.hid hl_w1
    clear hl_w1 Hcut HM
    go_wp2_with (first | (go_at_call 159; refine (within_any _ _ _ _).mono ?_; rintro e _ ⟨rfl, rfl⟩; rw [e1]) | (go_at_call 161; refine (Hall.out _).mono ?_; rintro e _ ⟨rfl, rfl⟩) | (go_at_call 241; refine (Hcon.out _ HM1.out).mono ?_; rintro e _ ⟨rfl, rfl⟩))
    all_goals try
      go_ret
      refine ⟨ret_b ?_, Hb1.out⟩
      rw [← HR.out]
      clear HR
      first
        | (simp_all; done)
        | (have h80 : ¬ s.size ≤ 80 := by omega
           simp [h80]
           done)
        | (have hC : C = true := by
             have hh : ((80 < (s.size : Int) ∨ ((lo[0].toNat : Int) == 46) = true) ∨ ((lo[lo.size - 1].toNat : Int) == 46) = true) ∨ C = true := by assumption
             rcases hh with ((h | h) | h) | h
             · omega
             · exact absurd (by simpa using h) ‹¬ (lo[0].toNat : Int) = 46›
             · exact absurd (by simpa using h) ‹¬ (lo[lo.size - 1].toNat : Int) = 46›
             · exact h
           simp [hC]
           done)
    have hfin : ok = true ∧ s.size ≤ 80 ∧ (lo[0].toNat : Int) ≠ 46 ∧ (lo[lo.size - 1].toNat : Int) ≠ 46 ∧ C = false ∧ M = true := by
      refine ⟨by assumption, by omega, by assumption, by assumption, by simp_all, by simp_all⟩
    have HR2 : Hid (((L.labels dom).all L.labelOk && decide (2 ≤ (L.labels dom).length)) = R) := by
      show _ = _
      rw [← HR.out]
      obtain ⟨h1, h2, h3, h4, h5, h6⟩ := hfin
      have h3' : ((lo[0].toNat : Int) != 46) = true := by simpa using h3
      have h4' : ((lo[lo.size - 1].toNat : Int) != 46) = true := by simpa using h4
      rw [h1, h3', h4', h5, h6]
      simp [h2]
    clear hfin HR
    refine (split_any dom _ (by omega) HM1.out).mono ?_
    rintro e w2 ⟨blk, c, rfl, hblk, hcell, hl2⟩
    have Hsz : Hid (∀ x ∈ L.labels dom, x.size ≤ 1000000) := fun x hx => Nat.le_trans (split_le _ _ _ x hx) hdo
    have hlen : (L.labels dom).length ≤ 1000001 := Nat.le_trans (Lib.splitB_length_le _ _ _ _) (by have := Lib.countB_le ⟨#[46]⟩ (by decide) dom.size dom (Nat.le_refl _); omega)
    have Hc := Lib.hid hcell
    have Hb2 : Hid (Below w.heap.size w w2) := Hb1.out.trans (hl2.mono hz_w1)
    clear hcell hl2 Hb1 HM1 Hall Hcon e1 ez
    generalize L.labels dom = ls at *
    go_wp2_with fail
    go_loopw [52] (fun i wr => ∃ k : Nat, k ≤ ls.length ∧ i = .int .i64 k ∧ wr = w2 ∧ ((ls.drop k).all L.labelOk && decide (2 ≤ ls.length)) = R) (fun i _ => ls.length - (intOf i).toNat)
    case atStart => exact ⟨0, Nat.zero_le _, rfl, rfl, HR2.out⟩
    case round =>
      obtain ⟨k, hk, rfl, rfl, hr⟩ := hrel
      have Hr := Lib.hid hr
      clear hr HR2
      by_cases hlt : k < ls.length
      · obtain ⟨x, hx⟩ : ∃ x, ls[k]? = some x := ⟨_, List.getElem?_eq_getElem hlt⟩
        have hcx := Hc.out k x hx
        have hxs := Hsz.out x (List.mem_of_getElem? hx)
        have Hs : Hid (((L.labelOk x && (ls.drop (k + 1)).all L.labelOk) && decide (2 ≤ ls.length)) = R) := by
          show _ = _
          rw [← Hr.out, List.drop_eq_getElem_cons hlt, List.all_cons]
          have : ls[k] = x := by simpa [List.getElem?_eq_getElem hlt] using hx
          rw [this]
        clear hx Hr
        go_wp2_with fail
        refine (isLabel_any x _ (by omega)).mono ?_
        rintro e _ ⟨rfl, rfl⟩
        by_cases hp : L.labelOk x = true
        · rw [hp] at Hs ⊢
          clear hp
          go_wp2_with fail
          go_roundw
          case rel => exact ⟨k + 1, by omega, by go_num, trivial, by rw [← Hs.out]; simp⟩
          case measure => simp [intOf]; omega
        · have hp' : L.labelOk x = false := by simpa using hp
          rw [hp'] at Hs ⊢
          clear hp hp'
          go_wp2_with fail
          go_ret
          exact ⟨ret_b (by rw [← Hs.out]; simp), Hb2.out⟩
      · go_wp2_with fail
        go_ret
        exact ⟨ret_b (by rw [← Hr.out, List.drop_eq_nil_of_le (by omega)]; rw [Bool.eq_iff_iff]; simp; omega), Hb2.out⟩
  · have e1 : decide ((1 : Int) ≤ lo.size ∧ (lo.size : Int) ≤ 64) = false := by simp; omega
    have E2 : Hid (L.localOk lo = false) := by
      show _ = _
      have : (decide (1 ≤ lo.size) && decide (lo.size ≤ 64)) = false := by simp; omega
      unfold L.localOk; rw [this]; rfl
    rw [E2.out] at HR
    go_enter Tryz.func233, Tryz.ntmps233
    go_wp2_with fail
    refine (Hcut.out _ HM.out).mono ?_
    rintro e w1 ⟨rfl, hl_w1⟩
    have hz_w1 := hl_w1.size
    go_wp2_with (first | (go_at_call 159; refine (within_any _ _ _ _).mono ?_; rintro e _ ⟨rfl, rfl⟩; rw [e1]))
    all_goals (go_ret; refine ⟨ret_b ?_, hl_w1⟩; rw [← HR.out]; simp)

theorem extract_dropLast (s : ByteArray) (_ : 0 < s.size) : (s.extract 0 (s.size - 1)).data.toList = s.data.toList.dropLast := by
  rw [Lib.extract_from_zero, List.dropLast_eq_take]; rfl
set_option maxHeartbeats 2000000 in
set_option maxRecDepth 100000 in
theorem checkId_any (k : Int) (s : ByteArray) (w : World) (hs : s.size ≤ 1000000) (hM : MaxL w) :
    Calls Tryz.prog 169 #[.agg #[.int .i64 k, .string s]] w fun e w' => e = .returned (.int .i64 (L.idFault k s)) ∧ Below w.heap.size w w' := by
  have HM := Lib.hid hM
  clear hM
  obtain ⟨R, HR⟩ : ∃ R, Hid (L.idFault k s = R) := ⟨_, Lib.hid rfl⟩
  rw [HR.out]
  have Hb : Hid (Below w.heap.size w (w.alloc (.cells #[.int .i64 k, .string s] 44))) := (Below.refl _ _).alloc (Nat.le_refl _) _
  by_cases h1 : k = 1
  · subst h1
    have HR2 : Hid ((if L.mailOk s then (0 : Int) else 3) = R) := by show _ = _; rw [← HR.out, L.idFault, if_pos rfl]
    clear HR
    go_enter Tryz.func169, Tryz.ntmps169
    go_wp2_with fail
    refine (isMail_any s _ hs (HM.out.below Hb.out)).mono ?_
    rintro e w1 ⟨rfl, hl_w1⟩
    have hz_w1 := hl_w1.size
    have Hb1 := Lib.hid (Hb.out.trans (hl_w1.mono (by simp)))
    have q1 : w1.cell? ⟨w.heap.size, 0, none⟩ = some (.int .i64 1) := by rw [hl_w1.cell (p := ⟨w.heap.size, 0, none⟩) (by simp), World.cell?_alloc_at _ _ _ _ rfl]; rfl
    have q2 : w1.cell? ⟨w.heap.size, 1, none⟩ = some (.string s) := by rw [hl_w1.cell (p := ⟨w.heap.size, 1, none⟩) (by simp), World.cell?_alloc_at _ _ _ _ rfl]; rfl
    clear hl_w1 Hb HM
    by_cases hp : L.mailOk s = true
    · rw [hp] at HR2 ⊢
      clear hp
      go_wp2_with fail
      go_quiet (fail)
      go_wp2_with fail
      go_ret
      exact ⟨ret_i (by rw [← HR2.out]; rfl), Hb1.out.trans (below_drewN _ _ _)⟩
    · have hp' : L.mailOk s = false := by simpa using hp
      rw [hp'] at HR2 ⊢
      clear hp hp'
      go_wp2_with fail
      go_ret
      exact ⟨ret_i (by rw [← HR2.out]; rfl), Hb1.out⟩
  · by_cases h2 : k = 2
    · subst h2
      clear h1
      have HR2 : Hid ((if L.phoneOk s then (0 : Int) else 3) = R) := by show _ = _; rw [← HR.out, L.idFault]; simp
      clear HR HM
      by_cases hp : L.phoneOk s = true
      · rw [hp] at HR2
        go_enter Tryz.func169, Tryz.ntmps169
        go_wp2_with fail
        refine (isPhone_any s _ (by omega)).mono ?_
        rintro e _ ⟨rfl, rfl⟩
        rw [hp]
        clear hp
        go_wp2_with fail
        go_quiet (fail)
        go_wp2_with fail
        go_ret
        exact ⟨ret_i (by rw [← HR2.out]; rfl), Hb.out.trans (below_drewN _ _ _)⟩
      · have hp' : L.phoneOk s = false := by simpa using hp
        rw [hp'] at HR2
        go_enter Tryz.func169, Tryz.ntmps169
        go_wp2_with fail
        refine (isPhone_any s _ (by omega)).mono ?_
        rintro e _ ⟨rfl, rfl⟩
        rw [hp']
        clear hp hp'
        go_wp2_with fail
        go_ret
        exact ⟨ret_i (by rw [← HR2.out]; rfl), Hb.out⟩
    · by_cases h4 : k = 4
      · subst h4
        clear h1 h2
        have HR2 : Hid ((if L.deviceOk s then (0 : Int) else 3) = R) := by show _ = _; rw [← HR.out, L.idFault]; simp
        clear HR HM
        by_cases hp : L.deviceOk s = true
        · rw [hp] at HR2
          go_enter Tryz.func169, Tryz.ntmps169
          go_wp2_with fail
          refine (isDevice_any s _ (by omega)).mono ?_
          rintro e _ ⟨rfl, rfl⟩
          rw [hp]
          clear hp
          go_wp2_with fail
          go_quiet (fail)
          go_wp2_with fail
          go_ret
          exact ⟨ret_i (by rw [← HR2.out]; rfl), Hb.out.trans (below_drewN _ _ _)⟩
        · have hp' : L.deviceOk s = false := by simpa using hp
          rw [hp'] at HR2
          go_enter Tryz.func169, Tryz.ntmps169
          go_wp2_with fail
          refine (isDevice_any s _ (by omega)).mono ?_
          rintro e _ ⟨rfl, rfl⟩
          rw [hp']
          clear hp hp'
          go_wp2_with fail
          go_ret
          exact ⟨ret_i (by rw [← HR2.out]; rfl), Hb.out⟩
      · by_cases h3 : k = 3
        · subst h3
          clear h1 h2 h4 HM
          have HR2 : Hid ((if L.memberOk s then (if L.signAt (L.checkNo s.data.toList.dropLast) = s.data.toList.getLastD 0 then (0 : Int) else 15) else 3) = R) := by show _ = _; rw [← HR.out, L.idFault]; simp
          clear HR
          by_cases hp : L.memberOk s = true
          · rw [hp, if_pos rfl] at HR2
            have hmo : (4 ≤ s.size ∧ s.size ≤ 20) ∧ s.data.toList.all L.memberByte = true := by
              unfold L.memberOk at hp
              simp only [Bool.and_eq_true, decide_eq_true_eq] at hp
              exact hp
            obtain ⟨⟨hm4, hm20⟩, hmb⟩ := hmo
            have hdl := extract_dropLast s (by omega)
            have hme : (s.extract 0 (s.size - 1)).data.toList.all L.memberByte = true := by
              rw [hdl, List.all_eq_true]
              exact fun x hx => List.all_eq_true.1 hmb x (List.dropLast_subset _ hx)
            have Hsg : Hid (∀ w, Calls Tryz.prog 237 #[.string (s.extract 0 (s.size - 1))] w fun e w' => e = .returned (.int .u8 ((L.signAt (L.checkNo s.data.toList.dropLast)).toNat : Int)) ∧ w' = w) := fun w => (checkSign_any _ w (by rw [ByteArray.size_extract]; omega) hme).mono fun e w' ⟨a, b⟩ => ⟨by rw [a, hdl], b.symm⟩
            rw [lastD_at s (by omega)] at HR2
            generalize L.signAt (L.checkNo s.data.toList.dropLast) = sg at *
            have hz1 : s.size - 1 < s.size := by omega
            have ez : (s.size : Int) - 1 = ((s.size - 1 : Nat) : Int) := by omega
            have hz2 : s.size - 1 ≤ s.size := by omega
            clear hmb hdl hme
            by_cases hq : sg = s[s.size - 1]
            · rw [if_pos hq] at HR2
              have e3 : ((sg.toNat : Int) != (s[s.size - 1].toNat : Int)) = false := by rw [hq]; simp
              clear hq
              go_enter Tryz.func169, Tryz.ntmps169
              go_wp2_with fail
              refine (isMember_any s _ (by omega)).mono ?_
              rintro e _ ⟨rfl, rfl⟩
              rw [hp]
              clear hp
              go_wp2_with fail
              go_quiet ((go_at_call 237; exact Calls.quiet_of_same (Hsg.out _)))
              go_wp2_with fail
              go_ret
              exact ⟨ret_i (by rw [← HR2.out]), Hb.out.trans (below_drewN _ _ _)⟩
            · rw [if_neg hq] at HR2
              have e3 : ((sg.toNat : Int) != (s[s.size - 1].toNat : Int)) = true := by
                rw [bne_iff_ne]; intro h; exact hq (UInt8.toNat_inj.1 (by omega))
              clear hq
              go_enter Tryz.func169, Tryz.ntmps169
              go_wp2_with fail
              refine (isMember_any s _ (by omega)).mono ?_
              rintro e _ ⟨rfl, rfl⟩
              rw [hp]
              clear hp
              go_wp2_with fail
              go_quiet ((go_at_call 237; exact Calls.quiet_of_same (Hsg.out _)))
              go_wp2_with fail
              go_ret
              exact ⟨ret_i (by rw [← HR2.out]), Hb.out.trans (below_drewN _ _ _)⟩
          · have hp' : L.memberOk s = false := by simpa using hp
            rw [hp'] at HR2
            go_enter Tryz.func169, Tryz.ntmps169
            go_wp2_with fail
            refine (isMember_any s _ (by omega)).mono ?_
            rintro e _ ⟨rfl, rfl⟩
            rw [hp']
            clear hp hp'
            go_wp2_with fail
            go_ret
            exact ⟨ret_i (by rw [← HR2.out]; rfl), Hb.out⟩
        · have e1 : (k == 1) = false := by simpa using h1
          have e2 : (k == 2) = false := by simpa using h2
          have e3 : (k == 3) = false := by simpa using h3
          have e4 : (k == 4) = false := by simpa using h4
          go_enter Tryz.func169, Tryz.ntmps169
          go_wp2_with fail
          go_ret
          exact ⟨ret_i (by rw [← HR.out, L.idFault, if_neg h1, if_neg h2, if_neg h3, if_neg h4]), Hb.out⟩
end Go.Proofs.YtmlpkejeglpciaaGreatDoor

/- The plain law of zones: what clocks show, and when they first show a minute. No program in sight. -/
namespace Go.Proofs.YtmlpkejeglpciaaGreatDoor
structure Sft where
  at' : Int
  off : Int
def shiftsGo (prev : Option Int) : List Sft → Int
  | [] => 0
  | s :: r => if ¬ ((0 ≤ s.at' ∧ s.at' ≤ 4321439) ∧ (-720 ≤ s.off ∧ s.off ≤ 840)) then 1 else if prev = none ∧ s.at' ≠ 0 then 3 else
    if prev.any (fun p => decide (s.at' < p + 1800)) then 7 else shiftsGo (some s.at') r
theorem shiftsGo_rng (prev : Option Int) (s : Sft) (r : List Sft) (h : ¬ ((0 ≤ s.at' ∧ s.at' ≤ 4321439) ∧ (-720 ≤ s.off ∧ s.off ≤ 840))) : shiftsGo prev (s :: r) = 1 := by
  unfold shiftsGo; rw [if_pos h]
theorem shiftsGo_first (s : Sft) (r : List Sft) (h : (0 ≤ s.at' ∧ s.at' ≤ 4321439) ∧ (-720 ≤ s.off ∧ s.off ≤ 840)) (hz : s.at' ≠ 0) : shiftsGo none (s :: r) = 3 := by
  unfold shiftsGo; rw [if_neg (not_not_intro h), if_pos ⟨rfl, hz⟩]
theorem shiftsGo_zero (s : Sft) (r : List Sft) (h : (0 ≤ s.at' ∧ s.at' ≤ 4321439) ∧ (-720 ≤ s.off ∧ s.off ≤ 840)) (hz : s.at' = 0) : shiftsGo none (s :: r) = shiftsGo (some s.at') r := by
  rw [shiftsGo, if_neg (not_not_intro h), if_neg (fun h => h.2 hz)]
  rfl
theorem shiftsGo_next (p : Int) (s : Sft) (r : List Sft) (h : (0 ≤ s.at' ∧ s.at' ≤ 4321439) ∧ (-720 ≤ s.off ∧ s.off ≤ 840)) : shiftsGo (some p) (s :: r) = if s.at' < p + 1800 then 7 else shiftsGo (some s.at') r := by
  rw [shiftsGo, if_neg (not_not_intro h), if_neg (fun h => by cases h.1)]
  simp
def zoneFault (nm : ByteArray) (xs : List Sft) : Int := if L.isKey nm = false then 5 else if xs.length = 0 then 3 else if 100 < xs.length then 2 else shiftsGo none xs
def clk (xs : List Sft) (m : Int) : Int := xs.foldl (fun a s => if s.at' ≤ m then m + s.off else a) m
theorem clk_past (xs : List Sft) (m a : Int) (h : ∀ t ∈ xs, m < t.at') : xs.foldl (fun a s => if s.at' ≤ m then m + s.off else a) a = a := by
  induction xs generalizing a with
  | nil => rfl
  | cons s r ih =>
    rw [List.foldl_cons, if_neg (by have := h s (by simp); omega)]
    exact ih a (fun t ht => h t (by simp [ht]))
theorem clk_at (xs : List Sft) (m : Int) (k : Nat) (s : Sft) (hk : xs[k]? = some s) (h1 : s.at' ≤ m) (h2 : ∀ (j : Nat) (t : Sft), k < j → xs[j]? = some t → m < t.at') : clk xs m = m + s.off := by
  have hlt : k < xs.length := (List.getElem?_eq_some_iff.1 hk).1
  have e : xs = xs.take k ++ s :: xs.drop (k + 1) := by
    have : xs[k] = s := by simpa [List.getElem?_eq_getElem hlt] using hk
    rw [← this, ← List.drop_eq_getElem_cons hlt, List.take_append_drop]
  unfold clk
  rw [e, List.foldl_append, List.foldl_cons, if_pos h1]
  refine clk_past _ _ _ fun t ht => ?_
  obtain ⟨i, hi, he⟩ := List.getElem_of_mem ht
  refine h2 (k + 1 + i) t (by omega) ?_
  rw [List.getElem_drop] at he
  rw [← he]
  exact List.getElem?_eq_getElem _
theorem clk_le (xs : List Sft) (m : Int) (h : ∀ s ∈ xs, -720 ≤ s.off ∧ s.off ≤ 840) : m - 720 ≤ clk xs m ∧ clk xs m ≤ m + 840 := by
  have : ∀ (l : List Sft) (a : Int), (∀ s ∈ l, -720 ≤ s.off ∧ s.off ≤ 840) → m - 720 ≤ a → a ≤ m + 840 → m - 720 ≤ l.foldl (fun a s => if s.at' ≤ m then m + s.off else a) a ∧ l.foldl (fun a s => if s.at' ≤ m then m + s.off else a) a ≤ m + 840 := by
    intro l
    induction l with
    | nil => intro a _ h1 h2; exact ⟨h1, h2⟩
    | cons s r ih =>
      intro a hs h1 h2
      rw [List.foldl_cons]
      have := hs s (by simp)
      refine ih _ (fun t ht => hs t (by simp [ht])) ?_ ?_ <;> split <;> omega
  exact this xs m h (by omega) (by omega)
structure GoodZ (xs : List Sft) : Prop where
  ne : 1 ≤ xs.length
  len : xs.length ≤ 100
  rng : ∀ s ∈ xs, (0 ≤ s.at' ∧ s.at' ≤ 4321439) ∧ (-720 ≤ s.off ∧ s.off ≤ 840)
  zero : ∀ s : Sft, xs[0]? = some s → s.at' = 0
  rise : ∀ (i j : Nat) (s t : Sft), i < j → xs[i]? = some s → xs[j]? = some t → s.at' < t.at'
theorem shiftsGo_ok (xs : List Sft) (prev : Option Int) (h : shiftsGo prev xs = 0) : (∀ s ∈ xs, (0 ≤ s.at' ∧ s.at' ≤ 4321439) ∧ (-720 ≤ s.off ∧ s.off ≤ 840)) ∧ (prev = none → ∀ s : Sft, xs[0]? = some s → s.at' = 0) ∧
    (∀ p, prev = some p → ∀ s ∈ xs, p < s.at') ∧ (∀ (i j : Nat) (s t : Sft), i < j → xs[i]? = some s → xs[j]? = some t → s.at' < t.at') := by
  induction xs generalizing prev with
  | nil => exact ⟨(fun _ h => by cases h), (fun _ _ h => by simp at h), (fun _ _ _ h => by cases h), (fun _ _ _ _ _ h => by simp at h)⟩
  | cons s r ih =>
    unfold shiftsGo at h
    split at h
    · cases h
    rename_i h1
    split at h
    · cases h
    rename_i h2
    split at h
    · cases h
    rename_i h3
    obtain ⟨i1, _, i3, i4⟩ := ih _ h
    have h1 := Classical.not_not.1 h1
    have hp : ∀ p, prev = some p → p < s.at' := fun p hp => by subst hp; simp at h3; omega
    refine ⟨fun t ht => ?_, fun hn t ht => ?_, fun p hp' t ht => ?_, fun i j a b hij ha hb => ?_⟩
    · rcases List.mem_cons.1 ht with rfl | ht
      · exact h1
      · exact i1 t ht
    · have : s = t := by simpa using ht
      subst this
      exact Classical.not_not.1 fun h => h2 ⟨hn, h⟩
    · have := hp p hp'
      rcases List.mem_cons.1 ht with rfl | ht
      · exact this
      · have := i3 _ rfl t ht; omega
    · cases j with
      | zero => omega
      | succ j =>
        have hb : r[j]? = some b := by simpa using hb
        cases i with
        | zero =>
          have : s = a := by simpa using ha
          subst this
          exact i3 _ rfl b (List.mem_of_getElem? hb)
        | succ i => exact i4 i j a b (by omega) (by simpa using ha) hb
theorem zone_good {nm : ByteArray} {xs : List Sft} (h : zoneFault nm xs = 0) : GoodZ xs := by
  unfold zoneFault at h
  split at h
  · cases h
  split at h
  · cases h
  split at h
  · cases h
  obtain ⟨h1, h2, _, h4⟩ := shiftsGo_ok _ _ h
  exact ⟨by omega, by omega, h1, h2 rfl, h4⟩
end Go.Proofs.YtmlpkejeglpciaaGreatDoor

/- What event.within and event.CheckZone return. -/
namespace Go.Proofs.YtmlpkejeglpciaaGreatDoor
open Go.RowKit
theorem LV.kb {w w' : World} {X B : Nat} {cs : Array Value} {T : TypeId} (h : LV w X cs T) (k : Below B w w') (hb : X < B) : LV w' X cs T := (k.block X hb).trans h
def Sft.cells (s : Sft) : List Value := [.int .i64 s.at', .int .i64 s.off]
def rSft : Rep Sft := .flat 2 Sft.cells (fun _ => rfl)
theorem Sl.sft {N : Nat → Prop} {w : World} {A : Option Addr} {xs : List Sft} (h : Sl rSft N w A xs) (k : Nat) (s : Sft) (hk : xs[k]? = some s) : ∃ blk off, A = some ⟨blk, off, none⟩ ∧ blk < w.heap.size ∧
    w.cell? ⟨blk, off + k * 2, none⟩ = some (.int .i64 s.at') ∧ w.cell? ⟨blk, off + k * 2 + 1, none⟩ = some (.int .i64 s.off) := by
  obtain ⟨blk, off, l, e, h1, _, h3, h4⟩ := h k s hk
  obtain rfl : l = Sft.cells s := h3
  exact ⟨blk, off, e, h1, h4 0 _ rfl, h4 1 _ rfl⟩
def Sft.small (s : Sft) : Prop := -10000000000000 ≤ s.at' ∧ s.at' ≤ 10000000000000
theorem ewithin_any (n a b : Int) (w : World) : Calls Tryz.prog 111 #[.int .i64 n, .int .i64 a, .int .i64 b] w fun e w' => e = .returned (.bool (decide (a ≤ n ∧ n ≤ b))) ∧ w = w' := by
  by_cases h1 : a ≤ n <;> by_cases h2 : n ≤ b
  all_goals
    simp only [h1, h2, and_true, and_false, decide_true, decide_false]
    go_enter Tryz.func111, Tryz.ntmps111
    go_wp2
    go_ret
    exact ⟨rfl, rfl⟩
set_option maxHeartbeats 4000000 in
set_option maxRecDepth 100000 in
theorem checkZone_any (N : Nat → Prop) (A : Option Addr) (nm : ByteArray) (xs : List Sft) (c : Nat) (w : World) (hS : Sl rSft N w A xs) (hnm : nm.size ≤ 1000000000) (hn : xs.length ≤ 1000000000) (hsm : ∀ s ∈ xs, s.small) :
    Calls Tryz.prog 110 #[.agg #[.string nm, .slice A xs.length c]] w fun e w' => e = .returned (.int .i64 (zoneFault nm xs)) ∧ Below w.heap.size w w' := by
  have Hkey : Hid (∀ w, Calls Tryz.prog 107 #[.string nm] w fun e w' => e = .returned (.bool (L.isKey nm)) ∧ Below w.heap.size w w') := fun w => (isKey_any nm w hnm).mono fun e w' ⟨h1, h2⟩ => ⟨h1, h2 ▸ Below.refl _ _⟩
  have HS := Lib.hid hS
  have Hsm := Lib.hid hsm
  clear hS hsm
  obtain ⟨R, HR⟩ : ∃ R, Hid (zoneFault nm xs = R) := ⟨_, Lib.hid rfl⟩
  rw [HR.out]
  have Hb0 : Hid (Below w.heap.size w (w.alloc (.cells #[.string nm, .slice A xs.length c] 91))) := (Below.refl _ _).alloc (Nat.le_refl _) _
  have lvZ := LV.new w w.heap.size #[.string nm, .slice A xs.length c] 91 rfl
  by_cases hK : L.isKey nm = true
  · rw [hK] at Hkey
    go_enter Tryz.func110, Tryz.ntmps110
    go_wp2_with fail
    refine (Hkey.out _).mono ?_
    rintro e w1 ⟨rfl, hl_w1⟩
    have hz_w1 := hl_w1.size
    have lv1 := LV.kb lvZ hl_w1 (by simp)
    have Hb1 : Hid (Below w.heap.size w w1) := Hb0.out.trans (hl_w1.mono (by simp))
    have hz1 := Hb1.out.size
    have hlt1 := lv1.lt
    have z1 := lv1.cell 1 _ rfl
    clear hl_w1 hz_w1 lvZ Hb0 Hkey
    by_cases h0 : xs.length = 0
    · have h0' : ((xs.length : Int) == 0) = true := by simpa using h0
      have HR2 : Hid (3 = R) := by show _ = _; rw [← HR.out, zoneFault, hK, if_neg (by simp), if_pos h0]
      clear HR
      go_wp2_with fail
      go_ret
      exact ⟨ret_i HR2.out, Hb1.out⟩
    · have h0' : ((xs.length : Int) == 0) = false := by simpa using h0
      by_cases h100 : 100 < xs.length
      · have HR2 : Hid (2 = R) := by show _ = _; rw [← HR.out, zoneFault, hK, if_neg (by simp), if_neg h0, if_pos h100]
        clear HR
        go_wp2_with fail
        go_ret
        exact ⟨ret_i HR2.out, Hb1.out⟩
      · have HR2 : Hid (shiftsGo none xs = R) := by show _ = _; rw [← HR.out, zoneFault, hK, if_neg (by simp), if_neg h0, if_neg h100]
        clear HR hK
        go_wp2_with fail
        go_loopw [23] (fun i wr => ∃ k : Nat, k ≤ xs.length ∧ i = .int .i64 k ∧ shiftsGo (if k = 0 then none else (xs[k - 1]?).map Sft.at') (xs.drop k) = R ∧ Below w1.heap.size w1 wr) (fun i _ => xs.length - (intOf i).toNat)
        case atStart => exact ⟨0, Nat.zero_le _, rfl, HR2.out, Below.refl _ _⟩
        case round =>
          clear HR2
          obtain ⟨k, hk, rfl, hr, hbl⟩ := hrel
          have Hr := Lib.hid hr
          have Hbl := Lib.hid hbl
          have hszr := hbl.size
          have lvr := LV.kb lv1 hbl lv1.lt
          have zr := lvr.cell 1 _ rfl
          have Hbw : Hid (Below w.heap.size w wr) := Hb1.out.trans (hbl.mono Hb1.out.size)
          clear hr hbl z1 lv1
          by_cases hlt : k < xs.length
          · obtain ⟨s, hs⟩ : ∃ s, xs[k]? = some s := ⟨_, List.getElem?_eq_getElem hlt⟩
            obtain ⟨blk, off, rfl, hblk, c0, c1⟩ := HS.out.sft k s hs
            have d0 := (Hbw.out.cell (p := ⟨blk, off + k * 2, none⟩) hblk).trans c0
            have d1 := (Hbw.out.cell (p := ⟨blk, off + k * 2 + 1, none⟩) hblk).trans c1
            have hss := Hsm.out s (List.mem_of_getElem? hs)
            unfold Sft.small at hss
            have Hs := Lib.hid hs
            have Hstep : Hid (shiftsGo (if k = 0 then none else (xs[k - 1]?).map Sft.at') (s :: xs.drop (k + 1)) = R) := by
              show _ = _
              rw [← Hr.out, List.drop_eq_getElem_cons hlt]
              have : xs[k] = s := by simpa [List.getElem?_eq_getElem hlt] using Hs.out
              rw [this]
            clear Hr c0 c1 hs
            have Hb2 : Hid (Below w1.heap.size w1 (wr.alloc (.cells #[.int .i64 s.at', .int .i64 s.off] 88))) := Hbl.out.alloc Hbl.out.size _
            have Hbw2 : Hid (Below w.heap.size w (wr.alloc (.cells #[.int .i64 s.at', .int .i64 s.off] 88))) := Hbw.out.alloc Hbw.out.size _
            by_cases ha : 0 ≤ s.at' ∧ s.at' ≤ 4321439
            · have ea : decide ((0 : Int) ≤ s.at' ∧ s.at' ≤ 4321439) = true := by simpa using ha
              by_cases ho : -720 ≤ s.off ∧ s.off ≤ 840
              · have eo : decide ((-720 : Int) ≤ s.off ∧ s.off ≤ 840) = true := by simpa using ho
                go_wp2_with fail
                refine (ewithin_any _ _ _ _).mono ?_
                rintro e _ ⟨rfl, rfl⟩
                rw [ea]
                go_wp2_with fail
                refine (ewithin_any _ _ _ _).mono ?_
                rintro e _ ⟨rfl, rfl⟩
                rw [eo]
                clear ea eo d0 d1 zr
                have lvs := LV.new wr wr.heap.size #[.int .i64 s.at', .int .i64 s.off] 88 rfl
                have lvz2 := lvr.alloc (.cells #[.int .i64 s.at', .int .i64 s.off] 88)
                clear lvr
                generalize wr.alloc (.cells #[.int .i64 s.at', .int .i64 s.off] 88) = wq at *
                have s0 : wq.cell? ⟨wr.heap.size, 0, none⟩ = some (.int .i64 s.at') := lvs.cell 0 _ rfl
                have z1 : wq.cell? ⟨w.heap.size, 1, none⟩ = some (.slice (some ⟨blk, off, none⟩) xs.length c) := lvz2.cell 1 _ rfl
                clear lvs lvz2
                by_cases hk0 : k = 0
                · have hk1 : decide ((0 : Int) < (k : Int)) = false := by simp; omega
                  have hk2 : ((k : Int) == 0) = true := by simp; omega
                  by_cases hz : s.at' = 0
                  · have hz' : (s.at' == 0) = true := by simpa using hz
                    have Hn : Hid (shiftsGo (if k + 1 = 0 then none else (xs[k + 1 - 1]?).map Sft.at') (xs.drop (k + 1)) = R) := by
                      show _ = _
                      rw [← Hstep.out, if_pos hk0, shiftsGo_zero s _ ⟨ha, ho⟩ hz, if_neg (Nat.succ_ne_zero k), Nat.add_sub_cancel, Hs.out]
                      rfl
                    clear Hstep hz
                    go_wp2_with fail
                    go_quiet (fail)
                    go_wp2_with fail
                    go_roundw
                    case rel => exact ⟨k + 1, by omega, by go_num, Hn.out, Hb2.out.trans (below_drewN _ _ _)⟩
                    case measure => simp [intOf]; omega
                  · have hz' : (s.at' == 0) = false := by simpa using hz
                    have Hn : Hid (3 = R) := by
                      show _ = _
                      rw [← Hstep.out, if_pos hk0, shiftsGo_first s _ ⟨ha, ho⟩ hz]
                    clear Hstep hz
                    go_wp2_with fail
                    go_ret
                    exact ⟨ret_i Hn.out, Hbw2.out⟩
                · obtain ⟨j, rfl⟩ : ∃ j, k = j + 1 := ⟨k - 1, by omega⟩
                  obtain ⟨p, hp⟩ : ∃ p, xs[j]? = some p := ⟨_, List.getElem?_eq_getElem (by omega)⟩
                  obtain ⟨_, _, e, _, p0, _⟩ := HS.out.sft j p hp
                  cases e
                  have q0 : wq.cell? ⟨blk, off + j * 2, none⟩ = some (.int .i64 p.at') := (Hbw2.out.cell (p := ⟨blk, off + j * 2, none⟩) hblk).trans p0
                  have hps := Hsm.out p (List.mem_of_getElem? hp)
                  unfold Sft.small at hps
                  have Hp := Lib.hid hp
                  have hk1 : decide ((0 : Int) < (j : Int) + 1) = true := by rw [decide_eq_true_eq]; omega
                  have hk2 : ((j : Int) + 1 == 0) = false := by rw [beq_eq_false_iff_ne]; omega
                  have hk3 : (j : Int) + 1 - 1 = (j : Int) := by omega
                  have hsum : IntKind.i64.wrap (p.at' + 1800) = p.at' + 1800 := IntWalk.i64_in _ (by omega)
                  have Hn0 : Hid ((if s.at' < p.at' + 1800 then 7 else shiftsGo (some s.at') (xs.drop (j + 1 + 1))) = R) := by
                    show _ = _
                    rw [← Hstep.out, if_neg (Nat.succ_ne_zero j), Nat.add_sub_cancel, Hp.out]
                    exact (shiftsGo_next p.at' s _ ⟨ha, ho⟩).symm
                  clear Hstep hp p0 hk0
                  by_cases hlt7 : s.at' < p.at' + 1800
                  · have Hn : Hid (7 = R) := by show _ = _; rw [← Hn0.out, if_pos hlt7]
                    clear Hn0
                    go_wp2_with fail
                    go_quiet (fail)
                    go_wp2_with fail
                    go_ret
                    exact ⟨ret_i Hn.out, Hbw2.out.trans (below_drewN _ _ _)⟩
                  · have Hn : Hid (shiftsGo (if j + 1 + 1 = 0 then none else (xs[j + 1 + 1 - 1]?).map Sft.at') (xs.drop (j + 1 + 1)) = R) := by
                      show _ = _
                      rw [← Hn0.out, if_neg hlt7, if_neg (Nat.succ_ne_zero _), Nat.add_sub_cancel, Hs.out]
                      rfl
                    clear Hn0
                    go_wp2_with fail
                    go_quiet (fail)
                    go_wp2_with fail
                    go_roundw
                    case rel => exact ⟨j + 1 + 1, by omega, by go_num, Hn.out, Hb2.out.trans (below_drewN _ _ _)⟩
                    case measure => simp [intOf]; omega
              · have eo : decide ((-720 : Int) ≤ s.off ∧ s.off ≤ 840) = false := by simpa using ho
                have Hn : Hid (1 = R) := by show _ = _; rw [← Hstep.out, shiftsGo_rng _ s _ (fun h => ho h.2)]
                clear Hstep
                go_wp2_with fail
                refine (ewithin_any _ _ _ _).mono ?_
                rintro e _ ⟨rfl, rfl⟩
                rw [ea]
                go_wp2_with fail
                refine (ewithin_any _ _ _ _).mono ?_
                rintro e _ ⟨rfl, rfl⟩
                rw [eo]
                go_wp2_with fail
                go_ret
                exact ⟨ret_i Hn.out, Hbw2.out⟩
            · have ea : decide ((0 : Int) ≤ s.at' ∧ s.at' ≤ 4321439) = false := by simpa using ha
              have Hn : Hid (1 = R) := by show _ = _; rw [← Hstep.out, shiftsGo_rng _ s _ (fun h => ha h.1)]
              clear Hstep
              go_wp2_with fail
              refine (ewithin_any _ _ _ _).mono ?_
              rintro e _ ⟨rfl, rfl⟩
              rw [ea]
              go_wp2_with fail
              go_ret
              exact ⟨ret_i Hn.out, Hbw2.out⟩
          · have Hn : Hid (0 = R) := by show _ = _; rw [← Hr.out, List.drop_eq_nil_of_le (by omega)]; rfl
            clear Hr
            go_wp2_with fail
            go_ret
            exact ⟨ret_i Hn.out, Hbw.out⟩
  · have hK : L.isKey nm = false := by simpa using hK
    rw [hK] at Hkey
    go_enter Tryz.func110, Tryz.ntmps110
    go_wp2_with fail
    refine (Hkey.out _).mono ?_
    rintro e w1 ⟨rfl, hl_w1⟩
    have hz_w1 := hl_w1.size
    have Hb1 : Hid (Below w.heap.size w w1) := Hb0.out.trans (hl_w1.mono (by simp))
    clear lvZ hl_w1 hz_w1
    go_wp2_with fail
    go_ret
    exact ⟨ret_i (by rw [← HR.out, zoneFault, hK, if_pos rfl]), Hb1.out⟩
end Go.Proofs.YtmlpkejeglpciaaGreatDoor
