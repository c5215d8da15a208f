/- What isMail, checkSign and CheckId of package person return. -/
import Derived.Test.YtlnklkedpknbpaaGreatDoorIdPreds
import Derived.Test.YtlnklkedpknbpaaGreatDoorMix
namespace Go.Proofs.YtlnklkedpknbpaaGreatDoor
open Go.RowKit
theorem indexByte_any (s : ByteArray) (c : UInt8) (w : World) : Calls Tryz.prog 149 #[.string s, .int .u8 (c.toNat : Int)] w fun e w' => e = .returned (.int .i64 (Lib.indexByte s.data.toList c)) ∧ w = w' :=
  (Tryz.strings_IndexByte s c.toNat w).mono fun e w' ⟨h1, h2⟩ => ⟨by rw [h1]; simp, h2.symm⟩
set_option maxRecDepth 100000 in
theorem signs_at (n : Nat) (h : n < (⟨#[48, 49, 50, 51, 52, 53, 54, 55, 56, 57, 65, 66, 67, 68, 69, 70, 71, 72, 73, 74, 75, 76, 77, 78, 79, 80, 81, 82, 83, 84, 85, 86, 87, 88, 89, 90]⟩ : ByteArray).size) : (⟨#[48, 49, 50, 51, 52, 53, 54, 55, 56, 57, 65, 66, 67, 68, 69, 70, 71, 72, 73, 74, 75, 76, 77, 78, 79, 80, 81, 82, 83, 84, 85, 86, 87, 88, 89, 90]⟩ : ByteArray)[n] = L.signAt n := by
  have : ∀ i : Fin 36, (⟨#[48, 49, 50, 51, 52, 53, 54, 55, 56, 57, 65, 66, 67, 68, 69, 70, 71, 72, 73, 74, 75, 76, 77, 78, 79, 80, 81, 82, 83, 84, 85, 86, 87, 88, 89, 90]⟩ : ByteArray)[i.val]'i.isLt = L.signAt i.val := by decide +kernel
  exact this ⟨n, h⟩
set_option maxHeartbeats 1000000 in
set_option maxRecDepth 100000 in
theorem checkSign_any (s : ByteArray) (w : World) (hs : s.size ≤ 1000) (hmb : s.data.toList.all L.memberByte = true) :
    Calls Tryz.prog 132 #[.string s] w fun e w' => e = .returned (.int .u8 ((L.signAt (L.checkNo s.data.toList)).toNat : Int)) ∧ w = w' := by
  have Hmb := Lib.hid hmb
  have hsum := L.sgnSum_le s.data.toList hmb
  rw [show s.data.toList.length = s.size from rfl] at hsum
  clear hmb
  obtain ⟨R, HR⟩ : ∃ R, Hid (L.checkNo s.data.toList = R) := ⟨_, Lib.hid rfl⟩
  rw [HR.out]
  obtain ⟨T, HT⟩ : ∃ T, Hid (L.sgnSum s.data.toList = T) := ⟨_, Lib.hid rfl⟩
  rw [HT.out] at hsum
  have HR2 : Hid (R = (36 - T % 36) % 36) := by show _ = _; rw [← HR.out, L.checkNo, HT.out]
  clear HR
  go_enter Tryz.func132, Tryz.ntmps132
  go_wp2_with fail
  go_loopw [3, 4, 5] (fun a b i wr => ∃ (k u t : Nat), k ≤ s.size ∧ i = .int .i64 ((k : Int) - 1) ∧ a = .int .i64 u ∧ L.sgnSum (s.data.toList.drop k) = u ∧ u ≤ 36 * (s.size - k) ∧ b = .int .i64 (t : Int) ∧ t = (if (s.size - k) % 2 = 0 then 2 else 1) ∧ wr = w) (fun _ _ i _ => (intOf i + 1).toNat)
  case atStart => exact ⟨s.size, 0, 2, Nat.le_refl _, rfl, rfl, by rw [show s.data.toList.drop s.size = [] from List.drop_eq_nil_of_le (Nat.le_refl s.size)]; rfl, by omega, rfl, by simp, rfl⟩
  case round =>
    obtain ⟨k, u, t, hk, rfl, rfl, hu, hu2, rfl, ht, rfl⟩ := hrel
    have Hu := Lib.hid hu
    have Ht := Lib.hid ht
    clear hu ht
    by_cases h0 : k = 0
    · subst h0
      have Hx : Hid (u = T) := by show _ = _; rw [← Hu.out, List.drop_zero, HT.out]
      have hr36 : R < 36 := by rw [HR2.out]; omega
      have e1 : (36 : Int) - (u : Int) % 36 = ((36 - u % 36 : Nat) : Int) := by omega
      have e2 : ((36 - u % 36 : Nat) : Int) % 36 = (R : Int) := by rw [HR2.out, ← Hx.out]; omega
      have Hs := Lib.hid (signs_at R hr36)
      clear Hx
      go_wp2_with fail
      go_ret
      exact ⟨by rw [← Hs.out]; rfl, rfl⟩
    · obtain ⟨j, rfl⟩ : ∃ j, k = j + 1 := ⟨k - 1, by omega⟩
      have ej : ((j + 1 : Nat) : Int) - 1 = (j : Int) := by omega
      rw [ej]
      have hjs : j < s.size := by omega
      have hjl : j < s.data.toList.length := hjs
      have hmj : L.memberByte s[j] = true := List.all_eq_true.1 Hmb.out _ (List.getElem_mem (l := s.data.toList) hjl)
      have hlt := L.sgn_lt s[j] hmj
      have Hstep : Hid (L.sgnSum (s.data.toList.drop j) = L.q36 (if (s.size - (j + 1)) % 2 = 0 then 2 * L.sgn s[j] else L.sgn s[j]) + u) := by
        show _ = _
        rw [List.drop_eq_getElem_cons hjl, L.sgnSum, Hu.out, List.length_drop]
        rfl
      obtain ⟨v, hv⟩ : ∃ v : Nat, Lib.indexByte L.signs s[j] = (v : Int) := Int.eq_ofNat_of_zero_le hlt.1
      have hv36 : v < 36 := by omega
      have Hv2 : Hid (L.sgn s[j] = v) := by show _ = _; rw [L.sgn, hv]; rfl
      have Hix : Hid (∀ w, Calls Tryz.prog 149 #[.string ⟨#[48, 49, 50, 51, 52, 53, 54, 55, 56, 57, 65, 66, 67, 68, 69, 70, 71, 72, 73, 74, 75, 76, 77, 78, 79, 80, 81, 82, 83, 84, 85, 86, 87, 88, 89, 90]⟩, .int .u8 (s[j].toNat : Int)] w fun e w' => e = .returned (.int .i64 (v : Int)) ∧ w = w') := fun w => hv ▸ indexByte_any ⟨#[48, 49, 50, 51, 52, 53, 54, 55, 56, 57, 65, 66, 67, 68, 69, 70, 71, 72, 73, 74, 75, 76, 77, 78, 79, 80, 81, 82, 83, 84, 85, 86, 87, 88, 89, 90]⟩ s[j] w
      have hq := L.q36_le (2 * v) (by omega)
      clear hv hlt hmj h0 Hu ej
      rw [Hv2.out] at Hstep
      by_cases hp : (s.size - (j + 1)) % 2 = 0
      · rw [if_pos hp] at Hstep
        have Hp := Lib.hid hp
        obtain rfl : 2 = t := by rw [Ht.out, if_pos hp]
        clear hp Ht hq
        go_wp2_with fail
        ((with_reducible refine (Hix.out _).mono ?_); rintro e _ ⟨rfl, rfl⟩)
        clear Hix
        go_wp2_with fail
        go_roundw
        case rel => exact ⟨j, u + L.q36 (2 * v), 1, by omega, by go_num, by unfold L.q36; go_num, by rw [Hstep.out, Nat.add_comm], by have := L.q36_le (2 * v) (by omega); omega, rfl, by rw [if_neg (by have := Hp.out; omega)], trivial⟩
        case measure => simp [intOf]
      · rw [if_neg hp] at Hstep
        have Hp := Lib.hid hp
        obtain rfl : 1 = t := by rw [Ht.out, if_neg hp]
        clear hp Ht hq
        go_wp2_with fail
        ((with_reducible refine (Hix.out _).mono ?_); rintro e _ ⟨rfl, rfl⟩)
        clear Hix
        go_wp2_with fail
        go_roundw
        case rel => exact ⟨j, u + L.q36 v, 2, by omega, by go_num, by unfold L.q36; go_num, by rw [Hstep.out, Nat.add_comm], by have := L.q36_le v (by omega); omega, rfl, by rw [if_pos (by have := Hp.out; omega)], trivial⟩
        case measure => simp [intOf]
set_option maxHeartbeats 2000000 in
set_option maxRecDepth 100000 in
theorem isMail_any (s : ByteArray) (w : World) (hs : s.size ≤ 1000000) (hM : MaxL w) :
    Calls Tryz.prog 128 #[.string s] w fun e w' => e = .returned (.bool (L.mailOk s)) ∧ Below w.heap.size w w' := by
  have HM := Lib.hid hM
  have hcl := cut_le s.data.toList [64]
  have Hcut : Hid (∀ w, MaxL w → Calls Tryz.prog 87 #[.string s, .string ⟨#[64]⟩] w fun e w' => e = .returned (.tuple #[.string ⟨(Lib.cut s.data.toList [64]).1.toArray⟩, .string ⟨(Lib.cut s.data.toList [64]).2.1.toArray⟩, .bool (Lib.cut s.data.toList [64]).2.2]) ∧ Below w.heap.size w w') := fun w h => cut_any s w (by omega) h ⟨#[64]⟩
  unfold L.mailOk at *
  generalize Lib.cut s.data.toList [64] = ct at *
  obtain ⟨ll, dl, ok⟩ := ct
  dsimp only at *
  have hlo : (ByteArray.mk ll.toArray).size ≤ 1000000 := Nat.le_trans hcl.1 hs
  have hdo : (ByteArray.mk dl.toArray).size ≤ 1000000 := Nat.le_trans hcl.2 hs
  clear hM hcl
  generalize ByteArray.mk ll.toArray = lo at *
  generalize ByteArray.mk dl.toArray = dom at *
  obtain ⟨R, HR⟩ : ∃ R, Hid ((ok && decide (s.size ≤ 80) && L.localOk lo && (L.labels dom).all L.labelOk && decide (2 ≤ (L.labels dom).length)) = R) := ⟨_, Lib.hid rfl⟩
  rw [HR.out]
  obtain ⟨C, HC⟩ : ∃ C, Hid (Lib.contains lo.data.toList [46, 46] = C) := ⟨_, Lib.hid rfl⟩
  obtain ⟨M, HB⟩ : ∃ M, Hid (lo.data.toList.all L.mailByte = M) := ⟨_, Lib.hid rfl⟩
  have Hcon : Hid (∀ w, MaxL w → Calls Tryz.prog 91 #[.string lo, .string ⟨#[46, 46]⟩] w fun e w' => e = .returned (.bool C) ∧ w = w') := fun w h => HC.out ▸ contains_any lo ⟨#[46, 46]⟩ w (by omega) h
  have Hall : Hid (∀ w, Calls Tryz.prog 124 #[.string lo, .func (.func 170) #[] #[]] w fun e w' => e = .returned (.bool M) ∧ w = w') := fun w => HB.out ▸ all_any _ _ isMail1_pb lo w (by omega) (fun _ _ => by kernel_rfl)
  by_cases hz : 1 ≤ lo.size ∧ lo.size ≤ 64
  · have e1 : decide ((1 : Int) ≤ lo.size ∧ (lo.size : Int) ≤ 64) = true := by simp; omega
    have Hh := Lib.hid (headD_at lo (by omega))
    have Hl := Lib.hid (lastD_at lo (by omega))
    have hz1 : lo.size - 1 < lo.size := by omega
    have hz0 : 0 < lo.size := by omega
    have ez : (lo.size : Int) - 1 = ((lo.size - 1 : Nat) : Int) := by omega
    have Hlok : Hid (L.localOk lo = (((lo[0].toNat : Int) != 46) && ((lo[lo.size - 1].toNat : Int) != 46) && !C && M)) := by
      show _ = _
      unfold L.localOk L.ends
      rw [HC.out, HB.out, Hh.out, Hl.out, u8_ne _ 46 46 rfl, u8_ne _ 46 46 rfl]
      simp [hz]
    clear Hh Hl HC HB
    rw [Hlok.out] at HR
    clear Hlok
    go_enter Tryz.func128, Tryz.ntmps128
    go_wp2_with fail
    ((with_reducible refine (Hcut.out _ HM.out).mono ?_); rintro e w1 ⟨rfl, hl_w1⟩)
    have hz_w1 := hl_w1.size
    have HM1 := Lib.hid (HM.out.below hl_w1)
    have Hb1 := Lib.hid hl_w1
    clear hl_w1 Hcut HM
    go_wp2_with (first | (go_at_call 122; refine (within_any _ _ _ _).mono ?_; rintro e _ ⟨rfl, rfl⟩; rw [e1]) | (go_at_call 124; refine (Hall.out _).mono ?_; rintro e _ ⟨rfl, rfl⟩) | (go_at_call 91; refine (Hcon.out _ HM1.out).mono ?_; rintro e _ ⟨rfl, rfl⟩))
    all_goals try
      go_ret
      refine ⟨ret_b ?_, Hb1.out⟩
      rw [← HR.out]
      clear HR
      first
        | (simp_all; done)
        | (have h80 : ¬ s.size ≤ 80 := by omega
           simp [h80]
           done)
        | (have hC : C = true := by
             have hh : ((80 < (s.size : Int) ∨ ((lo[0].toNat : Int) == 46) = true) ∨ ((lo[lo.size - 1].toNat : Int) == 46) = true) ∨ C = true := by assumption
             rcases hh with ((h | h) | h) | h
             · omega
             · exact absurd (by simpa using h) ‹¬ (lo[0].toNat : Int) = 46›
             · exact absurd (by simpa using h) ‹¬ (lo[lo.size - 1].toNat : Int) = 46›
             · exact h
           simp [hC]
           done)
    have hfin : ok = true ∧ s.size ≤ 80 ∧ (lo[0].toNat : Int) ≠ 46 ∧ (lo[lo.size - 1].toNat : Int) ≠ 46 ∧ C = false ∧ M = true := by
      refine ⟨by assumption, by omega, by assumption, by assumption, by simp_all, by simp_all⟩
    have HR2 : Hid (((L.labels dom).all L.labelOk && decide (2 ≤ (L.labels dom).length)) = R) := by
      show _ = _
      rw [← HR.out]
      obtain ⟨h1, h2, h3, h4, h5, h6⟩ := hfin
      have h3' : ((lo[0].toNat : Int) != 46) = true := by simpa using h3
      have h4' : ((lo[lo.size - 1].toNat : Int) != 46) = true := by simpa using h4
      rw [h1, h3', h4', h5, h6]
      simp [h2]
    clear hfin HR
    ((with_reducible refine (split_any dom _ (by omega) HM1.out).mono ?_); rintro e w2 ⟨blk, c, rfl, hblk, hcell, hl2⟩)
    have Hsz : Hid (∀ x ∈ L.labels dom, x.size ≤ 1000000) := fun x hx => Nat.le_trans (split_le _ _ _ x hx) hdo
    have hlen : (L.labels dom).length ≤ 1000001 := Nat.le_trans (Lib.splitB_length_le _ _ _ _) (by have := Lib.countB_le ⟨#[46]⟩ (by decide) dom.size dom (Nat.le_refl _); omega)
    have Hc := Lib.hid hcell
    have Hb2 : Hid (Below w.heap.size w w2) := Hb1.out.trans (hl2.mono hz_w1)
    clear hcell hl2 Hb1 HM1 Hall Hcon e1 ez
    generalize L.labels dom = ls at *
    go_wp2_with fail
    go_loopw [52] (fun i wr => ∃ k : Nat, k ≤ ls.length ∧ i = .int .i64 k ∧ wr = w2 ∧ ((ls.drop k).all L.labelOk && decide (2 ≤ ls.length)) = R) (fun i _ => ls.length - (intOf i).toNat)
    case atStart => exact ⟨0, Nat.zero_le _, rfl, rfl, HR2.out⟩
    case round =>
      obtain ⟨k, hk, rfl, rfl, hr⟩ := hrel
      have Hr := Lib.hid hr
      clear hr HR2
      by_cases hlt : k < ls.length
      · obtain ⟨x, hx⟩ : ∃ x, ls[k]? = some x := ⟨_, List.getElem?_eq_getElem hlt⟩
        have hcx := Hc.out k x hx
        have hxs := Hsz.out x (List.mem_of_getElem? hx)
        have Hs : Hid (((L.labelOk x && (ls.drop (k + 1)).all L.labelOk) && decide (2 ≤ ls.length)) = R) := by
          show _ = _
          rw [← Hr.out, List.drop_eq_getElem_cons hlt, List.all_cons]
          have : ls[k] = x := by simpa [List.getElem?_eq_getElem hlt] using hx
          rw [this]
        clear hx Hr
        go_wp2_with fail
        ((with_reducible refine (isLabel_any x _ (by omega)).mono ?_); rintro e _ ⟨rfl, rfl⟩)
        by_cases hp : L.labelOk x = true
        · rw [hp] at Hs ⊢
          clear hp
          go_wp2_with fail
          go_roundw
          case rel => exact ⟨k + 1, by omega, by go_num, trivial, by rw [← Hs.out]; simp⟩
          case measure => simp [intOf]; omega
        · have hp' : L.labelOk x = false := by simpa using hp
          rw [hp'] at Hs ⊢
          clear hp hp'
          go_wp2_with fail
          go_ret
          exact ⟨ret_b (by rw [← Hs.out]; simp), Hb2.out⟩
      · go_wp2_with fail
        go_ret
        exact ⟨ret_b (by rw [← Hr.out, List.drop_eq_nil_of_le (by omega)]; rw [Bool.eq_iff_iff]; simp; omega), Hb2.out⟩
  · have e1 : decide ((1 : Int) ≤ lo.size ∧ (lo.size : Int) ≤ 64) = false := by simp; omega
    have E2 : Hid (L.localOk lo = false) := by
      show _ = _
      have : (decide (1 ≤ lo.size) && decide (lo.size ≤ 64)) = false := by simp; omega
      unfold L.localOk; rw [this]; rfl
    rw [E2.out] at HR
    go_enter Tryz.func128, Tryz.ntmps128
    go_wp2_with fail
    ((with_reducible refine (Hcut.out _ HM.out).mono ?_); rintro e w1 ⟨rfl, hl_w1⟩)
    have hz_w1 := hl_w1.size
    go_wp2_with (first | (go_at_call 122; refine (within_any _ _ _ _).mono ?_; rintro e _ ⟨rfl, rfl⟩; rw [e1]))
    all_goals (go_ret; refine ⟨ret_b ?_, hl_w1⟩; rw [← HR.out]; simp)

theorem extract_dropLast (s : ByteArray) (_ : 0 < s.size) : (s.extract 0 (s.size - 1)).data.toList = s.data.toList.dropLast := by
  rw [Lib.extract_from_zero, List.dropLast_eq_take]; rfl
set_option maxHeartbeats 2000000 in
set_option maxRecDepth 100000 in
theorem checkId_any (k : Int) (s : ByteArray) (w : World) (hs : s.size ≤ 1000000) (hM : MaxL w) :
    Calls Tryz.prog 76 #[.agg #[.int .i64 k, .string s]] w fun e w' => e = .returned (.int .i64 (L.idFault k s)) ∧ Below w.heap.size w w' := by
  have HM := Lib.hid hM
  clear hM
  obtain ⟨R, HR⟩ : ∃ R, Hid (L.idFault k s = R) := ⟨_, Lib.hid rfl⟩
  rw [HR.out]
  have Hb : Hid (Below w.heap.size w (w.alloc (.cells #[.int .i64 k, .string s] 29))) := (Below.refl _ _).alloc (Nat.le_refl _) _
  by_cases h1 : k = 1
  · subst h1
    have HR2 : Hid ((if L.mailOk s then (0 : Int) else 3) = R) := by show _ = _; rw [← HR.out, L.idFault, if_pos rfl]
    clear HR
    go_enter Tryz.func76, Tryz.ntmps76
    go_wp2_with fail
    ((with_reducible refine (isMail_any s _ hs (HM.out.below Hb.out)).mono ?_); rintro e w1 ⟨rfl, hl_w1⟩)
    have hz_w1 := hl_w1.size
    have Hb1 := Lib.hid (Hb.out.trans (hl_w1.mono (by simp)))
    have q1 : w1.cell? ⟨w.heap.size, 0, none⟩ = some (.int .i64 1) := by rw [hl_w1.cell (p := ⟨w.heap.size, 0, none⟩) (by simp), World.cell?_alloc_at _ _ _ _ rfl]; rfl
    have q2 : w1.cell? ⟨w.heap.size, 1, none⟩ = some (.string s) := by rw [hl_w1.cell (p := ⟨w.heap.size, 1, none⟩) (by simp), World.cell?_alloc_at _ _ _ _ rfl]; rfl
    clear hl_w1 Hb HM
    by_cases hp : L.mailOk s = true
    · rw [hp] at HR2 ⊢
      clear hp
      go_wp2_with fail
      go_quiet (fail)
      go_wp2_with fail
      go_ret
      exact ⟨ret_i (by rw [← HR2.out]; rfl), Hb1.out.trans (below_drewN _ _ _)⟩
    · have hp' : L.mailOk s = false := by simpa using hp
      rw [hp'] at HR2 ⊢
      clear hp hp'
      go_wp2_with fail
      go_ret
      exact ⟨ret_i (by rw [← HR2.out]; rfl), Hb1.out⟩
  · by_cases h2 : k = 2
    · subst h2
      clear h1
      have HR2 : Hid ((if L.phoneOk s then (0 : Int) else 3) = R) := by show _ = _; rw [← HR.out, L.idFault]; simp
      clear HR HM
      by_cases hp : L.phoneOk s = true
      · rw [hp] at HR2
        go_enter Tryz.func76, Tryz.ntmps76
        go_wp2_with fail
        ((with_reducible refine (isPhone_any s _ (by omega)).mono ?_); rintro e _ ⟨rfl, rfl⟩)
        rw [hp]
        clear hp
        go_wp2_with fail
        go_quiet (fail)
        go_wp2_with fail
        go_ret
        exact ⟨ret_i (by rw [← HR2.out]; rfl), Hb.out.trans (below_drewN _ _ _)⟩
      · have hp' : L.phoneOk s = false := by simpa using hp
        rw [hp'] at HR2
        go_enter Tryz.func76, Tryz.ntmps76
        go_wp2_with fail
        ((with_reducible refine (isPhone_any s _ (by omega)).mono ?_); rintro e _ ⟨rfl, rfl⟩)
        rw [hp']
        clear hp hp'
        go_wp2_with fail
        go_ret
        exact ⟨ret_i (by rw [← HR2.out]; rfl), Hb.out⟩
    · by_cases h4 : k = 4
      · subst h4
        clear h1 h2
        have HR2 : Hid ((if L.deviceOk s then (0 : Int) else 3) = R) := by show _ = _; rw [← HR.out, L.idFault]; simp
        clear HR HM
        by_cases hp : L.deviceOk s = true
        · rw [hp] at HR2
          go_enter Tryz.func76, Tryz.ntmps76
          go_wp2_with fail
          ((with_reducible refine (isDevice_any s _ (by omega)).mono ?_); rintro e _ ⟨rfl, rfl⟩)
          rw [hp]
          clear hp
          go_wp2_with fail
          go_quiet (fail)
          go_wp2_with fail
          go_ret
          exact ⟨ret_i (by rw [← HR2.out]; rfl), Hb.out.trans (below_drewN _ _ _)⟩
        · have hp' : L.deviceOk s = false := by simpa using hp
          rw [hp'] at HR2
          go_enter Tryz.func76, Tryz.ntmps76
          go_wp2_with fail
          ((with_reducible refine (isDevice_any s _ (by omega)).mono ?_); rintro e _ ⟨rfl, rfl⟩)
          rw [hp']
          clear hp hp'
          go_wp2_with fail
          go_ret
          exact ⟨ret_i (by rw [← HR2.out]; rfl), Hb.out⟩
      · by_cases h3 : k = 3
        · subst h3
          clear h1 h2 h4 HM
          have HR2 : Hid ((if L.memberOk s then (if L.signAt (L.checkNo s.data.toList.dropLast) = s.data.toList.getLastD 0 then (0 : Int) else 15) else 3) = R) := by show _ = _; rw [← HR.out, L.idFault]; simp
          clear HR
          by_cases hp : L.memberOk s = true
          · rw [hp, if_pos rfl] at HR2
            have hmo : (4 ≤ s.size ∧ s.size ≤ 20) ∧ s.data.toList.all L.memberByte = true := by
              unfold L.memberOk at hp
              simp only [Bool.and_eq_true, decide_eq_true_eq] at hp
              exact hp
            obtain ⟨⟨hm4, hm20⟩, hmb⟩ := hmo
            have hdl := extract_dropLast s (by omega)
            have hme : (s.extract 0 (s.size - 1)).data.toList.all L.memberByte = true := by
              rw [hdl, List.all_eq_true]
              exact fun x hx => List.all_eq_true.1 hmb x (List.dropLast_subset _ hx)
            have Hsg : Hid (∀ w, Calls Tryz.prog 132 #[.string (s.extract 0 (s.size - 1))] w fun e w' => e = .returned (.int .u8 ((L.signAt (L.checkNo s.data.toList.dropLast)).toNat : Int)) ∧ w' = w) := fun w => (checkSign_any _ w (by rw [ByteArray.size_extract]; omega) hme).mono fun e w' ⟨a, b⟩ => ⟨by rw [a, hdl], b.symm⟩
            rw [lastD_at s (by omega)] at HR2
            generalize L.signAt (L.checkNo s.data.toList.dropLast) = sg at *
            have hz1 : s.size - 1 < s.size := by omega
            have ez : (s.size : Int) - 1 = ((s.size - 1 : Nat) : Int) := by omega
            have hz2 : s.size - 1 ≤ s.size := by omega
            clear hmb hdl hme
            by_cases hq : sg = s[s.size - 1]
            · rw [if_pos hq] at HR2
              have e3 : ((sg.toNat : Int) != (s[s.size - 1].toNat : Int)) = false := by rw [hq]; simp
              clear hq
              go_enter Tryz.func76, Tryz.ntmps76
              go_wp2_with fail
              ((with_reducible refine (isMember_any s _ (by omega)).mono ?_); rintro e _ ⟨rfl, rfl⟩)
              rw [hp]
              clear hp
              go_wp2_with fail
              go_quiet ((go_at_call 132; exact Calls.quiet_of_same (Hsg.out _)))
              go_wp2_with fail
              go_ret
              exact ⟨ret_i (by rw [← HR2.out]), Hb.out.trans (below_drewN _ _ _)⟩
            · rw [if_neg hq] at HR2
              have e3 : ((sg.toNat : Int) != (s[s.size - 1].toNat : Int)) = true := by
                rw [bne_iff_ne]; intro h; exact hq (UInt8.toNat_inj.1 (by omega))
              clear hq
              go_enter Tryz.func76, Tryz.ntmps76
              go_wp2_with fail
              ((with_reducible refine (isMember_any s _ (by omega)).mono ?_); rintro e _ ⟨rfl, rfl⟩)
              rw [hp]
              clear hp
              go_wp2_with fail
              go_quiet ((go_at_call 132; exact Calls.quiet_of_same (Hsg.out _)))
              go_wp2_with fail
              go_ret
              exact ⟨ret_i (by rw [← HR2.out]), Hb.out.trans (below_drewN _ _ _)⟩
          · have hp' : L.memberOk s = false := by simpa using hp
            rw [hp'] at HR2
            go_enter Tryz.func76, Tryz.ntmps76
            go_wp2_with fail
            ((with_reducible refine (isMember_any s _ (by omega)).mono ?_); rintro e _ ⟨rfl, rfl⟩)
            rw [hp']
            clear hp hp'
            go_wp2_with fail
            go_ret
            exact ⟨ret_i (by rw [← HR2.out]; rfl), Hb.out⟩
        · have e1 : (k == 1) = false := by simpa using h1
          have e2 : (k == 2) = false := by simpa using h2
          have e3 : (k == 3) = false := by simpa using h3
          have e4 : (k == 4) = false := by simpa using h4
          go_enter Tryz.func76, Tryz.ntmps76
          go_wp2_with fail
          go_ret
          exact ⟨ret_i (by rw [← HR.out, L.idFault, if_neg h1, if_neg h2, if_neg h3, if_neg h4]), Hb.out⟩
end Go.Proofs.YtlnklkedpknbpaaGreatDoor
