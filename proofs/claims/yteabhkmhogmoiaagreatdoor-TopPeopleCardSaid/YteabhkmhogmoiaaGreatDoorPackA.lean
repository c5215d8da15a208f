/- Several texts in one: GenEvU, GenEsU, RightU. -/
import Derived.Test.YteabhkmhogmoiaaGreatDoorPackE
import Derived.Test.YteabhkmhogmoiaaGreatDoorPackQ
import Derived.Test.YteabhkmhogmoiaaGreatDoorPackO
/- What the generator Event makes, once more: its id. -/
namespace Go.Proofs.YteabhkmhogmoiaaGreatDoor
open Go.RowKit
def DrawsEvU (id : ByteArray) (b m : Nat) (w : World) (e : Ending) (w' : World) : Prop := ∃ (x : Evt) (A : Option Addr) (c : Nat), e = .returned (.agg (evCs x A c)) ∧ EvSm x ∧ (x.id = id ∨ x.id.size ≤ 1) ∧ St b m w w' [.sl rFld A x.flds]
set_option maxHeartbeats 8000000 in
set_option maxRecDepth 100000 in
theorem eventU_any (b m : Nat) (id : ByteArray) (at' : Int) (w : World) (hs : Strm b m w) (hm : m ≤ 100000000) (hid : id.size ≤ 1000) (hN : Names w) (hNb : 0 ≠ b) (hE : ENames w) (hEb : 2 ≠ b) (hP : Pool w) (hPb : 1 ≠ b) :
    Calls Tryz.prog 147 #[.pointer (some ⟨b, 0, none⟩), .string id, .int .i64 at'] w (DrawsEvU id b (m + 1100) w) := by
  have S := (St.start hs).new' ezCs 56
  replace S : St b m w (w.alloc (.cells ezCs 56)) [.loc w.heap.size ezCs 56] := S
  have HN := Lib.hid hN
  have HE := Lib.hid hE
  have HP := Lib.hid hP
  clear hs hN hE hP
  obtain ⟨R, hR⟩ : ∃ R, R = w.heap.size := ⟨_, rfl⟩
  rw [← hR] at S
  go_enter Tryz.func147, Tryz.ntmps147
  go_upto_region 1 with fail
  generalize w.alloc (.cells ezCs 56) = w1 at *
  rw [← hR]
  clear hR
  refine wp_region_mixG 14 (fun _ => True) [.q 0, .q 1, .q 5, .q 6, .q 10, .f [2, 3, 4, 7, 8, 9, 11, 12, 13], .e 14] (by kernel_rfl) (by kernel_rfl) (fun _ _ => trivial) (fun KK hKK wd hd => ?_)
  replace S := S.below (hd.below _)
  have hbd : b < wd.heap.size := Nat.lt_of_lt_of_le S.b0 S.g.size
  clear hd
  repeat (refine mixG_p rfl (fun K hK => ?_); go_simp; (try go_bits); (try simp (disch := omega) only [if_pos]); (try simp (disch := omega) only [if_neg]); (try simp (disch := omega) only [dif_pos]); (try simp (disch := omega) only [dif_neg]); (try go_simp); (refine hK _ ?_; clear hK K))
  refine free_plan [(2, 10, []), (3, 11, [(2, 10)]), (4, 12, [(3, 11)]), (7, 15, [(2, 10)]), (8, 16, [(7, 15)]), (9, 17, [(8, 16)]), (11, 19, [(7, 15)]), (12, 20, [(4, 12), (9, 17), (11, 19)]), (13, 7, [])] rfl (by kernel_rfl) (fun c w' => G b (m + 100 * c) wd w') (SK b) (evFact b wd.heap.size id at') (G.start S.g.s) (fun _ _ _ => trivial) ?_ (by rfl) ?_ ?_
  · refine all_cons (fun _ _ _ _ h => h) (all_cons (fun _ _ _ _ h => h) (all_cons (fun _ _ _ _ h => h) (all_cons (fun _ _ _ _ h => h) (all_cons (fun _ _ _ _ h => h) (all_cons (fun _ _ _ _ h => h) (all_cons (fun v _ _ k h => ?_) (all_cons (fun v _ _ k h => ?_) (all_cons (fun v _ _ k h => IsNew.keep h k hbd) all_nil))))))))
    · obtain ⟨xs, h1, h2, h3⟩ := h
      exact ⟨xs, h1.stepG k hbd, h2, h3⟩
    · obtain ⟨nm, k', t, xs, A, c, h0, h1, h2, h3, h4, h5⟩ := h
      exact ⟨nm, k', t, xs, A, c, h0, h1, h2, h3.stepG k hbd, h4, h5⟩
  · refine all_cons ?_ (all_cons ?_ (all_cons ?_ (all_cons ?_ (all_cons ?_ (all_cons ?_ (all_cons ?_ (all_cons ?_ (all_cons ?_ all_nil))))))))
    all_goals (intro o ho c ν w2 hc hinv hp; cases ho; simp only [fillD, List.foldl_cons, List.foldl_nil]; simp only [List.length_cons, List.length_nil] at hc)
    · go_wp2_with fail
      ((with_reducible refine (next_any b _ _ _ hinv.s (by omega) (by omega) (by omega)).mono ?_); rintro e w3 ⟨r, r_lo, r_hi, rfl, hk_w3, hs_w3⟩)
      go_wp2_with fail
      refine ⟨_, rfl, hk_w3, (hinv.step hk_w3 hs_w3).mono (by omega), ?_⟩
      exact ⟨r, rfl, by omega, by omega⟩
    · obtain ⟨z, e1, z1, z2⟩ := (hp (2, 10) (by simp) : IsI 0 3 (ν 2))
      obtain ⟨q, rfl⟩ := Int.eq_ofNat_of_zero_le z1
      simp only [e1]
      go_wp2_with fail
      first | exact ⟨_, rfl, SK.refl _ _, hinv.mono (by omega), q, by omega, rfl⟩ | exact ⟨SK.refl _ _, hinv.mono (by omega), q, by omega, rfl⟩
    · obtain ⟨q, hq, e1⟩ := (hp (3, 11) (by simp) : ∃ k : Nat, k < 4 ∧ ν 3 = .pointer (some ⟨2, k, none⟩))
      obtain ⟨s, hs, hc⟩ := ((HE.out.keep S.g.k hEb).keep hinv.k hEb) q hq
      simp only [e1]
      go_wp2_with fail
      first | exact ⟨_, rfl, SK.refl _ _, hinv.mono (by omega), s, rfl, hs⟩ | exact ⟨SK.refl _ _, hinv.mono (by omega), s, rfl, hs⟩
    · go_wp2_with fail
      ((with_reducible refine (next_any b _ _ _ hinv.s (by omega) (by omega) (by omega)).mono ?_); rintro e w3 ⟨r, r_lo, r_hi, rfl, hk_w3, hs_w3⟩)
      go_wp2_with fail
      refine ⟨_, rfl, hk_w3, (hinv.step hk_w3 hs_w3).mono (by omega), ?_⟩
      exact ⟨r, rfl, by omega, by omega⟩
    · obtain ⟨z, e1, z1, z2⟩ := (hp (7, 15) (by simp) : IsI 0 3 (ν 7))
      obtain ⟨q, rfl⟩ := Int.eq_ofNat_of_zero_le z1
      simp only [e1]
      go_wp2_with fail
      first | exact ⟨_, rfl, SK.refl _ _, hinv.mono (by omega), q, by omega, rfl⟩ | exact ⟨SK.refl _ _, hinv.mono (by omega), q, by omega, rfl⟩
    · obtain ⟨q, hq, e1⟩ := (hp (8, 16) (by simp) : ∃ k : Nat, k < 4 ∧ ν 8 = .pointer (some ⟨1, k * 2, none⟩))
      obtain ⟨k, t, ht, hc0, hc1⟩ := ((HP.out.keep S.g.k hPb).keep hinv.k hPb) q (by omega)
      simp only [e1]
      go_wp2_with fail
      first | exact ⟨_, rfl, SK.refl _ _, hinv.mono (by omega), k, t, rfl, ht⟩ | exact ⟨SK.refl _ _, hinv.mono (by omega), k, t, rfl, ht⟩
    · go_wp2_with fail
      ((with_reducible refine (fields_any b _ 2 w2 hinv.s (by omega) ((HN.out.keep S.g.k hNb).keep hinv.k hNb)).mono ?_); rintro e w3 ⟨v, xs, rfl, ho, hl, ht, hg⟩)
      go_wp2_with fail
      exact ⟨_, rfl, hg.k, (hinv.step hg.k hg.s).mono (by omega), xs, ho.base hinv.size, hl, ht⟩
    · obtain ⟨s, e1, h1⟩ := (hp (4, 12) (by simp) : IsS 10 (ν 4))
      obtain ⟨k, t, e2, h2⟩ := (hp (9, 17) (by simp) : ∃ (k : Int) (t : ByteArray), ν 9 = .agg #[.int .i64 k, .string t] ∧ t.size ≤ 100)
      obtain ⟨xs, h3, h4, h5⟩ := (hp (11, 19) (by simp) : ∃ xs : List Fld, Own rFld (Off b) wd.heap.size 204 w2 (ν 11) xs ∧ xs.length ≤ 7 ∧ ∀ f ∈ xs, f.tiny)
      obtain ⟨A, cc, e3⟩ := h3.len
      rw [e3] at h3
      simp only [e1, e2, e3]
      go_wp2_with fail
      first | exact ⟨_, rfl, SK.refl _ _, hinv.mono (by omega), s, k, t, xs, A, cc, rfl, h1, h2, h3, h4, h5⟩ | exact ⟨SK.refl _ _, hinv.mono (by omega), s, k, t, xs, A, cc, rfl, h1, h2, h3, h4, h5⟩
    · go_wp2_with fail
      first | exact ⟨_, rfl, (SK.refl _ _).alloc _, (hinv.alloc _).mono (by omega), w2.heap.size, rfl, LV.new _ _ _ _ rfl, hinv.size⟩ | exact ⟨(SK.refl _ _).alloc _, (hinv.alloc _).mono (by omega), w2.heap.size, rfl, LV.new _ _ _ _ rfl, hinv.size⟩
  · intro ν w2 hinv hf
    obtain ⟨nm, k, t, xs, A, c, e12, hnm, ht, ho, hxl, hxt⟩ := (hf (12, 20, [(4, 12), (9, 17), (11, 19)]) (by simp) : ∃ (nm : ByteArray) (k : Int) (t : ByteArray) (xs : List Fld) (A : Option Addr) (c : Nat), ν 12 = .agg (evCs ⟨id, nm, at', k, t, xs⟩ A c) ∧ nm.size ≤ 10 ∧ t.size ≤ 100 ∧ Own rFld (Off b) wd.heap.size 204 w2 (.slice A xs.length c) xs ∧ xs.length ≤ 7 ∧ ∀ f ∈ xs, f.tiny)
    obtain ⟨X, e13, lvX, hX⟩ := (hf (13, 7, []) (by simp) : IsNew wd.heap.size ezCs 56 (ν 13) w2)
    have o1 : ∀ M, Own rFld M wd.heap.size 204 w2 (.slice A xs.length c) xs := fun M => ho.flatM flatFld
    replace S := S.callN hinv [.loc X ezCs 56, .own rFld wd.heap.size 204 (.slice A xs.length c) xs]
      (all_cons lvX (all_cons (o1 _) all_nil)) (all_cons (fun k e => by cases e; exact hX) (all_cons (fun k e => (ho.lt k e).1) all_nil))
      (List.pairwise_cons.2 ⟨all_cons (fun k e1 e2 => by cases e1; exact (o1 (fun _ => True)).blkTag lvX (by decide) _ e2 rfl) all_nil, List.pairwise_cons.2 ⟨all_nil, List.Pairwise.nil⟩⟩)
    obtain ⟨A2, c2, e2, S2⟩ := S.frz 2 rfl
    cases e2
    clear S
    have S : St b (m + 900) w w2 [.loc R ezCs 56, .loc X ezCs 56, .sl rFld A xs] := S2.mono (by show _ ≤ _; simp)
    have Hxt := Lib.hid hxt
    simp only [fillD, List.map_cons, List.map_nil, List.foldl_cons, List.foldl_nil, e12, e13]
    clear hf hinv lvX e12 e13 ho o1 S2 hxt hX
    generalize ν 2 = q2
    generalize ν 3 = q3
    generalize ν 4 = q4
    generalize ν 7 = q7
    generalize ν 8 = q8
    generalize ν 9 = q9
    generalize ν 11 = q11
    have x0 := (S.lv 1 rfl).all
    refine mixG_l rfl rfl (fun K hK => ?_)
    go_wp2_with fail
    refine ⟨fun h => absurd rfl h, ?_⟩
    refine mixG_nil ?_
    simp only [Exit.then]
    refine hKK _ _ ?_
    have S2 : St b (m + 900) w ((((((w2.setCell ⟨X, 0, none⟩ (.string id)).setCell ⟨X, 1, none⟩ (.string nm)).setCell ⟨X, 2, none⟩ (.int .i64 at')).setCell ⟨X, 3, none⟩ (.int .i64 k)).setCell ⟨X, 4, none⟩ (.string t)).setCell ⟨X, 5, none⟩ (.slice A xs.length c)) [.loc R ezCs 56, .loc X (evCs ⟨id, nm, at', k, t, xs⟩ A c) 56, .sl rFld A xs] :=
      (((((S.set 1 0 (.string id) rfl).set 1 1 (.string nm) rfl).set 1 2 (.int .i64 at') rfl).set 1 3 (.int .i64 k) rfl).set 1 4 (.string t) rfl).set 1 5 (.slice A xs.length c) rfl
    clear x0 S
    generalize (((((w2.setCell ⟨X, 0, none⟩ (.string id)).setCell ⟨X, 1, none⟩ (.string nm)).setCell ⟨X, 2, none⟩ (.int .i64 at')).setCell ⟨X, 3, none⟩ (.int .i64 k)).setCell ⟨X, 4, none⟩ (.string t)).setCell ⟨X, 5, none⟩ (.slice A xs.length c) = w3 at *
    have S := S2
    clear S2
    go_wp2_with fail
    ((with_reducible refine (flip_any b _ _ _ S.g.s (by omega) (by omega) (by omega)).mono ?_); rintro e w4 ⟨r4, rfl, hk_w4, hs_w4⟩)
    replace S := S.step hk_w4 hs_w4
    clear hk_w4 hs_w4
    cases r4
    · have y0 := (S.lv 0 rfl).all
      have y1 := (S.lv 1 rfl).all
      have S9 := (((((S.set 0 0 (.string (Evt.id ⟨id, nm, at', k, t, xs⟩)) rfl).set 0 1 (.string (Evt.name ⟨id, nm, at', k, t, xs⟩)) rfl).set 0 2 (.int .i64 (Evt.at' ⟨id, nm, at', k, t, xs⟩)) rfl).set 0 3 (.int .i64 (Evt.kind ⟨id, nm, at', k, t, xs⟩)) rfl).set 0 4 (.string (Evt.text ⟨id, nm, at', k, t, xs⟩)) rfl).set 0 5 (.slice A xs.length c) rfl
      go_wp2_with fail
      exact bodyPost_ret (results_cell1 rfl rfl (loadEv (S9.lv 0 rfl))) rfl ⟨⟨id, nm, at', k, t, xs⟩, A, c, rfl, ⟨hid, (by show nm.size ≤ 1000; omega), (by show t.size ≤ 10000; omega), (by show xs.length ≤ 40; omega), Hxt.out⟩, (.inl rfl), ((S9.del 1).del 0).mono (by omega)⟩
    · go_wp2_with fail
      ((with_reducible refine (next_any b _ _ _ S.g.s (by omega) (by omega) (by omega)).mono ?_); rintro e w5 ⟨r5, r5_lo, r5_hi, rfl, hk_w5, hs_w5⟩)
      replace S := S.step hk_w5 hs_w5
      clear hk_w5 hs_w5
      obtain rfl | rfl | rfl | rfl : r5 = 0 ∨ r5 = 1 ∨ r5 = 2 ∨ r5 = 3 := by omega
      · go_wp2_with fail
        ((with_reducible refine (one_le b _ _ _ (1) S.g.s (by first | rfl | simp) (by first | rfl | simp) (strsLe_of (by decide)) (by simp) (by simp) (by omega)).mono ?_); rintro e w6 ⟨t6, t6_le, rfl, hk_w6, hs_w6⟩)
        replace S := S.step hk_w6 hs_w6
        clear hk_w6 hs_w6
        have x0 := (S.lv 1 rfl).all
        have S2 : St b (m + 900 + 1 + 1 + 1) w (w6.setCell ⟨X, 0, none⟩ (.string t6)) [.loc R ezCs 56, .loc X (evCs ⟨t6, nm, at', k, t, xs⟩ A c) 56, .sl rFld A xs] := S.set 1 0 (.string t6) rfl
        go_upto_region 11 with fail
        clear x0 S
        generalize w6.setCell ⟨X, 0, none⟩ (.string t6) = w7 at *
        have S := S2
        clear S2
        have y0 := (S.lv 0 rfl).all
        have y1 := (S.lv 1 rfl).all
        have S9 := (((((S.set 0 0 (.string (Evt.id ⟨t6, nm, at', k, t, xs⟩)) rfl).set 0 1 (.string (Evt.name ⟨t6, nm, at', k, t, xs⟩)) rfl).set 0 2 (.int .i64 (Evt.at' ⟨t6, nm, at', k, t, xs⟩)) rfl).set 0 3 (.int .i64 (Evt.kind ⟨t6, nm, at', k, t, xs⟩)) rfl).set 0 4 (.string (Evt.text ⟨t6, nm, at', k, t, xs⟩)) rfl).set 0 5 (.slice A xs.length c) rfl
        go_wp2_with fail
        exact bodyPost_ret (results_cell1 rfl rfl (loadEv (S9.lv 0 rfl))) rfl ⟨⟨t6, nm, at', k, t, xs⟩, A, c, rfl, ⟨(by show t6.size ≤ 1000; omega), (by show nm.size ≤ 1000; omega), (by show t.size ≤ 10000; omega), (by show xs.length ≤ 40; omega), Hxt.out⟩, (.inr (by show t6.size ≤ 1; omega)), ((S9.del 1).del 0).mono (by omega)⟩
      · go_wp2_with fail
        ((with_reducible refine (one_le b _ _ _ (10) S.g.s (by first | rfl | simp) (by first | rfl | simp) (strsLe_of (by decide)) (by simp) (by simp) (by omega)).mono ?_); rintro e w6 ⟨t6, t6_le, rfl, hk_w6, hs_w6⟩)
        replace S := S.step hk_w6 hs_w6
        clear hk_w6 hs_w6
        have x0 := (S.lv 1 rfl).all
        have S2 : St b (m + 900 + 1 + 1 + 1) w (w6.setCell ⟨X, 1, none⟩ (.string t6)) [.loc R ezCs 56, .loc X (evCs ⟨id, t6, at', k, t, xs⟩ A c) 56, .sl rFld A xs] := S.set 1 1 (.string t6) rfl
        go_upto_region 11 with fail
        clear x0 S
        generalize w6.setCell ⟨X, 1, none⟩ (.string t6) = w7 at *
        have S := S2
        clear S2
        have y0 := (S.lv 0 rfl).all
        have y1 := (S.lv 1 rfl).all
        have S9 := (((((S.set 0 0 (.string (Evt.id ⟨id, t6, at', k, t, xs⟩)) rfl).set 0 1 (.string (Evt.name ⟨id, t6, at', k, t, xs⟩)) rfl).set 0 2 (.int .i64 (Evt.at' ⟨id, t6, at', k, t, xs⟩)) rfl).set 0 3 (.int .i64 (Evt.kind ⟨id, t6, at', k, t, xs⟩)) rfl).set 0 4 (.string (Evt.text ⟨id, t6, at', k, t, xs⟩)) rfl).set 0 5 (.slice A xs.length c) rfl
        go_wp2_with fail
        exact bodyPost_ret (results_cell1 rfl rfl (loadEv (S9.lv 0 rfl))) rfl ⟨⟨id, t6, at', k, t, xs⟩, A, c, rfl, ⟨hid, (by show t6.size ≤ 1000; omega), (by show t.size ≤ 10000; omega), (by show xs.length ≤ 40; omega), Hxt.out⟩, (.inl rfl), ((S9.del 1).del 0).mono (by omega)⟩
      · go_wp2_with fail
        ((with_reducible refine (odd_any b _ _ _ _ S.g.s (by omega) (by omega) (by omega) (by omega)).mono ?_); rintro e w6 ⟨t6, t6_lo, t6_hi, rfl, hk_w6, hs_w6⟩)
        replace S := S.step hk_w6 hs_w6
        clear hk_w6 hs_w6
        have x0 := (S.lv 1 rfl).all
        have S2 : St b (m + 900 + 1 + 1 + 3) w (w6.setCell ⟨X, 2, none⟩ (.int .i64 t6)) [.loc R ezCs 56, .loc X (evCs ⟨id, nm, t6, k, t, xs⟩ A c) 56, .sl rFld A xs] := (S.set 1 2 (.int .i64 t6) rfl).mono (by omega)
        go_upto_region 11 with fail
        clear x0 S
        generalize w6.setCell ⟨X, 2, none⟩ (.int .i64 t6) = w7 at *
        have S := S2
        clear S2
        have y0 := (S.lv 0 rfl).all
        have y1 := (S.lv 1 rfl).all
        have S9 := (((((S.set 0 0 (.string (Evt.id ⟨id, nm, t6, k, t, xs⟩)) rfl).set 0 1 (.string (Evt.name ⟨id, nm, t6, k, t, xs⟩)) rfl).set 0 2 (.int .i64 (Evt.at' ⟨id, nm, t6, k, t, xs⟩)) rfl).set 0 3 (.int .i64 (Evt.kind ⟨id, nm, t6, k, t, xs⟩)) rfl).set 0 4 (.string (Evt.text ⟨id, nm, t6, k, t, xs⟩)) rfl).set 0 5 (.slice A xs.length c) rfl
        go_wp2_with fail
        exact bodyPost_ret (results_cell1 rfl rfl (loadEv (S9.lv 0 rfl))) rfl ⟨⟨id, nm, t6, k, t, xs⟩, A, c, rfl, ⟨hid, (by show nm.size ≤ 1000; omega), (by show t.size ≤ 10000; omega), (by show xs.length ≤ 40; omega), Hxt.out⟩, (.inl rfl), ((S9.del 1).del 0).mono (by omega)⟩
      · go_wp2_with fail
        ((with_reducible refine (spoiledId_any b _ _ S.g.s (by omega) (HP.out.keep S.g.k hPb) hPb).mono ?_); rintro e w6 ⟨k6, t6, ht6, rfl, hk6, hs6⟩)
        replace S := S.step hk6 hs6
        clear hk6 hs6
        have x0 := (S.lv 1 rfl).all
        have S2 : St b (m + 950) w ((w6.setCell ⟨X, 3, none⟩ (.int .i64 k6)).setCell ⟨X, 4, none⟩ (.string t6)) [.loc R ezCs 56, .loc X (evCs ⟨id, nm, at', k6, t6, xs⟩ A c) 56, .sl rFld A xs] := ((S.set 1 3 (.int .i64 k6) rfl).set 1 4 (.string t6) rfl).mono (by omega)
        go_upto_region 11 with fail
        clear x0 S
        generalize (w6.setCell ⟨X, 3, none⟩ (.int .i64 k6)).setCell ⟨X, 4, none⟩ (.string t6) = w7 at *
        have S := S2
        clear S2
        have y0 := (S.lv 0 rfl).all
        have y1 := (S.lv 1 rfl).all
        have S9 := (((((S.set 0 0 (.string (Evt.id ⟨id, nm, at', k6, t6, xs⟩)) rfl).set 0 1 (.string (Evt.name ⟨id, nm, at', k6, t6, xs⟩)) rfl).set 0 2 (.int .i64 (Evt.at' ⟨id, nm, at', k6, t6, xs⟩)) rfl).set 0 3 (.int .i64 (Evt.kind ⟨id, nm, at', k6, t6, xs⟩)) rfl).set 0 4 (.string (Evt.text ⟨id, nm, at', k6, t6, xs⟩)) rfl).set 0 5 (.slice A xs.length c) rfl
        go_wp2_with fail
        exact bodyPost_ret (results_cell1 rfl rfl (loadEv (S9.lv 0 rfl))) rfl ⟨⟨id, nm, at', k6, t6, xs⟩, A, c, rfl, ⟨hid, (by show nm.size ≤ 1000; omega), ht6, (by show xs.length ≤ 40; omega), Hxt.out⟩, (.inl rfl), ((S9.del 1).del 0).mono (by omega)⟩
end Go.Proofs.YteabhkmhogmoiaaGreatDoor

/- What the generators eventId and Events make, once more: ids differ. -/
namespace Go.Proofs.YteabhkmhogmoiaaGreatDoor
open Go Go.RowKit
def evIdOf (z : Int) : ByteArray := ⟨#[101, 97, UInt8.ofNat (97 + z.toNat)]⟩
theorem evId_len (k : Nat) : (evIdOf k).size ≤ 1000 := by
  show 3 ≤ 1000
  decide
theorem evId_inj {i j : Nat} (hi : i ≤ 16) (hj : j ≤ 16) (h : evIdOf i = evIdOf j) : i = j := by
  have h1 := congrArg (fun s : ByteArray => s.data[2]!) h
  have h2 : UInt8.ofNat (97 + i) = UInt8.ofNat (97 + j) := h1
  have h3 := congrArg UInt8.toNat h2
  rw [UInt8.toNat_ofNat', UInt8.toNat_ofNat'] at h3
  omega
def DifU (qs : List EQ) : Prop := qs.Pairwise (fun a b => a.e.id.size = 3 → b.e.id.size = 3 → a.e.id ≠ b.e.id)
def IdsU (k : Nat) (qs : List EQ) : Prop := (∀ q ∈ qs, q.e.id.size = 3 → ∃ i, i < k ∧ q.e.id = evIdOf i) ∧ DifU qs
theorem IdsU.start : IdsU 0 [] := ⟨(fun _ h => by cases h), List.Pairwise.nil⟩
theorem IdsU.snoc {k : Nat} {qs : List EQ} {x : Evt} {A : Option Addr} {c : Nat} (h : IdsU k qs) (hk : k ≤ 16) (hx : x.id = evIdOf k ∨ x.id.size ≤ 1) : IdsU (k + 1) (qs ++ [⟨x, A, c⟩]) := by
  refine ⟨fun q hq h3 => ?_, List.pairwise_append.2 ⟨h.2, List.pairwise_singleton _ _, fun a ha b hb h1 h2 e => ?_⟩⟩
  · rcases List.mem_append.1 hq with hq | hq
    · obtain ⟨i, hi, e⟩ := h.1 q hq h3
      exact ⟨i, by omega, e⟩
    · rw [List.mem_singleton.1 hq] at h3 ⊢
      rcases hx with e | e
      · exact ⟨k, by omega, e⟩
      · have h3 : x.id.size = 3 := h3
        omega
  · rw [List.mem_singleton.1 hb] at h2 e
    have h2 : x.id.size = 3 := h2
    have e : a.e.id = x.id := e
    obtain ⟨i, hi, e2⟩ := h.1 a ha h1
    rcases hx with e3 | e3
    · rw [e2, e3] at e
      have := evId_inj (by omega) hk e
      omega
    · omega
theorem IdsU.swap {k : Nat} {x y : EQ} {r : List EQ} (h : IdsU k (x :: y :: r)) : DifU (y :: x :: r) := by
  have h1 := h.2
  unfold DifU at *
  rw [List.pairwise_cons, List.pairwise_cons] at *
  obtain ⟨h2, h3, h4⟩ := h1
  refine ⟨fun z hz => ?_, fun z hz => h2 z (List.mem_cons_of_mem _ hz), h4⟩
  rcases List.mem_cons.1 hz with rfl | hz
  · exact fun a b e => h2 y (List.mem_cons_self ..) b a e.symm
  · exact h3 z hz
set_option maxHeartbeats 2000000 in
set_option maxRecDepth 100000 in
theorem eventIdU_lit (z : Int) (hz : z = 0 ∨ z = 1 ∨ z = 2 ∨ z = 3 ∨ z = 4 ∨ z = 5 ∨ z = 6 ∨ z = 7 ∨ z = 8 ∨ z = 9 ∨ z = 10 ∨ z = 11 ∨ z = 12 ∨ z = 13 ∨ z = 14 ∨ z = 15 ∨ z = 16) (w : World) : Calls Tryz.prog 148 #[.int .i64 z] w fun e w' => e = .returned (.string (evIdOf z)) ∧ w = w' := by
  rcases hz with rfl | rfl | rfl | rfl | rfl | rfl | rfl | rfl | rfl | rfl | rfl | rfl | rfl | rfl | rfl | rfl | rfl
  all_goals
    go_enter Tryz.func148, Tryz.ntmps148
    go_wp2_with fail
    go_ret
    exact ⟨congrArg (fun s => Ending.returned (.string s)) (by decide), rfl⟩
theorem eventIdU_any (i : Nat) (hi : i ≤ 16) (w : World) : Calls Tryz.prog 148 #[.int .i64 i] w fun e w' => e = .returned (.string (evIdOf i)) ∧ w = w' := eventIdU_lit i (by omega) w
def DrawsEsU (b m n : Nat) (w : World) (e : Ending) (w' : World) : Prop := ∃ (v : Value) (qs : List EQ), e = .returned v ∧ qs.length = n ∧ (∀ q ∈ qs, EvSm q.e) ∧ DifU qs ∧ St b m w w' [.own rEQ w.heap.size 56 v qs, .flds qs]
set_option maxHeartbeats 8000000 in
set_option maxRecDepth 100000 in
theorem eventsU_any (b m n : Nat) (w : World) (hs : Strm b m w) (hm : m ≤ 10000000) (hn : n ≤ 16) (hN : Names w) (hNb : 0 ≠ b) (hE : ENames w) (hEb : 2 ≠ b) (hP : Pool w) (hPb : 1 ≠ b) :
    Calls Tryz.prog 68 #[.pointer (some ⟨b, 0, none⟩), .int .i64 n] w (DrawsEsU b (m + 1200 * n + 10) n w) := by
  have S := (St.start hs).nil rEQ w.heap.size 56
  replace S : St b m w w [.own rEQ w.heap.size 56 (.slice none 0 0) []] := S
  have HN := Lib.hid hN
  have HE := Lib.hid hE
  have HP := Lib.hid hP
  clear hs hN hE hP
  go_enter Tryz.func68, Tryz.ntmps68
  go_wp2_with fail
  ((with_reducible refine (pick_le b _ _ _ (0) (1000) S.g.s (by first | rfl | simp) (by first | rfl | simp) (intsIn_of (by decide)) (by simp) (by simp) (by omega)).mono ?_); rintro e w1 ⟨at0, at0_lo, at0_hi, rfl, hk_w1, hs_w1⟩)
  replace S := S.step hk_w1 hs_w1
  clear hk_w1 hs_w1
  have S1 := S.call (G.start S.g.s) (.flds []) (fun q hq => by cases hq) (fun k e => by cases e)
  replace S1 : St b (m + 1) w w1 [.own rEQ w.heap.size 56 (.slice none 0 0) [], .flds []] := S1
  clear S
  go_wp2_with fail
  go_loopw [5, 6, 12] (fun s5 s6 i wr => ∃ (k : Nat) (A : Option Addr) (c : Nat) (qs : List EQ) (at' : Int), k ≤ n ∧ i = .int .i64 k ∧ s5 = .slice A qs.length c ∧ s6 = .int .i64 at' ∧ 0 ≤ at' ∧ at' ≤ 1000 + 1440 * (k : Int) ∧ Hid (qs.length = k) ∧ Hid (∀ q ∈ qs, EvSm q.e) ∧ Hid (IdsU k qs) ∧ St b (m + 1 + 1200 * k) w wr [.own rEQ w.heap.size 56 (.slice A qs.length c) qs, .flds qs]) (fun _ _ i _ => n - (intOf i).toNat)
  case atStart => exact ⟨0, none, 0, [], at0, Nat.zero_le _, rfl, rfl, rfl, at0_lo, by omega, rfl, by show ∀ _ ∈ _, _; simp, IdsU.start, S1⟩
  case round =>
    clear S1 at0_lo at0_hi
    obtain ⟨k, A, c, qs, at', hk, rfl, rfl, rfl, hat0, hat1, Hql, Hqs, Hiu, S⟩ := hrel
    by_cases hkn : k < n
    · go_wp2_with fail
      ((with_reducible refine (pick_le b _ _ _ (0) (1440) S.g.s (by first | rfl | simp) (by first | rfl | simp) (intsIn_of (by decide)) (by simp) (by simp) (by omega)).mono ?_); rintro e w2 ⟨d, d_lo, d_hi, rfl, hk_w2, hs_w2⟩)
      replace S := S.step hk_w2 hs_w2
      clear hk_w2 hs_w2
      have hwr : IntKind.i64.wrap (at' + d) = at' + d := IntWalk.i64_in _ (by omega)
      obtain ⟨at2, hat2⟩ : ∃ at2, at' + d = at2 := ⟨_, rfl⟩
      rw [hat2] at hwr
      have h20 : 0 ≤ at2 := by omega
      have h21 : at2 ≤ 1000 + 1440 * ((k : Int) + 1) := by omega
      clear hat0 hat1
      go_wp2_with fail
      ((with_reducible refine (eventIdU_any k (by omega) w2).mono ?_); rintro e _ ⟨rfl, rfl⟩)
      go_wp2_with fail
      ((with_reducible refine (eventU_any b _ (evIdOf k) _ w2 S.g.s (by omega) (evId_len k) (HN.out.keep S.g.k hNb) hNb (HE.out.keep S.g.k hEb) hEb (HP.out.keep S.g.k hPb) hPb).mono ?_); rintro e w3 ⟨x, Ax, cx, rfl, hx, hxi, T⟩)
      replace S : St b (m + 1 + 1200 * k + 1 + 1100) w w3 [.own rEQ w.heap.size 56 (.slice A qs.length c) qs, .flds qs, .sl rFld Ax x.flds] := S.join T
      replace S := S.addFl 1 2 rfl rfl ⟨x, Ax, cx⟩ rfl rfl
      have Hx := Lib.hid hx
      have Hxi := Lib.hid hxi
      have hsz := S.g.size
      have hql : qs.length ≤ 200 := by have := Hql.out; omega
      clear T hx hxi
      go_wp2_with (at_builtin; refine S.app 0 rfl tyEvt rfl _ _ rfl ⟨x, Ax, cx⟩ 1 rfl rfl rfl (oneEQ ⟨x, Ax, cx⟩) hsz (by omega) (by decide) ?_; intro v' w10 S6; obtain ⟨A6, c6, rfl⟩ := (S6.ow 0 rfl).len)
      go_roundw
      case rel =>
        refine ⟨k + 1, A6, c6, qs ++ [⟨x, Ax, cx⟩], at2, by omega, by go_num, by simp, by first | rfl | (rw [hat2]), h20, by omega, by show _ = _; simp [Hql.out], ?_, Lib.hid (Hiu.out.snoc (A := Ax) (c := cx) (by omega) Hxi.out), (S6.del 2).mono (by omega)⟩
        intro q hq
        rcases List.mem_append.1 hq with hq | hq
        · exact Hqs.out q hq
        · rw [List.mem_singleton.1 hq]; exact Hx.out
      case measure => simp [intOf]; omega
    · have hkk : k = n := by omega
      subst hkk
      clear hat0 hat1
      by_cases h1 : 1 < qs.length
      · have h1k : 1 < k := by have := Hql.out; omega
        go_wp2_with fail
        ((with_reducible refine (flip_any b _ _ _ S.g.s (by omega) (by omega) (by omega)).mono ?_); rintro e w2 ⟨r2, rfl, hk_w2, hs_w2⟩)
        replace S := S.step hk_w2 hs_w2
        clear hk_w2 hs_w2
        cases r2
        · go_wp2_with fail
          go_ret
          exact ⟨_, qs, rfl, Hql.out, Hqs.out, Hiu.out.2, S.mono (by omega)⟩
        · match qs, Hql, Hqs, Hiu, S, h1 with
          | x :: y :: r, Hql, Hqs, Hiu, S, h1 =>
            obtain ⟨g, cap, e, hcap⟩ := (S.ow 0 rfl).form (by simp)
            simp only [Value.slice.injEq] at e
            obtain ⟨rfl, _, rfl⟩ := e
            obtain ⟨⟨a0, a1, a2, a3, a4, a5⟩, af⟩ := (S.ow 0 rfl).eqAt rfl 0 x rfl
            obtain ⟨⟨b0, b1, b2, b3, b4, b5⟩, bf⟩ := (S.ow 0 rfl).eqAt rfl 1 y rfl
            have c0 : w2.cell? ⟨g, 0, none⟩ = some (.string x.e.id) := a0
            have c1 : w2.cell? ⟨g, 1, none⟩ = some (.string x.e.name) := a1
            have c2 : w2.cell? ⟨g, 2, none⟩ = some (.int .i64 x.e.at') := a2
            have c3 : w2.cell? ⟨g, 3, none⟩ = some (.int .i64 x.e.kind) := a3
            have c4 : w2.cell? ⟨g, 4, none⟩ = some (.string x.e.text) := a4
            have c5 : w2.cell? ⟨g, 5, none⟩ = some (.slice x.A x.e.flds.length x.c) := a5
            have c6 : w2.cell? ⟨g, 6, none⟩ = some (.string y.e.id) := b0
            have c7 : w2.cell? ⟨g, 7, none⟩ = some (.string y.e.name) := b1
            have c8 : w2.cell? ⟨g, 8, none⟩ = some (.int .i64 y.e.at') := b2
            have c9 : w2.cell? ⟨g, 9, none⟩ = some (.int .i64 y.e.kind) := b3
            have c10 : w2.cell? ⟨g, 10, none⟩ = some (.string y.e.text) := b4
            have c11 : w2.cell? ⟨g, 11, none⟩ = some (.slice y.A y.e.flds.length y.c) := b5
            have f0 : w2.frozen? ⟨g, 0, none⟩ = false := af 0 (by omega)
            have f1 : w2.frozen? ⟨g, 1, none⟩ = false := af 1 (by omega)
            have f2 : w2.frozen? ⟨g, 2, none⟩ = false := af 2 (by omega)
            have f3 : w2.frozen? ⟨g, 3, none⟩ = false := af 3 (by omega)
            have f4 : w2.frozen? ⟨g, 4, none⟩ = false := af 4 (by omega)
            have f5 : w2.frozen? ⟨g, 5, none⟩ = false := af 5 (by omega)
            have f6 : w2.frozen? ⟨g, 6, none⟩ = false := bf 0 (by omega)
            have f7 : w2.frozen? ⟨g, 7, none⟩ = false := bf 1 (by omega)
            have f8 : w2.frozen? ⟨g, 8, none⟩ = false := bf 2 (by omega)
            have f9 : w2.frozen? ⟨g, 9, none⟩ = false := bf 3 (by omega)
            have f10 : w2.frozen? ⟨g, 10, none⟩ = false := bf 4 (by omega)
            have f11 : w2.frozen? ⟨g, 11, none⟩ = false := bf 5 (by omega)
            have HS := Lib.hid S
            clear S a0 a1 a2 a3 a4 a5 af b0 b1 b2 b3 b4 b5 bf
            go_wp2_with fail
            go_region
            go_wp2_with fail
            go_ret
            have S1 := (HS.out.putEQ 0 rfl rfl 0 x y rfl).putEQ 0 rfl rfl 1 y x rfl
            refine ⟨.slice (some ⟨g, 0, none⟩) (r.length + 1 + 1) c, y :: x :: r, rfl, Hql.out, ?_, Hiu.out.swap, ?_⟩
            · intro q hq
              simp only [List.mem_cons] at hq
              rcases hq with rfl | rfl | hq
              · exact Hqs.out _ (by simp)
              · exact Hqs.out _ (by simp)
              · exact Hqs.out q (by simp [hq])
            · refine St.mono (m := m + 1 + 1200 * k + 1) ?_ (by omega)
              have hsw : ∀ q ∈ y :: x :: r, q ∈ x :: y :: r := fun q hq => by
                simp only [List.mem_cons] at hq ⊢
                rcases hq with h | h | h
                · exact .inr (.inl h)
                · exact .inl h
                · exact .inr (.inr h)
              exact (S1.below ((show Drewn _ _ from rfl).below _)).subFl 1 rfl hsw
      · have h1k : ¬ 1 < k := by have := Hql.out; omega
        clear h1
        go_wp2_with fail
        go_ret
        exact ⟨_, qs, rfl, Hql.out, Hqs.out, Hiu.out.2, S.mono (by omega)⟩
end Go.Proofs.YteabhkmhogmoiaaGreatDoor

/- What the generator RightEvents makes, once more: the list is right. -/
namespace Go.Proofs.YteabhkmhogmoiaaGreatDoor
open Go Go.RowKit
def DrawsLiU (b m n : Nat) (w : World) (e : Ending) (w' : World) : Prop := ∃ (A : Option Addr) (c : Nat) (xs : List Evt), e = .returned (.slice A xs.length c) ∧ xs.length ≤ n ∧ (∀ x ∈ xs, EvSm x) ∧ evsFault xs = 0 ∧ (A = none → c = 0) ∧ St b m w w' [.sl rEvt A xs]
theorem evs_one {e : Evt} (h : evsFault [e] = 0) : evtFault e = 0 := by
  unfold evsFault at h
  rw [if_neg (by simp)] at h
  exact (evsGo_ok h).1 e (List.mem_cons_self ..)
theorem evs_go : ∀ (l : List Evt) (prev : Option Evt) (seen : List ByteArray), (∀ e ∈ l, evtFault e = 0) → (∀ p, prev = some p → ∀ e ∈ l, befE p e = true) → l.Pairwise (fun a b => befE a b = true) → (l.map Evt.id).Nodup → (∀ e ∈ l, e.id ∉ seen) → evsGo prev seen l = 0
  | [], _, _, _, _, _, _, _ => rfl
  | e :: r, prev, seen, h1, h2, h3, h4, h5 => by
    obtain ⟨h6, h7⟩ := List.pairwise_cons.1 h3
    rw [List.map_cons, List.nodup_cons] at h4
    have hp : prev.any (fun p => !befE p e) = false := by
      cases prev with
      | none => rfl
      | some p =>
        rw [Option.any_some, h2 p rfl e (List.mem_cons_self ..)]
        rfl
    have hs : hasId seen e.id = false := hasId_not (h5 e (List.mem_cons_self ..))
    rw [evsGo, h1 e (List.mem_cons_self ..), hp, hs]
    rw [if_neg (by unfold evsE; simp)]
    refine evs_go r _ _ (fun x hx => h1 x (List.mem_cons_of_mem _ hx)) (fun p hp x hx => by cases hp; exact h6 x hx) h7 h4.2 (fun x hx hm => ?_)
    rcases List.mem_append.1 hm with hm | hm
    · exact h5 x (List.mem_cons_of_mem _ hx) hm
    · rw [List.mem_singleton] at hm
      exact h4.1 (by rw [← hm]; exact List.mem_map_of_mem hx)
theorem ordE_zero {a b : Evt} (h : ordE a b = 0) : a.id = b.id := by
  unfold ordE at h
  split at h
  · rename_i h1; exact absurd h h1
  · exact (cmpS_zero _ _).1 h
theorem right_list {fs ys : List EQ} (hp : ys.Perm fs) (ho : ys.Pairwise (fun a b => ordQ a b ≤ 0)) (hd : ∀ q ∈ fs, dropE q.e = false) (hu : DifU fs) (hl : ys.length ≤ 16) : evsFault (ys.map EQ.e) = 0 := by
  have hdr : ∀ q ∈ ys, evtFault q.e = 0 ∧ q.e.id.size = 3 := fun q hq => by
    have h := hd q (hp.mem_iff.1 hq)
    unfold dropE at h
    rw [Bool.or_eq_false_iff, Bool.or_eq_false_iff] at h
    exact ⟨evs_one (by simpa using h.1.1), by simpa using h.1.2⟩
  have hne : ys.Pairwise (fun a b => a.e.id ≠ b.e.id) := by
    have h1 : DifU ys := (hp.pairwise_iff (fun h h1 h2 e => h h2 h1 e.symm)).2 hu
    exact h1.imp_of_mem (fun {a b} ha hb h => h (hdr a ha).2 (hdr b hb).2)
  unfold evsFault
  rw [if_neg (by rw [List.length_map]; omega)]
  refine evs_go _ none [] (fun e he => ?_) (fun _ h => by cases h) ?_ ?_ (fun _ _ h => by cases h)
  · obtain ⟨q, hq, rfl⟩ := List.mem_map.1 he
    exact (hdr q hq).1
  · rw [List.pairwise_map]
    refine (List.pairwise_and_iff.2 ⟨ho, hne⟩).imp (fun {a b} h => ?_)
    rw [← ordE_neg]
    have h1 : ordE a.e b.e ≤ 0 := h.1
    have h2 : ordE a.e b.e ≠ 0 := fun e => h.2 (ordE_zero e)
    omega
  · rw [List.map_map, List.Nodup, List.pairwise_map]
    exact hne
def GivesSrtU (l : List EQ) (w : World) (e : Ending) (w' : World) : Prop := ∃ v ys, e = .returned v ∧ ys.Perm l ∧ ys.Pairwise (fun a b => ordQ a b ≤ 0) ∧ Mem w w' [.own rEQ w.heap.size 56 v ys]
set_option maxHeartbeats 2000000 in
set_option maxRecDepth 100000 in
theorem sortedU_any (A : Option Addr) (l : List EQ) (c : Nat) (w : World) (hL : Sl rEQ (fun _ => False) w A l) (hl : l.length ≤ 1000) (hc : A = none → c = 0) :
    Calls Tryz.prog 67 #[.slice A l.length c] w (GivesSrtU l w) := by
  have Hcl := Lib.hid (cloneE_any A l c w hL hl hc)
  have Hl := Lib.hid hl
  clear hL hc hl
  go_enter Tryz.func67, Tryz.ntmps67
  go_wp2_with fail
  ((with_reducible refine (Hcl.out).mono ?_); rintro e w1 ⟨v, rfl, S⟩)
  clear Hcl
  go_wp2_with fail
  ((with_reducible refine (sortE_any S 0 rfl (by have := Hl.out; omega)).mono ?_); rintro e w2 ⟨rfl, ys, hp, ho, S2⟩)
  have Hp := Lib.hid hp
  have Ho := Lib.hid ho
  clear S hp ho
  go_wp2_with fail
  go_ret
  exact ⟨_, ys, rfl, Hp.out, Ho.out, S2⟩
set_option maxHeartbeats 8000000 in
set_option maxRecDepth 100000 in
theorem rightEventsU_any (b m n : Nat) (w : World) (hs : Strm b m w) (hm : m ≤ 10000000) (hn : n ≤ 16) (hN : Names w) (hNb : 0 ≠ b) (hE : ENames w) (hEb : 2 ≠ b) (hP : Pool w) (hPb : 1 ≠ b)
    (hTM : ∀ w', SK b w w' → Tabs w' ∧ MaxL w') :
    Calls Tryz.prog 7 #[.pointer (some ⟨b, 0, none⟩), .int .i64 n] w (DrawsLiU b (m + 1200 * n + 10) n w) := by
  have Hev := Lib.hid (eventsU_any b m n w hs hm hn hN hNb hE hEb hP hPb)
  have HTM := Lib.hid hTM
  clear hs hN hE hP hTM
  go_enter Tryz.func7, Tryz.ntmps7
  go_wp2_with fail
  ((with_reducible refine (Hev.out).mono ?_); rintro e w1 ⟨v, qs, rfl, hql, hqs, hdu, S⟩)
  have Hql := Lib.hid hql
  have Hqs := Lib.hid hqs
  have Hdu := Lib.hid hdu
  clear Hev hql hqs hdu
  obtain ⟨wb, hwb, M, back⟩ := S.viaMem
  have hcond : CondE wb [.flds qs] w.heap.size v 69 #[] qs (fun q => dropE q.e) := by
    intro y w' ys hy hM'
    have S' := back w' _ hM'
    have hF := (hM'.fl 1 rfl) y hy
    have h2 := HTM.out w' S'.g.k
    show Calls Tryz.prog 69 #[.agg (evCs y.e y.A y.c)] w' _
    exact dropE_any y.e y.A y.c w' (hF.mono (fun _ _ h => h.elim)) (Hqs.out y hy).ok h2.1 h2.2
  have Hdel := Lib.hid (delE_any (fun q => dropE q.e) 69 #[] (enters_of Tryz.func69 (by kernel_rfl) rfl) M (by have := Hql.out; omega) hcond)
  have Hback := Lib.hid back
  clear S M back hcond hwb HTM
  go_wp2_with fail
  ((with_reducible refine (Hdel.out).mono ?_); rintro e w2 ⟨v2, rfl, M2⟩)
  obtain ⟨fs, Hfs⟩ : ∃ fs, Hid (qs.filter (keepE fun q => dropE q.e) = fs) := ⟨_, Lib.hid rfl⟩
  rw [Hfs.out] at M2
  have Hsub : Hid (∀ q ∈ fs, q ∈ qs) := fun q hq => by rw [← Hfs.out] at hq; exact (List.mem_filter.1 hq).1
  have Hfl : Hid (fs.length ≤ n) := by
    show _ ≤ _
    rw [← Hfs.out]
    exact Nat.le_trans (List.length_filter_le _ _) (Nat.le_of_eq Hql.out)
  have Hgd : Hid ((∀ q ∈ fs, dropE q.e = false) ∧ DifU fs) := by
    show _ ∧ _
    rw [← Hfs.out]
    refine ⟨fun q hq => ?_, Hdu.out.filter _⟩
    have := (List.mem_filter.1 hq).2
    unfold keepE at this
    simpa using this
  clear Hdel Hfs
  have hsh := (M2.ow 0 rfl).shape2
  obtain ⟨A2, c2, rfl, M3⟩ := M2.frz 0 rfl
  have hc2 : A2 = none → c2 = 0 := fun h => by
    subst h
    rcases hsh with ⟨h, _⟩ | ⟨g, cap, h, _⟩
    · simp only [Value.slice.injEq] at h; exact h.2.2
    · cases h
  have Hso := Lib.hid (sortedU_any A2 fs c2 w2 ((M3.slc 0 rfl).mono (fun _ _ h => h.elim)) (by have := Hfl.out; omega) hc2)
  have HM3 := Lib.hid M3
  clear M2 M3 hsh hc2
  go_wp2_with fail
  ((with_reducible refine (Hso.out).mono ?_); rintro e w3 ⟨v3, ys, rfl, hp, hso, T⟩)
  have M4 : Mem wb w3 [.sl rEQ A2 fs, .flds qs, .own rEQ w2.heap.size 56 v3 ys] := HM3.out.join T
  have hsh := (M4.ow 2 rfl).shape2
  have Hp := Lib.hid hp
  have Hord := Lib.hid hso
  clear Hso HM3 T hp hso
  obtain ⟨A3, c3, rfl, M5⟩ := M4.frz 2 rfl
  have hc3 : A3 = none → c3 = 0 := fun h => by
    subst h
    rcases hsh with ⟨h, _⟩ | ⟨g, cap, h, _⟩
    · simp only [Value.slice.injEq] at h; exact h.2.2
    · cases h
  have hys : ∀ q ∈ ys, q ∈ qs := fun q hq => Hsub.out q (Hp.out.mem_iff.1 hq)
  have M6 := (M5.subFl 1 rfl hys).evs 2 1 rfl rfl
  have S7 := Hback.out _ _ ((M6.del 1).del 0)
  have hyl : ys.length ≤ n := by rw [Hp.out.length_eq]; exact Hfl.out
  have Hfin : Hid (DrawsLiU b (m + 1200 * n + 10) n w (.returned (.slice A3 ys.length c3)) w3) := ⟨A3, c3, ys.map EQ.e, by rw [List.length_map], by rw [List.length_map]; exact hyl, fun x hx => by
    obtain ⟨q, hq, rfl⟩ := List.mem_map.1 hx
    exact Hqs.out q (hys q hq), right_list Hp.out Hord.out Hgd.out.1 Hgd.out.2 (by have := Hp.out.length_eq; have := Hfl.out; omega), hc3, S7⟩
  clear M4 M5 M6 S7 hys hyl hc3 hsh
  go_wp2_with fail
  go_ret
  exact Hfin.out
end Go.Proofs.YteabhkmhogmoiaaGreatDoor
