/- What handref2.ChoicesOf returns; slices.Equal of the same choices. -/
import Derived.Test.YtlnklkedpknbpaaGreatDoorChoices
import Derived.Test.YtlnklkedpknbpaaGreatDoorAsked
namespace Go.Proofs.YtlnklkedpknbpaaGreatDoor
open Go Go.RowKit
theorem Sl.chc {N : Nat → Prop} {w : World} {A : Option Addr} {xs : List Chc} (h : Sl rChc N w A xs) (k : Nat) (e : Chc) (hk : xs[k]? = some e) : ∃ blk off, A = some ⟨blk, off, none⟩ ∧ blk < w.heap.size ∧
    w.cell? ⟨blk, off + k * 5, none⟩ = some (.string e.pu) ∧ w.cell? ⟨blk, off + k * 5 + 1, none⟩ = some (.int .i64 e.ch) ∧ w.cell? ⟨blk, off + k * 5 + 2, none⟩ = some (.bool e.a.1) ∧ w.cell? ⟨blk, off + k * 5 + 3, none⟩ = some (.int .i64 e.a.2.1) ∧ w.cell? ⟨blk, off + k * 5 + 4, none⟩ = some (.int .i64 e.a.2.2) := by
  obtain ⟨blk, off, l, e1, h1, _, h3, h4⟩ := h k e hk
  obtain rfl : l = Chc.cells e := h3
  exact ⟨blk, off, e1, h1, h4 0 _ rfl, h4 1 _ rfl, h4 2 _ rfl, h4 3 _ rfl, h4 4 _ rfl⟩
set_option maxHeartbeats 4000000 in
set_option maxRecDepth 100000 in
theorem eqChc_any (N : Nat → Prop) (A A2 : Option Addr) (xs : List Chc) (c c2 : Nat) (w : World) (h1 : Sl rChc N w A xs) (h2 : Sl rChc N w A2 xs) (hl : xs.length ≤ 1000000000) :
    Calls Tryz.prog 28 #[.slice A xs.length c, .slice A2 xs.length c2] w fun e w' => e = .returned (.bool true) ∧ Below w.heap.size w w' := by
  have H1 := Lib.hid h1
  have H2 := Lib.hid h2
  clear h1 h2
  go_enter Tryz.func28, Tryz.ntmps28
  go_wp2_with fail
  go_loopw [13] (fun i wr => ∃ j : Nat, j ≤ xs.length ∧ i = .int .i64 j ∧ Below w.heap.size w wr) (fun i _ => xs.length - (intOf i).toNat)
  case atStart => exact ⟨0, Nat.zero_le _, rfl, Below.refl _ _⟩
  case round =>
    obtain ⟨j, hj, rfl, hb⟩ := hrel
    by_cases hlt : j < xs.length
    · obtain ⟨e, hf⟩ : ∃ e, xs[j]? = some e := ⟨_, List.getElem?_eq_getElem hlt⟩
      obtain ⟨b1, o1, rfl, _, d0, d1, d2, d3, d4⟩ := (H1.out.keepB hb).chc j e hf
      obtain ⟨b2, o2, rfl, _, f0, f1, f2, f3, f4⟩ := (H2.out.keepB hb).chc j e hf
      clear hf
      go_wp2_with fail
      go_quiet (fail)
      go_wp2_with fail
      go_roundw
      case rel => exact ⟨j + 1, by omega, by go_num, hb.trans (below_drewN _ _ _)⟩
      case measure => simp [intOf]; omega
    · go_wp2_with fail
      go_ret
      exact ⟨rfl, hb⟩
set_option maxHeartbeats 16000000 in
set_option maxRecDepth 100000 in
theorem refChoices_any (A Al : Option Addr) (p : List Purp) (l : List Stm) (c cl : Nat) (k : Int) (t rg : ByteArray) (at' : Int) (w : World) (hS : Sl rPurp (fun _ => False) w A p) (hg : GoodPol p) (hL : Sl rStm (fun _ => False) w Al l) (hgl : GoodL p l) (hl : l.length ≤ 100000) (hat : 0 ≤ at' ∧ at' ≤ 4321439) :
    Calls Tryz.prog 29 #[.slice A p.length c, .slice Al l.length cl, .agg #[.int .i64 k, .string t], .string rg, .int .i64 at'] w fun e w' => ∃ A2 c2, e = .returned (.slice A2 (chcAll p l k t rg at').length c2) ∧ Sl rChc (fun _ => False) w' A2 (chcAll p l k t rg at') ∧ Below w.heap.size w w' := by
  have HS := Lib.hid hS
  have hpl : p.length ≤ 30 := hg.len.2
  have Ht := Lib.hid (fun pu ch w' (h : Below w.heap.size w w') => refTermIn_any (fun _ => False) A p pu rg ch c w' (hS.keepB h) hg)
  have Ha := Lib.hid (fun pu ch w' (h : Below w.heap.size w w') => refAsked_any (fun _ => False) A Al p l c cl k t pu rg ch at' w' (hS.keepB h) hg (hL.keepB h) hgl hl hat)
  have S := ((Mem.start w).new' (idCs k t) 29).nil rChc w.heap.size 61
  replace S : Mem w (w.alloc (.cells (idCs k t) 29)) [.loc w.heap.size (idCs k t) 29, .own rChc w.heap.size 61 (.slice none 0 0) []] := S
  replace S := S.swap
  obtain ⟨Rs, HRs⟩ : ∃ Rs, Hid (p.flatMap (chcU p l k t rg at') = Rs) := ⟨_, Lib.hid rfl⟩
  rw [show chcAll p l k t rg at' = Rs from HRs.out]
  clear hS hg hL hgl hat
  go_enter Tryz.func29, Tryz.ntmps29
  go_wp2_with fail
  generalize w.alloc (.cells (idCs k t) 29) = w1 at *
  go_loopw [11, 19] (fun v i wr => ∃ (j : Nat) (out : List Chc), j ≤ p.length ∧ i = .int .i64 j ∧ Hid ((p.take j).flatMap (chcU p l k t rg at') = out) ∧ Mem w wr [.own rChc w.heap.size 61 v out, .loc w.heap.size (idCs k t) 29]) (fun _ i _ => p.length - (intOf i).toNat)
  case atStart => exact ⟨0, [], Nat.zero_le _, rfl, Lib.hid rfl, S⟩
  case round =>
    clear S
    obtain ⟨j, out, hj, rfl, HO, S⟩ := hrel
    have hol : out.length ≤ 4 * p.length := by rw [← HO.out]; exact Nat.le_trans (chcAll_len p l k t rg at' _) (by rw [List.length_take]; omega)
    by_cases hlt : j < p.length
    · obtain ⟨u, hf⟩ : ∃ u, p[j]? = some u := ⟨_, List.getElem?_eq_getElem hlt⟩
      obtain ⟨blk, off, At, ct, rfl, hblk, d0, d1, _⟩ := (HS.out.keepB S.b).purp j u hf
      have HO2 := Lib.hid (flatMap_take (chcU p l k t rg at') p j u hf)
      rw [HO.out] at HO2
      clear hf
      go_upto_region 5 with fail
      clear d0 d1
      obtain ⟨Y, hY⟩ : ∃ Y, Y = wr.heap.size := ⟨_, rfl⟩
      replace S := S.newAt #[.string u.name, .slice At u.terms.length ct] 58 Y hY
      rw [← hY]
      clear hY
      generalize wr.alloc (.cells #[.string u.name, .slice At u.terms.length ct] 58) = w4 at *
      go_wp2_with fail
      go_loopw [11, 14] (fun v i wr => ∃ (m : Nat) (out2 : List Chc), m ≤ 4 ∧ i = .int .i64 (m + 1) ∧ Hid (out ++ (chans.take m).flatMap (chcS p l k t rg at' u) = out2) ∧ Mem w wr [.own rChc w.heap.size 61 v out2, .loc w.heap.size (idCs k t) 29, .loc Y #[.string u.name, .slice At u.terms.length ct] 58]) (fun _ i _ => 5 - (intOf i).toNat)
      case atStart => exact ⟨0, out, by omega, rfl, by show _ = _; simp, S⟩
      case round =>
        clear S HO
        obtain ⟨m, out2, hm, rfl, HO, S⟩ := hrel
        have hol2 : out2.length ≤ 4 * p.length + 4 := by
          rw [← HO.out, List.length_append]
          have := chcU_len p l k t rg at' u m
          omega
        obtain ⟨Ao, co, rfl⟩ := (S.ow 0 rfl).len
        by_cases hm4 : m < 4
        · have HO3 := Lib.hid (flatMap_take (chcS p l k t rg at' u) chans m _ (chans_at m hm4))
          rw [chcS] at HO3
          obtain ⟨tm, htm⟩ : ∃ tm, (termAt p u.name rg (m + 1)).getD tZero = tm := ⟨_, rfl⟩
          obtain ⟨is, his⟩ : ∃ is, (termAt p u.name rg (m + 1)).isSome = is := ⟨_, rfl⟩
          have Ht1 := Lib.hid (fun w' h => Ht.out u.name (m + 1) w' h)
          have Ha1 := Lib.hid (fun w' h => Ha.out u.name (m + 1) w' h)
          rw [htm, his] at Ht1
          rw [his] at HO3
          clear htm his
          generalize mayAns p l k t u.name rg (m + 1) at' = an at *
          have c2 := (S.lv 2 rfl).all
          go_wp2_with fail
          ((with_reducible refine (Ht1.out wr S.b).mono ?_); rintro e w5 ⟨rfl, hl5⟩)
          replace S := S.below hl5
          clear hl5 Ht1 c2
          go_upto_region 9 with fail
          obtain ⟨Q, hQ⟩ : ∃ Q, Q = w5.heap.size := ⟨_, rfl⟩
          replace S := S.newAt (tCs tm) 34 Q hQ
          rw [← hQ]
          clear hQ
          generalize w5.alloc (.cells (tCs tm) 34) = w6 at *
          cases is with
          | false =>
            go_wp2_with fail
            go_roundw
            case rel => exact ⟨m + 1, out2, by omega, by go_num, (by show _ = _; rw [HO3.out, ← List.append_assoc, HO.out]; simp), S.del 3⟩
            case measure => simp [intOf]; omega
          | true =>
            go_wp2_with fail
            have hCl : ∀ {wx : World} {v : Value} {o : List Chc}, Mem w wx [.own rChc w.heap.size 61 v o, .loc w.heap.size (idCs k t) 29, .loc Y #[.string u.name, .slice At u.terms.length ct] 58, .loc Q (tCs tm) 34] → LV wx Y #[.string u.name, .slice At u.terms.length ct] 58 ∧ LV wx w.heap.size #[.int .i64 k, .string t] 29 := fun S => ⟨S.lv 2 rfl, S.lv 1 rfl⟩
            refine wp_region_mix (fun wx => LV wx Y #[.string u.name, .slice At u.terms.length ct] 58 ∧ LV wx w.heap.size #[.int .i64 k, .string t] 29) [(true, 0), (true, 1), (true, 2), (true, 3), (true, 4), (true, 5), (true, 6), (true, 7), (true, 8), (true, 9), (true, 10), (true, 11), (true, 12), (false, 13), (true, 14), (false, 15), (false, 16), (true, 17)] (by kernel_rfl) (by kernel_rfl) (fun w' hd => hCl (S.below (hd.below _))) (fun KK hKK wd hd => ?_)
            replace S := S.below (hd.below _)
            clear hd
            repeat (refine mix_p rfl (fun K hK => ?_); go_simp; (try go_bits); (try simp (disch := omega) only [if_pos]); (try simp (disch := omega) only [if_neg]); (try simp (disch := omega) only [dif_pos]); (try simp (disch := omega) only [dif_neg]); (try go_simp); (refine hK _ ?_; clear hK K))
            refine mix_load (.string u.name) rfl rfl rfl rfl (fun _ => rfl) (fun w' h => h.1.cell 0 _ rfl) ?_
            repeat (refine mix_p rfl (fun K hK => ?_); go_simp; (try go_bits); (try simp (disch := omega) only [if_pos]); (try simp (disch := omega) only [if_neg]); (try simp (disch := omega) only [dif_pos]); (try simp (disch := omega) only [dif_neg]); (try go_simp); (refine hK _ ?_; clear hK K))
            refine mix_loadR (.agg #[.int .i64 k, .string t]) rfl rfl rfl rfl (fun w' h => loadIdI h.2) ?_
            repeat (refine mix_p rfl (fun K hK => ?_); go_simp; (try go_bits); (try simp (disch := omega) only [if_pos]); (try simp (disch := omega) only [if_neg]); (try simp (disch := omega) only [dif_pos]); (try simp (disch := omega) only [dif_neg]); (try go_simp); (refine hK _ ?_; clear hK K))
            refine mix_load (.string u.name) rfl rfl rfl rfl (fun _ => rfl) (fun w' h => h.1.cell 0 _ rfl) ?_
            repeat (refine mix_p rfl (fun K hK => ?_); go_simp; (try go_bits); (try simp (disch := omega) only [if_pos]); (try simp (disch := omega) only [if_neg]); (try simp (disch := omega) only [dif_pos]); (try simp (disch := omega) only [dif_neg]); (try go_simp); (refine hK _ ?_; clear hK K))
            refine mix_l rfl (fun K hK => ?_) (hCl S)
            go_wp2_with fail
            ((with_reducible refine (Ha1.out wd S.b).mono ?_); rintro e w8 ⟨rfl, hl8⟩)
            replace S := S.below hl8
            clear hl8 Ha1
            have hC := hCl S
            go_wp2_with fail
            refine ⟨hC, ?_⟩
            clear hC
            repeat (refine mix_p rfl (fun K hK => ?_); go_simp; (try go_bits); (try simp (disch := omega) only [if_pos]); (try simp (disch := omega) only [if_neg]); (try simp (disch := omega) only [dif_pos]); (try simp (disch := omega) only [dif_neg]); (try go_simp); (refine hK _ ?_; clear hK K))
            refine mix_l rfl (fun K hK => ?_) (hCl S)
            have hC8 := hCl (S.alloc (.cells #[.string u.name, .int .i64 (m + 1), .bool an.1, .int .i64 an.2.1, .int .i64 an.2.2] 61))
            go_wp2_with fail
            refine ⟨hC8, ?_⟩
            refine mix_l rfl (fun K hK => ?_) hC8
            have hsz8 := S.b.size
            refine S.app 0 rfl tyChc rfl _ _ rfl ⟨u.name, m + 1, an⟩ 1 rfl rfl rfl (oneChc ⟨u.name, m + 1, an⟩) hsz8 (by omega) (by decide) ?_
            intro v' w9 S6
            have hC9 := hCl (v := v') (o := out2 ++ [⟨u.name, m + 1, an⟩]) S6
            clear hC8
            go_wp2_with fail
            refine ⟨hC9, ?_⟩
            clear hC9 hCl
            repeat (refine mix_p rfl (fun K hK => ?_); go_simp; (try go_bits); (try simp (disch := omega) only [if_pos]); (try simp (disch := omega) only [if_neg]); (try simp (disch := omega) only [dif_pos]); (try simp (disch := omega) only [dif_neg]); (try go_simp); (refine hK _ ?_; clear hK K))
            refine mix_nil ?_
            simp only [Exit.then]
            refine hKK _ _ ?_
            go_wp2_with fail
            go_roundw
            case rel => exact ⟨m + 1, out2 ++ [(⟨u.name, (m : Int) + 1, an⟩ : Chc)], by omega, by go_num, (by show _ = _; rw [HO3.out, ← List.append_assoc, HO.out]; simp), S6.del 3⟩
            case measure => simp [intOf]; omega
        · have HO3 : Hid ((p.take (j + 1)).flatMap (chcU p l k t rg at') = out2) := by
            show _ = _
            rw [HO2.out, ← HO.out, show chans.take m = chans from List.take_of_length_le (by simp; omega)]
            rfl
          go_wp2_with fail
          go_roundw
          case rel => exact ⟨j + 1, out2, by omega, by go_num, HO3, S.del 2⟩
          case measure => simp [intOf]; omega
    · obtain rfl : out = Rs := by rw [← HO.out, ← HRs.out, List.take_of_length_le (by omega)]
      obtain ⟨A2, c2, e2, hS⟩ := ((S.ow 0 rfl).flatM flatChc (M' := fun _ => False)).toSlC (fun _ _ h => h)
      have He := Lib.hid e2
      have HS2 := Lib.hid hS.2
      clear hS e2
      go_wp2_with fail
      go_ret
      exact ⟨A2, c2, congrArg Ending.returned He.out, HS2.out, S.b⟩
end Go.Proofs.YtlnklkedpknbpaaGreatDoor
