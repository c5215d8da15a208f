/- Several texts in one: Next, Periods, Turns, PerRef, NextRef, LawPrd. -/
import Derived.Test.YtlnklkedpknbpaaGreatDoorPerLaw2
import Derived.Test.YtlnklkedpknbpaaGreatDoorAudRef
import Derived.Test.YtlnklkedpknbpaaGreatDoorPackW
import Derived.Test.YtlnklkedpknbpaaGreatDoorLawAsk
/- What consent.Next returns. -/
namespace Go.Proofs.YtlnklkedpknbpaaGreatDoor
open Go Go.RowKit
abbrev ansF (p : List Purp) (l : List Stm) (k : Int) (t pu rg : ByteArray) (ch : Int) : Int → Ans := fun m => mayAns p l k t pu rg ch m
abbrev refL (p : List Purp) (l : List Stm) (k : Int) (t pu rg : ByteArray) (ch : Int) : List Int := momL (rawR ((termAt p pu rg ch).getD tZero) k t ch l)
def nextAns (p : List Purp) (l : List Stm) (k : Int) (t pu rg : ByteArray) (ch at' : Int) : Int := nextP (ansF p l k t pu rg ch) at' (refL p l k t pu rg ch)
theorem term_rng {p : List Purp} (hg : GoodPol p) (pu rg : ByteArray) (ch : Int) : (0 ≤ ((termAt p pu rg ch).getD tZero).days ∧ ((termAt p pu rg ch).getD tZero).days ≤ 2000) ∧ 0 ≤ ((termAt p pu rg ch).getD tZero).wait ∧ ((termAt p pu rg ch).getD tZero).wait ≤ 100000 := by
  cases h : termAt p pu rg ch with
  | none => exact ⟨⟨by decide, by decide⟩, by decide, by decide⟩
  | some tm => exact termAt_good hg h
theorem moms_p {p : List Purp} {l U : List Stm} {k : Int} {t pu rg : ByteArray} {ch : Int} (hg : GoodPol p) (hgl : GoodL p l) (hU : IsOf k t ch l U) : Moms (ansF p l k t pu rg ch) (momL (rawP ((termAt p pu rg ch).getD tZero) pu U)) :=
  momsP hU.ord hU.mem (fun s hs => (hgl.at' s hs).1) hgl.wh (fun _ h => (termAt_good hg h).1.1) ⟨(term_rng hg pu rg ch).1.1, (term_rng hg pu rg ch).2.1⟩
theorem moms_r {p : List Purp} {l : List Stm} {k : Int} {t pu rg : ByteArray} {ch : Int} (hg : GoodPol p) (hgl : GoodL p l) : Moms (ansF p l k t pu rg ch) (refL p l k t pu rg ch) := by
  obtain ⟨U, ho, hm⟩ := isOf_ex k t ch hgl.no (fun s hs => (hgl.at' s hs).2)
  exact momsR ho hm (fun s hs => (hgl.at' s hs).1) hgl.wh (fun _ h => (termAt_good hg h).1.1) ⟨(term_rng hg pu rg ch).1.1, (term_rng hg pu rg ch).2.1⟩
theorem ans_ne {a b : Ans} (h : a ≠ b) : (a.1 == b.1) = false ∨ ((a.1 == b.1) = true ∧ (a.2.1 == b.2.1) = false) ∨ ((a.1 == b.1) = true ∧ (a.2.1 == b.2.1) = true ∧ (a.2.2 == b.2.2) = false) := by
  obtain ⟨a1, a2, a3⟩ := a
  obtain ⟨b1, b2, b3⟩ := b
  by_cases h1 : a1 = b1
  · by_cases h2 : a2 = b2
    · by_cases h3 : a3 = b3
      · exact absurd (by rw [h1, h2, h3]) h
      · exact .inr (.inr ⟨by simpa using h1, by simpa using h2, by simpa using h3⟩)
    · exact .inr (.inl ⟨by simpa using h1, by simpa using h2⟩)
  · exact .inl (by simpa using h1)
theorem nextP_at {f : Int → Ans} {at' : Int} {L : List Int} {j : Nat} {m : Int} (h : L[j]? = some m) : nextP f at' (L.drop j) = if at' < m ∧ f m ≠ f at' then m else nextP f at' (L.drop (j + 1)) := by
  obtain ⟨hk, rfl⟩ := List.getElem?_eq_some_iff.1 h
  rw [List.drop_eq_getElem_cons hk, nextP]
theorem Sl.oneAt {N : Nat → Prop} {w : World} {A : Option Addr} {xs : List Int} (h : Sl rInt N w A xs) (k : Nat) (x : Int) (hk : xs[k]? = some x) : ∃ blk off, A = some ⟨blk, off, none⟩ ∧ w.cell? ⟨blk, off + k, none⟩ = some (.int .i64 x) := by
  obtain ⟨b, o, l, e, _, _, hr, hc⟩ := h k x hk
  obtain rfl : l = [.int .i64 x] := hr
  have := hc 0 _ rfl
  rw [show o + k * rInt.size + 0 = o + k by simp [rInt, Rep.flat]] at this
  exact ⟨b, o, e, this⟩
theorem loadAskN {w : World} {X : Nat} {tm : PTerm} {is : Bool} {pu : ByteArray} {A : Option Addr} {n c : Nat} (l : LV w X (askCs tm is pu A n c) 122) : (Instr.loadAt 122 (.pointer (some ⟨X, 0, none⟩))).run Tryz.prog w = .ok (.agg (askCs tm is pu A n c)) w := by
  have c0 := l.all
  go_simp
theorem loadAnN {w : World} {X : Nat} {m : Bool} {a b : Int} (h : LV w X (aCs m a b) 48) : (Instr.loadAt 48 (.pointer (some ⟨X, 0, none⟩))).run Tryz.prog w = .ok (.agg (aCs m a b)) w := by
  have c := h.all
  go_simp
set_option maxHeartbeats 8000000 in
set_option maxRecDepth 100000 in
theorem consNext_any (A Al : Option Addr) (p : List Purp) (l : List Stm) (c cl : Nat) (k : Int) (t pu rg : ByteArray) (ch at' : Int) (w : World) (hS : Sl rPurp (fun _ => False) w A p) (hok : PolOk p) (hL : Sl rStm (fun _ => False) w Al l) (hlo : StmOk l) (hl : l.length ≤ 19) (hrg : rg.size ≤ 1000000000) (ht : t.size ≤ 1000000) (hM : MaxL w) :
    Calls Tryz.prog 52 #[.slice A p.length c, .slice Al l.length cl, .agg #[.int .i64 k, .string t], .string pu, .string rg, .int .i64 ch, .int .i64 at'] w fun e w' => e = .returned (.tuple #[.int .i64 (if mayErr p l k t pu rg ch at' = 0 then nextAns p l k t pu rg ch at' else 0), .int .i64 (mayErr p l k t pu rg ch at')]) ∧ Below w.heap.size w w' := by
  have Hall := Lib.hid (fun X w' (h : Below w.heap.size w w') (hX : LV w' X (idCs k t) 29) => checkAll1_any (fun _ => False) A Al p l c cl pu rg ch at' X k t w' (hS.keepB h) hok (hL.keepB h) hlo hrg ht (hM.below h) hX)
  have Hgood : Hid (mayErr p l k t pu rg ch at' = 0 → GoodPol p ∧ GoodL p l ∧ (0 ≤ at' ∧ at' ≤ 4321439)) := fun h => by
    obtain ⟨h1, _, h3⟩ := first3_zero h
    obtain ⟨h4, h5⟩ := stms_good h1
    exact ⟨policy_good h4, h5, qErr_at h3⟩
  have Hask := Lib.hid (fun (hg : GoodPol p) (hn : l.Pairwise (fun a b => a.no < b.no)) w' (h : Below w.heap.size w w') => ask_any (fun _ => False) A Al p l c cl pu rg ch at' k t w' (hS.keepB h) hg (hL.keepB h) hl hn)
  have Hans := Lib.hid (fun (hg : GoodPol p) (hgl : GoodL p l) (U : List Stm) (hU : IsOf k t ch l U) (N : Nat → Prop) Au cu at' (hat : 0 ≤ at' ∧ at' ≤ 4321439) w' (hS : Sl rStm N w' Au U) hc => answerAt_any (pu := pu) (rg := rg) hg hgl hU hat (by omega) N Au cu w' hS hc)
  obtain ⟨F, HF⟩ : ∃ F, Hid (mayErr p l k t pu rg ch at' = F) := ⟨_, Lib.hid rfl⟩
  have Hall2 : Hid (∀ X w' (h : Below w.heap.size w w') (hX : LV w' X (idCs k t) 29), Calls Tryz.prog 78 #[.agg (qCs A p.length c pu rg ch at'), .slice Al l.length cl, .int .i64 1, .slice (some ⟨X, 0, none⟩) 1 1] w' fun e w'' => e = .returned (.int .i64 F) ∧ Below w'.heap.size w' w'') := fun X w' h hX => HF.out ▸ Hall.out X w' h hX
  rw [HF.out] at Hgood ⊢
  obtain ⟨Rs, HRs⟩ : ∃ Rs, Hid ((if F = 0 then nextAns p l k t pu rg ch at' else 0) = Rs) := ⟨_, Lib.hid rfl⟩
  rw [HRs.out]
  clear Hall HF
  clear hS hok hL hlo hM
  have S := ((Mem.start w).new' (idCs k t) 29).new' (qCs A p.length c pu rg ch at') 118
  replace S : Mem w ((w.alloc (.cells (idCs k t) 29)).alloc (.cells (qCs A p.length c pu rg ch at') 118)) [.loc w.heap.size (idCs k t) 29, .loc (w.heap.size + 1) (qCs A p.length c pu rg ch at') 118] := by simpa using S
  go_enter Tryz.func52, Tryz.ntmps52
  go_upto_region 2 with fail
  generalize (w.alloc (.cells (idCs k t) 29)).alloc (.cells (qCs A p.length c pu rg ch at') 118) = w1 at *
  have c0 := (S.lv 0 rfl).all
  have c1 := (S.lv 1 rfl).all
  have Hc := Lib.hid (Hall2.out w1.heap.size (w1.alloc (.cells (idCs k t) 29)) (S.alloc _).b (LV.new w1 w1.heap.size (idCs k t) 29 rfl))
  replace S := S.alloc (.cells (idCs k t) 29)
  clear Hall2
  go_wp2_with fail
  ((with_reducible refine (Hc.out).mono ?_); rintro e w3 ⟨rfl, hl3⟩)
  replace S := S.below hl3
  clear hl3 Hc c0 c1
  by_cases hF : F = 0
  · have HRs2 : Hid (nextAns p l k t pu rg ch at' = Rs) := by show _ = _; rw [← HRs.out, if_pos hF]
    clear HRs
    obtain ⟨hg, hgl, hat⟩ := Hgood.out hF
    have Ha := Lib.hid (Hask.out hg hgl.no)
    have Hb := Lib.hid (Hans.out hg hgl)
    subst hF
    clear Hask Hans Hgood
    have c0 := (S.lv 0 rfl).all
    have c1 := (S.lv 1 rfl).all
    go_wp2_with fail
    ((with_reducible refine (Ha.out w3 S.b).mono ?_); rintro e w4 ⟨Au, U, cu, rfl, hU, hc, hSU, hl4⟩)
    replace S := S.call hl4 (.sl rStm Au U) hSU (fun k e => by cases e)
    have Hd := Lib.hid (fun (at' : Int) (hat : 0 ≤ at' ∧ at' ≤ 4321439) (N : Nat → Prop) w' (hS : Sl rStm N w' Au U) => Hb.out U hU N Au cu at' hat w' hS hc)
    have HU := Lib.hid hU
    have Hcu := Lib.hid hc
    clear hl4 Ha Hb hU hc hSU c0 c1
    go_upto_region 6 with fail
    obtain ⟨K, hK⟩ : ∃ K, K = w4.heap.size := ⟨_, rfl⟩
    replace S := S.newAt (askCs ((termAt p pu rg ch).getD tZero) (termAt p pu rg ch).isSome pu Au U.length cu) 122 K hK
    rw [← hK]
    clear hK
    generalize w4.alloc (.cells (askCs ((termAt p pu rg ch).getD tZero) (termAt p pu rg ch).isSome pu Au U.length cu) 122) = w5 at *
    have Hmo := Lib.hid (moms_p (pu := pu) (rg := rg) hg hgl HU.out)
    have HR0 : Hid (nextP (ansF p l k t pu rg ch) at' ((momL (rawP ((termAt p pu rg ch).getD tZero) pu U)).drop 0) = Rs) := by
      show _ = _
      rw [List.drop_zero, ← HRs2.out, nextAns, nextP_same Hmo.out (moms_r hg hgl) hat.1]
    have Hm := Lib.hid (fun (N : Nat → Prop) w' (h : Sl rStm N w' Au U) => moments_any N Au ((termAt p pu rg ch).getD tZero) (termAt p pu rg ch).isSome pu U cu w' h (Nat.le_trans HU.out.len (by omega)) (fun s hs => hgl.at' s ((HU.out.mem s).1 hs).1) (term_rng hg pu rg ch).1 (term_rng hg pu rg ch).2)
    have Hrg : Hid (∀ m ∈ momL (rawP ((termAt p pu rg ch).getD tZero) pu U), 0 ≤ m ∧ m ≤ 4321439) := fun m hm => ⟨Hmo.out.lo m hm, by have := Hmo.out.hi m hm; omega⟩
    have HLl : Hid ((momL (rawP ((termAt p pu rg ch).getD tZero) pu U)).length ≤ 1000) := by
      have h1 := momL_len (rawP ((termAt p pu rg ch).getD tZero) pu U)
      have h2 := flatMap_len (momS ((termAt p pu rg ch).getD tZero) pu) 3 (momS_len _ pu) U
      have h3 := HU.out.len
      show _ ≤ _
      unfold rawP at h1 ⊢
      omega
    clear Hmo HRs2 hg hgl HU Hcu
    generalize momL (rawP ((termAt p pu rg ch).getD tZero) pu U) = L at *
    generalize (termAt p pu rg ch).getD tZero = tm at *
    generalize (termAt p pu rg ch).isSome = is at *
    obtain ⟨f, hf⟩ : ∃ f : Int → Ans, ansF p l k t pu rg ch = f := ⟨_, rfl⟩
    have Hd2 : Hid (∀ (at' : Int) (hat : 0 ≤ at' ∧ at' ≤ 4321439) (N : Nat → Prop) w' (hS : Sl rStm N w' Au U), Calls Tryz.prog 80 #[.agg (askCs tm is pu Au U.length cu), .int .i64 at'] w' (GivesAns (f at') w')) := fun at' hat N w' hS => hf ▸ Hd.out at' hat N w' hS
    rw [hf] at HR0
    clear Hd hf
    have c3 := (S.lv 3 rfl).all
    go_wp2_with fail
    ((with_reducible refine (Hd2.out at' hat _ w5 (S.slc 2 rfl)).mono ?_); rintro e w6 ⟨rfl, hl6⟩)
    replace S := S.below hl6
    obtain ⟨a0, Ha0⟩ : ∃ a0, Hid (f at' = a0) := ⟨_, Lib.hid rfl⟩
    rw [Ha0.out]
    clear hl6 c3
    go_upto_region 7 with fail
    obtain ⟨Y, hY⟩ : ∃ Y, Y = w6.heap.size := ⟨_, rfl⟩
    replace S := S.newAt (aCs a0.1 a0.2.1 a0.2.2) 48 Y hY
    rw [← hY]
    clear hY
    generalize w6.alloc (.cells (aCs a0.1 a0.2.1 a0.2.2) 48) = w7 at *
    have c3 := (S.lv 3 rfl).all
    go_wp2_with fail
    ((with_reducible refine (Hm.out _ w7 (S.slc 2 rfl)).mono ?_); rintro e w8 ⟨Am, cm, rfl, hSm, hl8⟩)
    replace S := S.call hl8 (.sl rInt Am L) hSm (fun k e => by cases e)
    clear hl8 hSm Hm c3
    replace S : Mem w w8 [.loc w.heap.size (idCs k t) 29, .loc (w.heap.size + 1) (qCs A p.length c pu rg ch at') 118, .sl rStm Au U, .loc K (askCs tm is pu Au U.length cu) 122, .loc Y (aCs a0.1 a0.2.1 a0.2.2) 48, .sl rInt Am L] := S
    go_wp2_with fail
    go_loopw [46] (fun i wr => ∃ j : Nat, j ≤ L.length ∧ i = .int .i64 j ∧ Hid (nextP f at' (L.drop j) = Rs) ∧ Mem w wr [.loc w.heap.size (idCs k t) 29, .loc (w.heap.size + 1) (qCs A p.length c pu rg ch at') 118, .sl rStm Au U, .loc K (askCs tm is pu Au U.length cu) 122, .loc Y (aCs a0.1 a0.2.1 a0.2.2) 48, .sl rInt Am L]) (fun i _ => L.length - (intOf i).toNat)
    case atStart => exact ⟨0, Nat.zero_le _, rfl, HR0, S⟩
    case round =>
      clear S HR0
      obtain ⟨j, hj, rfl, HR, S⟩ := hrel
      have hLl := HLl.out
      by_cases hlt : j < L.length
      · obtain ⟨m, hm⟩ : ∃ m, L[j]? = some m := ⟨_, List.getElem?_eq_getElem hlt⟩
        obtain ⟨blk, off, rfl, d0⟩ := (S.slc 5 rfl).oneAt j m hm
        have hmr := Hrg.out m (List.mem_of_getElem? hm)
        have HR2 := HR.out
        rw [nextP_at hm, Ha0.out] at HR2
        have HR3 := Lib.hid HR2
        clear hm HR2 HR
        by_cases hlm : at' < m
        · have HR4 : Hid ((if f m ≠ a0 then m else nextP f at' (L.drop (j + 1))) = Rs) := by
            show _ = _
            rw [← HR3.out]
            by_cases h : f m ≠ a0
            · rw [if_pos h, if_pos ⟨hlm, h⟩]
            · rw [if_neg h, if_neg (fun h2 => h h2.2)]
          clear HR3
          have Hdm := Lib.hid (Hd2.out m hmr)
          obtain ⟨am, Ham⟩ : ∃ am, Hid (f m = am) := ⟨_, Lib.hid rfl⟩
          rw [Ham.out] at Hdm HR4
          go_upto_region 10 with fail
          clear d0
          have hCl : ∀ {wx : World}, Mem w wx [.loc w.heap.size (idCs k t) 29, .loc (w.heap.size + 1) (qCs A p.length c pu rg ch at') 118, .sl rStm Au U, .loc K (askCs tm is pu Au U.length cu) 122, .loc Y (aCs a0.1 a0.2.1 a0.2.2) 48, .sl rInt (some ⟨blk, off, none⟩) L] → LV wx K (askCs tm is pu Au U.length cu) 122 ∧ LV wx Y (aCs a0.1 a0.2.1 a0.2.2) 48 := fun S => ⟨S.lv 3 rfl, S.lv 4 rfl⟩
          refine wp_region_mix (fun wx => LV wx K (askCs tm is pu Au U.length cu) 122 ∧ LV wx Y (aCs a0.1 a0.2.1 a0.2.2) 48) [(true, 0), (true, 1), (true, 2), (true, 3), (true, 4), (true, 5), (true, 7), (false, 6), (true, 8), (true, 9)] (by kernel_rfl) (by kernel_rfl) (fun w' hd => hCl (S.below (hd.below _))) (fun KK hKK wd hd => ?_)
          replace S := S.below (hd.below _)
          clear hd
          have hlm' : decide (at' < m) = true := decide_eq_true hlm
          repeat (refine mix_p rfl (fun K hK => ?_); go_simp; (try go_bits); (try simp (disch := omega) only [if_pos]); (try simp (disch := omega) only [if_neg]); (try simp (disch := omega) only [dif_pos]); (try simp (disch := omega) only [dif_neg]); (try go_simp); (refine hK _ ?_; clear hK K))
          refine mix_loadG (.agg (askCs tm is pu Au U.length cu)) rfl (by simp [Region.wanted, yielded, go_sem]) rfl rfl (fun w' h => loadAskN h.1) ?_
          repeat (refine mix_p rfl (fun K hK => ?_); go_simp; (try go_bits); (try simp (disch := omega) only [if_pos]); (try simp (disch := omega) only [if_neg]); (try simp (disch := omega) only [dif_pos]); (try simp (disch := omega) only [dif_neg]); (try go_simp); (refine hK _ ?_; clear hK K))
          refine mix_loadG (.agg (aCs a0.1 a0.2.1 a0.2.2)) rfl (by simp [Region.wanted, yielded, go_sem]) rfl rfl (fun w' h => loadAnN h.2) ?_
          refine mix_l rfl (fun K' hK' => ?_) (hCl S)
          go_wp2_with fail
          ((with_reducible refine (Hdm.out _ wd (S.slc 2 rfl)).mono ?_); rintro e w9 ⟨rfl, hl9⟩)
          rw [show aVal am = Value.agg #[.bool am.1, .int .i64 am.2.1, .int .i64 am.2.2] from rfl]
          replace S := S.below hl9
          clear hl9 Hdm
          have hC := hCl S
          go_wp2_with fail
          refine ⟨hC, ?_⟩
          clear hC hCl
          by_cases hne : am = a0
          · have HR5 : Hid (nextP f at' (L.drop (j + 1)) = Rs) := by show _ = _; rw [← HR4.out, if_neg (not_not_intro hne)]
            subst hne
            clear HR4
            repeat (refine mix_p rfl (fun K hK => ?_); go_simp; (try go_bits); (try simp (disch := omega) only [if_pos]); (try simp (disch := omega) only [if_neg]); (try simp (disch := omega) only [dif_pos]); (try simp (disch := omega) only [dif_neg]); (try go_simp); (refine hK _ ?_; clear hK K))
            refine mix_nil ?_
            simp only [Exit.then]
            refine hKK _ _ ?_
            go_wp2_with fail
            go_roundw
            case rel => exact ⟨j + 1, by omega, by go_num, HR5, S⟩
            case measure => simp [intOf]; omega
          · obtain rfl : m = Rs := by rw [← HR4.out, if_pos hne]
            clear HR4
            rcases ans_ne hne with h1 | ⟨h1, h2⟩ | ⟨h1, h2, h3⟩
            · clear hne
              repeat (refine mix_p rfl (fun K hK => ?_); go_simp; (try go_bits); (try simp (disch := omega) only [if_pos]); (try simp (disch := omega) only [if_neg]); (try simp (disch := omega) only [dif_pos]); (try simp (disch := omega) only [dif_neg]); (try go_simp); (refine hK _ ?_; clear hK K))
              refine mix_nil ?_
              simp only [Exit.then]
              refine hKK _ _ ?_
              go_wp2_with fail
              exact bodyPost_ret (results_tt rfl rfl rfl) rfl ⟨rfl, S.b⟩
            · clear hne
              repeat (refine mix_p rfl (fun K hK => ?_); go_simp; (try go_bits); (try simp (disch := omega) only [if_pos]); (try simp (disch := omega) only [if_neg]); (try simp (disch := omega) only [dif_pos]); (try simp (disch := omega) only [dif_neg]); (try go_simp); (refine hK _ ?_; clear hK K))
              refine mix_nil ?_
              simp only [Exit.then]
              refine hKK _ _ ?_
              go_wp2_with fail
              exact bodyPost_ret (results_tt rfl rfl rfl) rfl ⟨rfl, S.b⟩
            · clear hne
              repeat (refine mix_p rfl (fun K hK => ?_); go_simp; (try go_bits); (try simp (disch := omega) only [if_pos]); (try simp (disch := omega) only [if_neg]); (try simp (disch := omega) only [dif_pos]); (try simp (disch := omega) only [dif_neg]); (try go_simp); (refine hK _ ?_; clear hK K))
              refine mix_nil ?_
              simp only [Exit.then]
              refine hKK _ _ ?_
              go_wp2_with fail
              exact bodyPost_ret (results_tt rfl rfl rfl) rfl ⟨rfl, S.b⟩
        · have HR4 : Hid (nextP f at' (L.drop (j + 1)) = Rs) := by show _ = _; rw [← HR3.out, if_neg (fun h => hlm h.1)]
          have hlm' : decide (at' < m) = false := decide_eq_false hlm
          clear HR3
          go_wp2_with fail
          go_quiet (fail)
          go_wp2_with fail
          go_roundw
          case rel => exact ⟨j + 1, by omega, by go_num, HR4, S.below (below_drewN _ _ _)⟩
          case measure => simp [intOf]; omega
      · obtain rfl : (4321440 : Int) = Rs := by rw [← HR.out, List.drop_eq_nil_of_le (by omega)]; rfl
        go_wp2_with fail
        exact bodyPost_ret (results_tt rfl rfl rfl) rfl ⟨rfl, S.b⟩
  · obtain rfl : 0 = Rs := by rw [← HRs.out, if_neg hF]
    have hF' : (F != 0) = true := by simpa using hF
    clear hF Hask Hans Hgood HRs
    go_wp2_with fail
    exact bodyPost_ret (results_tt rfl rfl rfl) rfl ⟨rfl, S.b⟩
end Go.Proofs.YtlnklkedpknbpaaGreatDoor

/- What consent.Periods returns. -/
namespace Go.Proofs.YtlnklkedpknbpaaGreatDoor
open Go Go.RowKit
def Per.cells (e : Per) : List Value := [.int .i64 e.from', .int .i64 e.to', .bool e.a.1, .int .i64 e.a.2.1, .int .i64 e.a.2.2]
def rPer : Rep Per := .flat 5 Per.cells (fun _ => rfl)
theorem flatPer : rPer.Flat Per.cells := fun _ _ _ _ => Iff.rfl
theorem tyPer : STy 93 101 rPer.size 40 (.agg #[.int .i64 0, .int .i64 0, .bool false, .int .i64 0, .int .i64 0]) := ⟨Tryz.underlying93, by kernel_rfl, rfl, by decide⟩
theorem onePer (t : Per) : ∀ u ∈ t.cells, u.oneCell' = true := fun u hu => by
  simp only [Per.cells, List.mem_cons, List.not_mem_nil, or_false] at hu
  rcases hu with rfl | rfl | rfl | rfl | rfl <;> rfl
theorem steps_at {f : Int → Ans} {cur : Ans} {L : List Int} {j : Nat} {m : Int} (h : L[j]? = some m) : steps f cur (L.drop j) = if f m = cur then steps f cur (L.drop (j + 1)) else (m, f m) :: steps f (f m) (L.drop (j + 1)) := by
  obtain ⟨hk, rfl⟩ := List.getElem?_eq_some_iff.1 h
  rw [List.drop_eq_getElem_cons hk, steps]
theorem steps_len (f : Int → Ans) : ∀ (L : List Int) (cur : Ans), (steps f cur L).length ≤ L.length
  | [], _ => Nat.le_refl _
  | m :: r, cur => by
    unfold steps
    split
    · exact Nat.le_trans (steps_len f r cur) (Nat.le_succ _)
    · rw [List.length_cons, List.length_cons]; exact Nat.succ_le_succ (steps_len f r (f m))
def GivesPer (xs : List Per) (F : Int) (w : World) (e : Ending) (w' : World) : Prop := ∃ A c, e = .returned (.tuple #[.slice A xs.length c, .int .i64 F]) ∧ Sl rPer (Lt w.heap.size) w' A xs ∧ Below w.heap.size w w'
def perA (p : List Purp) (l : List Stm) (k : Int) (t pu rg : ByteArray) (ch : Int) : List Per := perAns (ansF p l k t pu rg ch) (refL p l k t pu rg ch)
set_option maxHeartbeats 16000000 in
set_option maxRecDepth 100000 in
theorem periods_any (A Al : Option Addr) (p : List Purp) (l : List Stm) (c cl : Nat) (k : Int) (t pu rg : ByteArray) (ch : Int) (w : World) (hS : Sl rPurp (fun _ => False) w A p) (hok : PolOk p) (hL : Sl rStm (fun _ => False) w Al l) (hlo : StmOk l) (hl : l.length ≤ 19) (hrg : rg.size ≤ 1000000000) (ht : t.size ≤ 1000000) (hM : MaxL w) :
    Calls Tryz.prog 53 #[.slice A p.length c, .slice Al l.length cl, .agg #[.int .i64 k, .string t], .string pu, .string rg, .int .i64 ch] w (GivesPer (if mayErr p l k t pu rg ch 0 = 0 then perA p l k t pu rg ch else []) (mayErr p l k t pu rg ch 0) w) := by
  have Hall := Lib.hid (fun X w' (h : Below w.heap.size w w') (hX : LV w' X (idCs k t) 29) => checkAll1_any (fun _ => False) A Al p l c cl pu rg ch 0 X k t w' (hS.keepB h) hok (hL.keepB h) hlo hrg ht (hM.below h) hX)
  have Hgood : Hid (mayErr p l k t pu rg ch 0 = 0 → GoodPol p ∧ GoodL p l ∧ (0 ≤ (0 : Int) ∧ (0 : Int) ≤ 4321439)) := fun h => by
    obtain ⟨h1, _, h3⟩ := first3_zero h
    obtain ⟨h4, h5⟩ := stms_good h1
    exact ⟨policy_good h4, h5, qErr_at h3⟩
  have Hask := Lib.hid (fun (hg : GoodPol p) (hn : l.Pairwise (fun a b => a.no < b.no)) w' (h : Below w.heap.size w w') => ask_any (fun _ => False) A Al p l c cl pu rg ch 0 k t w' (hS.keepB h) hg (hL.keepB h) hl hn)
  have Hans := Lib.hid (fun (hg : GoodPol p) (hgl : GoodL p l) (U : List Stm) (hU : IsOf k t ch l U) (N : Nat → Prop) Au cu at' (hat : 0 ≤ at' ∧ at' ≤ 4321439) w' (hS : Sl rStm N w' Au U) hc => answerAt_any (pu := pu) (rg := rg) hg hgl hU hat (by omega) N Au cu w' hS hc)
  obtain ⟨F, HF⟩ : ∃ F, Hid (mayErr p l k t pu rg ch 0 = F) := ⟨_, Lib.hid rfl⟩
  have Hall2 : Hid (∀ X w' (h : Below w.heap.size w w') (hX : LV w' X (idCs k t) 29), Calls Tryz.prog 78 #[.agg (qCs A p.length c pu rg ch 0), .slice Al l.length cl, .int .i64 1, .slice (some ⟨X, 0, none⟩) 1 1] w' fun e w'' => e = .returned (.int .i64 F) ∧ Below w'.heap.size w' w'') := fun X w' h hX => HF.out ▸ Hall.out X w' h hX
  rw [HF.out] at Hgood ⊢
  obtain ⟨Rs, HRs⟩ : ∃ Rs, Hid ((if F = 0 then perA p l k t pu rg ch else []) = Rs) := ⟨_, Lib.hid rfl⟩
  rw [HRs.out]
  clear Hall HF
  clear hS hok hL hlo hM
  have S := ((Mem.start w).new' (idCs k t) 29).new' (qCs A p.length c pu rg ch 0) 118
  replace S : Mem w ((w.alloc (.cells (idCs k t) 29)).alloc (.cells (qCs A p.length c pu rg ch 0) 118)) [.loc w.heap.size (idCs k t) 29, .loc (w.heap.size + 1) (qCs A p.length c pu rg ch 0) 118] := by simpa using S
  go_enter Tryz.func53, Tryz.ntmps53
  go_upto_region 2 with fail
  generalize (w.alloc (.cells (idCs k t) 29)).alloc (.cells (qCs A p.length c pu rg ch 0) 118) = w1 at *
  have c0 := (S.lv 0 rfl).all
  have c1 := (S.lv 1 rfl).all
  have Hc := Lib.hid (Hall2.out w1.heap.size (w1.alloc (.cells (idCs k t) 29)) (S.alloc _).b (LV.new w1 w1.heap.size (idCs k t) 29 rfl))
  replace S := S.alloc (.cells (idCs k t) 29)
  clear Hall2
  go_wp2_with fail
  ((with_reducible refine (Hc.out).mono ?_); rintro e w3 ⟨rfl, hl3⟩)
  replace S := S.below hl3
  clear hl3 Hc c0 c1
  by_cases hF : F = 0
  · have HRs2 : Hid (perA p l k t pu rg ch = Rs) := by show _ = _; rw [← HRs.out, if_pos hF]
    clear HRs
    obtain ⟨hg, hgl, hat⟩ := Hgood.out hF
    have Ha := Lib.hid (Hask.out hg hgl.no)
    have Hb := Lib.hid (Hans.out hg hgl)
    subst hF
    clear Hask Hans Hgood
    have c0 := (S.lv 0 rfl).all
    have c1 := (S.lv 1 rfl).all
    go_wp2_with fail
    ((with_reducible refine (Ha.out w3 S.b).mono ?_); rintro e w4 ⟨Au, U, cu, rfl, hU, hc, hSU, hl4⟩)
    replace S := S.call hl4 (.sl rStm Au U) hSU (fun k e => by cases e)
    have Hd := Lib.hid (fun (at' : Int) (hat : 0 ≤ at' ∧ at' ≤ 4321439) (N : Nat → Prop) w' (hS : Sl rStm N w' Au U) => Hb.out U hU N Au cu at' hat w' hS hc)
    have HU := Lib.hid hU
    have Hcu := Lib.hid hc
    clear hl4 Ha Hb hU hc hSU c0 c1
    go_upto_region 6 with fail
    obtain ⟨K, hK⟩ : ∃ K, K = w4.heap.size := ⟨_, rfl⟩
    replace S := S.newAt (askCs ((termAt p pu rg ch).getD tZero) (termAt p pu rg ch).isSome pu Au U.length cu) 122 K hK
    rw [← hK]
    clear hK
    generalize w4.alloc (.cells (askCs ((termAt p pu rg ch).getD tZero) (termAt p pu rg ch).isSome pu Au U.length cu) 122) = w5 at *
    have Hmo := Lib.hid (moms_p (pu := pu) (rg := rg) hg hgl HU.out)
    have HR0 : Hid (perAns (ansF p l k t pu rg ch) (momL (rawP ((termAt p pu rg ch).getD tZero) pu U)) = Rs) := by
      show _ = _
      rw [← HRs2.out, perA, perAns_same Hmo.out (moms_r hg hgl)]
    have Hm := Lib.hid (fun (N : Nat → Prop) w' (h : Sl rStm N w' Au U) => moments_any N Au ((termAt p pu rg ch).getD tZero) (termAt p pu rg ch).isSome pu U cu w' h (Nat.le_trans HU.out.len (by omega)) (fun s hs => hgl.at' s ((HU.out.mem s).1 hs).1) (term_rng hg pu rg ch).1 (term_rng hg pu rg ch).2)
    have Hrg : Hid (∀ m ∈ momL (rawP ((termAt p pu rg ch).getD tZero) pu U), 0 ≤ m ∧ m ≤ 4321439) := fun m hm => ⟨Hmo.out.lo m hm, by have := Hmo.out.hi m hm; omega⟩
    have HLl : Hid ((momL (rawP ((termAt p pu rg ch).getD tZero) pu U)).length ≤ 1000) := by
      have h1 := momL_len (rawP ((termAt p pu rg ch).getD tZero) pu U)
      have h2 := flatMap_len (momS ((termAt p pu rg ch).getD tZero) pu) 3 (momS_len _ pu) U
      have h3 := HU.out.len
      show _ ≤ _
      unfold rawP at h1 ⊢
      omega
    clear Hmo HRs2 hg hgl HU Hcu
    generalize momL (rawP ((termAt p pu rg ch).getD tZero) pu U) = L at *
    generalize (termAt p pu rg ch).getD tZero = tm at *
    generalize (termAt p pu rg ch).isSome = is at *
    obtain ⟨f, hf⟩ : ∃ f : Int → Ans, ansF p l k t pu rg ch = f := ⟨_, rfl⟩
    have Hd2 : Hid (∀ (at' : Int) (hat : 0 ≤ at' ∧ at' ≤ 4321439) (N : Nat → Prop) w' (hS : Sl rStm N w' Au U), Calls Tryz.prog 80 #[.agg (askCs tm is pu Au U.length cu), .int .i64 at'] w' (GivesAns (f at') w')) := fun at' hat N w' hS => hf ▸ Hd.out at' hat N w' hS
    rw [hf] at HR0
    clear Hd hf
    have c3 := (S.lv 3 rfl).all
    go_wp2_with fail
    ((with_reducible refine (Hd2.out 0 (by decide) _ w5 (S.slc 2 rfl)).mono ?_); rintro e w6 ⟨rfl, hl6⟩)
    replace S := S.below hl6
    obtain ⟨a0, Ha0⟩ : ∃ a0, Hid (f 0 = a0) := ⟨_, Lib.hid rfl⟩
    rw [Ha0.out]
    rw [show aVal a0 = Value.agg #[.bool a0.1, .int .i64 a0.2.1, .int .i64 a0.2.2] from rfl]
    clear hl6 c3
    go_upto_region 7 with fail
    obtain ⟨Z, hZ⟩ : ∃ Z, Z = w6.heap.size := ⟨_, rfl⟩
    replace S := (S.newAt #[.int .i64 0, .int .i64 4321440, .bool a0.1, .int .i64 a0.2.1, .int .i64 a0.2.2] 101 Z hZ).asOwn flatPer 4 rfl [(⟨0, 4321440, a0⟩ : Per)] rfl rfl (by simp) rfl 1 rfl
    rw [← hZ]
    clear hZ
    generalize w6.alloc (.cells #[.int .i64 0, .int .i64 4321440, .bool a0.1, .int .i64 a0.2.1, .int .i64 a0.2.2] 101) = w7 at *
    have c3 := (S.lv 3 rfl).all
    go_wp2_with fail
    ((with_reducible refine (Hm.out _ w7 (S.slc 2 rfl)).mono ?_); rintro e w8 ⟨Am, cm, rfl, hSm, hl8⟩)
    replace S := S.call hl8 (.sl rInt Am L) hSm (fun k e => by cases e)
    clear hl8 hSm Hm c3
    replace S : Mem w w8 [.loc w.heap.size (idCs k t) 29, .loc (w.heap.size + 1) (qCs A p.length c pu rg ch 0) 118, .sl rStm Au U, .loc K (askCs tm is pu Au U.length cu) 122, .own rPer w.heap.size 101 (.slice (some ⟨Z, 0, none⟩) 1 1) [(⟨0, 4321440, a0⟩ : Per)], .sl rInt Am L] := S
    rw [perAns, Ha0.out] at HR0
    obtain ⟨Tot, hTot⟩ : ∃ Tot, steps f a0 L = Tot := ⟨_, rfl⟩
    rw [hTot] at HR0
    have HT0 : Hid ([] ++ steps f (lastS (0, a0) []).2 (L.drop 0) = Tot) := hTot
    clear hTot
    have HTl : Hid (Tot.length ≤ 1000) := by show _ ≤ _; rw [← HT0.out]; exact Nat.le_trans (steps_len f _ _) HLl.out
    go_wp2_with fail
    go_loopw [17, 47] (fun v i wr => ∃ (j : Nat) (T : List (Int × Ans)), j ≤ L.length ∧ i = .int .i64 j ∧ Hid (T ++ steps f (lastS (0, a0) T).2 (L.drop j) = Tot) ∧ Mem w wr [.loc w.heap.size (idCs k t) 29, .loc (w.heap.size + 1) (qCs A p.length c pu rg ch 0) 118, .sl rStm Au U, .loc K (askCs tm is pu Au U.length cu) 122, .own rPer w.heap.size 101 v (pers (0, a0) T), .sl rInt Am L]) (fun _ i _ => L.length - (intOf i).toNat)
    case atStart => exact ⟨0, [], Nat.zero_le _, rfl, HT0, S⟩
    case round =>
      clear S HT0
      obtain ⟨j, T, hj, rfl, HT, S⟩ := hrel
      have hTl : T.length ≤ 1000 := by
        have h1 := congrArg List.length HT.out
        rw [List.length_append] at h1
        have := HTl.out
        omega
      obtain ⟨g, cap, hv⟩ : ∃ g cap, u17 = .slice (some ⟨g, 0, none⟩) (pers (0, a0) T).length cap := by
        rcases (S.ow 4 rfl).shape with ⟨_, e⟩ | h
        · have := pers_len T (0, a0); rw [e] at this; cases this
        · exact h
      rw [pers_len] at hv
      subst hv
      have hLl := HLl.out
      by_cases hlt : j < L.length
      · obtain ⟨m, hm⟩ : ∃ m, L[j]? = some m := ⟨_, List.getElem?_eq_getElem hlt⟩
        obtain ⟨blk, off, rfl, d0⟩ := (S.slc 5 rfl).oneAt j m hm
        have hmr := Hrg.out m (List.mem_of_getElem? hm)
        have HT2 := HT.out
        rw [steps_at hm] at HT2
        have HT3 := Lib.hid HT2
        obtain ⟨la, hla⟩ : ∃ la, (lastS (0, a0) T).2 = la := ⟨_, rfl⟩
        rw [hla] at HT3
        clear hm HT2 HT
        have Hdm := Lib.hid (Hd2.out m hmr)
        obtain ⟨am, Ham⟩ : ∃ am, Hid (f m = am) := ⟨_, Lib.hid rfl⟩
        rw [Ham.out] at Hdm HT3
        have c3 := (S.lv 3 rfl).all
        go_wp2_with fail
        ((with_reducible refine (Hdm.out _ wr (S.slc 2 rfl)).mono ?_); rintro e w9 ⟨rfl, hl9⟩)
        replace S := S.below hl9
        rw [show aVal am = Value.agg #[.bool am.1, .int .i64 am.2.1, .int .i64 am.2.2] from rfl]
        clear hl9 Hdm c3 d0
        go_upto_region 12 with fail
        obtain ⟨Y, hY⟩ : ∃ Y, Y = w9.heap.size := ⟨_, rfl⟩
        replace S := S.newAt (aCs am.1 am.2.1 am.2.2) 48 Y hY
        rw [← hY]
        clear hY
        generalize w9.alloc (.cells (aCs am.1 am.2.1 am.2.2) 48) = w10 at *
        have c6 := (S.lv 6 rfl).all
        have hPl := pers_last T (0, a0)
        have hc2 := ((S.ow 4 rfl).cellP flatPer (by rw [pers_len]) T.length _ hPl 2 _ rfl).1
        have hc3 := ((S.ow 4 rfl).cellP flatPer (by rw [pers_len]) T.length _ hPl 3 _ rfl).1
        have hc4 := ((S.ow 4 rfl).cellP flatPer (by rw [pers_len]) T.length _ hPl 4 _ rfl).1
        have hc1 := ((S.ow 4 rfl).cellP flatPer (by rw [pers_len]) T.length _ hPl 1 _ rfl)
        rw [show rPer.size = 5 from rfl] at hc1 hc2 hc3 hc4
        dsimp only at hc1 hc2 hc3 hc4
        rw [hla] at hc2 hc3 hc4
        clear hPl
        by_cases hne : am = la
        · have HT4 : Hid (T ++ steps f la (L.drop (j + 1)) = Tot) := by show _ = _; rw [← HT3.out, if_pos hne]
          subst hne
          clear HT3
          go_wp2_with fail
          go_quiet (fail)
          go_wp2_with fail
          go_roundw
          case rel => exact ⟨j + 1, T, by omega, by go_num, (by rw [hla]; exact HT4), (S.del 6).below (below_drewN _ _ _)⟩
          case measure => simp [intOf]; omega
        · have HT4 : Hid ((T ++ [(m, am)]) ++ steps f (lastS (0, a0) (T ++ [(m, am)])).2 (L.drop (j + 1)) = Tot) := by
            show _ = _
            rw [← HT3.out, if_neg hne, lastS_snoc, List.append_assoc]
            rfl
          clear HT3 hla
          rcases ans_ne hne with h1 | ⟨h1, h2⟩ | ⟨h1, h2, h3⟩
          · clear hne
            go_wp2_with fail
            go_quiet (fail)
            generalize hwq : World.drewN w10 _ = wq at *
            replace S := S.below (hwq ▸ below_drewN _ _ _)
            clear hwq hc1 hc2 hc3 hc4 c6
            have hPl := pers_last T (0, a0)
            have hc1 := ((S.ow 4 rfl).cellP flatPer (by rw [pers_len]) T.length _ hPl 1 _ rfl)
            rw [show rPer.size = 5 from rfl] at hc1
            dsimp only at hc1
            replace S := S.put flatPer 4 rfl (by rw [pers_len]) T.length _ (⟨(lastS (0, a0) T).1, m, (lastS (0, a0) T).2⟩ : Per) hPl 1 (by decide) (.int .i64 m) rfl
            rw [show rPer.size = 5 from rfl] at S
            clear hPl
            go_upto_region 14 with fail
            clear hc1
            generalize World.setCell wq _ _ = w11 at *
            have c6 := (S.lv 6 rfl).all
            have hsz := S.b.size
            have HPl := Lib.hid (pers_len T (0, a0))
            have HPs := Lib.hid (pers_snoc T (0, a0) (m, am))
            have HS0 := Lib.hid S
            clear S
            generalize pers (0, a0) T = pT at *
            generalize hpS : pT.set T.length _ = pS at *
            generalize Value.slice (some ⟨g, 0, none⟩) (T.length + 1) cap = vv at *
            go_wp2_with (at_builtin; refine HS0.out.app 4 rfl tyPer rfl _ _ rfl (⟨m, 4321440, am⟩ : Per) 1 rfl rfl rfl (onePer ⟨m, 4321440, am⟩) hsz (by rw [← hpS, List.length_set, HPl.out]; omega) (by decide) ?_; intro v' w12 S6)
            go_roundw
            case rel => exact ⟨j + 1, T ++ [(m, am)], by omega, by go_num, HT4, by rw [HPs.out]; exact S6.del 6⟩
            case measure => simp [intOf]; omega
          · clear hne
            go_wp2_with fail
            go_quiet (fail)
            generalize hwq : World.drewN w10 _ = wq at *
            replace S := S.below (hwq ▸ below_drewN _ _ _)
            clear hwq hc1 hc2 hc3 hc4 c6
            have hPl := pers_last T (0, a0)
            have hc1 := ((S.ow 4 rfl).cellP flatPer (by rw [pers_len]) T.length _ hPl 1 _ rfl)
            rw [show rPer.size = 5 from rfl] at hc1
            dsimp only at hc1
            replace S := S.put flatPer 4 rfl (by rw [pers_len]) T.length _ (⟨(lastS (0, a0) T).1, m, (lastS (0, a0) T).2⟩ : Per) hPl 1 (by decide) (.int .i64 m) rfl
            rw [show rPer.size = 5 from rfl] at S
            clear hPl
            go_upto_region 14 with fail
            clear hc1
            generalize World.setCell wq _ _ = w11 at *
            have c6 := (S.lv 6 rfl).all
            have hsz := S.b.size
            have HPl := Lib.hid (pers_len T (0, a0))
            have HPs := Lib.hid (pers_snoc T (0, a0) (m, am))
            have HS0 := Lib.hid S
            clear S
            generalize pers (0, a0) T = pT at *
            generalize hpS : pT.set T.length _ = pS at *
            generalize Value.slice (some ⟨g, 0, none⟩) (T.length + 1) cap = vv at *
            go_wp2_with (at_builtin; refine HS0.out.app 4 rfl tyPer rfl _ _ rfl (⟨m, 4321440, am⟩ : Per) 1 rfl rfl rfl (onePer ⟨m, 4321440, am⟩) hsz (by rw [← hpS, List.length_set, HPl.out]; omega) (by decide) ?_; intro v' w12 S6)
            go_roundw
            case rel => exact ⟨j + 1, T ++ [(m, am)], by omega, by go_num, HT4, by rw [HPs.out]; exact S6.del 6⟩
            case measure => simp [intOf]; omega
          · clear hne
            go_wp2_with fail
            go_quiet (fail)
            generalize hwq : World.drewN w10 _ = wq at *
            replace S := S.below (hwq ▸ below_drewN _ _ _)
            clear hwq hc1 hc2 hc3 hc4 c6
            have hPl := pers_last T (0, a0)
            have hc1 := ((S.ow 4 rfl).cellP flatPer (by rw [pers_len]) T.length _ hPl 1 _ rfl)
            rw [show rPer.size = 5 from rfl] at hc1
            dsimp only at hc1
            replace S := S.put flatPer 4 rfl (by rw [pers_len]) T.length _ (⟨(lastS (0, a0) T).1, m, (lastS (0, a0) T).2⟩ : Per) hPl 1 (by decide) (.int .i64 m) rfl
            rw [show rPer.size = 5 from rfl] at S
            clear hPl
            go_upto_region 14 with fail
            clear hc1
            generalize World.setCell wq _ _ = w11 at *
            have c6 := (S.lv 6 rfl).all
            have hsz := S.b.size
            have HPl := Lib.hid (pers_len T (0, a0))
            have HPs := Lib.hid (pers_snoc T (0, a0) (m, am))
            have HS0 := Lib.hid S
            clear S
            generalize pers (0, a0) T = pT at *
            generalize hpS : pT.set T.length _ = pS at *
            generalize Value.slice (some ⟨g, 0, none⟩) (T.length + 1) cap = vv at *
            go_wp2_with (at_builtin; refine HS0.out.app 4 rfl tyPer rfl _ _ rfl (⟨m, 4321440, am⟩ : Per) 1 rfl rfl rfl (onePer ⟨m, 4321440, am⟩) hsz (by rw [← hpS, List.length_set, HPl.out]; omega) (by decide) ?_; intro v' w12 S6)
            go_roundw
            case rel => exact ⟨j + 1, T ++ [(m, am)], by omega, by go_num, HT4, by rw [HPs.out]; exact S6.del 6⟩
            case measure => simp [intOf]; omega
      · obtain ⟨A9, c9, hv9, S9⟩ := S.frz 4 rfl
        have HTe : Hid (T = Tot) := by
          have := HT.out
          rw [List.drop_eq_nil_of_le (by omega)] at this
          rw [steps, List.append_nil] at this
          exact this
        obtain rfl : pers (0, a0) T = Rs := by rw [HTe.out]; exact HR0.out
        obtain ⟨rfl, hc9⟩ : A9 = some ⟨g, 0, none⟩ ∧ cap = c9 := by injection hv9 with h1 h2 h3; exact ⟨h1.symm, h3⟩
        subst hc9
        clear HT HTe HR0
        have HF := Lib.hid (S9.outSl 4 rfl)
        have HL := Lib.hid (pers_len T (0, a0))
        go_wp2_with fail
        exact bodyPost_ret (results_tt rfl rfl rfl) rfl ⟨some ⟨g, 0, none⟩, cap, by rw [HL.out]; rfl, HF.out, S.b⟩
  · obtain rfl : [] = Rs := by rw [← HRs.out, if_neg hF]
    have hF' : (F != 0) = true := by simpa using hF
    clear hF Hask Hans Hgood HRs
    go_wp2_with fail
    exact bodyPost_ret (results_tt rfl rfl rfl) rfl ⟨none, 0, rfl, Sl.nil, S.b⟩
end Go.Proofs.YtlnklkedpknbpaaGreatDoor

/- What handref2.turns returns. -/
namespace Go.Proofs.YtlnklkedpknbpaaGreatDoor
open Go Go.RowKit
theorem endR : EndIs 160 := fun m w => by
  go_enter Tryz.func160, Tryz.ntmps160
  go_wp2_with fail
  go_ret
  refine ⟨ret_b ?_, rfl⟩
  unfold belowE
  rw [Bool.eq_iff_iff]
  simp
theorem turnS_len (tm : PTerm) (k : Int) (t : ByteArray) (ch : Int) (s : Stm) : (turnS tm k t ch s).length ≤ 3 := by unfold turnS; split <;> (try split) <;> simp
set_option maxHeartbeats 8000000 in
set_option maxRecDepth 100000 in
theorem turns_any (A Al : Option Addr) (p : List Purp) (l : List Stm) (c cl : Nat) (k : Int) (t pu rg : ByteArray) (ch at' : Int) (w : World) (hS : Sl rPurp (fun _ => False) w A p) (hg : GoodPol p) (hL : Sl rStm (fun _ => False) w Al l) (hl : l.length ≤ 1000) (hgs : ∀ s ∈ l, 0 ≤ s.at' ∧ s.at' ≤ 4321439) :
    Calls Tryz.prog 111 #[.slice A p.length c, .slice Al l.length cl, .agg (qqCs k t pu rg ch at')] w (GivesL (refL p l k t pu rg ch) w) := by
  have HL := Lib.hid hL
  have Hg := Lib.hid hgs
  have Ht := Lib.hid (fun w' (h : Below w.heap.size w w') => refTermIn_any (fun _ => False) A p pu rg ch c w' (hS.keepB h) hg)
  have htr := term_rng hg pu rg ch
  unfold refL
  clear hL hgs hS hg
  generalize (termAt p pu rg ch).isSome = is at *
  generalize (termAt p pu rg ch).getD tZero = tm at *
  obtain ⟨R, HR⟩ : ∃ R, Hid (rawR tm k t ch l = R) := ⟨_, Lib.hid rfl⟩
  rw [HR.out]
  obtain ⟨⟨hd0, hd1⟩, hw0, hw1⟩ := htr
  have S := (Mem.start w).new' (qqCs k t pu rg ch at') 31
  go_enter Tryz.func111, Tryz.ntmps111
  go_upto_region 1 with fail
  generalize w.alloc (.cells (qqCs k t pu rg ch at') 31) = w1 at *
  go_upto_region 2 with fail
  obtain ⟨Z, hZ⟩ : ∃ Z, Z = w1.heap.size := ⟨_, rfl⟩
  replace S := ((S.newAt #[.int .i64 0] 3 Z hZ).asOwn flatInt 1 rfl [0] rfl rfl (by simp) rfl 1 rfl).swap
  rw [← hZ]
  clear hZ
  generalize w1.alloc (.cells #[.int .i64 0] 3) = w2 at *
  have c1 := (S.lv 1 rfl).all
  go_wp2_with fail
  ((with_reducible refine (Ht.out w2 S.b).mono ?_); rintro e w3 ⟨rfl, hl3⟩)
  replace S := S.below hl3
  clear hl3 Ht c1
  go_upto_region 3 with fail
  obtain ⟨Q, hQ⟩ : ∃ Q, Q = w3.heap.size := ⟨_, rfl⟩
  replace S := S.newAt (tCs tm) 34 Q hQ
  replace S : Mem w (w3.alloc (.cells (tCs tm) 34)) [.own rInt w.heap.size 3 (.slice (some ⟨Z, 0, none⟩) 1 1) [0], .loc w.heap.size (qqCs k t pu rg ch at') 31, .loc Q (tCs tm) 34] := S
  rw [← hQ]
  clear hQ
  generalize w3.alloc (.cells (tCs tm) 34) = w4 at *
  generalize Value.slice (some ⟨Z, 0, none⟩) 1 1 = v0 at *
  have HO0 : Hid (0 :: (l.take 0).flatMap (turnS tm k t ch) = [0]) := Lib.hid rfl
  go_wp2_with fail
  go_loopw [7, 26] (fun v i wr => ∃ (j : Nat) (out : List Int), j ≤ l.length ∧ i = .int .i64 j ∧ Hid (0 :: (l.take j).flatMap (turnS tm k t ch) = out) ∧ Mem w wr [.own rInt w.heap.size 3 v out, .loc w.heap.size (qqCs k t pu rg ch at') 31, .loc Q (tCs tm) 34]) (fun _ i _ => l.length - (intOf i).toNat)
  case atStart => exact ⟨0, [0], Nat.zero_le _, rfl, HO0, S⟩
  case round =>
    clear S HO0
    obtain ⟨j, out, hj, rfl, HO, S⟩ := hrel
    have hol : out.length ≤ 3001 := by
      rw [← HO.out]
      have := flatMap_len (turnS tm k t ch) 3 (turnS_len tm k t ch) (l.take j)
      rw [List.length_take] at this
      rw [List.length_cons]
      omega
    by_cases hlt : j < l.length
    · obtain ⟨Ao, co, rfl⟩ := (S.ow 0 rfl).len
      obtain ⟨s, hf⟩ : ∃ s, l[j]? = some s := ⟨_, List.getElem?_eq_getElem hlt⟩
      obtain ⟨blk, off, rfl, hblk, d0, d1, d2, d3, d4, d5, d6, d7⟩ := (HL.out.keepB S.b).stm j s hf
      have hsat := Hg.out s (List.mem_of_getElem? hf)
      have HO2 := Lib.hid (flatMap_take (turnS tm k t ch) l j s hf)
      replace HO2 : Hid (0 :: (l.take (j + 1)).flatMap (turnS tm k t ch) = out ++ turnS tm k t ch s) := by show _ = _; rw [HO2.out, ← HO.out]; rfl
      clear hf HO
      go_upto_region 6 with fail
      clear d0 d1 d2 d3 d4 d5 d6 d7
      obtain ⟨Y, hY⟩ : ∃ Y, Y = wr.heap.size := ⟨_, rfl⟩
      replace S := S.newAt (stmCs s) 84 Y hY
      rw [← hY]
      clear hY
      generalize wr.alloc (.cells (stmCs s) 84) = w5 at *
      have c1 := (S.lv 1 rfl).all
      have c2 := (S.lv 2 rfl).all
      have c3 := (S.lv 3 rfl).all
      obtain ⟨B, HB⟩ : ∃ B, Hid (ofB k t ch s = B) := ⟨_, Lib.hid rfl⟩
      go_cut [41] (fun s41 wx => s41 = .bool B ∧ w5 = wx)
      case first =>
        clear HO2
        go_wp2_with fail
        all_goals (go_meet; exact ⟨by rw [← HB.out]; clear HB c1 c2 c3; unfold ofB; first | rfl | (simp [*]; done) | (simp [*]; rfl) | (simp [*]; intros; omega), rfl⟩)
      case rest =>
        obtain ⟨rfl, rfl⟩ := hcut
        have HO3 : Hid (0 :: (l.take (j + 1)).flatMap (turnS tm k t ch) = out ++ (if B = true then s.at' :: (s.at' + tm.wait + 1) :: (if 0 < tm.days then [s.at' + tm.days * 1440] else []) else [])) := by
          show _ = _
          rw [HO2.out, turnS, HB.out]
        clear HO2 HB
        cases B with
        | false =>
          have HO4 : Hid (0 :: (l.take (j + 1)).flatMap (turnS tm k t ch) = out) := by show _ = _; rw [HO3.out]; simp
          go_wp2_with fail
          go_roundw
          case rel => exact ⟨j + 1, out, by omega, by go_num, HO4, S.del 3⟩
          case measure => simp [intOf]; omega
        | true =>
          have hw1 : IntKind.i64.wrap (s.at' + tm.wait) = s.at' + tm.wait := IntWalk.i64_in _ (by omega)
          have hw2 : IntKind.i64.wrap (s.at' + tm.wait + 1) = s.at' + tm.wait + 1 := IntWalk.i64_in _ (by omega)
          have hw4 : IntKind.i64.wrap (tm.days * 1440) = tm.days * 1440 := IntWalk.i64_in _ (by omega)
          have hw3 : IntKind.i64.wrap (s.at' + tm.days * 1440) = s.at' + tm.days * 1440 := IntWalk.i64_in _ (by omega)
          have hcs : ∀ (x y : Int), ∀ j u, (([x, y] : List Int).map (fun n => [Value.int .i64 n])).flatten[j]? = some u → (w5.alloc (.cells #[.int .i64 x, .int .i64 y] 3)).cell? ((⟨w5.heap.size, 0, none⟩ : Addr).add j) = some u := fun x y j u h => new_cells rfl j u h
          have S4 := S.alloc (.cells #[.int .i64 s.at', .int .i64 (s.at' + tm.wait + 1)] 3)
          have hsz4 := S4.b.size
          go_upto_region 8 with (at_builtin; refine S4.appN flatInt 0 rfl tyIntP rfl _ _ rfl [s.at', s.at' + tm.wait + 1] 2 2 rfl rfl ⟨w5.heap.size, 0, none⟩ rfl (hcs _ _) (fun y _ => oneI y) (fun _ => rfl) hsz4 (by simp; omega) (by decide) ?_; intro v6 w6 S6)
          replace S6 : Mem w w6 [.own rInt w.heap.size 3 v6 (out ++ [s.at', s.at' + tm.wait + 1]), .loc w.heap.size (qqCs k t pu rg ch at') 31, .loc Q (tCs tm) 34, .loc Y (stmCs s) 84] := S6
          clear c1 c2 c3 hcs S4 hsz4 S
          have c1 := (S6.lv 1 rfl).all
          have c2 := (S6.lv 2 rfl).all
          have c3 := (S6.lv 3 rfl).all
          have hsz6 := S6.b.size
          obtain ⟨o6, ho6⟩ : ∃ o6, o6 = out ++ [s.at', s.at' + tm.wait + 1] := ⟨_, rfl⟩
          rw [← ho6] at S6
          have hol6 : o6.length ≤ 3003 := by rw [ho6]; simp; omega
          by_cases hdd : 0 < tm.days
          · have HO4 : Hid (0 :: (l.take (j + 1)).flatMap (turnS tm k t ch) = o6 ++ [s.at' + tm.days * 1440]) := by show _ = _; rw [HO3.out, ho6, if_pos hdd]; simp
            have hdd' : decide (tm.days > 0) = true := decide_eq_true hdd
            clear HO3 ho6
            go_wp2_with (at_builtin; refine S6.app 0 rfl tyIntP rfl _ _ rfl (s.at' + tm.days * 1440) 1 rfl rfl rfl (oneI (s.at' + tm.days * 1440)) hsz6 (by omega) (by decide) ?_; intro v7 w7 S7)
            go_roundw
            case rel => exact ⟨j + 1, _, by omega, by go_num, HO4, S7.del 3⟩
            case measure => simp [intOf]; omega
          · have HO4 : Hid (0 :: (l.take (j + 1)).flatMap (turnS tm k t ch) = o6) := by show _ = _; rw [HO3.out, ho6, if_neg hdd]; simp
            have hdd' : decide (tm.days > 0) = false := decide_eq_false hdd
            clear HO3 ho6
            go_wp2_with fail
            go_roundw
            case rel => exact ⟨j + 1, o6, by omega, by go_num, HO4, S6.del 3⟩
            case measure => simp [intOf]; omega
    · obtain rfl : out = R := by
        rw [← HO.out, ← HR.out, List.take_of_length_le (by omega)]; rfl
      have hol1 : 1 ≤ out.length := by rw [← HO.out]; simp
      clear HO
      have hml := momL_len out
      obtain ⟨g, cap, rfl, hcap⟩ : ∃ g cap, u7 = .slice (some ⟨g, 0, none⟩) out.length cap ∧ out.length ≤ cap := by
        obtain ⟨g2, cap2, e2, h2⟩ := (S.ow 0 rfl).form hol1
        exact ⟨g2, cap2, e2, by omega⟩
      have Hs := Lib.hid (S.sortI 0 rfl rfl (by omega))
      have hsl := srtI_len out
      have hcl := compact_len (srtI out)
      go_wp2_with fail
      ((with_reducible refine (Hs.out).mono ?_); rintro e w2 ⟨rfl, S2⟩)
      have Hc := Lib.hid (S2.compI 0 rfl hsl.symm (by omega) hcap)
      clear Hs S
      go_wp2_with fail
      ((with_reducible refine (Hc.out).mono ?_); rintro e w3 ⟨rfl, S3⟩)
      have Hd := Lib.hid (delIR_any S3 rfl (by omega) (by omega) endR)
      clear Hc S2
      go_wp2_with fail
      ((with_reducible refine (Hd.out).mono ?_); rintro e w4 ⟨rfl, S4⟩)
      clear Hd S3
      rw [show (Lib.compact (srtI out)).filter belowE = momL out from rfl] at S4 ⊢
      obtain ⟨A2, c2, e2, hS⟩ := ((S4.ow 0 rfl).flatM flatInt (M' := Lt w.heap.size)).toSlC (fun k h1 h2 => by unfold Lt at h2; omega)
      have He := Lib.hid e2
      have HS2 := Lib.hid hS.2
      clear hS e2
      go_wp2_with fail
      go_ret
      exact ⟨A2, c2, congrArg Ending.returned He.out, HS2.out, S4.b⟩
end Go.Proofs.YtlnklkedpknbpaaGreatDoor

/- What handref2.PeriodsOf and NextOf return; slices.Equal of the same periods. -/
namespace Go.Proofs.YtlnklkedpknbpaaGreatDoor
open Go Go.RowKit
theorem Sl.per {N : Nat → Prop} {w : World} {A : Option Addr} {xs : List Per} (h : Sl rPer N w A xs) (k : Nat) (e : Per) (hk : xs[k]? = some e) : ∃ blk off, A = some ⟨blk, off, none⟩ ∧ blk < w.heap.size ∧
    w.cell? ⟨blk, off + k * 5, none⟩ = some (.int .i64 e.from') ∧ w.cell? ⟨blk, off + k * 5 + 1, none⟩ = some (.int .i64 e.to') ∧ w.cell? ⟨blk, off + k * 5 + 2, none⟩ = some (.bool e.a.1) ∧ w.cell? ⟨blk, off + k * 5 + 3, none⟩ = some (.int .i64 e.a.2.1) ∧ w.cell? ⟨blk, off + k * 5 + 4, none⟩ = some (.int .i64 e.a.2.2) := by
  obtain ⟨blk, off, l, e1, h1, _, h3, h4⟩ := h k e hk
  obtain rfl : l = Per.cells e := h3
  exact ⟨blk, off, e1, h1, h4 0 _ rfl, h4 1 _ rfl, h4 2 _ rfl, h4 3 _ rfl, h4 4 _ rfl⟩
set_option maxHeartbeats 4000000 in
set_option maxRecDepth 100000 in
theorem eqPer_any (N : Nat → Prop) (A A2 : Option Addr) (xs : List Per) (c c2 : Nat) (w : World) (h1 : Sl rPer N w A xs) (h2 : Sl rPer N w A2 xs) (hl : xs.length ≤ 1000000000) :
    Calls Tryz.prog 55 #[.slice A xs.length c, .slice A2 xs.length c2] w fun e w' => e = .returned (.bool true) ∧ Below w.heap.size w w' := by
  have H1 := Lib.hid h1
  have H2 := Lib.hid h2
  clear h1 h2
  go_enter Tryz.func55, Tryz.ntmps55
  go_wp2_with fail
  go_loopw [13] (fun i wr => ∃ j : Nat, j ≤ xs.length ∧ i = .int .i64 j ∧ Below w.heap.size w wr) (fun i _ => xs.length - (intOf i).toNat)
  case atStart => exact ⟨0, Nat.zero_le _, rfl, Below.refl _ _⟩
  case round =>
    obtain ⟨j, hj, rfl, hb⟩ := hrel
    by_cases hlt : j < xs.length
    · obtain ⟨e, hf⟩ : ∃ e, xs[j]? = some e := ⟨_, List.getElem?_eq_getElem hlt⟩
      obtain ⟨b1, o1, rfl, _, d0, d1, d2, d3, d4⟩ := (H1.out.keepB hb).per j e hf
      obtain ⟨b2, o2, rfl, _, f0, f1, f2, f3, f4⟩ := (H2.out.keepB hb).per j e hf
      clear hf
      go_wp2_with fail
      go_quiet (fail)
      go_wp2_with fail
      go_roundw
      case rel => exact ⟨j + 1, by omega, by go_num, hb.trans (below_drewN _ _ _)⟩
      case measure => simp [intOf]; omega
    · go_wp2_with fail
      go_ret
      exact ⟨rfl, hb⟩
set_option maxHeartbeats 16000000 in
set_option maxRecDepth 100000 in
theorem refPeriods_any (A Al : Option Addr) (p : List Purp) (l : List Stm) (c cl : Nat) (k : Int) (t pu rg : ByteArray) (ch at' : Int) (w : World) (hS : Sl rPurp (fun _ => False) w A p) (hg : GoodPol p) (hL : Sl rStm (fun _ => False) w Al l) (hgl : GoodL p l) (hl : l.length ≤ 1000) :
    Calls Tryz.prog 56 #[.slice A p.length c, .slice Al l.length cl, .agg (qqCs k t pu rg ch at')] w fun e w' => ∃ A2 c2, e = .returned (.slice A2 (perA p l k t pu rg ch).length c2) ∧ Sl rPer (Lt w.heap.size) w' A2 (perA p l k t pu rg ch) ∧ Below w.heap.size w w' := by
  have Htu := Lib.hid (fun at' w' (h : Below w.heap.size w w') => turns_any A Al p l c cl k t pu rg ch at' w' (hS.keepB h) hg (hL.keepB h) hl (fun s hs => hgl.at' s hs))
  have Ha := Lib.hid (fun at' (hat : 0 ≤ at' ∧ at' ≤ 4321439) w' (h : Below w.heap.size w w') => refAsked_any (fun _ => False) A Al p l c cl k t pu rg ch at' w' (hS.keepB h) hg (hL.keepB h) hgl (by omega) hat)
  have Hmo := moms_r (k := k) (t := t) (pu := pu) (rg := rg) (ch := ch) hg hgl
  have Hhd : ∃ r, refL p l k t pu rg ch = 0 :: r := rawR_head _ _ _ _ _ (fun m hm => Hmo.lo m hm)
  have Hrg : Hid (∀ m ∈ refL p l k t pu rg ch, 0 ≤ m ∧ m ≤ 4321439) := fun m hm => ⟨Hmo.lo m hm, by have := Hmo.hi m hm; omega⟩
  have HLl : Hid ((refL p l k t pu rg ch).length ≤ 3001) := by
    have h1 := momL_len (rawR ((termAt p pu rg ch).getD tZero) k t ch l)
    have h2 := flatMap_len (turnS ((termAt p pu rg ch).getD tZero) k t ch) 3 (turnS_len _ k t ch) l
    show _ ≤ _
    unfold rawR at h1
    rw [List.length_cons] at h1
    unfold refL rawR
    omega
  obtain ⟨Rs, HRs⟩ : ∃ Rs, Hid (perA p l k t pu rg ch = Rs) := ⟨_, Lib.hid rfl⟩
  rw [HRs.out]
  unfold perA at HRs
  clear hS hg hL hgl Hmo
  generalize refL p l k t pu rg ch = L at *
  obtain ⟨f, hf⟩ : ∃ f : Int → Ans, ansF p l k t pu rg ch = f := ⟨_, rfl⟩
  have Ha2 : Hid (∀ (at' : Int) (hat : 0 ≤ at' ∧ at' ≤ 4321439) w' (h : Below w.heap.size w w'), Calls Tryz.prog 26 #[.slice A p.length c, .slice Al l.length cl, .agg (qqCs k t pu rg ch at')] w' (GivesAns (f at') w')) := fun at' hat w' h => hf ▸ Ha.out at' hat w' h
  rw [hf] at HRs
  clear Ha hf
  obtain ⟨a0, Ha0⟩ : ∃ a0, Hid (f 0 = a0) := ⟨_, Lib.hid rfl⟩
  have HR0 := HRs.out
  rw [perAns, Ha0.out] at HR0
  obtain ⟨Tot, hTot⟩ : ∃ Tot, steps f a0 L = Tot := ⟨_, rfl⟩
  rw [hTot] at HR0
  replace HR0 := Lib.hid HR0
  have HTl : Hid (Tot.length ≤ 3001) := by show _ ≤ _; rw [← hTot]; exact Nat.le_trans (steps_len f _ _) HLl.out
  have HL1 : Hid (1 ≤ L.length ∧ L[0]? = some 0 ∧ [] ++ steps f (lastS (0, a0) []).2 (L.drop 1) = Tot) := by
    obtain ⟨r, hr⟩ := Hhd
    subst hr
    refine ⟨by simp, rfl, ?_⟩
    rw [← hTot, steps, Ha0.out, if_pos rfl]
    rfl
  clear HRs hTot Hhd
  have S := ((Mem.start w).new' (qqCs k t pu rg ch at') 31).nil rPer w.heap.size 101
  replace S : Mem w (w.alloc (.cells (qqCs k t pu rg ch at') 31)) [.loc w.heap.size (qqCs k t pu rg ch at') 31, .own rPer w.heap.size 101 (.slice none 0 0) []] := S
  go_enter Tryz.func56, Tryz.ntmps56
  go_upto_region 2 with fail
  generalize w.alloc (.cells (qqCs k t pu rg ch at') 31) = w1 at *
  have c0 := (S.lv 0 rfl).all
  go_wp2_with fail
  ((with_reducible refine (Htu.out at' w1 S.b).mono ?_); rintro e w2 ⟨At, ct, rfl, hSt, hl2⟩)
  replace S := S.call hl2 (.sl rInt At L) hSt (fun k e => by cases e)
  replace S : Mem w w2 [.loc w.heap.size (qqCs k t pu rg ch at') 31, .own rPer w.heap.size 101 (.slice none 0 0) [], .sl rInt At L] := S
  clear hl2 hSt Htu c0
  go_wp2_with fail
  go_loopw [7, 17] (fun v i wr => ∃ (j : Nat) (out : List Per) (q : Int), j ≤ L.length ∧ i = .int .i64 j ∧ Hid ((j = 0 ∧ out = [] ∧ v = .slice none 0 0) ∨ ∃ T, out = pers (0, a0) T ∧ T ++ steps f (lastS (0, a0) T).2 (L.drop j) = Tot) ∧ Mem w wr [.loc w.heap.size (qqCs k t pu rg ch q) 31, .own rPer w.heap.size 101 v out, .sl rInt At L]) (fun _ i _ => L.length - (intOf i).toNat)
  case atStart => exact ⟨0, [], at', Nat.zero_le _, rfl, .inl ⟨rfl, rfl, rfl⟩, S⟩
  case round =>
    clear S
    obtain ⟨j, out, q, hj, rfl, HO, S⟩ := hrel
    have hLl := HLl.out
    by_cases hlt : j < L.length
    · obtain ⟨m, hm⟩ : ∃ m, L[j]? = some m := ⟨_, List.getElem?_eq_getElem hlt⟩
      obtain ⟨blk, off, rfl, d0⟩ := (S.slc 2 rfl).oneAt j m hm
      have hmr := Hrg.out m (List.mem_of_getElem? hm)
      have Hm := Lib.hid hm
      clear hm
      obtain ⟨am, Ham⟩ : ∃ am, Hid (f m = am) := ⟨_, Lib.hid rfl⟩
      have Hdm := Lib.hid (Ha2.out m hmr)
      rw [Ham.out] at Hdm
      have c0 := (S.lv 0 rfl).all
      go_upto_region 6 with fail
      clear c0 d0
      replace S : Mem w (wr.setCell ⟨w.heap.size, 5, none⟩ (.int .i64 m)) [.loc w.heap.size (qqCs k t pu rg ch m) 31, .own rPer w.heap.size 101 u7 out, .sl rInt (some ⟨blk, off, none⟩) L] := S.set 0 5 (.int .i64 m) rfl
      generalize wr.setCell ⟨w.heap.size, 5, none⟩ (.int .i64 m) = w3 at *
      have c0 := (S.lv 0 rfl).all
      go_wp2_with fail
      ((with_reducible refine (Hdm.out w3 S.b).mono ?_); rintro e w4 ⟨rfl, hl4⟩)
      rw [show aVal am = Value.agg #[.bool am.1, .int .i64 am.2.1, .int .i64 am.2.2] from rfl]
      replace S := S.below hl4
      clear hl4 Hdm c0
      go_upto_region 7 with fail
      obtain ⟨Y, hY⟩ : ∃ Y, Y = w4.heap.size := ⟨_, rfl⟩
      replace S := S.newAt (aCs am.1 am.2.1 am.2.2) 48 Y hY
      rw [← hY]
      clear hY
      generalize w4.alloc (.cells (aCs am.1 am.2.1 am.2.2) 48) = w10 at *
      rcases HO.out with ⟨hj0, ho, hv⟩ | ⟨T, ho, hT⟩
      · clear HO
        subst hj0 ho hv
        obtain rfl : m = 0 := by have := Hm.out; rw [HL1.out.2.1] at this; cases this; rfl
        obtain rfl : am = a0 := by rw [← Ham.out, Ha0.out]
        have c6 := (S.lv 3 rfl).all
        go_wp2_with fail
        go_quiet (fail)
        replace S := S.below (below_drewN _ w10 nq)
        clear c6
        generalize w10.drewN nq = wq at *
        have c6 := (S.lv 3 rfl).all
        have hsz := S.b.size
        go_wp2_with (at_builtin; refine S.app 1 rfl tyPer rfl _ _ rfl (⟨0, 4321440, am⟩ : Per) 1 rfl rfl rfl (onePer ⟨0, 4321440, am⟩) hsz (by simp) (by decide) ?_; intro v' w12 S6)
        go_roundw
        case rel => exact ⟨1, _, 0, by omega, by go_num, .inr ⟨[], rfl, HL1.out.2.2⟩, S6.del 3⟩
        case measure => simp [intOf]; omega
      · subst ho
        have HT := Lib.hid hT
        clear HO hT
        have hTl : T.length ≤ 3001 := by
          have h1 := congrArg List.length HT.out
          rw [List.length_append] at h1
          have := HTl.out
          omega
        obtain ⟨g, cap, hv⟩ : ∃ g cap, u7 = .slice (some ⟨g, 0, none⟩) (pers (0, a0) T).length cap := by
          rcases (S.ow 1 rfl).shape with ⟨_, e⟩ | h
          · have := pers_len T (0, a0); rw [e] at this; cases this
          · exact h
        rw [pers_len] at hv
        subst hv
        have HT2 := HT.out
        rw [steps_at Hm.out, Ham.out] at HT2
        have HT3 := Lib.hid HT2
        obtain ⟨la, hla⟩ : ∃ la, (lastS (0, a0) T).2 = la := ⟨_, rfl⟩
        rw [hla] at HT3
        clear HT2 HT
        have c6 := (S.lv 3 rfl).all
        have hPl := pers_last T (0, a0)
        have hc2 := ((S.ow 1 rfl).cellP flatPer (by rw [pers_len]) T.length _ hPl 2 _ rfl).1
        have hc3 := ((S.ow 1 rfl).cellP flatPer (by rw [pers_len]) T.length _ hPl 3 _ rfl).1
        have hc4 := ((S.ow 1 rfl).cellP flatPer (by rw [pers_len]) T.length _ hPl 4 _ rfl).1
        rw [show rPer.size = 5 from rfl] at hc2 hc3 hc4
        dsimp only at hc2 hc3 hc4
        rw [hla] at hc2 hc3 hc4
        clear hPl
        by_cases hne : am = la
        · have HT4 : Hid (T ++ steps f la (L.drop (j + 1)) = Tot) := by show _ = _; rw [← HT3.out, if_pos hne]
          subst hne
          clear HT3
          go_wp2_with fail
          go_quiet (fail)
          go_wp2_with fail
          go_roundw
          case rel => exact ⟨j + 1, _, m, by omega, by go_num, .inr ⟨T, rfl, (by rw [hla]; exact HT4)⟩, (S.del 3).below (below_drewN _ _ _)⟩
          case measure => simp [intOf]; omega
        · have HT4 : Hid ((T ++ [(m, am)]) ++ steps f (lastS (0, a0) (T ++ [(m, am)])).2 (L.drop (j + 1)) = Tot) := by
            show _ = _
            rw [← HT3.out, if_neg hne, lastS_snoc, List.append_assoc]
            rfl
          clear HT3 hla
          rcases ans_ne (fun e => hne e.symm) with h1 | ⟨h1, h2⟩ | ⟨h1, h2, h3⟩
          · clear hne
            go_wp2_with fail
            go_quiet (fail)
            replace S := S.below (below_drewN _ w10 nq)
            clear hc2 hc3 hc4 c6
            generalize w10.drewN nq = wq at *
            have hPl := pers_last T (0, a0)
            have hc1 := ((S.ow 1 rfl).cellP flatPer (by rw [pers_len]) T.length _ hPl 1 _ rfl)
            rw [show rPer.size = 5 from rfl] at hc1
            dsimp only at hc1
            replace S := S.put flatPer 1 rfl (by rw [pers_len]) T.length _ (⟨(lastS (0, a0) T).1, m, (lastS (0, a0) T).2⟩ : Per) hPl 1 (by decide) (.int .i64 m) rfl
            rw [show rPer.size = 5 from rfl] at S
            clear hPl
            go_upto_region 11 with fail
            clear hc1
            generalize World.setCell wq _ _ = w11 at *
            have c6 := (S.lv 3 rfl).all
            have hsz := S.b.size
            have HPl := Lib.hid (pers_len T (0, a0))
            have HPs := Lib.hid (pers_snoc T (0, a0) (m, am))
            have HS0 := Lib.hid S
            clear S
            generalize pers (0, a0) T = pT at *
            generalize hpS : pT.set T.length _ = pS at *
            generalize Value.slice (some ⟨g, 0, none⟩) (T.length + 1) cap = vv at *
            go_wp2_with (at_builtin; refine HS0.out.app 1 rfl tyPer rfl _ _ rfl (⟨m, 4321440, am⟩ : Per) 1 rfl rfl rfl (onePer ⟨m, 4321440, am⟩) hsz (by rw [← hpS, List.length_set, HPl.out]; omega) (by decide) ?_; intro v' w12 S6)
            go_roundw
            case rel => exact ⟨j + 1, _, m, by omega, by go_num, .inr ⟨T ++ [(m, am)], HPs.out.symm, HT4⟩, S6.del 3⟩
            case measure => simp [intOf]; omega
          · clear hne
            go_wp2_with fail
            go_quiet (fail)
            replace S := S.below (below_drewN _ w10 nq)
            clear hc2 hc3 hc4 c6
            generalize w10.drewN nq = wq at *
            have hPl := pers_last T (0, a0)
            have hc1 := ((S.ow 1 rfl).cellP flatPer (by rw [pers_len]) T.length _ hPl 1 _ rfl)
            rw [show rPer.size = 5 from rfl] at hc1
            dsimp only at hc1
            replace S := S.put flatPer 1 rfl (by rw [pers_len]) T.length _ (⟨(lastS (0, a0) T).1, m, (lastS (0, a0) T).2⟩ : Per) hPl 1 (by decide) (.int .i64 m) rfl
            rw [show rPer.size = 5 from rfl] at S
            clear hPl
            go_upto_region 11 with fail
            clear hc1
            generalize World.setCell wq _ _ = w11 at *
            have c6 := (S.lv 3 rfl).all
            have hsz := S.b.size
            have HPl := Lib.hid (pers_len T (0, a0))
            have HPs := Lib.hid (pers_snoc T (0, a0) (m, am))
            have HS0 := Lib.hid S
            clear S
            generalize pers (0, a0) T = pT at *
            generalize hpS : pT.set T.length _ = pS at *
            generalize Value.slice (some ⟨g, 0, none⟩) (T.length + 1) cap = vv at *
            go_wp2_with (at_builtin; refine HS0.out.app 1 rfl tyPer rfl _ _ rfl (⟨m, 4321440, am⟩ : Per) 1 rfl rfl rfl (onePer ⟨m, 4321440, am⟩) hsz (by rw [← hpS, List.length_set, HPl.out]; omega) (by decide) ?_; intro v' w12 S6)
            go_roundw
            case rel => exact ⟨j + 1, _, m, by omega, by go_num, .inr ⟨T ++ [(m, am)], HPs.out.symm, HT4⟩, S6.del 3⟩
            case measure => simp [intOf]; omega
          · clear hne
            go_wp2_with fail
            go_quiet (fail)
            replace S := S.below (below_drewN _ w10 nq)
            clear hc2 hc3 hc4 c6
            generalize w10.drewN nq = wq at *
            have hPl := pers_last T (0, a0)
            have hc1 := ((S.ow 1 rfl).cellP flatPer (by rw [pers_len]) T.length _ hPl 1 _ rfl)
            rw [show rPer.size = 5 from rfl] at hc1
            dsimp only at hc1
            replace S := S.put flatPer 1 rfl (by rw [pers_len]) T.length _ (⟨(lastS (0, a0) T).1, m, (lastS (0, a0) T).2⟩ : Per) hPl 1 (by decide) (.int .i64 m) rfl
            rw [show rPer.size = 5 from rfl] at S
            clear hPl
            go_upto_region 11 with fail
            clear hc1
            generalize World.setCell wq _ _ = w11 at *
            have c6 := (S.lv 3 rfl).all
            have hsz := S.b.size
            have HPl := Lib.hid (pers_len T (0, a0))
            have HPs := Lib.hid (pers_snoc T (0, a0) (m, am))
            have HS0 := Lib.hid S
            clear S
            generalize pers (0, a0) T = pT at *
            generalize hpS : pT.set T.length _ = pS at *
            generalize Value.slice (some ⟨g, 0, none⟩) (T.length + 1) cap = vv at *
            go_wp2_with (at_builtin; refine HS0.out.app 1 rfl tyPer rfl _ _ rfl (⟨m, 4321440, am⟩ : Per) 1 rfl rfl rfl (onePer ⟨m, 4321440, am⟩) hsz (by rw [← hpS, List.length_set, HPl.out]; omega) (by decide) ?_; intro v' w12 S6)
            go_roundw
            case rel => exact ⟨j + 1, _, m, by omega, by go_num, .inr ⟨T ++ [(m, am)], HPs.out.symm, HT4⟩, S6.del 3⟩
            case measure => simp [intOf]; omega
    · have hj1 : j = L.length := by omega
      rcases HO.out with ⟨hj0, ho, hv⟩ | ⟨T, ho, hT⟩
      · have := HL1.out.1; omega
      · have HTe : T = Tot := by
          rw [List.drop_eq_nil_of_le (by omega), steps, List.append_nil] at hT
          exact hT
        obtain rfl : out = Rs := by rw [ho, HTe]; exact HR0.out
        clear HO ho hT HTe HR0
        obtain ⟨A2, c2, e2, hS⟩ := ((S.ow 1 rfl).flatM flatPer (M' := Lt w.heap.size)).toSlC (fun k h1 h2 => by unfold Lt at h2; omega)
        have He := Lib.hid e2
        have HS2 := Lib.hid hS.2
        clear hS e2
        go_wp2_with fail
        go_ret
        exact ⟨A2, c2, congrArg Ending.returned He.out, HS2.out, S.b⟩
end Go.Proofs.YtlnklkedpknbpaaGreatDoor

/- What handref2.NextOf returns. -/
namespace Go.Proofs.YtlnklkedpknbpaaGreatDoor
open Go Go.RowKit
theorem steps_mem {f : Int → Ans} : ∀ {L : List Int} {cur : Ans} {y : Int × Ans}, y ∈ steps f cur L → y.1 ∈ L
  | [], _, _, h => by cases h
  | m :: r, cur, y, h => by
    unfold steps at h
    split at h
    · exact List.mem_cons_of_mem _ (steps_mem h)
    · rcases List.mem_cons.1 h with rfl | h
      · exact List.mem_cons_self ..
      · exact List.mem_cons_of_mem _ (steps_mem h)
theorem pers_to {P : Int → Prop} (he : P 4321440) : ∀ {T : List (Int × Ans)} {x : Int × Ans}, (∀ y ∈ T, P y.1) → ∀ e ∈ pers x T, P e.to'
  | [], x, _, e, h => by
    rw [pers, List.mem_singleton] at h
    rw [h]; exact he
  | y :: r, x, hy, e, h => by
    rw [pers] at h
    rcases List.mem_cons.1 h with rfl | h
    · exact hy y (List.mem_cons_self ..)
    · exact pers_to he (fun z hz => hy z (List.mem_cons_of_mem _ hz)) e h
theorem nextR_at {at' : Int} {P : List Per} {j : Nat} {x : Per} (h : P[j]? = some x) : nextR at' (P.drop j) = if x.from' ≤ at' ∧ at' ≤ x.to' - 1 then x.to' else nextR at' (P.drop (j + 1)) := by
  obtain ⟨hk, rfl⟩ := List.getElem?_eq_some_iff.1 h
  rw [List.drop_eq_getElem_cons hk, nextR]
theorem perA_len {p : List Purp} {l : List Stm} {k : Int} {t pu rg : ByteArray} {ch : Int} (hl : l.length ≤ 1000) : (perA p l k t pu rg ch).length ≤ 3002 := by
  have h1 := momL_len (rawR ((termAt p pu rg ch).getD tZero) k t ch l)
  have h2 := flatMap_len (turnS ((termAt p pu rg ch).getD tZero) k t ch) 3 (turnS_len _ k t ch) l
  unfold rawR at h1
  rw [List.length_cons] at h1
  unfold perA perAns
  rw [pers_len]
  have h3 := steps_len (ansF p l k t pu rg ch) (refL p l k t pu rg ch) (ansF p l k t pu rg ch 0)
  unfold refL rawR at h3 ⊢
  omega
set_option maxHeartbeats 8000000 in
set_option maxRecDepth 100000 in
theorem refNext_any (A Al : Option Addr) (p : List Purp) (l : List Stm) (c cl : Nat) (k : Int) (t pu rg : ByteArray) (ch at' : Int) (w : World) (hS : Sl rPurp (fun _ => False) w A p) (hg : GoodPol p) (hL : Sl rStm (fun _ => False) w Al l) (hgl : GoodL p l) (hl : l.length ≤ 1000) (hat : 0 ≤ at' ∧ at' ≤ 4321439) :
    Calls Tryz.prog 54 #[.slice A p.length c, .slice Al l.length cl, .agg (qqCs k t pu rg ch at')] w fun e w' => e = .returned (.int .i64 (nextAns p l k t pu rg ch at')) ∧ Below w.heap.size w w' := by
  have Hp := Lib.hid (fun w' (h : Below w.heap.size w w') => refPeriods_any A Al p l c cl k t pu rg ch at' w' (hS.keepB h) hg (hL.keepB h) hgl hl)
  have Hmo := moms_r (k := k) (t := t) (pu := pu) (rg := rg) (ch := ch) hg hgl
  have HR : Hid (nextR at' ((perA p l k t pu rg ch).drop 0) = nextAns p l k t pu rg ch at') := by
    show _ = _
    rw [List.drop_zero, perA, perAns, Hmo.nextR hat.1 hat.2, nextAns]
  have Hto : Hid (∀ e ∈ perA p l k t pu rg ch, 0 ≤ e.to' ∧ e.to' ≤ 4321440) :=
    pers_to (P := fun m => 0 ≤ m ∧ m ≤ 4321440) ⟨by decide, by decide⟩ (fun y hy => ⟨Hmo.lo _ (steps_mem hy), by have := Hmo.hi _ (steps_mem hy); omega⟩)
  have HPl := Lib.hid (perA_len (p := p) (k := k) (t := t) (pu := pu) (rg := rg) (ch := ch) hl)
  clear Hmo hS hg hL hgl hl
  generalize perA p l k t pu rg ch = P at *
  generalize nextAns p l k t pu rg ch at' = R at *
  have S := (Mem.start w).new' (qqCs k t pu rg ch at') 31
  replace S : Mem w (w.alloc (.cells (qqCs k t pu rg ch at') 31)) [.loc w.heap.size (qqCs k t pu rg ch at') 31] := S
  go_enter Tryz.func54, Tryz.ntmps54
  go_upto_region 1 with fail
  generalize w.alloc (.cells (qqCs k t pu rg ch at') 31) = w1 at *
  have c0 := (S.lv 0 rfl).all
  go_wp2_with fail
  ((with_reducible refine (Hp.out w1 S.b).mono ?_); rintro e w2 ⟨A2, c2, rfl, hS2, hl2⟩)
  replace S := S.call hl2 (.sl rPer A2 P) hS2 (fun k e => by cases e)
  replace S : Mem w w2 [.loc w.heap.size (qqCs k t pu rg ch at') 31, .sl rPer A2 P] := S
  clear hl2 hS2 Hp c0
  go_wp2_with fail
  go_loopw [14] (fun i wr => ∃ j : Nat, j ≤ P.length ∧ i = .int .i64 j ∧ Hid (nextR at' (P.drop j) = R) ∧ Mem w wr [.loc w.heap.size (qqCs k t pu rg ch at') 31, .sl rPer A2 P]) (fun i _ => P.length - (intOf i).toNat)
  case atStart => exact ⟨0, Nat.zero_le _, rfl, HR, S⟩
  case round =>
    clear S HR
    obtain ⟨j, hj, rfl, HR, S⟩ := hrel
    have hPl := HPl.out
    by_cases hlt : j < P.length
    · obtain ⟨x, hx⟩ : ∃ x, P[j]? = some x := ⟨_, List.getElem?_eq_getElem hlt⟩
      obtain ⟨b1, o1, rfl, _, d0, d1, d2, d3, d4⟩ := (S.slc 1 rfl).per j x hx
      have hto := Hto.out x (List.mem_of_getElem? hx)
      have HR2 := HR.out
      rw [nextR_at hx] at HR2
      replace HR2 := Lib.hid HR2
      clear hx HR
      go_upto_region 4 with fail
      clear d0 d1 d2 d3 d4
      obtain ⟨Y, hY⟩ : ∃ Y, Y = wr.heap.size := ⟨_, rfl⟩
      replace S := S.newAt #[.int .i64 x.from', .int .i64 x.to', .bool x.a.1, .int .i64 x.a.2.1, .int .i64 x.a.2.2] 101 Y hY
      rw [← hY]
      clear hY
      generalize wr.alloc (.cells #[.int .i64 x.from', .int .i64 x.to', .bool x.a.1, .int .i64 x.a.2.1, .int .i64 x.a.2.2] 101) = w3 at *
      have c0 := (S.lv 0 rfl).all
      have c2 := (S.lv 2 rfl).all
      have hw1 : IntKind.i64.wrap (x.to' - 1) = x.to' - 1 := IntWalk.i64_in _ (by omega)
      by_cases hin : x.from' ≤ at' ∧ at' ≤ x.to' - 1
      · obtain rfl : x.to' = R := by rw [← HR2.out, if_pos hin]
        have hd : decide (x.from' ≤ at' ∧ at' ≤ x.to' - 1) = true := decide_eq_true hin
        go_wp2_with fail
        ((with_reducible refine (in_any _ _ _ _).mono ?_); rintro e w4 ⟨rfl, rfl⟩)
        rw [hd]
        go_wp2_with fail
        go_ret
        exact ⟨rfl, S.b⟩
      · have HR3 : Hid (nextR at' (P.drop (j + 1)) = R) := by show _ = _; rw [← HR2.out, if_neg hin]
        have hd : decide (x.from' ≤ at' ∧ at' ≤ x.to' - 1) = false := decide_eq_false hin
        clear HR2
        go_wp2_with fail
        ((with_reducible refine (in_any _ _ _ _).mono ?_); rintro e w4 ⟨rfl, rfl⟩)
        rw [hd]
        go_wp2_with fail
        go_roundw
        case rel => exact ⟨j + 1, by omega, by go_num, HR3, S.del 2⟩
        case measure => simp [intOf]; omega
    · obtain rfl : (4321440 : Int) = R := by rw [← HR.out, List.drop_eq_nil_of_le (by omega)]; rfl
      go_wp2_with fail
      go_ret
      exact ⟨rfl, S.b⟩
end Go.Proofs.YtlnklkedpknbpaaGreatDoor

/- The law ConsentPeriods walked: it returns true, and nothing that was there has turned. -/
namespace Go.Proofs.YtlnklkedpknbpaaGreatDoor
open Go Go.RowKit
set_option maxHeartbeats 16000000 in
set_option maxRecDepth 100000 in
theorem consentPeriods_any (v : Value) (w : World) (hv : IntsIn v w) (hP : Pool w) (hM : MaxL w) :
    Calls Tryz.prog 11 #[v] w fun e w' => e = .returned (.bool true) ∧ Below w.heap.size w w' := by
  obtain ⟨va, vn, vc, rfl⟩ : ∃ a n c, v = .slice a n c := by
    rcases hv with ⟨a, c, rfl⟩ | ⟨k, off, len, cap, rfl, _⟩
    · exact ⟨_, _, _, rfl⟩
    · exact ⟨_, _, _, rfl⟩
  have g0 := G.start (Strm.start hv)
  clear hv
  have hPn : 0 ≠ w.heap.size := Nat.ne_of_lt hP.lt
  have hMl : 1 < w.heap.size := by
    obtain ⟨m, h⟩ := hM
    exact World.block_lt_of_cell? w _ h
  have hMn : 1 ≠ w.heap.size := Nat.ne_of_lt hMl
  have hk0 := (SK.refl w.heap.size w).alloc (.cells #[.slice va vn vc, .int .i64 0] 25)
  have HA := Lib.hid (asked_any w.heap.size 0 _ g0.s (by omega) (hP.keep hk0 hPn) hPn (hM.sk hk0 hMn) hMn)
  have HM := Lib.hid hM
  clear hP hM hk0 hMl
  go_enter Tryz.func11, Tryz.ntmps11
  go_wp2_with fail
  ((with_reducible refine (HA.out).mono ?_); rintro e w1 ⟨B, B2, A, c, q, v2, l, k, t, pu, rg, ch, at', rfl, hq, hl, hls, hqs, hB, hB2, S1⟩)
  obtain ⟨hSp, Al, cl, rfl, hSl⟩ := DrawsAsked.mem hB S1
  have Hb1 := Lib.hid (Gg.toBelow (g0.step S1.g.k S1.g.s))
  have HM1 := Lib.hid (HM.out.below Hb1.out)
  have Hok := Lib.hid hq.polOk
  have hlen : (q.map PQ.purp).length = q.length := by simp
  have hql : (q.map PQ.purp).length ≤ 1000000 := by have := hq.len; omega
  have Hlo := Lib.hid (StmSm.ok hls (by omega))
  have Hqs := Lib.hid hqs
  rw [← hlen]
  clear HA S1 g0 hq hls hB hB2 hlen hqs
  generalize q.map PQ.purp = xs at *
  have hrg : rg.size ≤ 1000000000 := Nat.le_trans Hqs.out.2.2 (by decide)
  have htt : t.size ≤ 1000000 := Nat.le_trans Hqs.out.1 (by decide)
  have HSp := Lib.hid hSp
  have HSl := Lib.hid hSl
  clear Hqs hSp hSl
  have S := (Mem.start w1).new' (qqCs k t pu rg ch at') 31
  replace S : Mem w1 (w1.alloc (.cells (qqCs k t pu rg ch at') 31)) [.loc w1.heap.size (qqCs k t pu rg ch at') 31] := S
  have HNx := Lib.hid (fun w' (h : Below w1.heap.size w1 w') => consNext_any A Al xs l c cl k t pu rg ch at' w' (HSp.out.keepB h) Hok.out (HSl.out.keepB h) Hlo.out (by omega) hrg htt (HM1.out.below h))
  have HPe := Lib.hid (fun w' (h : Below w1.heap.size w1 w') => periods_any A Al xs l c cl k t pu rg ch w' (HSp.out.keepB h) Hok.out (HSl.out.keepB h) Hlo.out (by omega) hrg htt (HM1.out.below h))
  have HQ := Lib.hid (fun w' (h : Below w1.heap.size w1 w') => questionOr_any (fun _ => False) A xs c (stmsFault xs l) k t pu rg ch at' w' (HSp.out.keepB h) hql htt hrg (HM1.out.below h))
  have HQ0 := Lib.hid (fun w' (h : Below w1.heap.size w1 w') => questionOr_any (fun _ => False) A xs c (stmsFault xs l) k t pu rg ch 0 w' (HSp.out.keepB h) hql htt hrg (HM1.out.below h))
  have HRn := Lib.hid (fun (hF : mayErr xs l k t pu rg ch at' = 0) w' (h : Below w1.heap.size w1 w') => refNext_any A Al xs l c cl k t pu rg ch at' w' (HSp.out.keepB h) (policy_good (stms_good (first3_zero hF).1).1) (HSl.out.keepB h) (stms_good (first3_zero hF).1).2 (by omega) (qErr_at (first3_zero hF).2.2))
  have HRp := Lib.hid (fun (hF : mayErr xs l k t pu rg ch 0 = 0) w' (h : Below w1.heap.size w1 w') => refPeriods_any A Al xs l c cl k t pu rg ch at' w' (HSp.out.keepB h) (policy_good (stms_good (first3_zero hF).1).1) (HSl.out.keepB h) (stms_good (first3_zero hF).1).2 (by omega))
  have HLen : Hid ((perA xs l k t pu rg ch).length ≤ 3002) := perA_len (by omega)
  rw [show first3 (stmsFault xs l) (L.idFault k t) (qErr xs pu rg ch at') = mayErr xs l k t pu rg ch at' from rfl] at HQ
  rw [show first3 (stmsFault xs l) (L.idFault k t) (qErr xs pu rg ch 0) = mayErr xs l k t pu rg ch 0 from rfl] at HQ0
  generalize stmsFault xs l = F0 at *
  generalize mayErr xs l k t pu rg ch at' = E1 at *
  generalize mayErr xs l k t pu rg ch 0 = E0 at *
  generalize nextAns xs l k t pu rg ch at' = N1 at *
  generalize perA xs l k t pu rg ch = P at *
  clear HSp HSl Hok Hlo
  obtain ⟨R1, HR1⟩ : ∃ R1, Hid ((if E1 = 0 then N1 else 0) = R1) := ⟨_, Lib.hid rfl⟩
  rw [HR1.out] at HNx
  obtain ⟨Rs, HRs⟩ : ∃ Rs, Hid ((if E0 = 0 then P else []) = Rs) := ⟨_, Lib.hid rfl⟩
  rw [HRs.out] at HPe
  go_upto_region 3 with fail
  generalize w1.alloc (.cells (qqCs k t pu rg ch at') 31) = w2 at *
  have c0 := (S.lv 0 rfl).all
  go_wp2_with fail
  ((with_reducible refine (HNx.out w2 S.b).mono ?_); rintro e w3 ⟨rfl, hl3⟩)
  replace S := S.below hl3
  clear hl3 HNx c0
  have c0 := (S.lv 0 rfl).all
  go_wp2_with fail
  ((with_reducible refine (HPe.out w3 S.b).mono ?_); rintro e w4 ⟨Ac, cc, rfl, hSc, hl4⟩)
  replace S := S.call hl4 (.sl rPer Ac Rs) hSc (fun k e => by cases e)
  clear hl4 HPe c0 hSc
  have c0 := (S.lv 0 rfl).all
  go_wp2_with fail
  ((with_reducible refine (HQ.out w4 S.b).mono ?_); rintro e w5 ⟨rfl, hl5⟩)
  replace S := S.below hl5
  clear hl5 HQ c0
  have c0 := (S.lv 0 rfl).all
  go_upto_region 7 with fail
  obtain ⟨Y, hY⟩ : ∃ Y, Y = w5.heap.size := ⟨_, rfl⟩
  replace S := S.newAt (qqCs k t pu rg ch at') 31 Y hY
  rw [← hY]
  clear hY c0
  generalize w5.alloc (.cells (qqCs k t pu rg ch at') 31) = w6 at *
  have c2 := (S.lv 2 rfl).all
  go_upto_region 8 with fail
  clear c2
  replace S : Mem w1 (w6.setCell ⟨Y, 5, none⟩ (.int .i64 0)) [.loc w1.heap.size (qqCs k t pu rg ch at') 31, .sl rPer Ac Rs, .loc Y (qqCs k t pu rg ch 0) 31] := S.set 2 5 (.int .i64 0) rfl
  generalize w6.setCell ⟨Y, 5, none⟩ (.int .i64 0) = w7 at *
  have c2 := (S.lv 2 rfl).all
  go_wp2_with fail
  ((with_reducible refine (HQ0.out w7 S.b).mono ?_); rintro e w8 ⟨rfl, hl8⟩)
  replace S := S.below hl8
  clear hl8 HQ0 c2
  have HC := Lib.hid (fun w' (h : Below w1.heap.size w1 w') => consents_any w' (HM1.out.below h))
  have c0 := (S.lv 0 rfl).all
  by_cases h1 : E1 = 0
  · obtain rfl : N1 = R1 := by rw [← HR1.out, if_pos h1]
    have HN1 := Lib.hid (HRn.out h1)
    subst h1
    clear HRn HR1
    by_cases h0 : E0 = 0
    · obtain rfl : P = Rs := by rw [← HRs.out, if_pos h0]
      have HP1 := Lib.hid (HRp.out h0)
      subst h0
      clear HRp HRs
      go_wp2_with fail
      ((with_reducible refine (HN1.out w8 S.b).mono ?_); rintro e w9 ⟨rfl, hl9⟩)
      replace S := S.below hl9
      clear hl9 HN1 c0
      have c0 := (S.lv 0 rfl).all
      go_wp2_with fail
      ((with_reducible refine (HP1.out w9 S.b).mono ?_); rintro e w10 ⟨A2, c2, rfl, hS2, hl10⟩)
      replace S := S.below hl10
      have hRl : P.length ≤ 1000000000 := by have := HLen.out; omega
      have HE := Lib.hid (eqPer_any (fun _ => False) Ac A2 P cc c2 w10 ((S.slc 1 rfl).mono (fun _ _ h => h.elim)) (hS2.mono (fun _ _ h => h.elim)) hRl)
      clear hl10 HP1 hS2 c0
      go_wp2_with fail
      ((with_reducible refine (HE.out).mono ?_); rintro e w11 ⟨rfl, hl11⟩)
      replace S := S.below hl11
      clear hl11 HE
      go_wp2_with fail
      ((with_reducible refine (HC.out w11 S.b).mono ?_); rintro e w12 ⟨rfl, hl12⟩)
      replace S := S.below hl12
      go_wp2_with fail
      go_ret
      exact ⟨rfl, Hb1.out.trans (S.b.mono Hb1.out.size)⟩
    · have h0' : (E0 != 0) = true := by simpa using h0
      obtain rfl : [] = Rs := by rw [← HRs.out, if_neg h0]
      clear HRp HRs h0
      simp only [List.length_nil]
      go_wp2_with fail
      ((with_reducible refine (HN1.out w8 S.b).mono ?_); rintro e w9 ⟨rfl, hl9⟩)
      replace S := S.below hl9
      clear hl9 HN1 c0
      go_wp2_with fail
      ((with_reducible refine (HC.out w9 S.b).mono ?_); rintro e w12 ⟨rfl, hl12⟩)
      replace S := S.below hl12
      go_wp2_with fail
      go_ret
      exact ⟨rfl, Hb1.out.trans (S.b.mono Hb1.out.size)⟩
  · have h1' : (E1 != 0) = true := by simpa using h1
    obtain rfl : 0 = R1 := by rw [← HR1.out, if_neg h1]
    clear HRn HR1 h1
    by_cases h0 : E0 = 0
    · obtain rfl : P = Rs := by rw [← HRs.out, if_pos h0]
      have HP1 := Lib.hid (HRp.out h0)
      subst h0
      clear HRp HRs
      go_wp2_with fail
      ((with_reducible refine (HP1.out w8 S.b).mono ?_); rintro e w10 ⟨A2, c2, rfl, hS2, hl10⟩)
      replace S := S.below hl10
      have hRl : P.length ≤ 1000000000 := by have := HLen.out; omega
      have HE := Lib.hid (eqPer_any (fun _ => False) Ac A2 P cc c2 w10 ((S.slc 1 rfl).mono (fun _ _ h => h.elim)) (hS2.mono (fun _ _ h => h.elim)) hRl)
      clear hl10 HP1 hS2 c0
      go_wp2_with fail
      ((with_reducible refine (HE.out).mono ?_); rintro e w11 ⟨rfl, hl11⟩)
      replace S := S.below hl11
      clear hl11 HE
      go_wp2_with fail
      ((with_reducible refine (HC.out w11 S.b).mono ?_); rintro e w12 ⟨rfl, hl12⟩)
      replace S := S.below hl12
      go_wp2_with fail
      go_ret
      exact ⟨rfl, Hb1.out.trans (S.b.mono Hb1.out.size)⟩
    · have h0' : (E0 != 0) = true := by simpa using h0
      obtain rfl : [] = Rs := by rw [← HRs.out, if_neg h0]
      clear HRp HRs h0
      simp only [List.length_nil]
      go_wp2_with fail
      ((with_reducible refine (HC.out w8 S.b).mono ?_); rintro e w12 ⟨rfl, hl12⟩)
      replace S := S.below hl12
      go_wp2_with fail
      go_ret
      exact ⟨rfl, Hb1.out.trans (S.b.mono Hb1.out.size)⟩
end Go.Proofs.YtlnklkedpknbpaaGreatDoor
