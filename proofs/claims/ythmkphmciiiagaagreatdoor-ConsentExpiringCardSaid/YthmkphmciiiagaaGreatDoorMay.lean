/- What the checks of questions return, and May where nothing was said. -/
import Derived.Test.YthmkphmciiiagaaGreatDoorMayNil
namespace Go.Proofs.YthmkphmciiiagaaGreatDoor
open Go.RowKit
abbrev qCs (A : Option Addr) (n c : Nat) (pu rg : ByteArray) (ch at' : Int) : Array Value := #[.slice A n c, .string pu, .string rg, .int .i64 ch, .int .i64 at']
/-- the fault of a question behind those of statements and ids -/
def qErr (p : List Purp) (pu rg : ByteArray) (ch at' : Int) : Int := if hasP p pu = false then 8 else if L.isKey rg = false then 5 else if isCh ch = false then 4 else if ¬ (0 ≤ at' ∧ at' ≤ 4321439) then 1 else 0
set_option maxHeartbeats 4000000 in
set_option maxRecDepth 100000 in
theorem qcheck_any (N : Nat → Prop) (A : Option Addr) (p : List Purp) (c : Nat) (pu rg : ByteArray) (ch at' : Int) (w : World) (hS : Sl rPurp N w A p) (hg : GoodPol p) (hrg : rg.size ≤ 1000000000) :
    Calls Tryz.prog 133 #[.agg (qCs A p.length c pu rg ch at')] w fun e w' => e = .returned (.int .i64 (qErr p pu rg ch at')) ∧ Below w.heap.size w w' := by
  have hb0 : Below w.heap.size w (w.alloc (.cells (qCs A p.length c pu rg ch at') 96)) := (Below.refl _ _).alloc (Nat.le_refl _) _
  have lv0 := LV.new w w.heap.size (qCs A p.length c pu rg ch at') 96 rfl
  have Hp := Lib.hid (purposeOf_any N A p pu c _ (hS.keepB hb0) (by have := hg.len; omega) hg.rise)
  unfold GivesPurp at Hp
  rw [purpAt_has] at Hp
  obtain ⟨H, HH⟩ : ∃ H, Hid (hasP p pu = H) := ⟨_, Lib.hid rfl⟩
  obtain ⟨K, HK⟩ : ∃ K, Hid (L.isKey rg = K) := ⟨_, Lib.hid rfl⟩
  obtain ⟨C, HC⟩ : ∃ C, Hid (isCh ch = C) := ⟨_, Lib.hid rfl⟩
  obtain ⟨D, HD⟩ : ∃ D, Hid (decide (0 ≤ at' ∧ at' ≤ 4321439) = D) := ⟨_, Lib.hid rfl⟩
  have HR : Hid (qErr p pu rg ch at' = if H = false then 8 else if K = false then 5 else if C = false then 4 else if D = false then 1 else 0) := by
    show _ = _
    rw [qErr, HH.out, HK.out, HC.out, ← HD.out]
    simp
  generalize qErr p pu rg ch at' = R at *
  have C1 : Hid (∀ w, Calls Tryz.prog 115 #[.string rg] w fun e w' => e = .returned (.bool K) ∧ w = w') := fun w => HK.out ▸ isKey_any rg w hrg
  have C2 : Hid (∀ w, Calls Tryz.prog 176 #[.int .i64 ch] w fun e w' => e = .returned (.bool C) ∧ w = w') := fun w => HC.out ▸ cchannel_any ch w
  have C3 : Hid (∀ w, Calls Tryz.prog 84 #[.int .i64 at', .int .i64 0, .int .i64 4321439] w fun e w' => e = .returned (.bool D) ∧ w = w') := fun w => HD.out ▸ cwithin_any at' 0 4321439 w
  rw [HH.out] at Hp
  generalize (purpAt p pu).getD pZero = pp at *
  clear HH HK HC HD hS hg
  go_enter Tryz.func133, Tryz.ntmps133
  go_upto_region 1 with fail
  generalize w.alloc (.cells (qCs A p.length c pu rg ch at') 96) = w1 at *
  have c0 : w1.cell? ⟨w.heap.size, 0, none⟩ = some (.slice A p.length c) := lv0.cell 0 _ rfl
  have c1 : w1.cell? ⟨w.heap.size, 1, none⟩ = some (.string pu) := lv0.cell 1 _ rfl
  go_wp2_with fail
  ((with_reducible refine (Hp.out).mono ?_); rintro e w2 ⟨At, ct, rfl, _, hl2⟩)
  have lv2 := LV.kb3 lv0 hl2 lv0.lt
  have hb3 : Below w2.heap.size w2 (w2.alloc (.cells #[.string pp.name, .slice At pp.terms.length ct] 75)) := (Below.refl _ _).alloc (Nat.le_refl _) _
  have lv3 := LV.kb3 lv2 hb3 lv2.lt
  have Hb3 : Hid (Below w.heap.size w (w2.alloc (.cells #[.string pp.name, .slice At pp.terms.length ct] 75))) := (hb0.trans (hl2.mono hb0.size)).alloc (Nat.le_trans hb0.size hl2.size) _
  clear c0 c1 lv0 lv2 hl2 hb3 Hp hb0
  go_upto_region 2 with fail
  generalize w2.alloc (.cells #[.string pp.name, .slice At pp.terms.length ct] 75) = w3 at *
  have c2 : w3.cell? ⟨w.heap.size, 2, none⟩ = some (.string rg) := lv3.cell 2 _ rfl
  have c3 : w3.cell? ⟨w.heap.size, 3, none⟩ = some (.int .i64 ch) := lv3.cell 3 _ rfl
  have c4 : w3.cell? ⟨w.heap.size, 4, none⟩ = some (.int .i64 at') := lv3.cell 4 _ rfl
  clear lv3
  cases H
  · go_wp2_with fail
    go_ret
    exact ⟨ret_i (by rw [HR.out]; rfl), Hb3.out⟩
  · go_wp2_with fail
    ((with_reducible refine (C1.out _).mono ?_); rintro e _ ⟨rfl, rfl⟩)
    cases K
    · go_wp2_with fail
      go_ret
      exact ⟨ret_i (by rw [HR.out]; rfl), Hb3.out⟩
    · go_wp2_with fail
      ((with_reducible refine (C2.out _).mono ?_); rintro e _ ⟨rfl, rfl⟩)
      cases C
      · go_wp2_with fail
        go_ret
        exact ⟨ret_i (by rw [HR.out]; rfl), Hb3.out⟩
      · go_wp2_with fail
        ((with_reducible refine (C3.out _).mono ?_); rintro e _ ⟨rfl, rfl⟩)
        cases D
        · go_wp2_with fail
          go_ret
          exact ⟨ret_i (by rw [HR.out]; rfl), Hb3.out⟩
        · go_wp2_with fail
          go_ret
          exact ⟨ret_i (by rw [HR.out]; rfl), Hb3.out⟩
/-- one id is checked -/
theorem checkIds1_any (X : Nat) (k : Int) (t : ByteArray) (w : World) (hX : LV w X #[.int .i64 k, .string t] 29) (ht : t.size ≤ 1000000) (hM : MaxL w) :
    Calls Tryz.prog 132 #[.slice (some ⟨X, 0, none⟩) 1 1, .int .i64 1] w fun e w' => e = .returned (.int .i64 (L.idFault k t)) ∧ Below w.heap.size w w' := by
  have c0 : w.cell? ⟨X, 0, none⟩ = some (.int .i64 k) := hX.cell 0 _ rfl
  have c1 : w.cell? ⟨X, 1, none⟩ = some (.string t) := hX.cell 1 _ rfl
  have hb0 : Below w.heap.size w (w.alloc (.cells #[.int .i64 k, .string t] 29)) := (Below.refl _ _).alloc (Nat.le_refl _) _
  have Hc := Lib.hid (checkId_any k t _ ht (hM.below hb0))
  generalize L.idFault k t = F at *
  clear hM hX
  go_enter Tryz.func132, Tryz.ntmps132
  go_wp2_with fail
  go_loopw [14] (fun i wr => (i = .int .i64 0 ∧ w = wr) ∨ (F = 0 ∧ i = .int .i64 1 ∧ Below w.heap.size w wr)) (fun i _ => 1 - (intOf i).toNat)
  case atStart => exact .inl ⟨rfl, rfl⟩
  case round =>
    rcases hrel with ⟨rfl, rfl⟩ | ⟨hF, rfl, hbl⟩
    · go_wp2_with fail
      ((with_reducible refine (Hc.out).mono ?_); rintro e w2 ⟨rfl, hl2⟩)
      have Hb2 : Hid (Below w.heap.size w w2) := hb0.trans (hl2.mono hb0.size)
      by_cases hF : F = 0
      · have HF := Lib.hid hF
        subst hF
        go_wp2_with fail
        go_roundw
        case rel => exact .inr ⟨by first | rfl | trivial, rfl, Hb2.out⟩
        case measure => simp [intOf]
      · have hF' : (F != 0) = true := by simpa using hF
        go_wp2_with fail
        go_ret
        exact ⟨rfl, Hb2.out⟩
    · subst hF
      go_wp2_with fail
      go_ret
      exact ⟨rfl, hbl⟩
theorem loadAsk {w : World} {X : Nat} {a b c d e f g h : Value} (l : LV w X #[a, b, c, d, e, f, g, h] 102) : (loadVar 102 ⟨X, 0, none⟩).run Tryz.prog w = .ok (.agg #[a, b, c, d, e, f, g, h]) w := by
  have c0 := l.cell 0 _ rfl
  have c1 := l.cell 1 _ rfl
  have c2 := l.cell 2 _ rfl
  have c3 := l.cell 3 _ rfl
  have c4 := l.cell 4 _ rfl
  have c5 := l.cell 5 _ rfl
  have c6 := l.cell 6 _ rfl
  have c7 := l.cell 7 _ rfl
  go_simp
theorem loadIdI {w : World} {X : Nat} {a b : Value} (h : LV w X #[a, b] 29) : (Instr.loadAt 29 (.pointer (some ⟨X, 0, none⟩))).run Tryz.prog w = .ok (.agg #[a, b]) w := by
  have c0 := h.cell 0 _ rfl
  have c1 := h.cell 1 _ rfl
  go_simp
theorem loadQn {w : World} {X : Nat} {a b c d e : Value} (h : LV w X #[a, b, c, d, e] 96) : (Instr.loadAt 96 (.pointer (some ⟨X, 0, none⟩))).run Tryz.prog w = .ok (.agg #[a, b, c, d, e]) w := by
  have c0 := h.cell 0 _ rfl
  have c1 := h.cell 1 _ rfl
  have c2 := h.cell 2 _ rfl
  have c3 := h.cell 3 _ rfl
  have c4 := h.cell 4 _ rfl
  go_simp
set_option maxHeartbeats 4000000 in
set_option maxRecDepth 100000 in
/-- nothing was said, and all that is asked is right -/
theorem checkAllNil_any (N : Nat → Prop) (A : Option Addr) (p : List Purp) (c : Nat) (pu rg : ByteArray) (ch at' : Int) (X : Nat) (k : Int) (t : ByteArray) (w : World) (hS : Sl rPurp N w A p) (hok : PolOk p) (hrg : rg.size ≤ 1000000000) (ht : t.size ≤ 1000000) (hM : MaxL w) (hX : LV w X #[.int .i64 k, .string t] 29)
    (h1 : policyFault p = 0) (h2 : L.idFault k t = 0) (h3 : qErr p pu rg ch at' = 0) :
    Calls Tryz.prog 57 #[.agg (qCs A p.length c pu rg ch at'), .slice none 0 0, .int .i64 1, .slice (some ⟨X, 0, none⟩) 1 1] w fun e w' => e = .returned (.int .i64 0) ∧ Below w.heap.size w w' := by
  have hb0 : Below w.heap.size w (w.alloc (.cells (qCs A p.length c pu rg ch at') 96)) := (Below.refl _ _).alloc (Nat.le_refl _) _
  have lv0 := LV.new w w.heap.size (qCs A p.length c pu rg ch at') 96 rfl
  have e1 : stmsFault p [] = 0 := by unfold stmsFault; rw [if_neg (not_not_intro h1), if_neg (by simp)]; rfl
  have Hc : Hid (Calls Tryz.prog 89 #[.slice A p.length c, .slice none 0 0] (w.alloc (.cells (qCs A p.length c pu rg ch at') 96)) fun e w' => e = .returned (.int .i64 0) ∧ Below (w.alloc (.cells (qCs A p.length c pu rg ch at') 96)).heap.size (w.alloc (.cells (qCs A p.length c pu rg ch at') 96)) w') := by
    have := check_any N A none p [] c 0 _ (hS.keepB hb0) hok Sl.nil ⟨by simp, by simp, by simp, by simp⟩ (hM.below hb0)
    rw [e1] at this
    exact this
  have hXl := hX.lt
  have Hi := Lib.hid (fun w' (h : Below w.heap.size w w') => checkIds1_any X k t w' (LV.kb3 hX h hXl) ht (hM.below h))
  rw [h2] at Hi
  have Hq := Lib.hid (fun w' (h : Below w.heap.size w w') => qcheck_any N A p c pu rg ch at' w' (hS.keepB h) (policy_good h1) hrg)
  rw [h3] at Hq
  clear hS hM hX h1 h2 h3 hok
  go_enter Tryz.func57, Tryz.ntmps57
  go_upto_region 1 with fail
  generalize w.alloc (.cells (qCs A p.length c pu rg ch at') 96) = w1 at *
  have c0 : w1.cell? ⟨w.heap.size, 0, none⟩ = some (.slice A p.length c) := lv0.cell 0 _ rfl
  go_wp2_with fail
  ((with_reducible refine (Hc.out).mono ?_); rintro e w2 ⟨rfl, hl2⟩)
  have lv2 := LV.kb3 lv0 hl2 lv0.lt
  have Hb2 : Hid (Below w.heap.size w w2) := hb0.trans (hl2.mono hb0.size)
  clear c0 Hc lv0 hb0 hl2
  go_wp2_with fail
  ((with_reducible refine (Hi.out w2 Hb2.out).mono ?_); rintro e w3 ⟨rfl, hl3⟩)
  have lv3 := LV.kb3 lv2 hl3 lv2.lt
  have Hb3 : Hid (Below w.heap.size w w3) := Hb2.out.trans (hl3.mono Hb2.out.size)
  clear Hi lv2 hl3 Hb2
  have c0 : w3.cell? ⟨w.heap.size, 0, none⟩ = some (.slice A p.length c) := lv3.cell 0 _ rfl
  have c1 : w3.cell? ⟨w.heap.size, 1, none⟩ = some (.string pu) := lv3.cell 1 _ rfl
  have c2 : w3.cell? ⟨w.heap.size, 2, none⟩ = some (.string rg) := lv3.cell 2 _ rfl
  have c3 : w3.cell? ⟨w.heap.size, 3, none⟩ = some (.int .i64 ch) := lv3.cell 3 _ rfl
  have c4 : w3.cell? ⟨w.heap.size, 4, none⟩ = some (.int .i64 at') := lv3.cell 4 _ rfl
  go_wp2_with fail
  ((with_reducible refine (Hq.out w3 Hb3.out).mono ?_); rintro e w4 ⟨rfl, hl4⟩)
  go_wp2_with fail
  go_ret
  exact ⟨rfl, Hb3.out.trans (hl4.mono Hb3.out.size)⟩
set_option maxHeartbeats 4000000 in
set_option maxRecDepth 100000 in
theorem askNil_any (N : Nat → Prop) (A : Option Addr) (p : List Purp) (c : Nat) (pu rg : ByteArray) (ch at' k : Int) (t : ByteArray) (tm : PTerm) (w : World) (hS : Sl rPurp N w A p) (hg : GoodPol p) (ht : termAt p pu rg ch = some tm) :
    Calls Tryz.prog 58 #[.agg (qCs A p.length c pu rg ch at'), .slice none 0 0, .agg #[.int .i64 k, .string t]] w fun e w' => e = .returned (.agg #[.string tm.region, .int .i64 tm.channel, .bool tm.free, .int .i64 tm.days, .int .i64 tm.wait, .bool true, .string pu, .slice none 0 0]) ∧ Below w.heap.size w w' := by
  have Ht := Lib.hid (fun w' (h : Below w.heap.size w w') => termOf_any N A p pu rg ch c w' (hS.keepB h) hg)
  rw [ht] at Ht
  clear hS hg ht
  have hb0 : Below w.heap.size w (((w.alloc (.cells (qCs A p.length c pu rg ch at') 96)).alloc (.cells #[.int .i64 k, .string t] 29)).alloc (.cells #[.string ⟨#[]⟩, .int .i64 0, .bool false, .int .i64 0, .int .i64 0, .bool false, .string ⟨#[]⟩, .slice none 0 0] 102)) := (((Below.refl _ _).alloc (Nat.le_refl _) _).alloc (by simp) _).alloc (by simp; omega) _
  have lvQ := ((LV.new w w.heap.size (qCs A p.length c pu rg ch at') 96 rfl).alloc (.cells #[.int .i64 k, .string t] 29)).alloc (.cells #[.string ⟨#[]⟩, .int .i64 0, .bool false, .int .i64 0, .int .i64 0, .bool false, .string ⟨#[]⟩, .slice none 0 0] 102)
  have lvI := (LV.new (w.alloc (.cells (qCs A p.length c pu rg ch at') 96)) (w.heap.size + 1) #[.int .i64 k, .string t] 29 (by simp)).alloc (.cells #[.string ⟨#[]⟩, .int .i64 0, .bool false, .int .i64 0, .int .i64 0, .bool false, .string ⟨#[]⟩, .slice none 0 0] 102)
  have lvR := LV.new ((w.alloc (.cells (qCs A p.length c pu rg ch at') 96)).alloc (.cells #[.int .i64 k, .string t] 29)) (w.heap.size + 1 + 1) #[.string ⟨#[]⟩, .int .i64 0, .bool false, .int .i64 0, .int .i64 0, .bool false, .string ⟨#[]⟩, .slice none 0 0] 102 (by simp)
  go_enter Tryz.func58, Tryz.ntmps58
  go_wp2_with fail
  generalize (((w.alloc (.cells (qCs A p.length c pu rg ch at') 96)).alloc (.cells #[.int .i64 k, .string t] 29)).alloc (.cells #[.string ⟨#[]⟩, .int .i64 0, .bool false, .int .i64 0, .int .i64 0, .bool false, .string ⟨#[]⟩, .slice none 0 0] 102)) = w1 at *
  ((with_reducible refine (Ht.out w1 hb0).mono ?_); rintro e w2 ⟨rfl, hl2⟩)
  have mQ := LV.kb3 lvQ hl2 lvQ.lt
  have mI := LV.kb3 lvI hl2 lvI.lt
  have mR := LV.kb3 lvR hl2 lvR.lt
  have Hb2 : Hid (Below w.heap.size w w2) := hb0.trans (hl2.mono hb0.size)
  clear lvQ lvI lvR hl2 Ht hb0
  simp only [Option.getD_some, Option.isSome_some]
  have hb3 : Below w2.heap.size w2 (w2.alloc (.cells #[.string tm.region, .int .i64 tm.channel, .bool tm.free, .int .i64 tm.days, .int .i64 tm.wait] 99)) := (Below.refl _ _).alloc (Nat.le_refl _) _
  have nQ := LV.kb3 mQ hb3 mQ.lt
  have nI := LV.kb3 mI hb3 mI.lt
  have nR := LV.kb3 mR hb3 mR.lt
  have nT : tLV _ w2.heap.size tm := LV.new w2 w2.heap.size #[.string tm.region, .int .i64 tm.channel, .bool tm.free, .int .i64 tm.days, .int .i64 tm.wait] 99 rfl
  have Hb3 : Hid (Below w.heap.size w (w2.alloc (.cells #[.string tm.region, .int .i64 tm.channel, .bool tm.free, .int .i64 tm.days, .int .i64 tm.wait] 99))) := Hb2.out.alloc Hb2.out.size _
  clear mQ mI mR hb3
  obtain ⟨Y, hY⟩ : ∃ Y, Y = w2.heap.size := ⟨_, rfl⟩
  go_upto_region 2 with fail
  rw [← hY] at nT ⊢
  generalize w2.alloc (.cells #[.string tm.region, .int .i64 tm.channel, .bool tm.free, .int .i64 tm.days, .int .i64 tm.wait] 99) = w3 at *
  clear hY
  go_wp2_with fail
  refine wp_region_mixG 10 (fun w' => LV w' w.heap.size (qCs A p.length c pu rg ch at') 96 ∧ LV w' (w.heap.size + 1) #[.int .i64 k, .string t] 29 ∧ tLV w' Y tm) [.q 0, .q 1, .q 2, .q 3, .q 4, .q 5, .q 6, .q 7, .e 8, .q 9, .e 10] (by kernel_rfl) (by kernel_rfl) (fun w' hd => ⟨LV.kb3 nQ (hd.below _) nQ.lt, LV.kb3 nI (hd.below _) nI.lt, LV.kb3 nT (hd.below _) nT.lt⟩) (fun KK hKK wd hd => ?_)
  have hC : LV wd w.heap.size (qCs A p.length c pu rg ch at') 96 ∧ LV wd (w.heap.size + 1) #[.int .i64 k, .string t] 29 ∧ tLV wd Y tm := ⟨LV.kb3 nQ (hd.below _) nQ.lt, LV.kb3 nI (hd.below _) nI.lt, LV.kb3 nT (hd.below _) nT.lt⟩
  have mR := LV.kb3 nR (hd.below _) nR.lt
  have Hbd : Hid (Below w.heap.size w wd) := Hb3.out.trans ((hd.below _).mono Hb3.out.size)
  clear nQ nI nT nR hd
  refine mixG_loadR (tVal tm) rfl rfl rfl rfl (fun w' h => tLV.load h.2.2) ?_
  repeat (refine mixG_p rfl (fun K hK => ?_); go_simp; (try go_bits); (try simp (disch := omega) only [if_pos]); (try simp (disch := omega) only [if_neg]); (try simp (disch := omega) only [dif_pos]); (try simp (disch := omega) only [dif_neg]); (try go_simp); (refine hK _ ?_; clear hK K))
  refine mixG_load (.string pu) rfl rfl rfl rfl (fun _ => rfl) (fun w' h => h.1.cell 1 _ rfl) ?_
  repeat (refine mixG_p rfl (fun K hK => ?_); go_simp; (try go_bits); (try simp (disch := omega) only [if_pos]); (try simp (disch := omega) only [if_neg]); (try simp (disch := omega) only [dif_pos]); (try simp (disch := omega) only [dif_neg]); (try go_simp); (refine hK _ ?_; clear hK K))
  refine mixG_loadR (.agg #[.int .i64 k, .string t]) rfl rfl rfl rfl (fun w' h => loadIdI h.2.1) ?_
  repeat (refine mixG_p rfl (fun K hK => ?_); go_simp; (try go_bits); (try simp (disch := omega) only [if_pos]); (try simp (disch := omega) only [if_neg]); (try simp (disch := omega) only [dif_pos]); (try simp (disch := omega) only [dif_neg]); (try go_simp); (refine hK _ ?_; clear hK K))
  refine mixG_load (.int .i64 ch) rfl rfl rfl rfl (fun _ => rfl) (fun w' h => h.1.cell 3 _ rfl) ?_
  refine mixG_l rfl rfl (fun K hK => ?_)
  go_wp2_with fail
  ((with_reducible refine (saidNil_any k t ch wd).mono ?_); rintro e w4 ⟨rfl, hl4⟩)
  have hC4 : LV w4 w.heap.size (qCs A p.length c pu rg ch at') 96 ∧ LV w4 (w.heap.size + 1) #[.int .i64 k, .string t] 29 ∧ tLV w4 Y tm := ⟨LV.kb3 hC.1 hl4 hC.1.lt, LV.kb3 hC.2.1 hl4 hC.2.1.lt, LV.kb3 hC.2.2 hl4 hC.2.2.lt⟩
  have nR := LV.kb3 mR hl4 mR.lt
  have Hb4 : Hid (Below w.heap.size w w4) := Hbd.out.trans (hl4.mono Hbd.out.size)
  clear hl4 mR hC Hbd
  go_wp2_with fail
  refine ⟨fun _ => hC4, ?_⟩
  clear hC4
  repeat (refine mixG_p rfl (fun K hK => ?_); go_simp; (try go_bits); (try simp (disch := omega) only [if_pos]); (try simp (disch := omega) only [if_neg]); (try simp (disch := omega) only [dif_pos]); (try simp (disch := omega) only [dif_neg]); (try go_simp); (refine hK _ ?_; clear hK K))
  have x0 : w4.cell? ⟨w.heap.size + 1 + 1, 0, none⟩ = some (.string ⟨#[]⟩) := nR.cell 0 _ rfl
  have x1 : w4.cell? ⟨w.heap.size + 1 + 1, 1, none⟩ = some (.int .i64 0) := nR.cell 1 _ rfl
  have x2 : w4.cell? ⟨w.heap.size + 1 + 1, 2, none⟩ = some (.bool false) := nR.cell 2 _ rfl
  have x3 : w4.cell? ⟨w.heap.size + 1 + 1, 3, none⟩ = some (.int .i64 0) := nR.cell 3 _ rfl
  have x4 : w4.cell? ⟨w.heap.size + 1 + 1, 4, none⟩ = some (.int .i64 0) := nR.cell 4 _ rfl
  have x5 : w4.cell? ⟨w.heap.size + 1 + 1, 5, none⟩ = some (.bool false) := nR.cell 5 _ rfl
  have x6 : w4.cell? ⟨w.heap.size + 1 + 1, 6, none⟩ = some (.string ⟨#[]⟩) := nR.cell 6 _ rfl
  have x7 : w4.cell? ⟨w.heap.size + 1 + 1, 7, none⟩ = some (.slice none 0 0) := nR.cell 7 _ rfl
  have f0 := nR.free 0
  have f1 := nR.free 1
  have f2 := nR.free 2
  have f3 := nR.free 3
  have f4 := nR.free 4
  have f5 := nR.free 5
  have f6 := nR.free 6
  have f7 := nR.free 7
  refine mixG_l rfl rfl (fun K hK => ?_)
  go_wp2_with fail
  refine ⟨fun h => absurd rfl h, ?_⟩
  refine mixG_nil ?_
  simp only [Exit.then]
  refine hKK _ _ ?_
  clear x0 x1 x2 x3 x4 x5 x6 x7 f0 f1 f2 f3 f4 f5 f6 f7
  go_wp2_with fail
  have h0 := nR.set 0 (.string tm.region) #[.string tm.region, .int .i64 0, .bool false, .int .i64 0, .int .i64 0, .bool false, .string ⟨#[]⟩, .slice none 0 0] rfl
  have h1 := h0.set 1 (.int .i64 tm.channel) #[.string tm.region, .int .i64 tm.channel, .bool false, .int .i64 0, .int .i64 0, .bool false, .string ⟨#[]⟩, .slice none 0 0] rfl
  have h2 := h1.set 2 (.bool tm.free) #[.string tm.region, .int .i64 tm.channel, .bool tm.free, .int .i64 0, .int .i64 0, .bool false, .string ⟨#[]⟩, .slice none 0 0] rfl
  have h3 := h2.set 3 (.int .i64 tm.days) #[.string tm.region, .int .i64 tm.channel, .bool tm.free, .int .i64 tm.days, .int .i64 0, .bool false, .string ⟨#[]⟩, .slice none 0 0] rfl
  have h4 := h3.set 4 (.int .i64 tm.wait) #[.string tm.region, .int .i64 tm.channel, .bool tm.free, .int .i64 tm.days, .int .i64 tm.wait, .bool false, .string ⟨#[]⟩, .slice none 0 0] rfl
  have h5 := h4.set 5 (.bool true) #[.string tm.region, .int .i64 tm.channel, .bool tm.free, .int .i64 tm.days, .int .i64 tm.wait, .bool true, .string ⟨#[]⟩, .slice none 0 0] rfl
  have h6 := h5.set 6 (.string pu) #[.string tm.region, .int .i64 tm.channel, .bool tm.free, .int .i64 tm.days, .int .i64 tm.wait, .bool true, .string pu, .slice none 0 0] rfl
  have h7 := h6.set 7 (.slice none 0 0) #[.string tm.region, .int .i64 tm.channel, .bool tm.free, .int .i64 tm.days, .int .i64 tm.wait, .bool true, .string pu, .slice none 0 0] rfl
  exact bodyPost_ret (results_cell1 rfl rfl (loadAsk h7)) rfl ⟨rfl, ((((((((Hb4.out.setCell (p := ⟨w.heap.size + 1 + 1, 0, none⟩) (by show w.heap.size ≤ w.heap.size + 1 + 1; omega) _).setCell (p := ⟨w.heap.size + 1 + 1, 1, none⟩) (by show w.heap.size ≤ w.heap.size + 1 + 1; omega) _).setCell (p := ⟨w.heap.size + 1 + 1, 2, none⟩) (by show w.heap.size ≤ w.heap.size + 1 + 1; omega) _).setCell (p := ⟨w.heap.size + 1 + 1, 3, none⟩) (by show w.heap.size ≤ w.heap.size + 1 + 1; omega) _).setCell (p := ⟨w.heap.size + 1 + 1, 4, none⟩) (by show w.heap.size ≤ w.heap.size + 1 + 1; omega) _).setCell (p := ⟨w.heap.size + 1 + 1, 5, none⟩) (by show w.heap.size ≤ w.heap.size + 1 + 1; omega) _).setCell (p := ⟨w.heap.size + 1 + 1, 6, none⟩) (by show w.heap.size ≤ w.heap.size + 1 + 1; omega) _).setCell (p := ⟨w.heap.size + 1 + 1, 7, none⟩) (by show w.heap.size ≤ w.heap.size + 1 + 1; omega) _)⟩
set_option maxHeartbeats 4000000 in
set_option maxRecDepth 100000 in
/-- nothing was said, all that is asked is right, and the term needs nothing -/
theorem mayNil_any (N : Nat → Prop) (A : Option Addr) (p : List Purp) (c : Nat) (pu rg : ByteArray) (ch at' k : Int) (t : ByteArray) (tm : PTerm) (w : World) (hS : Sl rPurp N w A p) (hok : PolOk p) (hrg : rg.size ≤ 1000000000) (hts : t.size ≤ 1000000) (hM : MaxL w)
    (h1 : policyFault p = 0) (h2 : L.idFault k t = 0) (h3 : qErr p pu rg ch at' = 0) (ht : termAt p pu rg ch = some tm) (hfr : tm.free = true) :
    Calls Tryz.prog 64 #[.slice A p.length c, .slice none 0 0, .agg #[.int .i64 k, .string t], .string pu, .string rg, .int .i64 ch, .int .i64 at'] w fun e w' => e = .returned (.tuple #[.agg (aCs true 1 0), .int .i64 0]) ∧ Below w.heap.size w w' := by
  have Hall := Lib.hid (fun X w' (h : Below w.heap.size w w') (hX : LV w' X #[.int .i64 k, .string t] 29) => checkAllNil_any N A p c pu rg ch at' X k t w' (hS.keepB h) hok hrg hts (hM.below h) hX h1 h2 h3)
  have Hask := Lib.hid (fun w' (h : Below w.heap.size w w') => askNil_any N A p c pu rg ch at' k t tm w' (hS.keepB h) (policy_good h1) ht)
  have Hans := Lib.hid (fun w' => answerNil_any tm hfr pu at' w')
  clear hS hok hM h1 h2 h3 ht hfr
  have lvI := ((LV.new w w.heap.size #[.int .i64 k, .string t] 29 rfl).alloc (.cells (aCs false 0 0) 105)).alloc (.cells (qCs A p.length c pu rg ch at') 96)
  have lvA := (LV.new (w.alloc (.cells #[.int .i64 k, .string t] 29)) (w.heap.size + 1) (aCs false 0 0) 105 (by simp)).alloc (.cells (qCs A p.length c pu rg ch at') 96)
  have lvQ := LV.new ((w.alloc (.cells #[.int .i64 k, .string t] 29)).alloc (.cells (aCs false 0 0) 105)) (w.heap.size + 1 + 1) (qCs A p.length c pu rg ch at') 96 (by simp)
  have hb0 : Below w.heap.size w (((w.alloc (.cells #[.int .i64 k, .string t] 29)).alloc (.cells (aCs false 0 0) 105)).alloc (.cells (qCs A p.length c pu rg ch at') 96)) := (((Below.refl _ _).alloc (Nat.le_refl _) _).alloc (by simp) _).alloc (by simp; omega) _
  go_enter Tryz.func64, Tryz.ntmps64
  go_upto_region 2 with fail
  generalize ((w.alloc (.cells #[.int .i64 k, .string t] 29)).alloc (.cells (aCs false 0 0) 105)).alloc (.cells (qCs A p.length c pu rg ch at') 96) = w1 at *
  have q0 : w1.cell? ⟨w.heap.size + 1 + 1, 0, none⟩ = some (.slice A p.length c) := lvQ.cell 0 _ rfl
  have q1 : w1.cell? ⟨w.heap.size + 1 + 1, 1, none⟩ = some (.string pu) := lvQ.cell 1 _ rfl
  have q2 : w1.cell? ⟨w.heap.size + 1 + 1, 2, none⟩ = some (.string rg) := lvQ.cell 2 _ rfl
  have q3 : w1.cell? ⟨w.heap.size + 1 + 1, 3, none⟩ = some (.int .i64 ch) := lvQ.cell 3 _ rfl
  have q4 : w1.cell? ⟨w.heap.size + 1 + 1, 4, none⟩ = some (.int .i64 at') := lvQ.cell 4 _ rfl
  have i0 : w1.cell? ⟨w.heap.size, 0, none⟩ = some (.int .i64 k) := lvI.cell 0 _ rfl
  have i1 : w1.cell? ⟨w.heap.size, 1, none⟩ = some (.string t) := lvI.cell 1 _ rfl
  have hb2 : Below w1.heap.size w1 (w1.alloc (.cells #[.int .i64 k, .string t] 29)) := (Below.refl _ _).alloc (Nat.le_refl _) _
  have lvX := LV.new w1 w1.heap.size #[.int .i64 k, .string t] 29 rfl
  have Hb2 : Hid (Below w.heap.size w (w1.alloc (.cells #[.int .i64 k, .string t] 29))) := hb0.alloc hb0.size _
  have mI := LV.kb3 lvI hb2 lvI.lt
  have mA := LV.kb3 lvA hb2 lvA.lt
  have mQ := LV.kb3 lvQ hb2 lvQ.lt
  have Hc := Lib.hid (Hall.out _ _ Hb2.out lvX)
  clear lvI lvA lvQ lvX hb2 Hall
  go_wp2_with fail
  ((with_reducible refine (Hc.out).mono ?_); rintro e w3 ⟨rfl, hl3⟩)
  have nI := LV.kb3 mI hl3 mI.lt
  have nA := LV.kb3 mA hl3 mA.lt
  have nQ := LV.kb3 mQ hl3 mQ.lt
  have Hb3 : Hid (Below w.heap.size w w3) := Hb2.out.trans (hl3.mono Hb2.out.size)
  clear q0 q1 q2 q3 q4 i0 i1 mI mA mQ hl3 Hc Hb2 hb0
  have q0 : w3.cell? ⟨w.heap.size + 1 + 1, 0, none⟩ = some (.slice A p.length c) := nQ.cell 0 _ rfl
  have q1 : w3.cell? ⟨w.heap.size + 1 + 1, 1, none⟩ = some (.string pu) := nQ.cell 1 _ rfl
  have q2 : w3.cell? ⟨w.heap.size + 1 + 1, 2, none⟩ = some (.string rg) := nQ.cell 2 _ rfl
  have q3 : w3.cell? ⟨w.heap.size + 1 + 1, 3, none⟩ = some (.int .i64 ch) := nQ.cell 3 _ rfl
  have q4 : w3.cell? ⟨w.heap.size + 1 + 1, 4, none⟩ = some (.int .i64 at') := nQ.cell 4 _ rfl
  have i0 : w3.cell? ⟨w.heap.size, 0, none⟩ = some (.int .i64 k) := nI.cell 0 _ rfl
  have i1 : w3.cell? ⟨w.heap.size, 1, none⟩ = some (.string t) := nI.cell 1 _ rfl
  clear nI nQ
  go_wp2_with fail
  ((with_reducible refine (Hask.out w3 Hb3.out).mono ?_); rintro e w4 ⟨rfl, hl4⟩)
  have oA := LV.kb3 nA hl4 nA.lt
  have Hb4 : Hid (Below w.heap.size w w4) := Hb3.out.trans (hl4.mono Hb3.out.size)
  clear q0 q1 q2 q3 q4 i0 i1 nA hl4 Hask Hb3
  go_wp2_with fail
  ((with_reducible refine (Hans.out w4).mono ?_); rintro e w5 ⟨rfl, hl5⟩)
  have rA := LV.kb3 oA hl5 oA.lt
  have Hb5 : Hid (Below w.heap.size w w5) := Hb4.out.trans (hl5.mono Hb4.out.size)
  clear oA hl5 Hans Hb4
  have a0 : w5.cell? ⟨w.heap.size + 1, 0, none⟩ = some (.bool false) := rA.cell 0 _ rfl
  have a1 : w5.cell? ⟨w.heap.size + 1, 1, none⟩ = some (.int .i64 0) := rA.cell 1 _ rfl
  have a2 : w5.cell? ⟨w.heap.size + 1, 2, none⟩ = some (.int .i64 0) := rA.cell 2 _ rfl
  have f0 := rA.free 0
  have f1 := rA.free 1
  have f2 := rA.free 2
  go_wp2_with fail
  exact bodyPost_ret (results_cs rfl rfl rfl (loadA (fillA_lv rA true 1 0))) rfl ⟨rfl, fillA_below Hb5.out (Nat.le_succ _) true 1 0⟩
end Go.Proofs.YthmkphmciiiagaaGreatDoor
