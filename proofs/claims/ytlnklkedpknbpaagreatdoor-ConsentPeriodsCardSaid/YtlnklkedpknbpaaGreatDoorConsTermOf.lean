/- What consent.termOf and TermOf return. -/
import Derived.Test.YtlnklkedpknbpaaGreatDoorConsTerm
namespace Go.Proofs.YtlnklkedpknbpaaGreatDoor
open Go.RowKit
abbrev pZero : Purp := ⟨⟨#[]⟩, []⟩
abbrev tZero : PTerm := ⟨⟨#[]⟩, 0, false, 0, 0⟩
/-- the term of a purpose -/
def termAt (xs : List Purp) (nm rg : ByteArray) (ch : Int) : Option PTerm := (purpAt xs nm).bind (fun p => findT p.terms rg ch)
theorem purpAt_mem {xs : List Purp} {nm : ByteArray} {p : Purp} (h : purpAt xs nm = some p) : p ∈ xs := List.mem_of_find?_eq_some h
theorem purp_rise {xs : List Purp} (hg : GoodPol xs) (nm : ByteArray) : RiseT ((purpAt xs nm).getD pZero).terms ∧ ((purpAt xs nm).getD pZero).terms.length ≤ 160 := by
  cases h : purpAt xs nm with
  | none => exact ⟨fun _ _ _ _ _ h => by simp at h, by simp⟩
  | some p => exact ⟨(hg.ps p (purpAt_mem h)).rise, (hg.ps p (purpAt_mem h)).len⟩
theorem termAt_is (xs : List Purp) (nm rg : ByteArray) (ch : Int) : termAt xs nm rg ch = findT ((purpAt xs nm).getD pZero).terms rg ch := by
  unfold termAt
  cases purpAt xs nm with
  | none => rfl
  | some p => rfl
/-- a term is written into this block -/
abbrev fillT (w : World) (X : Nat) (t : PTerm) : World := ((((w.setCell ⟨X, 0, none⟩ (.string t.region)).setCell ⟨X, 1, none⟩ (.int .i64 t.channel)).setCell ⟨X, 2, none⟩ (.bool t.free)).setCell ⟨X, 3, none⟩ (.int .i64 t.days)).setCell ⟨X, 4, none⟩ (.int .i64 t.wait)
theorem tLV.fill {w : World} {X : Nat} {s : PTerm} (h : tLV w X s) (t : PTerm) : tLV (fillT w X t) X t :=
  ((((h.set 0 (.string t.region) _ rfl).set 1 (.int .i64 t.channel) _ rfl).set 2 (.bool t.free) _ rfl).set 3 (.int .i64 t.days) _ rfl).set 4 (.int .i64 t.wait) _ rfl
theorem below_fillT {B : Nat} {w0 w : World} (h : Below B w0 w) {X : Nat} (hX : B ≤ X) (t : PTerm) : Below B w0 (fillT w X t) :=
  ((((h.setCell (p := ⟨X, 0, none⟩) hX _).setCell (p := ⟨X, 1, none⟩) hX _).setCell (p := ⟨X, 2, none⟩) hX _).setCell (p := ⟨X, 3, none⟩) hX _).setCell (p := ⟨X, 4, none⟩) hX _
set_option maxHeartbeats 4000000 in
set_option maxRecDepth 100000 in
theorem termOf_any (N : Nat → Prop) (A : Option Addr) (xs : List Purp) (nm rg : ByteArray) (ch : Int) (c : Nat) (w : World) (hS : Sl rPurp N w A xs) (hg : GoodPol xs) :
    Calls Tryz.prog 66 #[.slice A xs.length c, .string nm, .string rg, .int .i64 ch] w fun e w' => e = .returned (.tuple #[tVal ((termAt xs nm rg ch).getD tZero), .bool (termAt xs nm rg ch).isSome]) ∧ Below w.heap.size w w' := by
  have hb0 : Below w.heap.size w (w.alloc (.cells #[.string ⟨#[]⟩, .int .i64 0, .bool false, .int .i64 0, .int .i64 0] 34)) := (Below.refl _ _).alloc (Nat.le_refl _) _
  have lv0 : tLV _ w.heap.size tZero := LV.new w w.heap.size #[.string ⟨#[]⟩, .int .i64 0, .bool false, .int .i64 0, .int .i64 0] 34 rfl
  have Hp := Lib.hid (purposeOf_any N A xs nm c _ (hS.keepB hb0) (by have := hg.len; omega) hg.rise)
  have Hri := Lib.hid (purp_rise hg nm)
  obtain ⟨o, HO⟩ : ∃ o, Hid (termAt xs nm rg ch = o) := ⟨_, Lib.hid rfl⟩
  have HO2 : Hid (findT ((purpAt xs nm).getD pZero).terms rg ch = o) := by show _ = _; rw [← HO.out, termAt_is]
  rw [HO.out]
  generalize hoP : purpAt xs nm = oP at *
  clear HO hS hg hoP
  go_enter Tryz.func66, Tryz.ntmps66
  go_wp2_with fail
  ((with_reducible refine (Hp.out).mono ?_); rintro e w1 ⟨At, ct, rfl, hst, hbl⟩)
  have lv1 : tLV w1 w.heap.size tZero := LV.kb3 lv0 hbl lv0.lt
  have HB1 : Hid (Below w.heap.size w w1) := hb0.trans (hbl.mono hb0.size)
  clear lv0 hb0 Hp hbl
  generalize oP.getD pZero = p at *
  generalize oP.isSome = b at *
  have hb1 : Below w1.heap.size w1 (w1.alloc (.cells #[.string p.name, .slice At p.terms.length ct] 58)) := (Below.refl _ _).alloc (Nat.le_refl _) _
  have lvP := LV.new w1 w1.heap.size #[.string p.name, .slice At p.terms.length ct] 58 rfl
  have lv2 : tLV _ w.heap.size tZero := LV.kb3 lv1 hb1 lv1.lt
  have HB2 : Hid (Below w.heap.size w (w1.alloc (.cells #[.string p.name, .slice At p.terms.length ct] 58))) := HB1.out.alloc HB1.out.size _
  have Hst := Lib.hid (hst.keepB hb1)
  clear hst hb1 lv1
  go_upto_region 2 with fail
  generalize hw2 : w1.alloc (.cells #[.string p.name, .slice At p.terms.length ct] 58) = w2 at *
  obtain ⟨Y, hY⟩ : ∃ Y, Y = w1.heap.size := ⟨_, rfl⟩
  rw [← hY] at lvP ⊢
  clear hY hw2
  have c1 : w2.cell? ⟨Y, 1, none⟩ = some (.slice At p.terms.length ct) := lvP.cell 1 _ rfl
  have Hb := Lib.hid (bsearchT_any N At p.terms ⟨rg, ch, false, 0, 0⟩ ct w2 Hst.out (by have := Hri.out.2; omega) Hri.out.1)
  unfold GivesT at Hb
  rw [HO2.out] at Hb
  go_wp2_with fail
  ((with_reducible refine (Hb.out).mono ?_); rintro e w3 ⟨i, q, rfl, hi, hq1, hq2, hbl⟩)
  have lv3 : tLV w3 w.heap.size tZero := LV.kb3 lv2 hbl lv2.lt
  have lvP3 := LV.kb3 lvP hbl lvP.lt
  have HB3 : Hid (Below w.heap.size w w3) := HB2.out.trans (hbl.mono HB2.out.size)
  have Hst3 := Lib.hid (Sl.keepB Hst.out hbl)
  have Hq1 := Lib.hid hq1
  have Hq2 := Lib.hid hq2
  have x0 : w3.cell? ⟨w.heap.size, 0, none⟩ = some (.string ⟨#[]⟩) := lv3.cell 0 _ rfl
  have x1 : w3.cell? ⟨w.heap.size, 1, none⟩ = some (.int .i64 0) := lv3.cell 1 _ rfl
  have x2 : w3.cell? ⟨w.heap.size, 2, none⟩ = some (.bool false) := lv3.cell 2 _ rfl
  have x3 : w3.cell? ⟨w.heap.size, 3, none⟩ = some (.int .i64 0) := lv3.cell 3 _ rfl
  have x4 : w3.cell? ⟨w.heap.size, 4, none⟩ = some (.int .i64 0) := lv3.cell 4 _ rfl
  have f0 := lv3.free 0
  have f1 := lv3.free 1
  have f2 := lv3.free 2
  have f3 := lv3.free 3
  have f4 := lv3.free 4
  have y1 : w3.cell? ⟨Y, 1, none⟩ = some (.slice At p.terms.length ct) := lvP3.cell 1 _ rfl
  clear hbl hq1 hq2 c1 Hb lv2 lvP lvP3 Hst HB2
  cases q
  · obtain rfl : o = none := Hq2.out rfl
    clear Hq1 Hq2 HO2
    go_wp2_with fail
    exact bodyPost_ret (results_cs rfl rfl rfl (loadT (tLV.fill lv3 tZero))) rfl ⟨rfl, below_fillT HB3.out (Nat.le_refl _) tZero⟩
  · obtain ⟨t, ht, rfl⟩ := Hq1.out rfl
    obtain ⟨blk, off, rfl, hblk, d0, d1, d2, d3, d4⟩ := Hst3.out.term i t ht
    have hlt := lt_of_get ht
    clear Hq1 Hq2 HO2 ht
    go_wp2_with fail
    exact bodyPost_ret (results_cs rfl rfl rfl (loadT (tLV.fill lv3 t))) rfl ⟨rfl, below_fillT HB3.out (Nat.le_refl _) t⟩
def termErr (xs : List Purp) (nm rg : ByteArray) (ch : Int) : Int := if policyFault xs ≠ 0 then policyFault xs else if hasP xs nm = false then 8 else if isCh ch = false then 4 else if (termAt xs nm rg ch).isSome = false then 16 else 0
def termRes (xs : List Purp) (nm rg : ByteArray) (ch : Int) : PTerm := if termErr xs nm rg ch = 0 then (termAt xs nm rg ch).getD tZero else tZero
/-- the answer as its parts say it -/
structure TermSays (F : Int) (P C : Bool) (o : Option PTerm) (E : Int) (T : PTerm) : Prop where
  e : E = if F ≠ 0 then F else if P = false then 8 else if C = false then 4 else if o.isSome = false then 16 else 0
  t : T = if E = 0 then o.getD tZero else tZero
theorem termSays (xs : List Purp) (nm rg : ByteArray) (ch : Int) : TermSays (policyFault xs) (hasP xs nm) (isCh ch) (termAt xs nm rg ch) (termErr xs nm rg ch) (termRes xs nm rg ch) := ⟨rfl, rfl⟩
theorem TermSays.one {F : Int} {P C : Bool} {o : Option PTerm} {E : Int} {T : PTerm} (h : TermSays F P C o E T) (hF : F ≠ 0) : E = F ∧ T = tZero := by
  have e : E = F := by rw [h.e, if_pos hF]
  exact ⟨e, by rw [h.t, if_neg (by rw [e]; exact hF)]⟩
theorem TermSays.two {C : Bool} {o : Option PTerm} {E : Int} {T : PTerm} (h : TermSays 0 false C o E T) : E = 8 ∧ T = tZero := by
  have e : E = 8 := by rw [h.e]; rfl
  exact ⟨e, by rw [h.t, e]; rfl⟩
theorem TermSays.three {o : Option PTerm} {E : Int} {T : PTerm} (h : TermSays 0 true false o E T) : E = 4 ∧ T = tZero := by
  have e : E = 4 := by rw [h.e]; rfl
  exact ⟨e, by rw [h.t, e]; rfl⟩
theorem TermSays.four {E : Int} {T : PTerm} (h : TermSays 0 true true none E T) : E = 16 ∧ T = tZero := by
  have e : E = 16 := by rw [h.e]; rfl
  exact ⟨e, by rw [h.t, e]; rfl⟩
theorem TermSays.five {t : PTerm} {E : Int} {T : PTerm} (h : TermSays 0 true true (some t) E T) : E = 0 ∧ T = t := by
  have e : E = 0 := by rw [h.e]; rfl
  exact ⟨e, by rw [h.t, e]; rfl⟩
set_option maxHeartbeats 4000000 in
set_option maxRecDepth 100000 in
theorem TermOf_any (N : Nat → Prop) (A : Option Addr) (xs : List Purp) (nm rg : ByteArray) (ch : Int) (c : Nat) (w : World) (hS : Sl rPurp N w A xs) (hok : PolOk xs) :
    Calls Tryz.prog 14 #[.slice A xs.length c, .string nm, .string rg, .int .i64 ch] w fun e w' => e = .returned (.tuple #[tVal (termRes xs nm rg ch), .int .i64 (termErr xs nm rg ch)]) ∧ Below w.heap.size w w' := by
  have hb0 : Below w.heap.size w (w.alloc (.cells #[.string ⟨#[]⟩, .int .i64 0, .bool false, .int .i64 0, .int .i64 0] 34)) := (Below.refl _ _).alloc (Nat.le_refl _) _
  have lv0 : tLV _ w.heap.size tZero := LV.new w w.heap.size #[.string ⟨#[]⟩, .int .i64 0, .bool false, .int .i64 0, .int .i64 0] 34 rfl
  have HS := Lib.hid hS
  have Hc := Lib.hid (checkPolicy_any N A xs c _ (hS.keepB hb0) hok)
  have Hg : Hid (policyFault xs = 0 → GoodPol xs) := fun h => policy_good h
  have Hsay := Lib.hid (termSays xs nm rg ch)
  have Hhas := Lib.hid (purpAt_has xs nm)
  have Hch := Lib.hid (fun w => cchannel_any ch w)
  generalize hF : policyFault xs = F at *
  generalize hE : termErr xs nm rg ch = E at *
  generalize hT : termRes xs nm rg ch = T at *
  clear hS hok hF hE hT
  go_enter Tryz.func14, Tryz.ntmps14
  go_wp2_with fail
  ((with_reducible refine (Hc.out).mono ?_); rintro e w1 ⟨rfl, hbl⟩)
  have lv1 : tLV w1 w.heap.size tZero := LV.kb3 lv0 hbl lv0.lt
  have HB1 : Hid (Below w.heap.size w w1) := hb0.trans (hbl.mono hb0.size)
  clear lv0 hb0 Hc hbl
  by_cases hF : F = 0
  · subst hF
    have hg := Hg.out rfl
    have Hp := Lib.hid (purposeOf_any N A xs nm c w1 (HS.out.keepB HB1.out) (by have := hg.len; omega) hg.rise)
    have Ht := Lib.hid (fun w' (h : Below w.heap.size w w') => termOf_any N A xs nm rg ch c w' (HS.out.keepB h) hg)
    clear hg Hg HS
    unfold GivesPurp at Hp
    rw [Hhas.out] at Hp
    generalize hasP xs nm = P at *
    generalize termAt xs nm rg ch = o at *
    generalize (purpAt xs nm).getD pZero = p at *
    clear Hhas
    go_wp2_with fail
    ((with_reducible refine (Hp.out).mono ?_); rintro e w2 ⟨At, ct, rfl, _, hbl⟩)
    have lv2 : tLV w2 w.heap.size tZero := LV.kb3 lv1 hbl lv1.lt
    have HB2 : Hid (Below w.heap.size w w2) := HB1.out.trans (hbl.mono HB1.out.size)
    have hb2 : Below w2.heap.size w2 (w2.alloc (.cells #[.string p.name, .slice At p.terms.length ct] 58)) := (Below.refl _ _).alloc (Nat.le_refl _) _
    have lv3 : tLV _ w.heap.size tZero := LV.kb3 lv2 hb2 lv2.lt
    have HB3 : Hid (Below w.heap.size w (w2.alloc (.cells #[.string p.name, .slice At p.terms.length ct] 58))) := HB2.out.alloc HB2.out.size _
    clear hbl hb2 lv1 lv2 Hp HB1
    go_upto_region 5 with fail
    generalize w2.alloc (.cells #[.string p.name, .slice At p.terms.length ct] 58) = w3 at *
    cases P
    · obtain ⟨rfl, rfl⟩ := Hsay.out.two
      have x0 : w3.cell? ⟨w.heap.size, 0, none⟩ = some (.string ⟨#[]⟩) := lv3.cell 0 _ rfl
      have x1 : w3.cell? ⟨w.heap.size, 1, none⟩ = some (.int .i64 0) := lv3.cell 1 _ rfl
      have x2 : w3.cell? ⟨w.heap.size, 2, none⟩ = some (.bool false) := lv3.cell 2 _ rfl
      have x3 : w3.cell? ⟨w.heap.size, 3, none⟩ = some (.int .i64 0) := lv3.cell 3 _ rfl
      have x4 : w3.cell? ⟨w.heap.size, 4, none⟩ = some (.int .i64 0) := lv3.cell 4 _ rfl
      have f0 := lv3.free 0
      have f1 := lv3.free 1
      have f2 := lv3.free 2
      have f3 := lv3.free 3
      have f4 := lv3.free 4
      go_wp2_with fail
      exact bodyPost_ret (results_cs rfl rfl rfl (loadT (tLV.fill lv3 tZero))) rfl ⟨rfl, below_fillT HB3.out (Nat.le_refl _) tZero⟩
    · generalize isCh ch = C at *
      go_wp2_with fail
      ((with_reducible refine (Hch.out _).mono ?_); rintro e _ ⟨rfl, rfl⟩)
      clear Hch
      cases C
      · obtain ⟨rfl, rfl⟩ := Hsay.out.three
        have x0 : w3.cell? ⟨w.heap.size, 0, none⟩ = some (.string ⟨#[]⟩) := lv3.cell 0 _ rfl
        have x1 : w3.cell? ⟨w.heap.size, 1, none⟩ = some (.int .i64 0) := lv3.cell 1 _ rfl
        have x2 : w3.cell? ⟨w.heap.size, 2, none⟩ = some (.bool false) := lv3.cell 2 _ rfl
        have x3 : w3.cell? ⟨w.heap.size, 3, none⟩ = some (.int .i64 0) := lv3.cell 3 _ rfl
        have x4 : w3.cell? ⟨w.heap.size, 4, none⟩ = some (.int .i64 0) := lv3.cell 4 _ rfl
        have f0 := lv3.free 0
        have f1 := lv3.free 1
        have f2 := lv3.free 2
        have f3 := lv3.free 3
        have f4 := lv3.free 4
        go_wp2_with fail
        exact bodyPost_ret (results_cs rfl rfl rfl (loadT (tLV.fill lv3 tZero))) rfl ⟨rfl, below_fillT HB3.out (Nat.le_refl _) tZero⟩
      · go_wp2_with fail
        ((with_reducible refine (Ht.out w3 HB3.out).mono ?_); rintro e w4 ⟨rfl, hbl⟩)
        have lv4 : tLV w4 w.heap.size tZero := LV.kb3 lv3 hbl lv3.lt
        have HB4 : Hid (Below w.heap.size w w4) := HB3.out.trans (hbl.mono HB3.out.size)
        clear Ht hbl lv3 HB2
        cases o with
        | none =>
          obtain ⟨rfl, rfl⟩ := Hsay.out.four
          have hb2 : Below w4.heap.size w4 (w4.alloc (.cells #[.string ⟨#[]⟩, .int .i64 0, .bool false, .int .i64 0, .int .i64 0] 34)) := (Below.refl _ _).alloc (Nat.le_refl _) _
          have lv5 : tLV _ w.heap.size tZero := LV.kb3 lv4 hb2 lv4.lt
          have HB5 : Hid (Below w.heap.size w (w4.alloc (.cells #[.string ⟨#[]⟩, .int .i64 0, .bool false, .int .i64 0, .int .i64 0] 34))) := HB4.out.alloc HB4.out.size _
          clear hb2 lv4
          simp only [Option.getD_none, Option.isSome_none]
          go_upto_region 10 with fail
          generalize w4.alloc (.cells #[.string ⟨#[]⟩, .int .i64 0, .bool false, .int .i64 0, .int .i64 0] 34) = w5 at *
          have x0 : w5.cell? ⟨w.heap.size, 0, none⟩ = some (.string ⟨#[]⟩) := lv5.cell 0 _ rfl
          have x1 : w5.cell? ⟨w.heap.size, 1, none⟩ = some (.int .i64 0) := lv5.cell 1 _ rfl
          have x2 : w5.cell? ⟨w.heap.size, 2, none⟩ = some (.bool false) := lv5.cell 2 _ rfl
          have x3 : w5.cell? ⟨w.heap.size, 3, none⟩ = some (.int .i64 0) := lv5.cell 3 _ rfl
          have x4 : w5.cell? ⟨w.heap.size, 4, none⟩ = some (.int .i64 0) := lv5.cell 4 _ rfl
          have f0 := lv5.free 0
          have f1 := lv5.free 1
          have f2 := lv5.free 2
          have f3 := lv5.free 3
          have f4 := lv5.free 4
          go_wp2_with fail
          exact bodyPost_ret (results_cs rfl rfl rfl (loadT (tLV.fill lv5 tZero))) rfl ⟨rfl, below_fillT HB5.out (Nat.le_refl _) tZero⟩
        | some t =>
          obtain ⟨rfl, rfl⟩ := Hsay.out.five
          have hb2 : Below w4.heap.size w4 (w4.alloc (.cells #[.string T.region, .int .i64 T.channel, .bool T.free, .int .i64 T.days, .int .i64 T.wait] 34)) := (Below.refl _ _).alloc (Nat.le_refl _) _
          have lvN : tLV _ w4.heap.size T := LV.new w4 w4.heap.size #[.string T.region, .int .i64 T.channel, .bool T.free, .int .i64 T.days, .int .i64 T.wait] 34 rfl
          have lv5 : tLV _ w.heap.size tZero := LV.kb3 lv4 hb2 lv4.lt
          have HB5 : Hid (Below w.heap.size w (w4.alloc (.cells #[.string T.region, .int .i64 T.channel, .bool T.free, .int .i64 T.days, .int .i64 T.wait] 34))) := HB4.out.alloc HB4.out.size _
          clear hb2 lv4
          simp only [Option.getD_some, Option.isSome_some]
          go_upto_region 10 with fail
          generalize w4.alloc (.cells #[.string T.region, .int .i64 T.channel, .bool T.free, .int .i64 T.days, .int .i64 T.wait] 34) = w5 at *
          obtain ⟨Y, hY⟩ : ∃ Y, Y = w4.heap.size := ⟨_, rfl⟩
          rw [← hY] at lvN ⊢
          clear hY
          have y0 : w5.cell? ⟨Y, 0, none⟩ = some (.string T.region) := lvN.cell 0 _ rfl
          have y1 : w5.cell? ⟨Y, 1, none⟩ = some (.int .i64 T.channel) := lvN.cell 1 _ rfl
          have y2 : w5.cell? ⟨Y, 2, none⟩ = some (.bool T.free) := lvN.cell 2 _ rfl
          have y3 : w5.cell? ⟨Y, 3, none⟩ = some (.int .i64 T.days) := lvN.cell 3 _ rfl
          have y4 : w5.cell? ⟨Y, 4, none⟩ = some (.int .i64 T.wait) := lvN.cell 4 _ rfl
          clear lvN
          have x0 : w5.cell? ⟨w.heap.size, 0, none⟩ = some (.string ⟨#[]⟩) := lv5.cell 0 _ rfl
          have x1 : w5.cell? ⟨w.heap.size, 1, none⟩ = some (.int .i64 0) := lv5.cell 1 _ rfl
          have x2 : w5.cell? ⟨w.heap.size, 2, none⟩ = some (.bool false) := lv5.cell 2 _ rfl
          have x3 : w5.cell? ⟨w.heap.size, 3, none⟩ = some (.int .i64 0) := lv5.cell 3 _ rfl
          have x4 : w5.cell? ⟨w.heap.size, 4, none⟩ = some (.int .i64 0) := lv5.cell 4 _ rfl
          have f0 := lv5.free 0
          have f1 := lv5.free 1
          have f2 := lv5.free 2
          have f3 := lv5.free 3
          have f4 := lv5.free 4
          go_wp2_with fail
          exact bodyPost_ret (results_cs rfl rfl rfl (loadT (tLV.fill lv5 T))) rfl ⟨rfl, below_fillT HB5.out (Nat.le_refl _) T⟩
  · obtain ⟨rfl, rfl⟩ := Hsay.out.one hF
    have hF' : (E != 0) = true := by simpa using hF
    have x0 : w1.cell? ⟨w.heap.size, 0, none⟩ = some (.string ⟨#[]⟩) := lv1.cell 0 _ rfl
    have x1 : w1.cell? ⟨w.heap.size, 1, none⟩ = some (.int .i64 0) := lv1.cell 1 _ rfl
    have x2 : w1.cell? ⟨w.heap.size, 2, none⟩ = some (.bool false) := lv1.cell 2 _ rfl
    have x3 : w1.cell? ⟨w.heap.size, 3, none⟩ = some (.int .i64 0) := lv1.cell 3 _ rfl
    have x4 : w1.cell? ⟨w.heap.size, 4, none⟩ = some (.int .i64 0) := lv1.cell 4 _ rfl
    have f0 := lv1.free 0
    have f1 := lv1.free 1
    have f2 := lv1.free 2
    have f3 := lv1.free 3
    have f4 := lv1.free 4
    go_wp2_with fail
    exact bodyPost_ret (results_cs rfl rfl rfl (loadT (tLV.fill lv1 tZero))) rfl ⟨rfl, below_fillT HB1.out (Nat.le_refl _) tZero⟩
end Go.Proofs.YtlnklkedpknbpaaGreatDoor
