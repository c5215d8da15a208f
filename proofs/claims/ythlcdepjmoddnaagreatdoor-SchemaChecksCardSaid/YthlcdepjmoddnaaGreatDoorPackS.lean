/- Several texts in one: Suit, SuitRef. -/
import Derived.Test.YthlcdepjmoddnaaGreatDoorPackE
import Derived.Test.YthlcdepjmoddnaaGreatDoorPackV
import Derived.Test.YthlcdepjmoddnaaGreatDoorPackB
import Derived.Test.YthlcdepjmoddnaaGreatDoorPackM
/- What event.suits and CheckEvent return. -/
namespace Go.Proofs.YthlcdepjmoddnaaGreatDoor
open Go.RowKit
/-- where a name stands, or would stand, in a list -/
def GivesAt {α : Type} (xs : List α) (o : Option α) (w : World) (e : Ending) (w' : World) : Prop :=
  ∃ (i : Nat) (b : Bool), e = .returned (.tuple #[.int .i64 i, .bool b]) ∧ i ≤ xs.length ∧ (b = true → ∃ p, xs[i]? = some p ∧ o = some p) ∧ (b = false → o = none) ∧ Below w.heap.size w w'
theorem suits1_any (p : Scm) (At : Option Addr) (n ct : Nat) (nm : ByteArray) (w : World) :
    Calls Tryz.prog 148 #[.agg #[.string p.name, .slice At n ct], .string nm] w fun e w' => e = .returned (.int .i64 (cmpS p.name nm)) ∧ Below w.heap.size w w' := by
  have Hb : Hid (Below w.heap.size w (w.alloc (.cells #[.string p.name, .slice At n ct] 113))) := (Below.refl _ _).alloc (Nat.le_refl _) _
  go_enter Tryz.func148, Tryz.ntmps148
  go_wp2_with fail
  ((with_reducible refine (compareS_any p.name nm _).mono ?_); rintro e _ ⟨rfl, rfl⟩)
  go_wp2_with fail
  go_ret
  exact ⟨rfl, Hb.out⟩
theorem suits2_any (p : Nd) (nm : ByteArray) (w : World) :
    Calls Tryz.prog 151 #[.agg #[.string p.name, .int .i64 p.kind, .bool p.must], .string nm] w fun e w' => e = .returned (.int .i64 (cmpS p.name nm)) ∧ Below w.heap.size w w' := by
  have Hb : Hid (Below w.heap.size w (w.alloc (.cells #[.string p.name, .int .i64 p.kind, .bool p.must] 116))) := (Below.refl _ _).alloc (Nat.le_refl _) _
  go_enter Tryz.func151, Tryz.ntmps151
  go_wp2_with fail
  ((with_reducible refine (compareS_any p.name nm _).mono ?_); rintro e _ ⟨rfl, rfl⟩)
  go_wp2_with fail
  go_ret
  exact ⟨rfl, Hb.out⟩
set_option maxHeartbeats 4000000 in
set_option maxRecDepth 100000 in
theorem bsearchS_any (N : Nat → Prop) (A : Option Addr) (xs : List Scm) (nm : ByteArray) (c : Nat) (w : World) (hS : Sl rScm N w A xs) (hn : xs.length ≤ 1000) (hri : RiseS xs) :
    Calls Tryz.prog 147 #[.slice A xs.length c, .string nm, .func (.func 148) #[] #[]] w (GivesAt xs (scmAt xs nm) w) := by
  have HS := Lib.hid hS
  have Hri := Lib.hid hri
  clear hS hri
  go_enter Tryz.func147, Tryz.ntmps147
  go_wp2_with fail
  go_loopw [9, 10] (fun a b wr => ∃ i j : Nat, i ≤ j ∧ j ≤ xs.length ∧ a = .int .i64 i ∧ b = .int .i64 j ∧ (∀ p f, p < i → xs[p]? = some f → ltS f.name nm = true) ∧ (∀ p f, j ≤ p → xs[p]? = some f → ltS f.name nm = false) ∧ Below w.heap.size w wr) (fun a b _ => (intOf b - intOf a).toNat)
  case atStart => exact ⟨0, xs.length, by omega, by omega, rfl, rfl, (fun p f h => by omega), (fun p f h hp => by rw [List.getElem?_eq_none h] at hp; cases hp), Below.refl _ _⟩
  case round =>
    obtain ⟨i, j, hij, hj, rfl, rfl, hlo, hhi, hbl⟩ := hrel
    have Hlo := Lib.hid hlo
    have Hhi := Lib.hid hhi
    have hsz := hbl.size
    clear hlo hhi
    by_cases hlt : i < j
    · obtain ⟨h, hh⟩ : ∃ h : Nat, h = (i + j) / 2 := ⟨_, rfl⟩
      have h1 : i ≤ h := by omega
      have h2 : h < j := by omega
      have eh : ((i : Int) + (j : Int)) / 2 = (h : Int) := by omega
      clear hh
      obtain ⟨f, hf⟩ : ∃ f, xs[h]? = some f := ⟨_, List.getElem?_eq_getElem (by omega)⟩
      have Hf := Lib.hid hf
      clear hf
      obtain ⟨blk, off, At, ct, rfl, hblk, d0, d1, _⟩ := (HS.out.keepB hbl).scm _ f Hf.out
      go_wp2_with fail
      ((with_reducible refine (suits1_any f At f.needs.length ct nm _).mono ?_); rintro e w1 ⟨rfl, hl_w1⟩)
      have hz_w1 := hl_w1.size
      have Hb1 : Hid (Below w.heap.size w w1) := hbl.trans (hl_w1.mono hsz)
      have Hcn := Lib.hid (cmpS_neg f.name nm)
      generalize cmpS f.name nm = cm at *
      clear d0 d1
      clear hl_w1 hz_w1
      by_cases hc : cm < 0
      · have Hl : Hid (∀ p g, p < h + 1 → xs[p]? = some g → ltS g.name nm = true) := fun p g hp hg => by
          by_cases hph : p = h
          · subst hph
            rw [Hf.out] at hg
            cases hg
            exact Hcn.out.1 hc
          · exact ltS_trans (Hri.out p h g f (by omega) hg Hf.out) (Hcn.out.1 hc)
        go_wp2_with fail
        go_roundw
        case rel => exact ⟨h + 1, j, by omega, by omega, by go_num, rfl, Hl.out, Hhi.out, Hb1.out⟩
        case measure => simp [intOf]; omega
      · have hnl : ltS f.name nm = false := by
          cases hx : ltS f.name nm
          · rfl
          · exact absurd (Hcn.out.2 hx) hc
        have Hl : Hid (∀ p g, h ≤ p → xs[p]? = some g → ltS g.name nm = false) := fun p g hp hg => by
          by_cases hph : p = h
          · subst hph
            rw [Hf.out] at hg
            cases hg
            exact hnl
          · cases hx : ltS g.name nm
            · rfl
            · rw [ltS_trans (Hri.out h p f g (by omega) Hf.out hg) hx] at hnl
              cases hnl
        clear hnl
        go_wp2_with fail
        go_roundw
        case rel => exact ⟨i, h, by omega, by omega, rfl, rfl, Hlo.out, Hl.out, Hb1.out⟩
        case measure => simp [intOf]; omega
    · obtain rfl : i = j := by omega
      have Hne : Hid (∀ p g, p ≠ i → xs[p]? = some g → g.name ≠ nm) := fun p g hp hg e => by
        rcases Nat.lt_or_ge p i with hlt | hge
        · have := Hlo.out p g hlt hg
          rw [e, ltS_irr] at this
          cases this
        · by_cases hli : i < xs.length
          · have h3 := Hri.out i p xs[i] g (by omega) (List.getElem?_eq_getElem hli) hg
            rw [e] at h3
            rw [Hhi.out i xs[i] (Nat.le_refl _) (List.getElem?_eq_getElem hli)] at h3
            cases h3
          · have := lt_of_get hg
            omega
      by_cases hlen : i < xs.length
      · obtain ⟨f, hf⟩ : ∃ f, xs[i]? = some f := ⟨_, List.getElem?_eq_getElem hlen⟩
        have Hf := Lib.hid hf
        clear hf
        obtain ⟨blk, off, At, ct, rfl, hblk, d0, d1, _⟩ := (HS.out.keepB hbl).scm _ f Hf.out
        go_wp2_with fail
        ((with_reducible refine (suits1_any f At f.needs.length ct nm _).mono ?_); rintro e w1 ⟨rfl, hl_w1⟩)
        have hz_w1 := hl_w1.size
        have Hb1 : Hid (Below w.heap.size w w1) := hbl.trans (hl_w1.mono hsz)
        obtain ⟨cm, Hcm⟩ : ∃ cm, Hid (cmpS f.name nm = cm) := ⟨_, Lib.hid rfl⟩
        rw [Hcm.out]
        clear d0 d1
        clear hl_w1 hz_w1
        go_wp2_with fail
        go_ret2
        refine ⟨i, (cm == 0), rfl, by omega, fun h => ⟨f, Hf.out, find_rise (nm := Scm.name) Hri.out Hf.out ((cmpS_zero _ _).1 (by rw [Hcm.out]; simpa using h))⟩, fun h => find_no (nm := Scm.name) fun p hp e => ?_, Hb1.out⟩
        obtain ⟨q, hq⟩ := List.mem_iff_getElem?.1 hp
        by_cases hqi : q = i
        · subst hqi
          rw [Hf.out] at hq
          cases hq
          rw [← Hcm.out, (cmpS_zero _ _).2 e] at h
          cases h
        · exact Hne.out q p hqi hq e
      · go_wp2_with fail
        go_ret2
        refine ⟨i, false, rfl, by omega, (fun h => by cases h), fun _ => find_no (nm := Scm.name) fun p hp e => ?_, hbl⟩
        obtain ⟨q, hq⟩ := List.mem_iff_getElem?.1 hp
        exact Hne.out q p (by have := lt_of_get hq; omega) hq e
set_option maxHeartbeats 4000000 in
set_option maxRecDepth 100000 in
theorem bsearchN_any (N : Nat → Prop) (A : Option Addr) (xs : List Nd) (nm : ByteArray) (c : Nat) (w : World) (hS : Sl rNd N w A xs) (hn : xs.length ≤ 1000) (hri : RiseN xs) :
    Calls Tryz.prog 150 #[.slice A xs.length c, .string nm, .func (.func 151) #[] #[]] w (GivesAt xs (ndAt xs nm) w) := by
  have HS := Lib.hid hS
  have Hri := Lib.hid hri
  clear hS hri
  go_enter Tryz.func150, Tryz.ntmps150
  go_wp2_with fail
  go_loopw [9, 10] (fun a b wr => ∃ i j : Nat, i ≤ j ∧ j ≤ xs.length ∧ a = .int .i64 i ∧ b = .int .i64 j ∧ (∀ p f, p < i → xs[p]? = some f → ltS f.name nm = true) ∧ (∀ p f, j ≤ p → xs[p]? = some f → ltS f.name nm = false) ∧ Below w.heap.size w wr) (fun a b _ => (intOf b - intOf a).toNat)
  case atStart => exact ⟨0, xs.length, by omega, by omega, rfl, rfl, (fun p f h => by omega), (fun p f h hp => by rw [List.getElem?_eq_none h] at hp; cases hp), Below.refl _ _⟩
  case round =>
    obtain ⟨i, j, hij, hj, rfl, rfl, hlo, hhi, hbl⟩ := hrel
    have Hlo := Lib.hid hlo
    have Hhi := Lib.hid hhi
    have hsz := hbl.size
    clear hlo hhi
    by_cases hlt : i < j
    · obtain ⟨h, hh⟩ : ∃ h : Nat, h = (i + j) / 2 := ⟨_, rfl⟩
      have h1 : i ≤ h := by omega
      have h2 : h < j := by omega
      have eh : ((i : Int) + (j : Int)) / 2 = (h : Int) := by omega
      clear hh
      obtain ⟨f, hf⟩ : ∃ f, xs[h]? = some f := ⟨_, List.getElem?_eq_getElem (by omega)⟩
      have Hf := Lib.hid hf
      clear hf
      obtain ⟨blk, off, rfl, hblk, d0, d1, d2⟩ := (HS.out.keepB hbl).nd _ f Hf.out
      go_wp2_with fail
      ((with_reducible refine (suits2_any f nm _).mono ?_); rintro e w1 ⟨rfl, hl_w1⟩)
      have hz_w1 := hl_w1.size
      have Hb1 : Hid (Below w.heap.size w w1) := hbl.trans (hl_w1.mono hsz)
      have Hcn := Lib.hid (cmpS_neg f.name nm)
      generalize cmpS f.name nm = cm at *
      clear d0 d1 d2
      clear hl_w1 hz_w1
      by_cases hc : cm < 0
      · have Hl : Hid (∀ p g, p < h + 1 → xs[p]? = some g → ltS g.name nm = true) := fun p g hp hg => by
          by_cases hph : p = h
          · subst hph
            rw [Hf.out] at hg
            cases hg
            exact Hcn.out.1 hc
          · exact ltS_trans (Hri.out p h g f (by omega) hg Hf.out) (Hcn.out.1 hc)
        go_wp2_with fail
        go_roundw
        case rel => exact ⟨h + 1, j, by omega, by omega, by go_num, rfl, Hl.out, Hhi.out, Hb1.out⟩
        case measure => simp [intOf]; omega
      · have hnl : ltS f.name nm = false := by
          cases hx : ltS f.name nm
          · rfl
          · exact absurd (Hcn.out.2 hx) hc
        have Hl : Hid (∀ p g, h ≤ p → xs[p]? = some g → ltS g.name nm = false) := fun p g hp hg => by
          by_cases hph : p = h
          · subst hph
            rw [Hf.out] at hg
            cases hg
            exact hnl
          · cases hx : ltS g.name nm
            · rfl
            · rw [ltS_trans (Hri.out h p f g (by omega) Hf.out hg) hx] at hnl
              cases hnl
        clear hnl
        go_wp2_with fail
        go_roundw
        case rel => exact ⟨i, h, by omega, by omega, rfl, rfl, Hlo.out, Hl.out, Hb1.out⟩
        case measure => simp [intOf]; omega
    · obtain rfl : i = j := by omega
      have Hne : Hid (∀ p g, p ≠ i → xs[p]? = some g → g.name ≠ nm) := fun p g hp hg e => by
        rcases Nat.lt_or_ge p i with hlt | hge
        · have := Hlo.out p g hlt hg
          rw [e, ltS_irr] at this
          cases this
        · by_cases hli : i < xs.length
          · have h3 := Hri.out i p xs[i] g (by omega) (List.getElem?_eq_getElem hli) hg
            rw [e] at h3
            rw [Hhi.out i xs[i] (Nat.le_refl _) (List.getElem?_eq_getElem hli)] at h3
            cases h3
          · have := lt_of_get hg
            omega
      by_cases hlen : i < xs.length
      · obtain ⟨f, hf⟩ : ∃ f, xs[i]? = some f := ⟨_, List.getElem?_eq_getElem hlen⟩
        have Hf := Lib.hid hf
        clear hf
        obtain ⟨blk, off, rfl, hblk, d0, d1, d2⟩ := (HS.out.keepB hbl).nd _ f Hf.out
        go_wp2_with fail
        ((with_reducible refine (suits2_any f nm _).mono ?_); rintro e w1 ⟨rfl, hl_w1⟩)
        have hz_w1 := hl_w1.size
        have Hb1 : Hid (Below w.heap.size w w1) := hbl.trans (hl_w1.mono hsz)
        obtain ⟨cm, Hcm⟩ : ∃ cm, Hid (cmpS f.name nm = cm) := ⟨_, Lib.hid rfl⟩
        rw [Hcm.out]
        clear d0 d1 d2
        clear hl_w1 hz_w1
        go_wp2_with fail
        go_ret2
        refine ⟨i, (cm == 0), rfl, by omega, fun h => ⟨f, Hf.out, find_rise (nm := Nd.name) Hri.out Hf.out ((cmpS_zero _ _).1 (by rw [Hcm.out]; simpa using h))⟩, fun h => find_no (nm := Nd.name) fun p hp e => ?_, Hb1.out⟩
        obtain ⟨q, hq⟩ := List.mem_iff_getElem?.1 hp
        by_cases hqi : q = i
        · subst hqi
          rw [Hf.out] at hq
          cases hq
          rw [← Hcm.out, (cmpS_zero _ _).2 e] at h
          cases h
        · exact Hne.out q p hqi hq e
      · go_wp2_with fail
        go_ret2
        refine ⟨i, false, rfl, by omega, (fun h => by cases h), fun _ => find_no (nm := Nd.name) fun p hp e => ?_, hbl⟩
        obtain ⟨q, hq⟩ := List.mem_iff_getElem?.1 hp
        exact Hne.out q p (by have := lt_of_get hq; omega) hq e
theorem suitFs_at {ns : List Nd} {fs : List Fld} {k : Nat} {f : Fld} (h : fs[k]? = some f) : suitFs ns (fs.drop k) = if suitF ns f ≠ 0 then suitF ns f else suitFs ns (fs.drop (k + 1)) := by rw [drop_at3 h, suitFs]
theorem suitNs_at {fs : List Fld} {ns : List Nd} {k : Nat} {n : Nd} (h : ns[k]? = some n) : suitNs fs (ns.drop k) = if suitN fs n ≠ 0 then suitN fs n else suitNs fs (ns.drop (k + 1)) := by rw [drop_at3 h, suitNs]
theorem finds_any {fs : List Fld} {nm : ByteArray} {o : Option Fld} (h : FindsTo fs nm o) : o.isSome = fs.any (fldIs nm) := by
  rw [Bool.eq_iff_iff, List.any_eq_true]
  constructor
  · intro h2
    obtain ⟨f, rfl⟩ := Option.isSome_iff_exists.1 h2
    exact ⟨f, (h.1 f rfl).1, beqS.2 (h.1 f rfl).2⟩
  · rintro ⟨f, hf, hn⟩
    cases o with
    | some g => rfl
    | none => exact absurd (beqS.1 hn) (h.2 rfl f hf)
set_option maxHeartbeats 8000000 in
set_option maxRecDepth 100000 in
theorem suits_any (N : Nat → Prop) (A Af : Option Addr) (l : List Scm) (c cf : Nat) (x : Evt) (w : World) (hS : Sl rScm N w A l) (hg : GoodScm l) (hF : Sl rFld N w Af x.flds) (hok : EvtOk x) (hT : Tabs w) (hM : MaxL w) :
    Calls Tryz.prog 77 #[.slice A l.length c, .agg (evCs x Af cf)] w fun e w' => e = .returned (.int .i64 (if evtFault x ≠ 0 then evtFault x else suit l x)) ∧ Below w.heap.size w w' := by
  have hb0 : Below w.heap.size w (w.alloc (.cells (evCs x Af cf) 32)) := (Below.refl _ _).alloc (Nat.le_refl _) _
  have lv0 := LV.new w w.heap.size (evCs x Af cf) 32 rfl
  obtain ⟨R, HR⟩ : ∃ R, Hid ((if evtFault x ≠ 0 then evtFault x else suit l x) = R) := ⟨_, Lib.hid rfl⟩
  rw [HR.out]
  have HSl := Lib.hid (fun w' (h : Below w.heap.size w w') => hS.keepB h)
  have HFl := Lib.hid (fun w' (h : Below w.heap.size w w') => hF.keepB h)
  have Hg := Lib.hid hg
  have Hfo : Hid (evtFault x = 0 → x.flds.length ≤ 30 ∧ Rising x.flds) := fun h => by
    obtain ⟨h1, _, h3⟩ := flds_ok (evtFault_flds h)
    exact ⟨h1, h3⟩
  have Hone := Lib.hid (fun w' (h : Below w.heap.size w w') => checkOne_any N Af cf x w' (hF.keepB h) hok (Utf8Tabs_below hT h) (hM.below h))
  have Hbs := Lib.hid (fun w' (h : Below w.heap.size w w') => bsearchS_any N A l x.name c w' (hS.keepB h) (by have := hg.len; omega) hg.rise)
  clear hS hg hF hok hT hM
  obtain ⟨F, HF⟩ : ∃ F, Hid (evtFault x = F) := ⟨_, Lib.hid rfl⟩
  rw [HF.out] at HR Hfo Hone
  clear HF
  have Hb0 := Lib.hid hb0
  go_enter Tryz.func77, Tryz.ntmps77
  go_upto_region 1 with fail
  generalize w.alloc (.cells (evCs x Af cf) 32) = w1 at *
  obtain ⟨Y, hY⟩ : ∃ Y, Y = w.heap.size := ⟨_, rfl⟩
  rw [← hY] at lv0 ⊢
  have c0 := lv0.all
  clear hb0 hY
  go_wp2_with fail
  ((with_reducible refine (Hone.out w1 Hb0.out).mono ?_); rintro e w2 ⟨rfl, hl2⟩)
  have Hb2 : Hid (Below w.heap.size w w2) := Hb0.out.trans (hl2.mono Hb0.out.size)
  replace lv0 := LV.kb3 lv0 hl2 lv0.lt
  replace c0 := lv0.all
  clear hl2 Hone Hb0
  by_cases hF : F = 0
  · obtain ⟨hfl, hfr⟩ := Hfo.out hF
    have Hfr := Lib.hid hfr
    have Hn := Lib.hid (step_go HR.out hF)
    subst hF
    clear HR Hfo hfr
    unfold suit at Hn
    go_wp2_with fail
    ((with_reducible refine (Hbs.out w2 Hb2.out).mono ?_); rintro e w3 ⟨i, b, rfl, hi, hb1, hb2, hl3⟩)
    have Hb3 : Hid (Below w.heap.size w w3) := Hb2.out.trans (hl3.mono Hb2.out.size)
    replace lv0 := LV.kb3 lv0 hl3 lv0.lt
    replace c0 := lv0.all
    have H1 := Lib.hid hb1
    have H2 := Lib.hid hb2
    clear hl3 Hbs Hb2 hb1 hb2
    cases b
    · have Hn2 : Hid (8 = R) := by show _ = _; rw [← Hn.out, H2.out rfl]
      clear H1 H2 Hn
      go_wp2_with fail
      go_ret
      exact ⟨ret_i Hn2.out, Hb3.out⟩
    · obtain ⟨s, hs, ho⟩ := H1.out rfl
      have Hn2 : Hid ((if suitFs s.needs x.flds ≠ 0 then suitFs s.needs x.flds else suitNs x.flds s.needs) = R) := by show _ = _; rw [← Hn.out, ho]; rfl
      have hsm := List.mem_of_getElem? hs
      have hnl := Hg.out.nl s hsm
      have Hrn := Lib.hid (Hg.out.nr s hsm)
      obtain ⟨blk, off, An, cn, rfl, hblk, d0, d1, hst⟩ := (HSl.out w3 Hb3.out).scm i s hs
      have Hst := Lib.hid hst
      have hil := lt_of_get hs
      clear Hn H1 H2 hst hs ho hsm
      go_wp2_with fail
      clear d0 d1
      go_loopw [39] (fun i wr => ∃ k : Nat, k ≤ x.flds.length ∧ i = .int .i64 k ∧ (if suitFs s.needs (x.flds.drop k) ≠ 0 then suitFs s.needs (x.flds.drop k) else suitNs x.flds s.needs) = R ∧ Below w3.heap.size w3 wr) (fun i _ => x.flds.length - (intOf i).toNat)
      case atStart => exact ⟨0, Nat.zero_le _, rfl, Hn2.out, Below.refl _ _⟩
      case round =>
        clear Hn2 c0
        obtain ⟨k, hk, rfl, hr, hbl⟩ := hrel
        have Hr := Lib.hid hr
        have Hbr : Hid (Below w.heap.size w wr) := Hb3.out.trans (hbl.mono Hb3.out.size)
        have lvr := LV.kb3 lv0 hbl lv0.lt
        clear hr
        by_cases hlt : k < x.flds.length
        · obtain ⟨f, hf⟩ : ∃ f, x.flds[k]? = some f := ⟨_, List.getElem?_eq_getElem hlt⟩
          have Hs : Hid ((if (if suitF s.needs f ≠ 0 then suitF s.needs f else suitFs s.needs (x.flds.drop (k + 1))) ≠ 0 then (if suitF s.needs f ≠ 0 then suitF s.needs f else suitFs s.needs (x.flds.drop (k + 1))) else suitNs x.flds s.needs) = R) := by show _ = _; rw [← suitFs_at hf]; exact Hr.out
          obtain ⟨blk, off, rfl, hblk, d0, d1, d2, d3⟩ := (HFl.out wr Hbr.out).fld k f hf
          have hb4 : Below wr.heap.size wr (wr.alloc (.cells #[.string f.name, .int .i64 f.kind, .string f.text, .int .i64 f.num] 122)) := (Below.refl _ _).alloc (Nat.le_refl _) _
          have Hb4 : Hid (Below w3.heap.size w3 (wr.alloc (.cells #[.string f.name, .int .i64 f.kind, .string f.text, .int .i64 f.num] 122))) := hbl.alloc hbl.size _
          have lvZ := LV.new wr wr.heap.size #[.string f.name, .int .i64 f.kind, .string f.text, .int .i64 f.num] 122 rfl
          have lvy := LV.kb3 lvr hb4 lvr.lt
          clear Hr hf lvr hb4
          go_upto_region 11 with fail
          clear d0 d1 d2 d3
          generalize wr.alloc (.cells #[.string f.name, .int .i64 f.kind, .string f.text, .int .i64 f.num] 122) = w4 at *
          obtain ⟨Z, hZ⟩ : ∃ Z, Z = wr.heap.size := ⟨_, rfl⟩
          rw [← hZ] at lvZ ⊢
          have z0 := lvZ.all
          clear hZ hbl Hbr
          have Hq := Lib.hid (bsearchN_any N An s.needs f.name cn w4 (Sl.keepB Hst.out Hb4.out) (by omega) Hrn.out)
          go_wp2_with fail
          ((with_reducible refine (Hq.out).mono ?_); rintro e w5 ⟨q, b, rfl, hq, hb1, hb2, hl5⟩)
          have Hb5 : Hid (Below w3.heap.size w3 w5) := Hb4.out.trans (hl5.mono Hb4.out.size)
          have Hb6 : Hid (Below w.heap.size w w5) := Hb3.out.trans (Hb5.out.mono Hb3.out.size)
          replace lvZ := LV.kb3 lvZ hl5 lvZ.lt
          replace z0 := lvZ.all
          have H1 := Lib.hid hb1
          have H2 := Lib.hid hb2
          clear Hq hl5 hb1 hb2
          cases b
          · have Hn3 : Hid (8 = R) := by
              show _ = _
              rw [← Hs.out, show suitF s.needs f = 8 by unfold suitF; rw [H2.out rfl]]; rfl
            clear H1 H2 Hs
            go_wp2_with fail
            go_ret
            exact ⟨ret_i Hn3.out, Hb6.out⟩
          · obtain ⟨n, hn, ho⟩ := H1.out rfl
            obtain ⟨blk2, off2, rfl, hblk2, e0, e1, e2⟩ := (Sl.keepB Hst.out Hb5.out).nd q n hn
            have hql := lt_of_get hn
            have Hsf : Hid (suitF s.needs f = if n.kind = f.kind then 0 else 10) := by show _ = _; unfold suitF; rw [ho]
            have y0 := z0.1
            clear H1 H2 hn ho
            by_cases hkk : n.kind = f.kind
            · have Hn3 : Hid ((if suitFs s.needs (x.flds.drop (k + 1)) ≠ 0 then suitFs s.needs (x.flds.drop (k + 1)) else suitNs x.flds s.needs) = R) := by
                show _ = _
                rw [← Hs.out, Hsf.out, if_pos hkk]; rfl
              have hkb : (n.kind != f.kind) = false := by simpa using hkk
              clear Hs hkk Hsf
              go_wp2_with fail
              go_quiet (fail)
              go_wp2_with fail
              go_roundw
              case rel => exact ⟨k + 1, by omega, by go_num, Hn3.out, Hb5.out.trans (below_drewN _ _ _)⟩
              case measure => simp [intOf]; omega
            · have Hn3 : Hid (10 = R) := by
                show _ = _
                rw [← Hs.out, Hsf.out, if_neg hkk]; rfl
              have hkb : (n.kind != f.kind) = true := by simpa using hkk
              clear Hs hkk Hsf
              go_wp2_with fail
              go_quiet (fail)
              go_wp2_with fail
              go_ret
              exact ⟨ret_i Hn3.out, Hb6.out.trans (below_drewN _ _ _)⟩
        · have Hn3 : Hid (suitNs x.flds s.needs = R) := by
            show _ = _
            have h := Hr.out
            rw [List.drop_eq_nil_of_le (by omega : x.flds.length ≤ k)] at h
            exact h
          have Hbl := Lib.hid hbl
          clear Hr hbl
          go_wp2_with fail
          go_loopw [66] (fun i wx => ∃ j : Nat, j ≤ s.needs.length ∧ i = .int .i64 j ∧ suitNs x.flds (s.needs.drop j) = R ∧ Below wr.heap.size wr wx) (fun i _ => s.needs.length - (intOf i).toNat)
          case atStart => exact ⟨0, Nat.zero_le _, rfl, Hn3.out, Below.refl _ _⟩
          case round =>
            clear Hn3
            obtain ⟨j, hj, rfl, hr, hbl2⟩ := hrel
            have Hr := Lib.hid hr
            have Hbx : Hid (Below w.heap.size w wr) := Hbr.out.trans (hbl2.mono Hbr.out.size)
            have Hb3x : Hid (Below w3.heap.size w3 wr) := Hbl.out.trans (hbl2.mono Hbl.out.size)
            have lvx := LV.kb3 lvr hbl2 lvr.lt
            clear hr
            by_cases hltj : j < s.needs.length
            · obtain ⟨n, hn⟩ : ∃ n, s.needs[j]? = some n := ⟨_, List.getElem?_eq_getElem hltj⟩
              have hs : (if suitN x.flds n ≠ 0 then suitN x.flds n else suitNs x.flds (s.needs.drop (j + 1))) = R := by rw [← suitNs_at hn]; exact Hr.out
              obtain ⟨blk, off, rfl, hblk, d0, d1, d2⟩ := (Sl.keepB Hst.out Hb3x.out).nd j n hn
              obtain ⟨M, hM⟩ : ∃ M, n.must = M := ⟨_, rfl⟩
              unfold suitN at hs
              rw [hM] at d2 hs
              have Hs := Lib.hid hs
              have hb4 : Below wr.heap.size wr (wr.alloc (.cells #[.string n.name, .int .i64 n.kind, .bool M] 116)) := (Below.refl _ _).alloc (Nat.le_refl _) _
              have hbz := hbl2.alloc hbl2.size (.cells #[.string n.name, .int .i64 n.kind, .bool M] 116)
              have Hb4 : Hid (Below w.heap.size w (wr.alloc (.cells #[.string n.name, .int .i64 n.kind, .bool M] 116))) := Hbx.out.alloc Hbx.out.size _
              have lvZ := LV.new wr wr.heap.size #[.string n.name, .int .i64 n.kind, .bool M] 116 rfl
              have lvy := LV.kb3 lvx hb4 lvx.lt
              clear Hr hn hM hs hb4 lvx Hb3x
              go_upto_region 20 with fail
              clear d0 d1 d2
              generalize wr.alloc (.cells #[.string n.name, .int .i64 n.kind, .bool M] 116) = w4 at *
              obtain ⟨Z, hZ⟩ : ∃ Z, Z = wr.heap.size := ⟨_, rfl⟩
              rw [← hZ] at lvZ ⊢
              have z0 := lvZ.all
              have y0 := lvy.all
              clear hZ hbl2 Hbx
              have Hq := Lib.hid (find_any N Af x.flds n.name cf w4 (HFl.out w4 Hb4.out) (by omega) Hfr.out)
              go_wp2_with fail
              ((with_reducible refine (Hq.out).mono ?_); rintro e w5 ⟨o, ho, rfl, hl5⟩)
              have hb5 := hbz.trans (hl5.mono hbz.size)
              have Hb5 : Hid (Below w.heap.size w w5) := Hb4.out.trans (hl5.mono Hb4.out.size)
              have hoa := finds_any ho
              rw [← hoa] at Hs
              replace lvZ := LV.kb3 lvZ hl5 lvZ.lt
              have z1 := fun o j => (LV.alloc lvZ o).all.1 j
              clear Hq hl5 hbz ho hoa y0 lvy Hb4 z0
              cases M <;> cases o
              · have Hn4 : Hid (suitNs x.flds (s.needs.drop (j + 1)) = R) := Hs.out
                simp only [valOf, Option.isSome]
                go_wp2_with fail
                go_roundw
                case rel => exact ⟨j + 1, by omega, by go_num, Hn4.out, hb5.alloc hb5.size _⟩
                case measure => simp [intOf]; omega
              · have Hn4 : Hid (suitNs x.flds (s.needs.drop (j + 1)) = R) := Hs.out
                simp only [valOf, Option.isSome]
                go_wp2_with fail
                go_roundw
                case rel => exact ⟨j + 1, by omega, by go_num, Hn4.out, hb5.alloc hb5.size _⟩
                case measure => simp [intOf]; omega
              · have Hn4 : Hid (3 = R) := Hs.out
                simp only [valOf, Option.isSome]
                go_wp2_with fail
                go_ret
                exact ⟨ret_i Hn4.out, Hb5.out.alloc Hb5.out.size _⟩
              · have Hn4 : Hid (suitNs x.flds (s.needs.drop (j + 1)) = R) := Hs.out
                simp only [valOf, Option.isSome]
                go_wp2_with fail
                go_roundw
                case rel => exact ⟨j + 1, by omega, by go_num, Hn4.out, hb5.alloc hb5.size _⟩
                case measure => simp [intOf]; omega
            · go_wp2_with fail
              go_ret
              exact ⟨ret_i (by rw [← Hr.out, List.drop_eq_nil_of_le (by omega)]; rfl), Hbx.out⟩
  · have Hn := Lib.hid (step_no HR.out hF)
    have hF' : (F != 0) = true := by simpa using hF
    go_wp2_with fail
    go_ret
    exact ⟨ret_i Hn.out, Hb2.out⟩
set_option maxHeartbeats 4000000 in
set_option maxRecDepth 100000 in
theorem checkEvent_any (N : Nat → Prop) (A Af : Option Addr) (l : List Scm) (c cf : Nat) (x : Evt) (w : World) (hS : Sl rScm N w A l) (hso : ScmOk l) (hF : Sl rFld N w Af x.flds) (hok : EvtOk x) (hT : Tabs w) (hM : MaxL w) :
    Calls Tryz.prog 17 #[.slice A l.length c, .agg (evCs x Af cf)] w fun e w' => e = .returned (.int .i64 (evFault l x)) ∧ Below w.heap.size w w' := by
  have hb0 : Below w.heap.size w (w.alloc (.cells (evCs x Af cf) 32)) := (Below.refl _ _).alloc (Nat.le_refl _) _
  have lv0 := LV.new w w.heap.size (evCs x Af cf) 32 rfl
  obtain ⟨R, HR⟩ : ∃ R, Hid (evFault l x = R) := ⟨_, Lib.hid rfl⟩
  rw [HR.out]
  have Hc := Lib.hid (fun w' (h : Below w.heap.size w w') => checkSchemas_any N A l c w' (hS.keepB h) hso)
  have Hs := Lib.hid (fun (hg : GoodScm l) w' (h : Below w.heap.size w w') => suits_any N A Af l c cf x w' (hS.keepB h) hg (hF.keepB h) hok (Utf8Tabs_below hT h) (hM.below h))
  have Hg : Hid (scmsFault l = 0 → GoodScm l) := fun h => scms_good h
  unfold evFault first3 at HR
  obtain ⟨F, HF⟩ : ∃ F, Hid (scmsFault l = F) := ⟨_, Lib.hid rfl⟩
  rw [HF.out] at HR Hc Hg
  clear hS hso hF hok hT hM HF
  have Hb0 := Lib.hid hb0
  go_enter Tryz.func17, Tryz.ntmps17
  go_upto_region 1 with fail
  generalize w.alloc (.cells (evCs x Af cf) 32) = w1 at *
  obtain ⟨Y, hY⟩ : ∃ Y, Y = w.heap.size := ⟨_, rfl⟩
  rw [← hY] at lv0 ⊢
  clear hb0 hY
  go_wp2_with fail
  ((with_reducible refine (Hc.out w1 Hb0.out).mono ?_); rintro e w2 ⟨rfl, hl2⟩)
  have Hb2 : Hid (Below w.heap.size w w2) := Hb0.out.trans (hl2.mono Hb0.out.size)
  replace lv0 := LV.kb3 lv0 hl2 lv0.lt
  have c0 := lv0.all
  clear hl2 Hc Hb0
  by_cases hF : F = 0
  · have Hn := Lib.hid (step_go HR.out hF)
    have Hs2 := Lib.hid (Hs.out (Hg.out hF) w2 Hb2.out)
    subst hF
    generalize (if evtFault x ≠ 0 then evtFault x else suit l x) = R2 at *
    clear Hs Hg HR
    go_wp2_with fail
    ((with_reducible refine (Hs2.out).mono ?_); rintro e w3 ⟨rfl, hl3⟩)
    go_wp2_with fail
    go_ret
    exact ⟨ret_i Hn.out, Hb2.out.trans (hl3.mono Hb2.out.size)⟩
  · have Hn := Lib.hid (step_no HR.out hF)
    have hF' : (F != 0) = true := by simpa using hF
    go_wp2_with fail
    go_ret
    exact ⟨ret_i Hn.out, Hb2.out⟩
end Go.Proofs.YthlcdepjmoddnaaGreatDoor

/- What handref2.schemaFault and EventFault return. -/
namespace Go.Proofs.YthlcdepjmoddnaaGreatDoor
open Go.RowKit
theorem idxGo_find {α : Type} (p : α → Bool) : ∀ (l : List α) (k : Nat), (idxGo p k l = -1 ∧ l.find? p = none) ∨ ∃ (j : Nat) (s : α), idxGo p k l = (k + j : Nat) ∧ l[j]? = some s ∧ l.find? p = some s
  | [], k => .inl ⟨rfl, rfl⟩
  | x :: r, k => by
    rw [idxGo, List.find?_cons]
    cases hx : p x
    · rcases idxGo_find p r (k + 1) with ⟨h1, h2⟩ | ⟨j, s, h1, h2, h3⟩
      · exact .inl ⟨by rw [if_neg (by simp)]; exact h1, h2⟩
      · exact .inr ⟨j + 1, s, by rw [if_neg (by simp), h1]; congr 1; omega, by simpa using h2, h3⟩
    · exact .inr ⟨0, x, by rw [if_pos rfl]; rfl, rfl, rfl⟩
theorem sf1_any (Y : Nat) (x : Evt) (Af : Option Addr) (cf : Nat) (q : Scm) (A : Option Addr) (n c : Nat) (w : World) (hY : LV w Y (evCs x Af cf) 32) : Calls Tryz.prog 156 #[.agg #[.string q.name, .slice A n c], .pointer (some ⟨Y, 0, none⟩)] w fun e w' => e = .returned (.bool (scmIs x.name q)) ∧ Below w.heap.size w w' := by
  have hb := (Below.refl w.heap.size w).alloc (Nat.le_refl _) (.cells #[.string q.name, .slice A n c] 113)
  have c0 := (LV.kb3 hY hb hY.lt).all
  unfold scmIs
  go_enter Tryz.func156, Tryz.ntmps156
  go_wp2_with fail
  go_ret
  exact ⟨rfl, hb⟩
theorem sf3_any (Z : Nat) (n : Nd) (f : Fld) (w : World) (hZ : LV w Z #[.string n.name, .int .i64 n.kind, .bool n.must] 116) : Calls Tryz.prog 159 #[.agg #[.string f.name, .int .i64 f.kind, .string f.text, .int .i64 f.num], .pointer (some ⟨Z, 0, none⟩)] w fun e w' => e = .returned (.bool (fldIs n.name f)) ∧ Below w.heap.size w w' := by
  have hb := (Below.refl w.heap.size w).alloc (Nat.le_refl _) (.cells #[.string f.name, .int .i64 f.kind, .string f.text, .int .i64 f.num] 122)
  have c0 := (LV.kb3 hZ hb hZ.lt).all
  unfold fldIs
  go_enter Tryz.func159, Tryz.ntmps159
  go_wp2_with fail
  go_ret
  exact ⟨rfl, hb⟩
set_option maxHeartbeats 4000000 in
set_option maxRecDepth 100000 in
theorem idxScm_any (Y : Nat) (x : Evt) (Af : Option Addr) (cf : Nat) (N : Nat → Prop) (A : Option Addr) (xs : List Scm) (c : Nat) (w : World) (hS : Sl rScm N w A xs) (hl : xs.length ≤ 1000000) (hY : LV w Y (evCs x Af cf) 32) :
    Calls Tryz.prog 155 #[.slice A xs.length c, .func (.func 156) #[] #[.pointer (some ⟨Y, 0, none⟩)]] w fun e w' => e = .returned (.int .i64 (idxGo (scmIs x.name) 0 xs)) ∧ Below w.heap.size w w' := by
  have HS := Lib.hid hS
  clear hS
  obtain ⟨R, HR⟩ : ∃ R, Hid (idxGo (scmIs x.name) 0 xs = R) := ⟨_, Lib.hid rfl⟩
  rw [HR.out]
  go_enter Tryz.func155, Tryz.ntmps155
  go_wp2_with fail
  go_loopw [8] (fun i wr => ∃ k : Nat, k ≤ xs.length ∧ i = .int .i64 k ∧ idxGo (scmIs x.name) k (xs.drop k) = R ∧ Below w.heap.size w wr) (fun i _ => xs.length - (intOf i).toNat)
  case atStart => exact ⟨0, Nat.zero_le _, rfl, HR.out, Below.refl _ _⟩
  case round =>
    clear HR
    obtain ⟨k, hk, rfl, hr, hbl⟩ := hrel
    have Hr := Lib.hid hr
    clear hr
    by_cases hlt : k < xs.length
    · obtain ⟨q, hq⟩ : ∃ q, xs[k]? = some q := ⟨_, List.getElem?_eq_getElem (by omega)⟩
      obtain ⟨blk, off, At, ct, rfl, hblk, d0, d1, _⟩ := (HS.out.keepB hbl).scm k q hq
      have Hs : Hid ((if scmIs x.name q = true then (k : Int) else idxGo (scmIs x.name) (k + 1) (xs.drop (k + 1))) = R) := by
        show _ = _
        rw [← Hr.out, drop_at3 hq]
        rfl
      have Hc := Lib.hid (sf1_any Y x Af cf q At q.needs.length ct wr (LV.kb3 hY hbl hY.lt))
      clear Hr hq
      generalize scmIs x.name q = b at *
      go_wp2_with fail
      ((with_reducible refine (Hc.out).mono ?_); rintro e w1 ⟨rfl, hl1⟩)
      have Hb1 := Lib.hid (hbl.trans (hl1.mono hbl.size))
      clear d0 d1
      clear hl1 Hc
      cases b
      · have Hn : Hid (idxGo (scmIs x.name) (k + 1) (xs.drop (k + 1)) = R) := Hs.out
        go_wp2_with fail
        go_roundw
        case rel => exact ⟨k + 1, by omega, by go_num, Hn.out, Hb1.out⟩
        case measure => simp [intOf]; omega
      · have Hn : Hid ((k : Int) = R) := Hs.out
        go_wp2_with fail
        go_ret
        exact ⟨ret_i Hn.out, Hb1.out⟩
    · have Hn : Hid (-1 = R) := by show _ = _; rw [← Hr.out, List.drop_eq_nil_of_le (by omega)]; rfl
      clear Hr
      go_wp2_with fail
      go_ret
      exact ⟨ret_i Hn.out, hbl⟩
set_option maxHeartbeats 4000000 in
set_option maxRecDepth 100000 in
theorem idxFld_any (Z : Nat) (n : Nd) (N : Nat → Prop) (A : Option Addr) (xs : List Fld) (c : Nat) (w : World) (hS : Sl rFld N w A xs) (hl : xs.length ≤ 1000000) (hZ : LV w Z #[.string n.name, .int .i64 n.kind, .bool n.must] 116) :
    Calls Tryz.prog 205 #[.slice A xs.length c, .func (.func 159) #[] #[.pointer (some ⟨Z, 0, none⟩)]] w fun e w' => e = .returned (.int .i64 (idxGo (fldIs n.name) 0 xs)) ∧ Below w.heap.size w w' := by
  have HS := Lib.hid hS
  clear hS
  obtain ⟨R, HR⟩ : ∃ R, Hid (idxGo (fldIs n.name) 0 xs = R) := ⟨_, Lib.hid rfl⟩
  rw [HR.out]
  go_enter Tryz.func205, Tryz.ntmps205
  go_wp2_with fail
  go_loopw [8] (fun i wr => ∃ k : Nat, k ≤ xs.length ∧ i = .int .i64 k ∧ idxGo (fldIs n.name) k (xs.drop k) = R ∧ Below w.heap.size w wr) (fun i _ => xs.length - (intOf i).toNat)
  case atStart => exact ⟨0, Nat.zero_le _, rfl, HR.out, Below.refl _ _⟩
  case round =>
    clear HR
    obtain ⟨k, hk, rfl, hr, hbl⟩ := hrel
    have Hr := Lib.hid hr
    clear hr
    by_cases hlt : k < xs.length
    · obtain ⟨q, hq⟩ : ∃ q, xs[k]? = some q := ⟨_, List.getElem?_eq_getElem (by omega)⟩
      obtain ⟨blk, off, rfl, hblk, d0, d1, d2, d3⟩ := (HS.out.keepB hbl).fld k q hq
      have Hs : Hid ((if fldIs n.name q = true then (k : Int) else idxGo (fldIs n.name) (k + 1) (xs.drop (k + 1))) = R) := by
        show _ = _
        rw [← Hr.out, drop_at3 hq]
        rfl
      have Hc := Lib.hid (sf3_any Z n q wr (LV.kb3 hZ hbl hZ.lt))
      clear Hr hq
      generalize fldIs n.name q = b at *
      go_wp2_with fail
      ((with_reducible refine (Hc.out).mono ?_); rintro e w1 ⟨rfl, hl1⟩)
      have Hb1 := Lib.hid (hbl.trans (hl1.mono hbl.size))
      clear d0 d1 d2 d3
      clear hl1 Hc
      cases b
      · have Hn : Hid (idxGo (fldIs n.name) (k + 1) (xs.drop (k + 1)) = R) := Hs.out
        go_wp2_with fail
        go_roundw
        case rel => exact ⟨k + 1, by omega, by go_num, Hn.out, Hb1.out⟩
        case measure => simp [intOf]; omega
      · have Hn : Hid ((k : Int) = R) := Hs.out
        go_wp2_with fail
        go_ret
        exact ⟨ret_i Hn.out, Hb1.out⟩
    · have Hn : Hid (-1 = R) := by show _ = _; rw [← Hr.out, List.drop_eq_nil_of_le (by omega)]; rfl
      clear Hr
      go_wp2_with fail
      go_ret
      exact ⟨ret_i Hn.out, hbl⟩
theorem conFld_any (Z : Nat) (n : Nd) (N : Nat → Prop) (A : Option Addr) (xs : List Fld) (c : Nat) (w : World) (hS : Sl rFld N w A xs) (hl : xs.length ≤ 1000000) (hZ : LV w Z #[.string n.name, .int .i64 n.kind, .bool n.must] 116) :
    Calls Tryz.prog 158 #[.slice A xs.length c, .func (.func 159) #[] #[.pointer (some ⟨Z, 0, none⟩)]] w fun e w' => e = .returned (.bool (xs.any (fldIs n.name))) ∧ Below w.heap.size w w' := by
  have Hi := Lib.hid (idxFld_any Z n N A xs c w hS hl hZ)
  rw [← idxGo_any (fldIs n.name) xs 0]
  generalize idxGo (fldIs n.name) 0 xs = ix at *
  clear hS hZ
  go_enter Tryz.func158, Tryz.ntmps158
  go_wp2_with fail
  ((with_reducible refine (Hi.out).mono ?_); rintro e w2 ⟨rfl, hl_w2⟩)
  have hz_w2 := hl_w2.size
  go_wp2_with fail
  go_ret
  exact ⟨by first | rfl | simp, hl_w2⟩
theorem loadNd {w : World} {X : Nat} {a b c : Value} (h : LV w X #[a, b, c] 116) : (loadVar 116 ⟨X, 0, none⟩).run Tryz.prog w = .ok (.agg #[a, b, c]) w := by
  have c0 := h.all
  go_simp
def GivesNd (o : Option Nd) (w : World) (e : Ending) (w' : World) : Prop :=
  ∃ n : Nd, e = .returned (.tuple #[.agg #[.string n.name, .int .i64 n.kind, .bool n.must], .bool o.isSome]) ∧ (∀ m, o = some m → n = m) ∧ Below w.heap.size w w'
set_option maxHeartbeats 4000000 in
set_option maxRecDepth 100000 in
theorem sf2_any (Bx Ix : Nat) (N : Nat → Prop) (A : Option Addr) (l : List Scm) (c i : Nat) (s : Scm) (nm : ByteArray) (w : World) (hS : Sl rScm N w A l) (hi : l[i]? = some s) (hn : s.needs.length ≤ 1000000) (hB : LV w Bx #[.slice A l.length c] 26) (hI : LV w Ix #[.int .i64 i] 3) :
    Calls Tryz.prog 157 #[.string nm, .pointer (some ⟨Bx, 0, none⟩), .pointer (some ⟨Ix, 0, none⟩)] w (GivesNd (ndAt s.needs nm) w) := by
  have S := (Mem.start w).new' #[.string ⟨#[]⟩, .int .i64 0, .bool false] 116
  have hb0 := S.b
  have b0 := (LV.kb3 hB hb0 hB.lt).all
  have i0 := (LV.kb3 hI hb0 hI.lt).all
  obtain ⟨blk, off, An, cn, rfl, hblk, d0, d1, hst⟩ := (hS.keepB hb0).scm i s hi
  have Hst := Lib.hid (fun w' (h : Below w.heap.size w w') => ((hS.keepB h).scm i s hi))
  have hil := lt_of_get hi
  obtain ⟨R, HR⟩ : ∃ R, Hid (s.needs.find? (ndIs nm) = R) := ⟨_, Lib.hid rfl⟩
  have hR : ndAt s.needs nm = R := HR.out
  rw [hR]
  have HS1 := Lib.hid hst
  clear hS hB hI hb0 hi hst hR
  obtain ⟨X, hX⟩ : ∃ X, X = w.heap.size := ⟨_, rfl⟩
  go_enter Tryz.func157, Tryz.ntmps157
  go_upto_region 1 with fail
  replace S : Mem w (w.alloc (.cells #[.string ⟨#[]⟩, .int .i64 0, .bool false] 116)) [.loc w.heap.size #[.string ⟨#[]⟩, .int .i64 0, .bool false] 116] := S
  generalize w.alloc (.cells #[.string ⟨#[]⟩, .int .i64 0, .bool false] 116) = w1 at *
  rw [← hX] at S ⊢
  clear hX
  go_wp2_with fail
  clear d0 d1 b0 i0
  have HSn : Hid (∀ w', Below w1.heap.size w1 w' → Sl rNd N w' An s.needs) := fun w' h => HS1.out.keepB h
  clear Hst HS1
  go_loopw [14] (fun i wr => ∃ j : Nat, j ≤ s.needs.length ∧ i = .int .i64 j ∧ (s.needs.drop j).find? (ndIs nm) = R ∧ Below w1.heap.size w1 wr ∧ Mem w wr [.loc X #[.string ⟨#[]⟩, .int .i64 0, .bool false] 116]) (fun i _ => s.needs.length - (intOf i).toNat)
  case atStart => exact ⟨0, Nat.zero_le _, rfl, HR.out, Below.refl _ _, S⟩
  case round =>
    clear S HR
    obtain ⟨j, hj, rfl, hr, hbl, S⟩ := hrel
    have Hr := Lib.hid hr
    clear hr
    by_cases hlt : j < s.needs.length
    · obtain ⟨n, hnj⟩ : ∃ n, s.needs[j]? = some n := ⟨_, List.getElem?_eq_getElem hlt⟩
      obtain ⟨blk, off, rfl, hblk, d0, d1, d2⟩ := (HSn.out wr hbl).nd j n hnj
      have Hs : Hid ((if ndIs nm n = true then some n else (s.needs.drop (j + 1)).find? (ndIs nm)) = R) := by
        show _ = _
        rw [← Hr.out, drop_at3 hnj, List.find?_cons]
        cases ndIs nm n <;> rfl
      have hb4 := hbl.alloc hbl.size (.cells #[.string n.name, .int .i64 n.kind, .bool n.must] 116)
      obtain ⟨Z, hZ⟩ : ∃ Z, Z = wr.heap.size := ⟨_, rfl⟩
      replace S := S.newAt #[.string n.name, .int .i64 n.kind, .bool n.must] 116 Z hZ
      clear Hr hnj hbl
      go_upto_region 4 with fail
      rw [← hZ]
      clear hZ d0 d1 d2
      generalize wr.alloc (.cells #[.string n.name, .int .i64 n.kind, .bool n.must] 116) = w4 at *
      have z0 := (S.lv 1 rfl).all
      unfold ndIs at Hs
      cases hb : (n.name.toList == nm.toList)
      · have Hn : Hid ((s.needs.drop (j + 1)).find? (ndIs nm) = R) := by show _ = _; rw [← Hs.out, hb]; rfl
        clear Hs
        go_wp2_with fail
        go_roundw
        case rel => exact ⟨j + 1, by omega, by go_num, Hn.out, hb4, S.del 1⟩
        case measure => simp [intOf]; omega
      · obtain rfl : some n = R := by rw [← Hs.out, hb]; rfl
        clear Hs
        have x0 := (S.lv 0 rfl).all
        go_wp2_with fail
        have S2 := ((S.set 0 0 (.string n.name) rfl).set 0 1 (.int .i64 n.kind) rfl).set 0 2 (.bool n.must) rfl
        exact bodyPost_ret (results_cs rfl rfl rfl (loadNd (S2.lv 0 rfl))) rfl ⟨n, rfl, fun m h => Option.some.inj h, S2.b⟩
    · obtain rfl : none = R := by rw [← Hr.out, List.drop_eq_nil_of_le (by omega)]; rfl
      clear Hr
      have x0 := (S.lv 0 rfl).all
      go_wp2_with fail
      have S2 := ((S.set 0 0 (.string ⟨#[]⟩) rfl).set 0 1 (.int .i64 0) rfl).set 0 2 (.bool false) rfl
      exact bodyPost_ret (results_cs rfl rfl rfl (loadNd (S2.lv 0 rfl))) rfl ⟨⟨⟨#[]⟩, 0, false⟩, rfl, (fun m h => by cases h), S2.b⟩
set_option maxHeartbeats 8000000 in
set_option maxRecDepth 100000 in
theorem schemaFault_any (N : Nat → Prop) (A Af : Option Addr) (l : List Scm) (c cf : Nat) (x : Evt) (w : World) (hS : Sl rScm N w A l) (hso : ScmOk l) (hF : Sl rFld N w Af x.flds) (hok : EvtOk x) :
    Calls Tryz.prog 83 #[.slice A l.length c, .agg (evCs x Af cf)] w fun e w' => e = .returned (.int .i64 (suit l x)) ∧ Below w.heap.size w w' := by
  have S := ((Mem.start w).new' #[.slice A l.length c] 26).newAt (evCs x Af cf) 32 (w.heap.size + 1) (by simp)
  replace S : Mem w ((w.alloc (.cells #[.slice A l.length c] 26)).alloc (.cells (evCs x Af cf) 32)) [.loc w.heap.size #[.slice A l.length c] 26, .loc (w.heap.size + 1) (evCs x Af cf) 32] := S
  obtain ⟨R, HR⟩ : ∃ R, Hid (suit l x = R) := ⟨_, Lib.hid rfl⟩
  rw [HR.out]
  have HSl := Lib.hid (fun w' (h : Below w.heap.size w w') => hS.keepB h)
  have HFl := Lib.hid (fun w' (h : Below w.heap.size w w') => hF.keepB h)
  have hfl := hok.fl
  have hll := hso.len
  have Hso := Lib.hid hso
  clear hS hF hok hso
  go_enter Tryz.func83, Tryz.ntmps83
  go_upto_region 1 with fail
  generalize (w.alloc (.cells #[.slice A l.length c] 26)).alloc (.cells (evCs x Af cf) 32) = w1 at *
  obtain ⟨Y, hY⟩ : ∃ Y, Y = w.heap.size + 1 := ⟨_, rfl⟩
  obtain ⟨Bx, hBx⟩ : ∃ Bx, Bx = w.heap.size := ⟨_, rfl⟩
  rw [← hY, ← hBx] at S
  rw [← hY, ← hBx]
  clear hY hBx
  have b0 := (S.lv 0 rfl).all
  have Hi := Lib.hid (idxScm_any Y x Af cf N A l c w1 (HSl.out w1 S.b) hll (S.lv 1 rfl))
  have hfind := idxGo_find (scmIs x.name) l 0
  unfold suit scmAt at HR
  generalize idxGo (scmIs x.name) 0 l = ix at *
  go_wp2_with fail
  ((with_reducible refine (Hi.out).mono ?_); rintro e w2 ⟨rfl, hl2⟩)
  replace S := S.below hl2
  clear Hi hl2 b0
  go_upto_region 2 with fail
  obtain ⟨I, hI⟩ : ∃ I, I = w2.heap.size := ⟨_, rfl⟩
  replace S := S.newAt #[.int .i64 ix] 3 I hI
  replace S : Mem w (w2.alloc (.cells #[.int .i64 ix] 3)) [.loc Bx #[.slice A l.length c] 26, .loc Y (evCs x Af cf) 32, .loc I #[.int .i64 ix] 3] := S
  rw [← hI]
  clear hI
  generalize w2.alloc (.cells #[.int .i64 ix] 3) = w3 at *
  have i0 := (S.lv 2 rfl).all
  rcases hfind with ⟨rfl, hf⟩ | ⟨i, s, hix, hi, hf⟩
  · have Hn : Hid (8 = R) := by show _ = _; rw [← HR.out, hf]
    clear HR hf
    go_wp2_with fail
    go_ret
    exact ⟨ret_i Hn.out, S.b⟩
  · rw [Nat.zero_add] at hix
    subst hix
    have Hn : Hid ((if suitFs s.needs x.flds ≠ 0 then suitFs s.needs x.flds else suitNs x.flds s.needs) = R) := by show _ = _; rw [← HR.out, hf]; rfl
    have Hi := Lib.hid hi
    have hnl := Hso.out.nl s (List.mem_of_getElem? hi)
    have hil := lt_of_get hi
    clear HR hf hi
    have y0 := (S.lv 1 rfl).all
    go_wp2_with fail
    clear y0 i0
    go_loopw [22] (fun ix wr => ∃ k : Nat, k ≤ x.flds.length ∧ ix = .int .i64 k ∧ (if suitFs s.needs (x.flds.drop k) ≠ 0 then suitFs s.needs (x.flds.drop k) else suitNs x.flds s.needs) = R ∧ Mem w wr [.loc Bx #[.slice A l.length c] 26, .loc Y (evCs x Af cf) 32, .loc I #[.int .i64 i] 3]) (fun i _ => x.flds.length - (intOf i).toNat)
    case atStart => exact ⟨0, Nat.zero_le _, rfl, Hn.out, S⟩
    case round =>
      clear Hn S
      obtain ⟨k, hk, rfl, hr, S⟩ := hrel
      have Hr := Lib.hid hr
      clear hr
      by_cases hlt : k < x.flds.length
      · obtain ⟨f, hf⟩ : ∃ f, x.flds[k]? = some f := ⟨_, List.getElem?_eq_getElem hlt⟩
        have Hs : Hid ((if (if suitF s.needs f ≠ 0 then suitF s.needs f else suitFs s.needs (x.flds.drop (k + 1))) ≠ 0 then (if suitF s.needs f ≠ 0 then suitF s.needs f else suitFs s.needs (x.flds.drop (k + 1))) else suitNs x.flds s.needs) = R) := by show _ = _; rw [← suitFs_at hf]; exact Hr.out
        obtain ⟨blk, off, rfl, hblk, d0, d1, d2, d3⟩ := (HFl.out wr S.b).fld k f hf
        obtain ⟨Z, hZ⟩ : ∃ Z, Z = wr.heap.size := ⟨_, rfl⟩
        replace S := S.newAt #[.string f.name, .int .i64 f.kind, .string f.text, .int .i64 f.num] 122 Z hZ
        clear Hr hf
        go_upto_region 8 with fail
        rw [← hZ]
        clear d0 d1 d2 d3 hZ
        generalize wr.alloc (.cells #[.string f.name, .int .i64 f.kind, .string f.text, .int .i64 f.num] 122) = w4 at *
        have z0 := (S.lv 3 rfl).all
        have Hq := Lib.hid (sf2_any Bx I N A l c i s f.name w4 (HSl.out w4 S.b) Hi.out hnl (S.lv 0 rfl) (S.lv 2 rfl))
        unfold suitF at Hs
        generalize ndAt s.needs f.name = o at *
        go_wp2_with fail
        ((with_reducible refine (Hq.out).mono ?_); rintro e w5 ⟨n, rfl, hn, hl5⟩)
        replace S := S.below hl5
        clear hl5 Hq z0
        go_upto_region 9 with fail
        obtain ⟨V, hV⟩ : ∃ V, V = w5.heap.size := ⟨_, rfl⟩
        replace S := S.newAt #[.string n.name, .int .i64 n.kind, .bool n.must] 116 V hV
        rw [← hV]
        clear hV
        generalize w5.alloc (.cells #[.string n.name, .int .i64 n.kind, .bool n.must] 116) = w6 at *
        have z0 := (S.lv 3 rfl).all
        have v0 := (S.lv 4 rfl).all
        cases o with
        | none =>
          have Hn3 : Hid (8 = R) := Hs.out
          simp only [Option.isSome]
          go_wp2_with fail
          go_ret
          exact ⟨ret_i Hn3.out, S.b⟩
        | some m =>
          obtain rfl := hn m rfl
          have Hs2 : Hid ((if (if (if n.kind = f.kind then (0 : Int) else 10) ≠ 0 then (if n.kind = f.kind then (0 : Int) else 10) else suitFs s.needs (x.flds.drop (k + 1))) ≠ 0 then (if (if n.kind = f.kind then (0 : Int) else 10) ≠ 0 then (if n.kind = f.kind then (0 : Int) else 10) else suitFs s.needs (x.flds.drop (k + 1))) else suitNs x.flds s.needs) = R) := Hs.out
          clear Hs hn
          simp only [Option.isSome]
          by_cases hkk : n.kind = f.kind
          · have Hn3 : Hid ((if suitFs s.needs (x.flds.drop (k + 1)) ≠ 0 then suitFs s.needs (x.flds.drop (k + 1)) else suitNs x.flds s.needs) = R) := by
              show _ = _
              rw [← Hs2.out, if_pos hkk]; rfl
            have hkb : (n.kind != f.kind) = false := by simpa using hkk
            clear Hs2 hkk
            go_wp2_with fail
            go_roundw
            case rel => exact ⟨k + 1, by omega, by go_num, Hn3.out, (S.del 4).del 3⟩
            case measure => simp [intOf]; omega
          · have Hn3 : Hid (10 = R) := by
              show _ = _
              rw [← Hs2.out, if_neg hkk]; rfl
            have hkb : (n.kind != f.kind) = true := by simpa using hkk
            clear Hs2 hkk
            go_wp2_with fail
            go_ret
            exact ⟨ret_i Hn3.out, S.b⟩
      · have Hn3 : Hid (suitNs x.flds s.needs = R) := by
          show _ = _
          have h := Hr.out
          rw [List.drop_eq_nil_of_le (by omega : x.flds.length ≤ k)] at h
          exact h
        have b0 := (S.lv 0 rfl).all
        have i0 := (S.lv 2 rfl).all
        obtain ⟨blk, off, An, cn, rfl, hblk, d0, d1, hst⟩ := (HSl.out wr S.b).scm i s Hi.out
        have Hst := Lib.hid (fun w' (h : Below wr.heap.size wr w') => hst.keepB h)
        clear Hr hst
        go_wp2_with fail
        clear b0 i0 d0 d1
        go_loopw [48] (fun i wx => ∃ j : Nat, j ≤ s.needs.length ∧ i = .int .i64 j ∧ suitNs x.flds (s.needs.drop j) = R ∧ Below wr.heap.size wr wx ∧ Mem w wx [.loc Bx #[.slice (some ⟨blk, off, none⟩) l.length c] 26, .loc Y (evCs x Af cf) 32]) (fun i _ => s.needs.length - (intOf i).toNat)
        case atStart => exact ⟨0, Nat.zero_le _, rfl, Hn3.out, Below.refl _ _, S.del 2⟩
        case round =>
          clear Hn3 S
          obtain ⟨j, hj, rfl, hr, hbl, S⟩ := hrel
          have Hr := Lib.hid hr
          clear hr
          by_cases hltj : j < s.needs.length
          · obtain ⟨n, hn⟩ : ∃ n, s.needs[j]? = some n := ⟨_, List.getElem?_eq_getElem hltj⟩
            have hs : (if suitN x.flds n ≠ 0 then suitN x.flds n else suitNs x.flds (s.needs.drop (j + 1))) = R := by rw [← suitNs_at hn]; exact Hr.out
            obtain ⟨blk, off, rfl, hblk, d0, d1, d2⟩ := (Hst.out wr hbl).nd j n hn
            obtain ⟨nn, nk, M⟩ := n
            replace d0 : wr.cell? ⟨blk, off + j * 3, none⟩ = some (.string nn) := d0
            replace d1 : wr.cell? ⟨blk, off + j * 3 + 1, none⟩ = some (.int .i64 nk) := d1
            replace d2 : wr.cell? ⟨blk, off + j * 3 + 2, none⟩ = some (.bool M) := d2
            have Hs : Hid ((if (if (M && !x.flds.any (fldIs nn)) = true then (3 : Int) else 0) ≠ 0 then (if (M && !x.flds.any (fldIs nn)) = true then (3 : Int) else 0) else suitNs x.flds (s.needs.drop (j + 1))) = R) := hs
            obtain ⟨Z, hZ⟩ : ∃ Z, Z = wr.heap.size := ⟨_, rfl⟩
            have hb4 := hbl.alloc hbl.size (.cells #[.string nn, .int .i64 nk, .bool M] 116)
            replace S := S.newAt #[.string nn, .int .i64 nk, .bool M] 116 Z hZ
            clear Hr hn hs hbl
            go_upto_region 17 with fail
            rw [← hZ]
            clear d0 d1 d2 hZ
            generalize wr.alloc (.cells #[.string nn, .int .i64 nk, .bool M] 116) = w4 at *
            have y0 := (S.lv 1 rfl).all
            have z0 := (S.lv 2 rfl).all
            have Hq := Lib.hid (conFld_any Z ⟨nn, nk, M⟩ N Af x.flds cf w4 (HFl.out w4 S.b) (by omega) (S.lv 2 rfl))
            generalize x.flds.any (fldIs nn) = hA at *
            cases M with
            | false =>
              have Hn4 : Hid (suitNs x.flds (s.needs.drop (j + 1)) = R) := Hs.out
              go_wp2_with fail
              go_roundw
              case rel => exact ⟨j + 1, by omega, by go_num, Hn4.out, hb4, S.del 2⟩
              case measure => simp [intOf]; omega
            | true =>
              go_wp2_with fail
              ((with_reducible refine (Hq.out).mono ?_); rintro e w5 ⟨rfl, hl5⟩)
              replace S := S.below hl5
              replace hb4 := hb4.trans (hl5.mono hb4.size)
              clear Hq hl5
              cases hA with
              | false =>
                have Hn4 : Hid (3 = R) := Hs.out
                go_wp2_with fail
                go_ret
                exact ⟨ret_i Hn4.out, S.b⟩
              | true =>
                have Hn4 : Hid (suitNs x.flds (s.needs.drop (j + 1)) = R) := Hs.out
                go_wp2_with fail
                go_roundw
                case rel => exact ⟨j + 1, by omega, by go_num, Hn4.out, hb4, S.del 2⟩
                case measure => simp [intOf]; omega
          · go_wp2_with fail
            go_ret
            exact ⟨ret_i (by rw [← Hr.out, List.drop_eq_nil_of_le (by omega)]; rfl), S.b⟩
theorem evf1_any (Bx : Nat) (N : Nat → Prop) (A : Option Addr) (l : List Scm) (c : Nat) (w : World) (hB : LV w Bx #[.slice A l.length c] 26) (hS : Sl rScm N w A l) (hso : ScmOk l) :
    Calls Tryz.prog 79 #[.pointer (some ⟨Bx, 0, none⟩)] w fun e w' => e = .returned (.int .i64 (scmsFault l)) ∧ Below w.heap.size w w' := by
  have c0 := hB.all
  have Hc := Lib.hid (refSchemas_any N A l c w hS hso)
  clear hS
  go_enter Tryz.func79, Tryz.ntmps79
  go_wp2_with fail
  ((with_reducible refine (Hc.out).mono ?_); rintro e w1 ⟨rfl, hl1⟩)
  go_wp2_with fail
  go_ret
  exact ⟨rfl, hl1⟩
theorem evf2_any (Y : Nat) (N : Nat → Prop) (A : Option Addr) (c : Nat) (x : Evt) (w : World) (hY : LV w Y (evCs x A c) 32) (hS : Sl rFld N w A x.flds) (hok : EvtOk x) (hT : Tabs w) (hM : MaxL w) :
    Calls Tryz.prog 80 #[.pointer (some ⟨Y, 0, none⟩)] w fun e w' => e = .returned (.int .i64 (evtFault x)) ∧ Below w.heap.size w w' := by
  have c0 := hY.all
  have Hc := Lib.hid (refEvent_any N A c x w hS hok hT hM)
  clear hS hT hM
  go_enter Tryz.func80, Tryz.ntmps80
  go_wp2_with fail
  ((with_reducible refine (Hc.out).mono ?_); rintro e w1 ⟨rfl, hl1⟩)
  go_wp2_with fail
  go_ret
  exact ⟨rfl, hl1⟩
theorem evf3_any (Bx Y : Nat) (N : Nat → Prop) (A Af : Option Addr) (l : List Scm) (c cf : Nat) (x : Evt) (w : World) (hB : LV w Bx #[.slice A l.length c] 26) (hY : LV w Y (evCs x Af cf) 32) (hS : Sl rScm N w A l) (hso : ScmOk l) (hF : Sl rFld N w Af x.flds) (hok : EvtOk x) :
    Calls Tryz.prog 82 #[.pointer (some ⟨Bx, 0, none⟩), .pointer (some ⟨Y, 0, none⟩)] w fun e w' => e = .returned (.int .i64 (suit l x)) ∧ Below w.heap.size w w' := by
  have c0 := hY.all
  have b0 := hB.all
  have Hc := Lib.hid (schemaFault_any N A Af l c cf x w hS hso hF hok)
  clear hS hF
  go_enter Tryz.func82, Tryz.ntmps82
  go_wp2_with fail
  ((with_reducible refine (Hc.out).mono ?_); rintro e w1 ⟨rfl, hl1⟩)
  go_wp2_with fail
  go_ret
  exact ⟨rfl, hl1⟩
set_option maxHeartbeats 4000000 in
set_option maxRecDepth 100000 in
theorem eventFault_any (N : Nat → Prop) (A Af : Option Addr) (l : List Scm) (c cf : Nat) (x : Evt) (w : World) (hS : Sl rScm N w A l) (hso : ScmOk l) (hF : Sl rFld N w Af x.flds) (hok : EvtOk x) (hT : Tabs w) (hM : MaxL w) :
    Calls Tryz.prog 18 #[.slice A l.length c, .agg (evCs x Af cf)] w fun e w' => e = .returned (.int .i64 (evFault l x)) ∧ Below w.heap.size w w' := by
  have S := ((Mem.start w).new' #[.slice A l.length c] 26).newAt (evCs x Af cf) 32 (w.heap.size + 1) (by simp)
  replace S : Mem w ((w.alloc (.cells #[.slice A l.length c] 26)).alloc (.cells (evCs x Af cf) 32)) [.loc w.heap.size #[.slice A l.length c] 26, .loc (w.heap.size + 1) (evCs x Af cf) 32] := S
  obtain ⟨R, HR⟩ : ∃ R, Hid (evFault l x = R) := ⟨_, Lib.hid rfl⟩
  rw [HR.out]
  have Hn : Hid (firstErr [scmsFault l, evtFault x, suit l x] = R) := by
    show _ = _
    rw [← HR.out]
    unfold evFault first3
    simp only [firstErr]
    split
    · rfl
    · split
      · rfl
      · split <;> simp_all
  have H1 := Lib.hid (fun Bx w' (h : Below w.heap.size w w') hB => evf1_any Bx N A l c w' hB (hS.keepB h) hso)
  have H2 := Lib.hid (fun Y w' (h : Below w.heap.size w w') hY => evf2_any Y N Af cf x w' hY (hF.keepB h) hok (Utf8Tabs_below hT h) (hM.below h))
  have H3 := Lib.hid (fun Bx Y w' (h : Below w.heap.size w w') hB hY => evf3_any Bx Y N A Af l c cf x w' hB hY (hS.keepB h) hso (hF.keepB h) hok)
  clear hS hso hF hok hT hM HR
  go_enter Tryz.func18, Tryz.ntmps18
  go_upto_region 1 with fail
  generalize (w.alloc (.cells #[.slice A l.length c] 26)).alloc (.cells (evCs x Af cf) 32) = w1 at *
  obtain ⟨Y, hY⟩ : ∃ Y, Y = w.heap.size + 1 := ⟨_, rfl⟩
  obtain ⟨Bx, hBx⟩ : ∃ Bx, Bx = w.heap.size := ⟨_, rfl⟩
  rw [← hY, ← hBx] at S
  rw [← hY, ← hBx]
  clear hY hBx
  have S2 := S.new' #[.func (.func 79) #[] #[.pointer (some ⟨Bx, 0, none⟩)], .func (.func 80) #[] #[.pointer (some ⟨Y, 0, none⟩)], .func (.func 82) #[] #[.pointer (some ⟨Bx, 0, none⟩), .pointer (some ⟨Y, 0, none⟩)]] 127
  have Hf := Lib.hid (first_any w1.heap.size 3 [⟨79, #[.pointer (some ⟨Bx, 0, none⟩)], scmsFault l⟩, ⟨80, #[.pointer (some ⟨Y, 0, none⟩)], evtFault x⟩, ⟨82, #[.pointer (some ⟨Bx, 0, none⟩), .pointer (some ⟨Y, 0, none⟩)], suit l x⟩] _ rfl (S2.lv 2 rfl) (by simp)
    (fun c hc => by
      rcases List.mem_cons.1 hc with rfl | hc
      · exact enters_of Tryz.func79 (by kernel_rfl) rfl
      · rcases List.mem_cons.1 hc with rfl | hc
        · exact enters_of Tryz.func80 (by kernel_rfl) rfl
        · rw [List.mem_singleton.1 hc]; exact enters_of Tryz.func82 (by kernel_rfl) rfl)
    (fun c hc w' hw => by
      have S3 := S2.below hw
      rcases List.mem_cons.1 hc with rfl | hc
      · exact H1.out Bx w' S3.b (S3.lv 0 rfl)
      · rcases List.mem_cons.1 hc with rfl | hc
        · exact H2.out Y w' S3.b (S3.lv 1 rfl)
        · rw [List.mem_singleton.1 hc]; exact H3.out Bx Y w' S3.b (S3.lv 0 rfl) (S3.lv 1 rfl)))
  have Hb2 := Lib.hid S2.b
  clear H1 H2 H3 S S2
  go_wp2_with fail
  ((with_reducible refine (Hf.out).mono ?_); rintro e w5 ⟨rfl, hl5⟩)
  go_wp2_with fail
  go_ret
  exact ⟨ret_i Hn.out, Hb2.out.trans (hl5.mono Hb2.out.size)⟩
end Go.Proofs.YthlcdepjmoddnaaGreatDoor
