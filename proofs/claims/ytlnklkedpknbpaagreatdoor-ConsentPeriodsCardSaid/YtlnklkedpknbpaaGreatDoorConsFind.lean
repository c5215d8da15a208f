/- What a right policy has; what slices.BinarySearchFunc and consent.purposeOf return on it. -/
import Derived.Test.YtlnklkedpknbpaaGreatDoorConsPol
namespace Go.Proofs.YtlnklkedpknbpaaGreatDoor
open Go.RowKit
/-- the names rise -/
def RiseP (xs : List Purp) : Prop := ∀ (i j : Nat) (p q : Purp), i < j → xs[i]? = some p → xs[j]? = some q → ltS p.name q.name = true
/-- the terms rise -/
def RiseT (xs : List PTerm) : Prop := ∀ (i j : Nat) (s t : PTerm), i < j → xs[i]? = some s → xs[j]? = some t → tCmp s t < 0
structure GoodT (t : PTerm) : Prop where
  key : L.isKey t.region = true
  ch : isCh t.channel = true
  free : ¬ (t.free = true ∧ (t.days ≠ 0 ∨ t.wait ≠ 0))
  rng : (0 ≤ t.days ∧ t.days ≤ 2000) ∧ (0 ≤ t.wait ∧ t.wait ≤ 100000)
theorem termF_ok {prev : Option PTerm} {t : PTerm} (h : termF prev t = 0) : GoodT t ∧ ∀ p, prev = some p → tCmp p t < 0 := by
  by_cases h1 : L.isKey t.region = true
  · by_cases h2 : isCh t.channel = true
    · by_cases h3 : t.free = true ∧ (t.days ≠ 0 ∨ t.wait ≠ 0)
      · rw [termF_form h1 h2 h3] at h; cases h
      · by_cases h4 : (0 ≤ t.days ∧ t.days ≤ 2000) ∧ (0 ≤ t.wait ∧ t.wait ≤ 100000)
        · rw [termF_ord h1 h2 h3 h4] at h
          refine ⟨⟨h1, h2, h3, h4⟩, fun p hp => ?_⟩
          subst hp
          by_cases h5 : 0 ≤ tCmp p t
          · simp [h5] at h
          · omega
        · rw [termF_rng h1 h2 h3 h4] at h; cases h
    · rw [termF_ch h1 (by simpa using h2)] at h; cases h
  · rw [termF_key (by simpa using h1)] at h; cases h
theorem termsGo_ok : ∀ {l : List PTerm} {prev : Option PTerm}, termsGo prev l = 0 → (∀ t ∈ l, GoodT t) ∧ (∀ p, prev = some p → ∀ t ∈ l, tCmp p t < 0) ∧ RiseT l
  | [], _, _ => ⟨(fun _ h => by cases h), (fun _ _ _ h => by cases h), (fun _ _ _ _ _ h => by simp at h)⟩
  | x :: r, prev, h => by
    have hx : termF prev x = 0 := by
      by_cases e : termF prev x = 0
      · exact e
      · exact absurd (step_no (termsGo_cons' h) e) e
    obtain ⟨g, hp⟩ := termF_ok hx
    obtain ⟨i1, i2, i3⟩ := termsGo_ok (l := r) (prev := some x) (step_go (termsGo_cons' h) hx)
    refine ⟨fun t ht => ?_, fun p he t ht => ?_, fun i j s t hij hs ht => ?_⟩
    · rcases List.mem_cons.1 ht with rfl | ht
      · exact g
      · exact i1 t ht
    · rcases List.mem_cons.1 ht with rfl | ht
      · exact hp p he
      · exact tCmp_neg_trans (hp p he) (i2 x rfl t ht)
    · cases j with
      | zero => omega
      | succ j =>
        have ht : r[j]? = some t := by simpa using ht
        cases i with
        | zero =>
          obtain rfl : x = s := by simpa using hs
          exact i2 x rfl t (List.mem_of_getElem? ht)
        | succ i => exact i3 i j s t (by omega) (by simpa using hs) ht
where
  termsGo_cons' {prev : Option PTerm} {t : PTerm} {r : List PTerm} {R : Int} (h : termsGo prev (t :: r) = R) : (if termF prev t ≠ 0 then termF prev t else termsGo (some t) r) = R := h
/-- a right purpose -/
structure GoodP (p : Purp) : Prop where
  key : L.isKey p.name = true
  len : p.terms.length ≤ 160
  ts : ∀ t ∈ p.terms, GoodT t
  rise : RiseT p.terms
theorem terms_ok {l : List PTerm} (h : termsFault l = 0) : l.length ≤ 160 ∧ (∀ t ∈ l, GoodT t) ∧ RiseT l := by
  unfold termsFault at h
  split at h
  · cases h
  · obtain ⟨h1, _, h3⟩ := termsGo_ok h
    exact ⟨by omega, h1, h3⟩
theorem policyGo_ok : ∀ {l : List Purp} {prev : Option ByteArray}, policyGo prev l = 0 → (∀ p ∈ l, GoodP p) ∧ (∀ q, prev = some q → ∀ p ∈ l, ltS q p.name = true) ∧ RiseP l
  | [], _, _ => ⟨(fun _ h => by cases h), (fun _ _ _ h => by cases h), (fun _ _ _ _ _ h => by simp at h)⟩
  | x :: r, prev, h => by
    by_cases h1 : L.isKey x.name = true
    · cases h2 : prev.any (fun q => leS x.name q)
      · rw [policyGo_go h1 h2] at h
        have hx : termsFault x.terms = 0 := by
          by_cases e : termsFault x.terms = 0
          · exact e
          · exact absurd (step_no h e) e
        obtain ⟨t1, t2, t3⟩ := terms_ok hx
        obtain ⟨i1, i2, i3⟩ := policyGo_ok (l := r) (step_go h hx)
        have hp : ∀ q, prev = some q → ltS q x.name = true := fun q hq => by
          subst hq
          exact ltS_of_not_le (by simpa using h2)
        refine ⟨fun p hpm => ?_, fun q he p hpm => ?_, fun i j s t hij hs ht => ?_⟩
        · rcases List.mem_cons.1 hpm with rfl | hpm
          · exact ⟨h1, t1, t2, t3⟩
          · exact i1 p hpm
        · rcases List.mem_cons.1 hpm with rfl | hpm
          · exact hp q he
          · exact ltS_trans (hp q he) (i2 _ rfl p hpm)
        · cases j with
          | zero => omega
          | succ j =>
            have ht : r[j]? = some t := by simpa using ht
            cases i with
            | zero =>
              obtain rfl : x = s := by simpa using hs
              exact i2 _ rfl t (List.mem_of_getElem? ht)
            | succ i => exact i3 i j s t (by omega) (by simpa using hs) ht
      · rw [policyGo_ord h1 h2] at h; cases h
    · rw [policyGo_key (by simpa using h1)] at h; cases h
/-- a right policy -/
structure GoodPol (xs : List Purp) : Prop where
  len : 1 ≤ xs.length ∧ xs.length ≤ 30
  ps : ∀ p ∈ xs, GoodP p
  rise : RiseP xs
theorem policy_good {xs : List Purp} (h : policyFault xs = 0) : GoodPol xs := by
  unfold policyFault at h
  split at h
  · cases h
  · split at h
    · cases h
    · obtain ⟨h1, _, h3⟩ := policyGo_ok h
      exact ⟨⟨by omega, by omega⟩, h1, h3⟩
abbrev byNm (nm : ByteArray) (p : Purp) : Bool := p.name.toList == nm.toList
theorem byNm_iff (nm : ByteArray) (p : Purp) : byNm nm p = true ↔ p.name = nm := by
  constructor
  · intro h
    have h2 : (p.name.toList == nm.toList) = true := h
    rw [ByteArray.toList_eq, ByteArray.toList_eq] at h2
    exact WideShapes.bytes_inj (by simpa using h2)
  · rintro rfl; simp [byNm]
/-- the purpose of a name -/
def purpAt (xs : List Purp) (nm : ByteArray) : Option Purp := xs.find? (byNm nm)
def hasP (xs : List Purp) (nm : ByteArray) : Bool := xs.any (byNm nm)
theorem purpAt_some {xs : List Purp} {nm : ByteArray} (hr : RiseP xs) (k : Nat) (p : Purp) (hk : xs[k]? = some p) (hn : p.name = nm) : purpAt xs nm = some p := by
  unfold purpAt
  rw [List.find?_eq_some_iff_getElem]
  obtain ⟨hlt, rfl⟩ := List.getElem?_eq_some_iff.1 hk
  refine ⟨(byNm_iff _ _).2 hn, k, hlt, rfl, fun j hj => ?_⟩
  simp only [Bool.not_eq_true', Bool.eq_false_iff]
  intro h
  have h1 := hr j k xs[j] xs[k] hj (List.getElem?_eq_getElem (by omega)) hk
  rw [(byNm_iff _ _).1 h, hn, ltS_irr] at h1
  cases h1
theorem purpAt_none {xs : List Purp} {nm : ByteArray} (h : ∀ p ∈ xs, p.name ≠ nm) : purpAt xs nm = none := by
  unfold purpAt
  rw [List.find?_eq_none]
  exact fun p hp hb => h p hp ((byNm_iff _ _).1 hb)
theorem purpAt_has (xs : List Purp) (nm : ByteArray) : (purpAt xs nm).isSome = hasP xs nm := by
  unfold purpAt hasP
  rw [Bool.eq_iff_iff, List.find?_isSome]
  simp
/-- where a name stands, or would stand -/
def GivesP (xs : List Purp) (nm : ByteArray) (w : World) (e : Ending) (w' : World) : Prop :=
  ∃ (i : Nat) (b : Bool), e = .returned (.tuple #[.int .i64 i, .bool b]) ∧ i ≤ xs.length ∧ (b = true → ∃ p, xs[i]? = some p ∧ purpAt xs nm = some p) ∧ (b = false → purpAt xs nm = none) ∧ Below w.heap.size w w'
theorem purp1_any (p : Purp) (At : Option Addr) (n ct : Nat) (nm : ByteArray) (w : World) :
    Calls Tryz.prog 116 #[.agg #[.string p.name, .slice At n ct], .string nm] w fun e w' => e = .returned (.int .i64 (cmpS p.name nm)) ∧ Below w.heap.size w w' := by
  have Hb : Hid (Below w.heap.size w (w.alloc (.cells #[.string p.name, .slice At n ct] 58))) := (Below.refl _ _).alloc (Nat.le_refl _) _
  go_enter Tryz.func116, Tryz.ntmps116
  go_wp2_with fail
  ((with_reducible refine (compareS_any p.name nm _).mono ?_); rintro e _ ⟨rfl, rfl⟩)
  go_wp2_with fail
  go_ret
  exact ⟨rfl, Hb.out⟩
set_option maxHeartbeats 4000000 in
set_option maxRecDepth 100000 in
theorem bsearchP_any (N : Nat → Prop) (A : Option Addr) (xs : List Purp) (nm : ByteArray) (c : Nat) (w : World) (hS : Sl rPurp N w A xs) (hn : xs.length ≤ 1000) (hri : RiseP xs) :
    Calls Tryz.prog 115 #[.slice A xs.length c, .string nm, .func (.func 116) #[] #[]] w (GivesP xs nm w) := by
  have HS := Lib.hid hS
  have Hri := Lib.hid hri
  clear hS hri
  go_enter Tryz.func115, Tryz.ntmps115
  go_wp2_with fail
  go_loopw [9, 10] (fun a b wr => ∃ i j : Nat, i ≤ j ∧ j ≤ xs.length ∧ a = .int .i64 i ∧ b = .int .i64 j ∧ (∀ p f, p < i → xs[p]? = some f → ltS f.name nm = true) ∧ (∀ p f, j ≤ p → xs[p]? = some f → ltS f.name nm = false) ∧ Below w.heap.size w wr) (fun a b _ => (intOf b - intOf a).toNat)
  case atStart => exact ⟨0, xs.length, by omega, by omega, rfl, rfl, (fun p f h => by omega), (fun p f h hp => by rw [List.getElem?_eq_none h] at hp; cases hp), Below.refl _ _⟩
  case round =>
    obtain ⟨i, j, hij, hj, rfl, rfl, hlo, hhi, hbl⟩ := hrel
    have Hlo := Lib.hid hlo
    have Hhi := Lib.hid hhi
    have hsz := hbl.size
    clear hlo hhi
    by_cases hlt : i < j
    · obtain ⟨h, hh⟩ : ∃ h : Nat, h = (i + j) / 2 := ⟨_, rfl⟩
      have h1 : i ≤ h := by omega
      have h2 : h < j := by omega
      have eh : ((i : Int) + (j : Int)) / 2 = (h : Int) := by omega
      clear hh
      obtain ⟨f, hf⟩ : ∃ f, xs[h]? = some f := ⟨_, List.getElem?_eq_getElem (by omega)⟩
      obtain ⟨blk, off, At, ct, rfl, hblk, d0, d1, _⟩ := (HS.out.keepB hbl).purp h f hf
      have Hf := Lib.hid hf
      clear hf
      go_wp2_with fail
      ((with_reducible refine (purp1_any f At f.terms.length ct nm _).mono ?_); rintro e w1 ⟨rfl, hl_w1⟩)
      have hz_w1 := hl_w1.size
      have Hb1 : Hid (Below w.heap.size w w1) := hbl.trans (hl_w1.mono hsz)
      have Hcn := Lib.hid (cmpS_neg f.name nm)
      generalize cmpS f.name nm = cm at *
      clear hl_w1 hz_w1 d0 d1
      by_cases hc : cm < 0
      · have Hl : Hid (∀ p g, p < h + 1 → xs[p]? = some g → ltS g.name nm = true) := fun p g hp hg => by
          by_cases hph : p = h
          · subst hph
            rw [Hf.out] at hg
            cases hg
            exact Hcn.out.1 hc
          · exact ltS_trans (Hri.out p h g f (by omega) hg Hf.out) (Hcn.out.1 hc)
        go_wp2_with fail
        go_roundw
        case rel => exact ⟨h + 1, j, by omega, by omega, by go_num, rfl, Hl.out, Hhi.out, Hb1.out⟩
        case measure => simp [intOf]; omega
      · have hnl : ltS f.name nm = false := by
          cases hx : ltS f.name nm
          · rfl
          · exact absurd (Hcn.out.2 hx) hc
        have Hl : Hid (∀ p g, h ≤ p → xs[p]? = some g → ltS g.name nm = false) := fun p g hp hg => by
          by_cases hph : p = h
          · subst hph
            rw [Hf.out] at hg
            cases hg
            exact hnl
          · cases hx : ltS g.name nm
            · rfl
            · rw [ltS_trans (Hri.out h p f g (by omega) Hf.out hg) hx] at hnl
              cases hnl
        clear hnl
        go_wp2_with fail
        go_roundw
        case rel => exact ⟨i, h, by omega, by omega, rfl, rfl, Hlo.out, Hl.out, Hb1.out⟩
        case measure => simp [intOf]; omega
    · obtain rfl : i = j := by omega
      have Hne : Hid (∀ p g, p ≠ i → xs[p]? = some g → g.name ≠ nm) := fun p g hp hg e => by
        rcases Nat.lt_or_ge p i with hlt | hge
        · have := Hlo.out p g hlt hg
          rw [e, ltS_irr] at this
          cases this
        · by_cases hli : i < xs.length
          · have h3 := Hri.out i p xs[i] g (by omega) (List.getElem?_eq_getElem hli) hg
            rw [e] at h3
            rw [Hhi.out i xs[i] (Nat.le_refl _) (List.getElem?_eq_getElem hli)] at h3
            cases h3
          · have := lt_of_get hg
            omega
      by_cases hlen : i < xs.length
      · obtain ⟨f, hf⟩ : ∃ f, xs[i]? = some f := ⟨_, List.getElem?_eq_getElem hlen⟩
        obtain ⟨blk, off, At, ct, rfl, hblk, d0, d1, _⟩ := (HS.out.keepB hbl).purp i f hf
        have Hf := Lib.hid hf
        clear hf
        go_wp2_with fail
        ((with_reducible refine (purp1_any f At f.terms.length ct nm _).mono ?_); rintro e w1 ⟨rfl, hl_w1⟩)
        have hz_w1 := hl_w1.size
        have Hb1 : Hid (Below w.heap.size w w1) := hbl.trans (hl_w1.mono hsz)
        obtain ⟨cm, Hcm⟩ : ∃ cm, Hid (cmpS f.name nm = cm) := ⟨_, Lib.hid rfl⟩
        rw [Hcm.out]
        clear hl_w1 hz_w1 d0 d1
        go_wp2_with fail
        go_ret2
        refine ⟨i, (cm == 0), rfl, by omega, fun h => ⟨f, Hf.out, purpAt_some Hri.out i f Hf.out ((cmpS_zero _ _).1 (by rw [Hcm.out]; simpa using h))⟩, fun h => purpAt_none fun p hp e => ?_, Hb1.out⟩
        obtain ⟨q, hq⟩ := List.mem_iff_getElem?.1 hp
        by_cases hqi : q = i
        · subst hqi
          rw [Hf.out] at hq
          cases hq
          rw [← Hcm.out, (cmpS_zero _ _).2 e] at h
          cases h
        · exact Hne.out q p hqi hq e
      · go_wp2_with fail
        go_ret2
        refine ⟨i, false, rfl, by omega, (fun h => by cases h), fun _ => purpAt_none fun p hp e => ?_, hbl⟩
        obtain ⟨q, hq⟩ := List.mem_iff_getElem?.1 hp
        exact Hne.out q p (by have := lt_of_get hq; omega) hq e
end Go.Proofs.YtlnklkedpknbpaaGreatDoor
