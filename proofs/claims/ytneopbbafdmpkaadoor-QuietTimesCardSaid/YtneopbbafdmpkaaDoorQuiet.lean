/- What journey.LocalMinute, send.quiet, checkQuiet, IsQuiet and Awake, and handref2.QuietAt return. -/
import Derived.Test.YtneopbbafdmpkaaDoorQuietLaw
import Derived.Test.YtneopbbafdmpkaaDoorLocal
import Derived.Test.YtneopbbafdmpkaaDoorRefZone
import Derived.Test.YtneopbbafdmpkaaDoorSendRoom2
namespace Go.Proofs.YtneopbbafdmpkaaDoor
open Go.RowKit
/-- a moment is quiet for a channel -/
def quietB (r : SRules) (xs : List Sft) (ch m : Int) : Bool := r.quiet.contains ch && !(decide (r.qfrom = r.qto)) && qAt r.qfrom r.qto (minute xs m)
set_option maxHeartbeats 4000000 in
theorem localMinute_any (N : Nat → Prop) (A : Option Addr) (nm : ByteArray) (xs : List Sft) (c : Nat) (m : Int) (w : World) (hS : Sl rSft N w A xs) (hz : GoodZ xs) (hm : 0 ≤ m ∧ m < 4321440) :
    Calls Tryd.prog 51 #[.agg #[.string nm, .slice A xs.length c], .int .i64 m] w fun e w' => e = .returned (.int .i64 (minute xs m)) ∧ Below w.heap.size w w' := by
  have hb := (Below.refl w.heap.size w).alloc (Nat.le_refl _) (.cells #[.string nm, .slice A xs.length c] 51)
  have Hl := Lib.hid (localAt_any N A nm xs c m _ (hS.keepB hb) hz hm)
  have h2 := minute_in xs m (fun s hs => (hz.rng s hs).2) hm.1
  have h3 := clk_le xs m (fun s hs => (hz.rng s hs).2)
  unfold minute at *
  clear hS hz
  generalize clk xs m = k at *
  have e1 : IntKind.i64.wrap (k + 1440) = k + 1440 := IntWalk.i64_in _ (by omega)
  go_enter Tryd.func51, Tryd.ntmps51
  go_wp2_with fail
  ((with_reducible refine (Hl.out).mono ?_); rintro e w1 ⟨rfl, hl1⟩)
  go_wp2_with fail
  go_ret
  exact ⟨rfl, hb.trans (hl1.mono hb.size)⟩
set_option maxHeartbeats 4000000 in
set_option maxRecDepth 100000 in
theorem quiet_any (N : Nat → Prop) (r : SRules) (Aq Ar Ac Ap Ad : Option Addr) (cq cr cc cpp cd : Nat) (A : Option Addr) (nm : ByteArray) (xs : List Sft) (c : Nat) (ch m : Int) (w : World) (hq : Sl rInt N w Aq r.quiet) (hql : r.quiet.length ≤ 1000) (hS : Sl rSft N w A xs) (hz : GoodZ xs) (hm : 0 ≤ m ∧ m < 4321440) :
    Calls Tryd.prog 38 #[.agg (rulesV r Aq Ar Ac Ap Ad cq cr cc cpp cd), .agg #[.string nm, .slice A xs.length c], .int .i64 ch, .int .i64 m] w fun e w' => e = .returned (.bool (quietB r xs ch m)) ∧ Below w.heap.size w w' := by
  obtain ⟨o1, ho1⟩ : ∃ o, o = Obj.cells (rulesV r Aq Ar Ac Ap Ad cq cr cc cpp cd) 30 := ⟨_, rfl⟩
  obtain ⟨o2, ho2⟩ : ∃ o, o = Obj.cells #[.string nm, .slice A xs.length c] 51 := ⟨_, rfl⟩
  have hb2 : Below w.heap.size w ((w.alloc o1).alloc o2) := ((Below.refl _ _).alloc (Nat.le_refl _) _).alloc (by simp) _
  have l1 : LV ((w.alloc o1).alloc o2) w.heap.size (rulesV r Aq Ar Ac Ap Ad cq cr cc cpp cd) 30 := by rw [ho1]; exact (LV.new _ _ _ _ rfl).alloc _
  have l2 : LV ((w.alloc o1).alloc o2) (w.heap.size + 1) #[.string nm, .slice A xs.length c] 51 := by rw [ho2]; exact LV.new _ _ _ _ (by simp)
  have hsz : ((w.alloc o1).alloc o2).heap.size = w.heap.size + 2 := by simp
  have Hc := Lib.hid (containsInt_any N Aq r.quiet cq r.quiet.length ch _ (hq.keepB hb2) (Nat.le_refl _) (by omega))
  rw [List.take_length] at Hc
  have Hl := Lib.hid (localMinute_any N A nm xs c m _ (hS.keepB hb2) hz hm)
  have HR : Hid (quietB r xs ch m = (r.quiet.contains ch && !(decide (r.qfrom = r.qto)) && qAt r.qfrom r.qto (minute xs m))) := Lib.hid rfl
  generalize quietB r xs ch m = R at *
  generalize r.quiet.contains ch = C at *
  generalize minute xs m = k at *
  clear hq hS hz hql
  have c0 := l1.cell 0 _ rfl
  have c1 := l1.cell 1 _ rfl
  have c2 := l1.cell 2 _ rfl
  have c3 := l1.cell 3 _ rfl
  have c4 := l1.cell 4 _ rfl
  have c5 := l1.cell 5 _ rfl
  have c6 := l1.cell 6 _ rfl
  have d0 := l2.cell 0 _ rfl
  have d1 := l2.cell 1 _ rfl
  rw [ho1, ho2] at c0 c1 c2 c3 c4 c5 c6 d0 d1 Hl Hc
  go_enter Tryd.func38, Tryd.ntmps38
  cases C
  · go_wp2_with fail
    ((with_reducible refine (Hc.out).mono ?_); rintro e w1 ⟨rfl, rfl⟩)
    go_wp2_with fail
    go_ret
    rw [← ho1, ← ho2]
    exact ⟨by rw [HR.out] <;> rfl, hb2⟩
  · by_cases hft : r.qfrom = r.qto
    · go_wp2_with fail
      ((with_reducible refine (Hc.out).mono ?_); rintro e w1 ⟨rfl, rfl⟩)
      go_wp2_with fail
      go_ret
      rw [← ho1, ← ho2]
      exact ⟨by rw [HR.out]; simp [hft], hb2⟩
    · have HR2 : Hid (R = qAt r.qfrom r.qto k) := by show _ = _; rw [HR.out]; simp [hft]
      clear HR
      go_wp2_with fail
      ((with_reducible refine (Hc.out).mono ?_); rintro e w1 ⟨rfl, rfl⟩)
      go_wp2_with fail
      ((with_reducible refine (Hl.out).mono ?_); rintro e w1 ⟨rfl, hl1⟩)
      clear c0 c1 c2 c3 c4 c5 c6 d0 d1
      rw [← ho1, ← ho2] at hl1
      have m1 := l1.kb3 hl1 l1.lt
      have c1 : w1.cell? ⟨w.heap.size, 1, none⟩ = some (.int .i64 r.qfrom) := m1.cell 1 _ rfl
      have c2 : w1.cell? ⟨w.heap.size, 2, none⟩ = some (.int .i64 r.qto) := m1.cell 2 _ rfl
      have Hb1 : Hid (Below w.heap.size w w1) := hb2.trans (hl1.mono hb2.size)
      clear hl1 hb2 l1 l2 m1 Hc Hl
      rcases Int.lt_or_le r.qfrom r.qto with h1 | h1 <;> rcases Int.lt_or_le k r.qfrom with h2 | h2 <;> rcases Int.lt_or_le k r.qto with h3 | h3
      all_goals try (exfalso; omega)
      all_goals
        have HR3 : Hid (R = qAt r.qfrom r.qto k) := HR2
        clear HR2
        go_wp2_with fail
        go_ret
        exact ⟨ret_b (by rw [HR3.out, qAt]; split <;> first | (exfalso; omega) | rfl | (simp; done) | (simp; omega) | (rw [Bool.eq_iff_iff]; simp; omega)), Hb1.out⟩
/-- what is wrong with rules, a zone, a channel and a moment -/
def quietFault (r : SRules) (nm : ByteArray) (xs : List Sft) (ch m : Int) : Int :=
  if rulesFault r ≠ 0 then rulesFault r else if zoneFault nm xs ≠ 0 then zoneFault nm xs else if isCh ch = false then 4 else if ¬ (0 ≤ m ∧ m ≤ 4321439) then 1 else 0
set_option maxHeartbeats 4000000 in
set_option maxRecDepth 100000 in
theorem checkQuiet_any (N : Nat → Prop) (r : SRules) (Aq Ar Ac Ap Ad : Option Addr) (cq cr cc cpp cd : Nat) (A : Option Addr) (nm : ByteArray) (xs : List Sft) (c : Nat) (ch m : Int) (w : World) (hI : RulesIn N w r Aq Ar Ac Ap Ad) (hO : RulesOk r) (hcap : r.ranks.length ≤ cr ∧ r.pools.length ≤ cpp) (hS : Sl rSft N w A xs) (hnm : nm.size ≤ 1000000000) (hn : xs.length ≤ 1000000000) (hsm : ∀ s ∈ xs, s.small) :
    Calls Tryd.prog 37 #[.agg (rulesV r Aq Ar Ac Ap Ad cq cr cc cpp cd), .agg #[.string nm, .slice A xs.length c], .int .i64 ch, .int .i64 m] w fun e w' => e = .returned (.int .i64 (quietFault r nm xs ch m)) ∧ Below w.heap.size w w' := by
  obtain ⟨o1, ho1⟩ : ∃ o, o = Obj.cells (rulesV r Aq Ar Ac Ap Ad cq cr cc cpp cd) 30 := ⟨_, rfl⟩
  obtain ⟨o2, ho2⟩ : ∃ o, o = Obj.cells #[.string nm, .slice A xs.length c] 51 := ⟨_, rfl⟩
  have hb2 : Below w.heap.size w ((w.alloc o1).alloc o2) := ((Below.refl _ _).alloc (Nat.le_refl _) _).alloc (by simp) _
  have l1 : LV ((w.alloc o1).alloc o2) w.heap.size (rulesV r Aq Ar Ac Ap Ad cq cr cc cpp cd) 30 := by rw [ho1]; exact (LV.new _ _ _ _ rfl).alloc _
  have l2 : LV ((w.alloc o1).alloc o2) (w.heap.size + 1) #[.string nm, .slice A xs.length c] 51 := by rw [ho2]; exact LV.new _ _ _ _ (by simp)
  have hsz : ((w.alloc o1).alloc o2).heap.size = w.heap.size + 2 := by simp
  have Hc := Lib.hid (checkRules_any N r Aq Ar Ac Ap Ad cq cr cc cpp cd _ (hI.keepB hb2) hO hcap)
  have Hz := Lib.hid (fun w' (h : Below ((w.alloc o1).alloc o2).heap.size ((w.alloc o1).alloc o2) w') => checkZone_any N A nm xs c w' ((hS.keepB hb2).keepB h) hnm hn hsm)
  have HR : Hid (quietFault r nm xs ch m = if rulesFault r ≠ 0 then rulesFault r else if zoneFault nm xs ≠ 0 then zoneFault nm xs else if isCh ch = false then 4 else if ¬ (0 ≤ m ∧ m ≤ 4321439) then 1 else 0) := Lib.hid rfl
  generalize quietFault r nm xs ch m = R at *
  generalize rulesFault r = F at *
  generalize zoneFault nm xs = F2 at *
  clear hI hO hcap hS hnm hn hsm
  have c0 := l1.cell 0 _ rfl
  have c1 := l1.cell 1 _ rfl
  have c2 := l1.cell 2 _ rfl
  have c3 := l1.cell 3 _ rfl
  have c4 := l1.cell 4 _ rfl
  have c5 := l1.cell 5 _ rfl
  have c6 := l1.cell 6 _ rfl
  have d0 := l2.cell 0 _ rfl
  have d1 := l2.cell 1 _ rfl
  rw [ho1, ho2] at c0 c1 c2 c3 c4 c5 c6 d0 d1 Hc
  go_enter Tryd.func37, Tryd.ntmps37
  go_wp2_with fail
  ((with_reducible refine (Hc.out).mono ?_); rintro e w1 ⟨rfl, hl1⟩)
  clear c0 c1 c2 c3 c4 c5 c6 d0 d1 Hc
  rw [← ho1, ← ho2] at hl1
  clear ho1 ho2
  have m2 := l2.kb3 hl1 l2.lt
  have d0 : w1.cell? ⟨w.heap.size + 1, 0, none⟩ = some (.string nm) := m2.cell 0 _ rfl
  have d1 : w1.cell? ⟨w.heap.size + 1, 1, none⟩ = some (.slice A xs.length c) := m2.cell 1 _ rfl
  have Hb1 : Hid (Below w.heap.size w w1) := hb2.trans (hl1.mono hb2.size)
  have Hz1 := Lib.hid (Hz.out _ hl1)
  clear hl1 hb2 l1 l2 m2 Hz hsz
  by_cases hF : F = 0
  · subst hF
    go_wp2_with fail
    ((with_reducible refine (Hz1.out).mono ?_); rintro e w2 ⟨rfl, hl2⟩)
    clear d0 d1
    have Hb2 : Hid (Below w.heap.size w w2) := Hb1.out.trans (hl2.mono Hb1.out.size)
    clear hl2 Hz1
    by_cases hF2 : F2 = 0
    · subst hF2
      have HCh := Lib.hid (isChannel_any ch)
      generalize isCh ch = C at *
      cases C
      · go_wp2_with fail
        ((with_reducible refine (HCh.out _).mono ?_); rintro e _ ⟨rfl, rfl⟩)
        go_wp2_with fail
        go_ret
        exact ⟨ret_i (by rw [HR.out]; rfl), Hb2.out⟩
      · go_wp2_with fail
        ((with_reducible refine (HCh.out _).mono ?_); rintro e _ ⟨rfl, rfl⟩)
        have Hw := Lib.hid (fun w => swithin_any m 0 4321439 w)
        by_cases hm : 0 ≤ m ∧ m ≤ 4321439
        · rw [decide_eq_true hm] at Hw
          go_wp2_with fail
          ((with_reducible refine (Hw.out _).mono ?_); rintro e _ ⟨rfl, rfl⟩)
          go_wp2_with fail
          go_ret
          exact ⟨ret_i (by rw [HR.out]; simp [hm]), Hb2.out⟩
        · rw [decide_eq_false hm] at Hw
          go_wp2_with fail
          ((with_reducible refine (Hw.out _).mono ?_); rintro e _ ⟨rfl, rfl⟩)
          go_wp2_with fail
          go_ret
          exact ⟨ret_i (by rw [HR.out]; simp [hm]), Hb2.out⟩
    · have hF' : (F2 != 0) = true := by simpa using hF2
      go_wp2_with fail
      go_ret
      exact ⟨ret_i (by rw [HR.out, if_neg (by simp), if_pos hF2]), Hb2.out⟩
  · have hF' : (F != 0) = true := by simpa using hF
    go_wp2_with fail
    go_ret
    exact ⟨ret_i (by rw [HR.out, if_pos hF]), Hb1.out⟩
theorem quiet_good {r : SRules} {nm : ByteArray} {xs : List Sft} {ch m : Int} (h : quietFault r nm xs ch m = 0) : rulesFault r = 0 ∧ GoodZ xs ∧ 0 ≤ m ∧ m < 4321440 := by
  unfold quietFault at h
  by_cases h1 : rulesFault r = 0
  · rw [if_neg (not_not_intro h1)] at h
    by_cases h2 : zoneFault nm xs = 0
    · rw [if_neg (not_not_intro h2)] at h
      split at h
      · cases h
      · by_cases h3 : 0 ≤ m ∧ m ≤ 4321439
        · exact ⟨h1, zone_good h2, h3.1, by omega⟩
        · rw [if_pos h3] at h
          cases h
    · rw [if_pos h2] at h
      exact absurd h h2
  · rw [if_pos h1] at h
    exact absurd h h1
theorem rules_hours {r : SRules} (h : rulesFault r = 0) : (0 ≤ r.qfrom ∧ r.qfrom ≤ 1439) ∧ (0 ≤ r.qto ∧ r.qto ≤ 1439) := by
  unfold rulesFault at h
  split at h
  · contradiction
  · split at h
    · simp at h
    · rename_i h2
      exact Classical.not_not.1 h2
/-- n is the next moment from m on that is not quiet -/
structure AwakeAt (r : SRules) (xs : List Sft) (ch m n : Int) : Prop where
  lo : m ≤ n
  hi : n ≤ 4321440
  quiet : ∀ k, m ≤ k → k < n → quietB r xs ch k = true
  stop : n < 4321440 → quietB r xs ch n = false
theorem AwakeAt.one {r : SRules} {xs : List Sft} {ch m a b : Int} (h : AwakeAt r xs ch m a) (k : AwakeAt r xs ch m b) : a = b := by
  rcases Int.lt_trichotomy a b with hl | hl | hl
  · have := k.quiet a h.lo hl
    rw [h.stop (by have := k.hi; omega)] at this
    cases this
  · exact hl
  · have := h.quiet b k.lo hl
    rw [k.stop (by have := h.hi; omega)] at this
    cases this
/-- what Awake answers -/
def GivesAwake (F : Int) (r : SRules) (xs : List Sft) (ch m : Int) (w : World) (e : Ending) (w' : World) : Prop :=
  ∃ n : Int, e = .returned (.tuple #[.int .i64 n, .int .i64 F]) ∧ (F ≠ 0 → n = 0) ∧ (F = 0 → AwakeAt r xs ch m n) ∧ Below w.heap.size w w'
set_option maxHeartbeats 4000000 in
set_option maxRecDepth 100000 in
theorem isQuiet_any (N : Nat → Prop) (r : SRules) (Aq Ar Ac Ap Ad : Option Addr) (cq cr cc cpp cd : Nat) (A : Option Addr) (nm : ByteArray) (xs : List Sft) (c : Nat) (ch m : Int) (w : World) (hI : RulesIn N w r Aq Ar Ac Ap Ad) (hO : RulesOk r) (hcap : r.ranks.length ≤ cr ∧ r.pools.length ≤ cpp) (hS : Sl rSft N w A xs) (hnm : nm.size ≤ 1000000000) (hn : xs.length ≤ 1000000000) (hsm : ∀ s ∈ xs, s.small) :
    Calls Tryd.prog 18 #[.agg (rulesV r Aq Ar Ac Ap Ad cq cr cc cpp cd), .agg #[.string nm, .slice A xs.length c], .int .i64 ch, .int .i64 m] w fun e w' => e = .returned (.tuple #[.bool (if quietFault r nm xs ch m ≠ 0 then false else quietB r xs ch m), .int .i64 (quietFault r nm xs ch m)]) ∧ Below w.heap.size w w' := by
  obtain ⟨o1, ho1⟩ : ∃ o, o = Obj.cells (rulesV r Aq Ar Ac Ap Ad cq cr cc cpp cd) 30 := ⟨_, rfl⟩
  obtain ⟨o2, ho2⟩ : ∃ o, o = Obj.cells #[.string nm, .slice A xs.length c] 51 := ⟨_, rfl⟩
  have hb2 : Below w.heap.size w ((w.alloc o1).alloc o2) := ((Below.refl _ _).alloc (Nat.le_refl _) _).alloc (by simp) _
  have l1 : LV ((w.alloc o1).alloc o2) w.heap.size (rulesV r Aq Ar Ac Ap Ad cq cr cc cpp cd) 30 := by rw [ho1]; exact (LV.new _ _ _ _ rfl).alloc _
  have l2 : LV ((w.alloc o1).alloc o2) (w.heap.size + 1) #[.string nm, .slice A xs.length c] 51 := by rw [ho2]; exact LV.new _ _ _ _ (by simp)
  have hsz : ((w.alloc o1).alloc o2).heap.size = w.heap.size + 2 := by simp
  have Hc := Lib.hid (checkQuiet_any N r Aq Ar Ac Ap Ad cq cr cc cpp cd A nm xs c ch m _ (hI.keepB hb2) hO hcap (hS.keepB hb2) hnm hn hsm)
  have Hq := Lib.hid (fun (h : quietFault r nm xs ch m = 0) w' (hb : Below ((w.alloc o1).alloc o2).heap.size ((w.alloc o1).alloc o2) w') => quiet_any N r Aq Ar Ac Ap Ad cq cr cc cpp cd A nm xs c ch m w' ((hI.keepB hb2).keepB hb).q hO.ql ((hS.keepB hb2).keepB hb) (quiet_good h).2.1 (quiet_good h).2.2)
  generalize quietFault r nm xs ch m = F at *
  generalize quietB r xs ch m = R at *
  obtain ⟨V, HV⟩ : ∃ V, Hid ((if F ≠ 0 then false else R) = V) := ⟨_, Lib.hid rfl⟩
  rw [HV.out]
  clear hI hO hcap hS hnm hn hsm
  have c0 := l1.cell 0 _ rfl
  have c1 := l1.cell 1 _ rfl
  have c2 := l1.cell 2 _ rfl
  have c3 := l1.cell 3 _ rfl
  have c4 := l1.cell 4 _ rfl
  have c5 := l1.cell 5 _ rfl
  have c6 := l1.cell 6 _ rfl
  have d0 := l2.cell 0 _ rfl
  have d1 := l2.cell 1 _ rfl
  rw [ho1, ho2] at c0 c1 c2 c3 c4 c5 c6 d0 d1 Hc
  go_enter Tryd.func18, Tryd.ntmps18
  go_wp2_with fail
  ((with_reducible refine (Hc.out).mono ?_); rintro e w1 ⟨rfl, hl1⟩)
  clear c0 c1 c2 c3 c4 c5 c6 d0 d1 Hc
  rw [← ho1, ← ho2] at hl1
  clear ho1 ho2
  have Hb1 : Hid (Below w.heap.size w w1) := hb2.trans (hl1.mono hb2.size)
  by_cases hF : F = 0
  · have Hq1 := Lib.hid (Hq.out hF _ hl1)
    obtain rfl : R = V := by rw [← HV.out]; simp [hF]
    subst hF
    clear HV
    replace l1 := l1.kb3 hl1 l1.lt
    replace l2 := l2.kb3 hl1 l2.lt
    clear hl1 hb2 Hq hsz
    have c0 : w1.cell? ⟨w.heap.size, 0, none⟩ = some (.slice Aq r.quiet.length cq) := l1.cell 0 _ rfl
    have c1 : w1.cell? ⟨w.heap.size, 1, none⟩ = some (.int .i64 r.qfrom) := l1.cell 1 _ rfl
    have c2 : w1.cell? ⟨w.heap.size, 2, none⟩ = some (.int .i64 r.qto) := l1.cell 2 _ rfl
    have c3 : w1.cell? ⟨w.heap.size, 3, none⟩ = some (.slice Ar r.ranks.length cr) := l1.cell 3 _ rfl
    have c4 : w1.cell? ⟨w.heap.size, 4, none⟩ = some (.slice Ac r.caps.length cc) := l1.cell 4 _ rfl
    have c5 : w1.cell? ⟨w.heap.size, 5, none⟩ = some (.slice Ap r.pools.length cpp) := l1.cell 5 _ rfl
    have c6 : w1.cell? ⟨w.heap.size, 6, none⟩ = some (.slice Ad r.delays.length cd) := l1.cell 6 _ rfl
    have d0 : w1.cell? ⟨w.heap.size + 1, 0, none⟩ = some (.string nm) := l2.cell 0 _ rfl
    have d1 : w1.cell? ⟨w.heap.size + 1, 1, none⟩ = some (.slice A xs.length c) := l2.cell 1 _ rfl
    clear l1 l2
    go_wp2_with fail
    ((with_reducible refine (Hq1.out).mono ?_); rintro e w2 ⟨rfl, hl2⟩)
    go_wp2_with fail
    go_ret2
    exact ⟨rfl, Hb1.out.trans (hl2.mono Hb1.out.size)⟩
  · have hF' : (F != 0) = true := by simpa using hF
    obtain rfl : false = V := by rw [← HV.out]; simp [hF]
    clear HV
    go_wp2_with fail
    go_ret2
    exact ⟨rfl, Hb1.out⟩
set_option maxHeartbeats 4000000 in
set_option maxRecDepth 100000 in
theorem awake_any (N : Nat → Prop) (r : SRules) (Aq Ar Ac Ap Ad : Option Addr) (cq cr cc cpp cd : Nat) (A : Option Addr) (nm : ByteArray) (xs : List Sft) (c : Nat) (ch m : Int) (w : World) (hI : RulesIn N w r Aq Ar Ac Ap Ad) (hO : RulesOk r) (hcap : r.ranks.length ≤ cr ∧ r.pools.length ≤ cpp) (hS : Sl rSft N w A xs) (hnm : nm.size ≤ 1000000000) (hn : xs.length ≤ 1000000000) (hsm : ∀ s ∈ xs, s.small) :
    Calls Tryd.prog 19 #[.agg (rulesV r Aq Ar Ac Ap Ad cq cr cc cpp cd), .agg #[.string nm, .slice A xs.length c], .int .i64 ch, .int .i64 m] w (GivesAwake (quietFault r nm xs ch m) r xs ch m w) := by
  obtain ⟨o1, ho1⟩ : ∃ o, o = Obj.cells (rulesV r Aq Ar Ac Ap Ad cq cr cc cpp cd) 30 := ⟨_, rfl⟩
  obtain ⟨o2, ho2⟩ : ∃ o, o = Obj.cells #[.string nm, .slice A xs.length c] 51 := ⟨_, rfl⟩
  have hb2 : Below w.heap.size w ((w.alloc o1).alloc o2) := ((Below.refl _ _).alloc (Nat.le_refl _) _).alloc (by simp) _
  have l1 : LV ((w.alloc o1).alloc o2) w.heap.size (rulesV r Aq Ar Ac Ap Ad cq cr cc cpp cd) 30 := by rw [ho1]; exact (LV.new _ _ _ _ rfl).alloc _
  have l2 : LV ((w.alloc o1).alloc o2) (w.heap.size + 1) #[.string nm, .slice A xs.length c] 51 := by rw [ho2]; exact LV.new _ _ _ _ (by simp)
  have hsz : ((w.alloc o1).alloc o2).heap.size = w.heap.size + 2 := by simp
  have Hc := Lib.hid (checkQuiet_any N r Aq Ar Ac Ap Ad cq cr cc cpp cd A nm xs c ch m _ (hI.keepB hb2) hO hcap (hS.keepB hb2) hnm hn hsm)
  have Hq := Lib.hid (fun (h : quietFault r nm xs ch m = 0) k (hk : 0 ≤ k ∧ k < 4321440) w' (hb : Below ((w.alloc o1).alloc o2).heap.size ((w.alloc o1).alloc o2) w') => quiet_any N r Aq Ar Ac Ap Ad cq cr cc cpp cd A nm xs c ch k w' ((hI.keepB hb2).keepB hb).q hO.ql ((hS.keepB hb2).keepB hb) (quiet_good h).2.1 hk)
  have Hm := Lib.hid (fun (h : quietFault r nm xs ch m = 0) => (quiet_good h).2.2)
  generalize quietFault r nm xs ch m = F at *
  clear hI hO hcap hS hnm hn hsm
  have c0 := l1.cell 0 _ rfl
  have c1 := l1.cell 1 _ rfl
  have c2 := l1.cell 2 _ rfl
  have c3 := l1.cell 3 _ rfl
  have c4 := l1.cell 4 _ rfl
  have c5 := l1.cell 5 _ rfl
  have c6 := l1.cell 6 _ rfl
  have d0 := l2.cell 0 _ rfl
  have d1 := l2.cell 1 _ rfl
  rw [ho1, ho2] at c0 c1 c2 c3 c4 c5 c6 d0 d1 Hc
  go_enter Tryd.func19, Tryd.ntmps19
  go_wp2_with fail
  ((with_reducible refine (Hc.out).mono ?_); rintro e w1 ⟨rfl, hl1⟩)
  clear c0 c1 c2 c3 c4 c5 c6 d0 d1 Hc
  rw [← ho1, ← ho2] at hl1
  clear ho1 ho2
  by_cases hF : F = 0
  · have hm := Hm.out hF
    have Hq1 := Lib.hid (fun k hk w' h => Hq.out hF k hk w' h)
    subst hF
    clear Hq Hm
    generalize hW2 : (w.alloc o1).alloc o2 = W2 at *
    go_wp2_with fail
    go_loopw [3] (fun i wr => ∃ k : Int, i = .int .i64 k ∧ m ≤ k ∧ k ≤ 4321440 ∧ (∀ j, m ≤ j → j < k → quietB r xs ch j = true) ∧ Below W2.heap.size W2 wr) (fun i _ => (4321440 - intOf i).toNat)
    case atStart => exact ⟨m, rfl, by omega, by omega, fun j h1 h2 => by omega, hl1⟩
    case round =>
      clear hl1
      obtain ⟨k, rfl, h1, h2, h3, hbl⟩ := hrel
      have H3 := Lib.hid h3
      clear h3
      have Hbl := Lib.hid hbl
      have Hbw : Hid (Below w.heap.size w wr) := hb2.trans (hbl.mono hb2.size)
      by_cases hk : k < 4321440
      · have Hqk := Lib.hid (Hq1.out k (by omega) wr hbl)
        obtain ⟨b, HB⟩ : ∃ b, Hid (quietB r xs ch k = b) := ⟨_, Lib.hid rfl⟩
        rw [HB.out] at Hqk
        have n1 := l1.kb3 hbl l1.lt
        have n2 := l2.kb3 hbl l2.lt
        clear hbl
        have c0 : wr.cell? ⟨w.heap.size, 0, none⟩ = some (.slice Aq r.quiet.length cq) := n1.cell 0 _ rfl
        have c1 : wr.cell? ⟨w.heap.size, 1, none⟩ = some (.int .i64 r.qfrom) := n1.cell 1 _ rfl
        have c2 : wr.cell? ⟨w.heap.size, 2, none⟩ = some (.int .i64 r.qto) := n1.cell 2 _ rfl
        have c3 : wr.cell? ⟨w.heap.size, 3, none⟩ = some (.slice Ar r.ranks.length cr) := n1.cell 3 _ rfl
        have c4 : wr.cell? ⟨w.heap.size, 4, none⟩ = some (.slice Ac r.caps.length cc) := n1.cell 4 _ rfl
        have c5 : wr.cell? ⟨w.heap.size, 5, none⟩ = some (.slice Ap r.pools.length cpp) := n1.cell 5 _ rfl
        have c6 : wr.cell? ⟨w.heap.size, 6, none⟩ = some (.slice Ad r.delays.length cd) := n1.cell 6 _ rfl
        have d0 : wr.cell? ⟨w.heap.size + 1, 0, none⟩ = some (.string nm) := n2.cell 0 _ rfl
        have d1 : wr.cell? ⟨w.heap.size + 1, 1, none⟩ = some (.slice A xs.length c) := n2.cell 1 _ rfl
        clear n1 n2
        go_wp2_with fail
        ((with_reducible refine (Hqk.out).mono ?_); rintro e w2 ⟨rfl, hl2⟩)
        clear c0 c1 c2 c3 c4 c5 c6 d0 d1 Hqk
        cases b
        · go_wp2_with fail
          go_ret2
          exact ⟨k, rfl, fun h => absurd rfl h, fun _ => ⟨h1, h2, H3.out, fun _ => HB.out⟩, Hbw.out.trans (hl2.mono Hbw.out.size)⟩
        · go_wp2_with fail
          go_roundw
          case rel => exact ⟨k + 1, by go_num, by omega, by omega, (fun j a b => by
            by_cases hj : j = k
            · rw [hj]; exact HB.out
            · exact H3.out j a (by omega)), Hbl.out.trans (hl2.mono Hbl.out.size)⟩
          case measure => simp [intOf]; omega
      · go_wp2_with fail
        go_ret2
        exact ⟨k, rfl, fun h => absurd rfl h, fun _ => ⟨h1, h2, H3.out, fun h => by omega⟩, Hbw.out⟩
  · have hF' : (F != 0) = true := by simpa using hF
    go_wp2_with fail
    go_ret2
    exact ⟨0, rfl, fun _ => rfl, fun h => absurd h hF, hb2.trans (hl1.mono hb2.size)⟩
set_option maxHeartbeats 4000000 in
set_option maxRecDepth 100000 in
theorem quietAt_any (N : Nat → Prop) (r : SRules) (Aq Ar Ac Ap Ad : Option Addr) (cq cr cc cpp cd : Nat) (A : Option Addr) (nm : ByteArray) (xs : List Sft) (c : Nat) (ch m : Int) (w : World) (hq : Sl rInt N w Aq r.quiet) (hql : r.quiet.length ≤ 1000) (hh : (0 ≤ r.qfrom ∧ r.qfrom ≤ 1439) ∧ (0 ≤ r.qto ∧ r.qto ≤ 1439)) (hS : Sl rSft N w A xs) (hz : GoodZ xs) (hm : 0 ≤ m ∧ m < 4321440) :
    Calls Tryd.prog 22 #[.agg (rulesV r Aq Ar Ac Ap Ad cq cr cc cpp cd), .agg #[.string nm, .slice A xs.length c], .int .i64 ch, .int .i64 m] w fun e w' => e = .returned (.bool (quietB r xs ch m)) ∧ Below w.heap.size w w' := by
  obtain ⟨o1, ho1⟩ : ∃ o, o = Obj.cells (rulesV r Aq Ar Ac Ap Ad cq cr cc cpp cd) 30 := ⟨_, rfl⟩
  obtain ⟨o2, ho2⟩ : ∃ o, o = Obj.cells #[.string nm, .slice A xs.length c] 51 := ⟨_, rfl⟩
  have hb2 : Below w.heap.size w ((w.alloc o1).alloc o2) := ((Below.refl _ _).alloc (Nat.le_refl _) _).alloc (by simp) _
  have l1 : LV ((w.alloc o1).alloc o2) w.heap.size (rulesV r Aq Ar Ac Ap Ad cq cr cc cpp cd) 30 := by rw [ho1]; exact (LV.new _ _ _ _ rfl).alloc _
  have l2 : LV ((w.alloc o1).alloc o2) (w.heap.size + 1) #[.string nm, .slice A xs.length c] 51 := by rw [ho2]; exact LV.new _ _ _ _ (by simp)
  have hsz : ((w.alloc o1).alloc o2).heap.size = w.heap.size + 2 := by simp
  have Hc := Lib.hid (fun w' (h : Below ((w.alloc o1).alloc o2).heap.size ((w.alloc o1).alloc o2) w') => containsInt_any N Aq r.quiet cq r.quiet.length ch w' ((hq.keepB hb2).keepB h) (Nat.le_refl _) (by omega))
  rw [List.take_length] at Hc
  have Hl := Lib.hid (clock_any N nm A c xs m _ (hS.keepB hb2) (by have := hz.len; omega) (fun s hs => (hz.rng s hs).2) (by omega))
  have hk1 := minute_in xs m (fun s hs => (hz.rng s hs).2) hm.1
  have hk2 := clk_le xs m (fun s hs => (hz.rng s hs).2)
  obtain ⟨k, HK⟩ : ∃ k, Hid ((clk xs m + 1440) % 1440 = k) := ⟨_, Lib.hid rfl⟩
  have HR : Hid (quietB r xs ch m = (r.quiet.contains ch && !(decide (r.qfrom = r.qto)) && qAt r.qfrom r.qto k)) := by
    show _ = _
    rw [quietB, minute, HK.out]
  unfold minute at hk1
  rw [HK.out] at hk1
  have e1 : IntKind.i64.wrap (clk xs m + 1440) = clk xs m + 1440 := IntWalk.i64_in _ (by omega)
  generalize quietB r xs ch m = R at *
  generalize r.quiet.contains ch = C at *
  generalize clk xs m = q at *
  clear hq hS hz hql
  have c0 := l1.cell 0 _ rfl
  have c1 := l1.cell 1 _ rfl
  have c2 := l1.cell 2 _ rfl
  have c3 := l1.cell 3 _ rfl
  have c4 := l1.cell 4 _ rfl
  have c5 := l1.cell 5 _ rfl
  have c6 := l1.cell 6 _ rfl
  have d0 := l2.cell 0 _ rfl
  have d1 := l2.cell 1 _ rfl
  have hl1' := l1
  have hl2' := l2
  rw [ho1, ho2] at c0 c1 c2 c3 c4 c5 c6 d0 d1 Hl
  go_enter Tryd.func22, Tryd.ntmps22
  go_wp2_with fail
  ((with_reducible refine (Hl.out).mono ?_); rintro e w1 ⟨rfl, hl1⟩)
  clear c0 c1 c2 c3 c4 c5 c6 d0 d1 Hl hl1' hl2'
  rw [← ho1, ← ho2] at hl1
  clear ho1 ho2
  have Hb1 : Hid (Below w.heap.size w w1) := hb2.trans (hl1.mono hb2.size)
  have Hc1 := Lib.hid (Hc.out w1 hl1)
  have n1 := l1.kb3 hl1 l1.lt
  have n2 := l2.kb3 hl1 l2.lt
  clear Hc hb2 hl1 l1 l2 hsz
  have c0 : w1.cell? ⟨w.heap.size, 0, none⟩ = some (.slice Aq r.quiet.length cq) := n1.cell 0 _ rfl
  have c1 : w1.cell? ⟨w.heap.size, 1, none⟩ = some (.int .i64 r.qfrom) := n1.cell 1 _ rfl
  have c2 : w1.cell? ⟨w.heap.size, 2, none⟩ = some (.int .i64 r.qto) := n1.cell 2 _ rfl
  have c3 : w1.cell? ⟨w.heap.size, 3, none⟩ = some (.slice Ar r.ranks.length cr) := n1.cell 3 _ rfl
  have c4 : w1.cell? ⟨w.heap.size, 4, none⟩ = some (.slice Ac r.caps.length cc) := n1.cell 4 _ rfl
  have c5 : w1.cell? ⟨w.heap.size, 5, none⟩ = some (.slice Ap r.pools.length cpp) := n1.cell 5 _ rfl
  have c6 : w1.cell? ⟨w.heap.size, 6, none⟩ = some (.slice Ad r.delays.length cd) := n1.cell 6 _ rfl
  have d0 : w1.cell? ⟨w.heap.size + 1, 0, none⟩ = some (.string nm) := n2.cell 0 _ rfl
  have d1 : w1.cell? ⟨w.heap.size + 1, 1, none⟩ = some (.slice A xs.length c) := n2.cell 1 _ rfl
  clear n1 n2
  cases C
  · go_wp2_with fail
    ((with_reducible refine (Hc1.out).mono ?_); rintro e w2 ⟨rfl, rfl⟩)
    go_wp2_with fail
    go_ret
    exact ⟨ret_b (by rw [HR.out]; rfl), Hb1.out⟩
  · by_cases hft : r.qfrom = r.qto
    · go_wp2_with fail
      ((with_reducible refine (Hc1.out).mono ?_); rintro e w2 ⟨rfl, rfl⟩)
      go_wp2_with fail
      go_ret
      exact ⟨ret_b (by rw [HR.out]; simp [hft]), Hb1.out⟩
    · have HR2 : Hid (qAt r.qfrom r.qto k = R) := by show _ = _; rw [HR.out]; simp [hft]
      clear HR
      go_wp2_with fail
      ((with_reducible refine (Hc1.out).mono ?_); rintro e w2 ⟨rfl, rfl⟩)
      go_wp2_with fail
      first | rw [HK.out] | rw [show q % 1440 = k from by rw [← HK.out]; exact (Int.add_emod_right q 1440).symm]
      clear HK Hc1 e1 hk2
      go_loopw [9] (fun i wr => ∃ k : Int, i = .int .i64 k ∧ (0 ≤ k ∧ k ≤ 1439) ∧ qAt r.qfrom r.qto k = R ∧ w1 = wr) (fun i _ => backTo r.qfrom (intOf i))
      case atStart => exact ⟨k, rfl, hk1, HR2.out, rfl⟩
      case round =>
        clear HR2 hk1
        obtain ⟨j, rfl, hj, hr, rfl⟩ := hrel
        have Hr := Lib.hid hr
        clear hr
        by_cases hjf : j = r.qfrom
        · obtain rfl : true = R := by rw [← Hr.out, hjf, qAt_from hft]
          go_wp2_with fail
          go_ret
          exact ⟨rfl, Hb1.out⟩
        · by_cases hjt : j = r.qto
          · obtain rfl : false = R := by rw [← Hr.out, hjt, qAt_to hft]
            go_wp2_with fail
            go_ret
            exact ⟨rfl, Hb1.out⟩
          · have ea := ahead_rem hj
            have e1 : IntKind.i64.wrap (j + 1440) = j + 1440 := IntWalk.i64_in _ (by omega)
            have e2 : IntKind.i64.wrap (j + 1440 - 1) = j + 1440 - 1 := IntWalk.i64_in _ (by omega)
            have hin := ahead_in hj
            have hless := backTo_less hh.1 hj hjf
            by_cases hat : ahead j = r.qto
            · obtain rfl : false = R := by rw [← Hr.out, qAt_end hft hh.1 hh.2 hj hjf hjt hat]
              rw [hat] at ea
              clear hat hin hless
              go_wp2_with fail
              go_ret
              exact ⟨rfl, Hb1.out⟩
            · have Hn : Hid (qAt r.qfrom r.qto (ahead j) = R) := by show _ = _; rw [← Hr.out, qAt_step hh.1 hh.2 hj hjf hjt hat]
              clear Hr
              generalize ahead j = a at *
              go_wp2_with fail
              rw [ea]
              go_roundw
              case rel => exact ⟨a, rfl, hin, Hn.out, by first | rfl | trivial⟩
              case measure => simpa [intOf] using hless
end Go.Proofs.YtneopbbafdmpkaaDoor
