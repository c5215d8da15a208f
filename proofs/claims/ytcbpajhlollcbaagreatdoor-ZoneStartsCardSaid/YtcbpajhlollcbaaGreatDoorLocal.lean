/- What event.LocalAt, DayAt, Local and Day, and handref2.down and DayOf return. -/
import Derived.Test.YtcbpajhlollcbaaGreatDoorClock
namespace Go.Proofs.YtcbpajhlollcbaaGreatDoor
open Go.RowKit
set_option maxHeartbeats 4000000 in
set_option maxRecDepth 100000 in
theorem local1_any (N : Nat → Prop) (A : Option Addr) (nm : ByteArray) (xs : List Sft) (c Zb Mb k : Nat) (m : Int) (s : Sft) (w : World) (hS : Sl rSft N w A xs) (hn : xs.length ≤ 1000) (hZ : LV w Zb #[.string nm, .slice A xs.length c] 28) (hM : LV w Mb #[.int .i64 m] 3) (hk : xs[k]? = some s) :
    Calls Tryz.prog 93 #[.int .i64 (k : Int), .pointer (some ⟨Zb, 0, none⟩), .pointer (some ⟨Mb, 0, none⟩)] w fun e w' => e = .returned (.bool (decide (m < s.at'))) ∧ Below w.heap.size w w' := by
  obtain ⟨blk, off, rfl, hblk, c0, c1⟩ := hS.sft k s hk
  have hlt : k < xs.length := (List.getElem?_eq_some_iff.1 hk).1
  have z1 : w.cell? ⟨Zb, 1, none⟩ = some (.slice (some ⟨blk, off, none⟩) xs.length c) := hZ.cell 1 _ rfl
  have m0 : w.cell? ⟨Mb, 0, none⟩ = some (.int .i64 m) := hM.cell 0 _ rfl
  clear hS hZ hM hk c1
  go_enter Tryz.func93, Tryz.ntmps93
  go_wp2_with fail
  go_quiet (fail)
  go_wp2_with fail
  go_ret
  exact ⟨rfl, below_drewN _ _ _⟩
/-- where the shifts behind m begin -/
def GivesCut (xs : List Sft) (m : Int) (w : World) (e : Ending) (w' : World) : Prop :=
  ∃ i : Nat, e = .returned (.int .i64 (i : Int)) ∧ i ≤ xs.length ∧ (∀ (p : Nat) (s : Sft), p < i → xs[p]? = some s → s.at' ≤ m) ∧ (∀ (p : Nat) (s : Sft), i ≤ p → xs[p]? = some s → m < s.at') ∧ Below w.heap.size w w'
set_option maxHeartbeats 4000000 in
set_option maxRecDepth 100000 in
theorem search_any (N : Nat → Prop) (A : Option Addr) (nm : ByteArray) (xs : List Sft) (c Zb Mb : Nat) (m : Int) (w : World) (hS : Sl rSft N w A xs) (hz : GoodZ xs) (hZ : LV w Zb #[.string nm, .slice A xs.length c] 28) (hM : LV w Mb #[.int .i64 m] 3) :
    Calls Tryz.prog 92 #[.int .i64 (xs.length : Int), .func (.func 93) #[] #[.pointer (some ⟨Zb, 0, none⟩), .pointer (some ⟨Mb, 0, none⟩)]] w (GivesCut xs m w) := by
  have hn := hz.len
  have Hz := Lib.hid hz
  have HS := Lib.hid hS
  clear hS hz
  go_enter Tryz.func92, Tryz.ntmps92
  go_wp2_with fail
  go_loopw [5, 6] (fun a b wr => ∃ i j : Nat, i ≤ j ∧ j ≤ xs.length ∧ a = .int .i64 i ∧ b = .int .i64 j ∧ (∀ (p : Nat) (s : Sft), p < i → xs[p]? = some s → s.at' ≤ m) ∧ (∀ (p : Nat) (s : Sft), j ≤ p → xs[p]? = some s → m < s.at') ∧ Below w.heap.size w wr) (fun a b _ => (intOf b - intOf a).toNat)
  case atStart => exact ⟨0, xs.length, by omega, by omega, rfl, rfl, (fun p f h => by omega), (fun p f h hp => by rw [List.getElem?_eq_none h] at hp; cases hp), Below.refl _ _⟩
  case round =>
    obtain ⟨i, j, hij, hj, rfl, rfl, hlo, hhi, hbl⟩ := hrel
    have Hlo := Lib.hid hlo
    have Hhi := Lib.hid hhi
    have hsz := hbl.size
    have hZr := LV.kb hZ hbl hZ.lt
    have hMr := LV.kb hM hbl hM.lt
    have HSr := Lib.hid (HS.out.keepB hbl)
    clear hlo hhi hZ hM
    by_cases hlt : i < j
    · obtain ⟨h, hh⟩ : ∃ h : Nat, h = (i + j) / 2 := ⟨_, rfl⟩
      have h1 : i ≤ h := by omega
      have h2 : h < j := by omega
      have eh : ((i : Int) + (j : Int)) / 2 = (h : Int) := by omega
      clear hh
      obtain ⟨s, hs⟩ : ∃ s, xs[h]? = some s := ⟨_, List.getElem?_eq_getElem (by omega)⟩
      have Hs := Lib.hid hs
      have Hc : Hid (Calls Tryz.prog 93 #[.int .i64 (h : Int), .pointer (some ⟨Zb, 0, none⟩), .pointer (some ⟨Mb, 0, none⟩)] wr fun e w' => e = .returned (.bool (decide (m < s.at'))) ∧ Below wr.heap.size wr w') := local1_any N A nm xs c Zb Mb h m s wr HSr.out (by omega) hZr hMr hs
      clear hs HSr hZr hMr
      go_wp2_with fail
      ((with_reducible refine (Hc.out).mono ?_); rintro e w1 ⟨rfl, hl_w1⟩)
      have Hb1 : Hid (Below w.heap.size w w1) := hbl.trans (hl_w1.mono hsz)
      clear hl_w1 Hc
      by_cases hc : m < s.at'
      · have hc' : decide (m < s.at') = true := by simpa using hc
        rw [hc']
        have Hl : Hid (∀ (p : Nat) (t : Sft), h ≤ p → xs[p]? = some t → m < t.at') := fun p t hp ht => by
          by_cases hph : p = h
          · subst hph
            rw [Hs.out] at ht
            cases ht
            exact hc
          · have := Hz.out.rise h p s t (by omega) Hs.out ht
            omega
        clear hc hc'
        go_wp2_with fail
        go_roundw
        case rel => exact ⟨i, h, by omega, by omega, rfl, rfl, Hlo.out, Hl.out, Hb1.out⟩
        case measure => simp [intOf]; omega
      · have hc' : decide (m < s.at') = false := by simpa using hc
        rw [hc']
        have Hl : Hid (∀ (p : Nat) (t : Sft), p < h + 1 → xs[p]? = some t → t.at' ≤ m) := fun p t hp ht => by
          by_cases hph : p = h
          · subst hph
            rw [Hs.out] at ht
            cases ht
            omega
          · have := Hz.out.rise p h t s (by omega) ht Hs.out
            omega
        clear hc hc'
        go_wp2_with fail
        go_roundw
        case rel => exact ⟨h + 1, j, by omega, by omega, by go_num, rfl, Hl.out, Hhi.out, Hb1.out⟩
        case measure => simp [intOf]; omega
    · obtain rfl : i = j := by omega
      go_wp2_with fail
      go_ret
      exact ⟨i, rfl, by omega, Hlo.out, Hhi.out, hbl⟩
set_option maxHeartbeats 4000000 in
set_option maxRecDepth 100000 in
theorem localAt_any (N : Nat → Prop) (A : Option Addr) (nm : ByteArray) (xs : List Sft) (c : Nat) (m : Int) (w : World) (hS : Sl rSft N w A xs) (hz : GoodZ xs) (hm : 0 ≤ m ∧ m < 4321440) :
    Calls Tryz.prog 50 #[.agg #[.string nm, .slice A xs.length c], .int .i64 m] w fun e w' => e = .returned (.int .i64 (clk xs m)) ∧ Below w.heap.size w w' := by
  have hn := hz.len
  have Hz := Lib.hid hz
  have Hb0 : Hid (Below w.heap.size w ((w.alloc (.cells #[.string nm, .slice A xs.length c] 28)).alloc (.cells #[.int .i64 m] 3))) := ((Below.refl _ _).alloc (Nat.le_refl _) _).alloc (by simp) _
  have HS0 := Lib.hid (hS.keepB Hb0.out)
  have lvZ := (LV.new w w.heap.size #[.string nm, .slice A xs.length c] 28 rfl).alloc (.cells #[.int .i64 m] 3)
  have lvM := LV.new (w.alloc (.cells #[.string nm, .slice A xs.length c] 28)) (w.heap.size + 1) #[.int .i64 m] 3 (by simp)
  clear hS hz
  go_enter Tryz.func50, Tryz.ntmps50
  go_wp2_with fail
  ((with_reducible refine (search_any N A nm xs c w.heap.size (w.heap.size + 1) m _ HS0.out Hz.out lvZ lvM).mono ?_); rintro e w1 ⟨i, rfl, hi, hlo, hhi, hl1⟩)
  have HS1 := Lib.hid (HS0.out.keepB hl1)
  have Hb1 := Lib.hid (Hb0.out.trans (hl1.mono (by simp; omega)))
  have lvZ1 := LV.kb lvZ hl1 lvZ.lt
  have lvM1 := LV.kb lvM hl1 lvM.lt
  have hi0 : i ≠ 0 := by
    rintro rfl
    have hlt : 0 < xs.length := Hz.out.ne
    have hk : xs[0]? = some xs[0] := List.getElem?_eq_getElem hlt
    have h1 := hhi 0 _ (Nat.le_refl _) hk
    have h2 := Hz.out.zero _ hk
    omega
  obtain ⟨j, rfl⟩ : ∃ j, i = j + 1 := ⟨i - 1, by omega⟩
  obtain ⟨s, hs⟩ : ∃ s, xs[j]? = some s := ⟨_, List.getElem?_eq_getElem (by omega)⟩
  obtain ⟨blk, off, rfl, hblk, c0, c1⟩ := HS1.out.sft j s hs
  have z1 : w1.cell? ⟨w.heap.size, 1, none⟩ = some (.slice (some ⟨blk, off, none⟩) xs.length c) := lvZ1.cell 1 _ rfl
  have m0 : w1.cell? ⟨w.heap.size + 1, 0, none⟩ = some (.int .i64 m) := lvM1.cell 0 _ rfl
  have Hr : Hid (clk xs m = m + s.off) := clk_at xs m j s hs (hlo j s (by omega) hs) (fun p t hp ht => hhi p t (by omega) ht)
  have hoff := (Hz.out.rng s (List.mem_of_getElem? hs)).2
  have hk3 : (j : Int) + 1 - 1 = (j : Int) := by omega
  have hk4 : ((j + 1 : Nat) : Int) - 1 = (j : Int) := by omega
  have hsum : IntKind.i64.wrap (m + s.off) = m + s.off := IntWalk.i64_in _ (by omega)
  clear hlo hhi hl1 hs c0 lvZ1 lvM1 lvZ lvM HS0 HS1 Hb0 hi0
  go_wp2_with fail
  go_quiet (fail)
  go_wp2_with fail
  go_ret
  exact ⟨ret_i Hr.out.symm, Hb1.out.trans (below_drewN _ _ _)⟩
/-- the day of what clocks show -/
def dayIn (c : Int) : Int := c / 1440
set_option maxHeartbeats 4000000 in
set_option maxRecDepth 100000 in
theorem dayAt_any (N : Nat → Prop) (A : Option Addr) (nm : ByteArray) (xs : List Sft) (c : Nat) (m : Int) (w : World) (hS : Sl rSft N w A xs) (hz : GoodZ xs) (hm : 0 ≤ m ∧ m < 4321440) :
    Calls Tryz.prog 51 #[.agg #[.string nm, .slice A xs.length c], .int .i64 m] w fun e w' => e = .returned (.int .i64 (dayIn (clk xs m))) ∧ Below w.heap.size w w' := by
  have Hb0 : Hid (Below w.heap.size w (w.alloc (.cells #[.string nm, .slice A xs.length c] 28))) := (Below.refl _ _).alloc (Nat.le_refl _) _
  have Hc := Lib.hid (localAt_any N A nm xs c m _ (hS.keepB Hb0.out) hz hm)
  have hle := clk_le xs m (fun s hs => (hz.rng s hs).2)
  generalize clk xs m = cl at *
  have Hr : Hid ((cl + 1440) / 1440 - 1 = dayIn cl) := by
    show _ = _
    unfold dayIn
    omega
  clear hS hz
  go_enter Tryz.func51, Tryz.ntmps51
  go_wp2_with fail
  ((with_reducible refine (Hc.out).mono ?_); rintro e w1 ⟨rfl, hl_w1⟩)
  have hz_w1 := hl_w1.size
  have Hb1 := Lib.hid (Hb0.out.trans (hl_w1.mono (by simp)))
  clear Hc hl_w1 hz_w1
  go_wp2_with fail
  go_ret
  exact ⟨ret_i (by rw [← Hr.out]), Hb1.out⟩
set_option maxHeartbeats 4000000 in
set_option maxRecDepth 100000 in
theorem down_any (a : Int) (w : World) (ha : -10000000000 ≤ a ∧ a ≤ 10000000000) :
    Calls Tryz.prog 57 #[.int .i64 a, .int .i64 1440] w fun e w' => e = .returned (.int .i64 (dayIn a)) ∧ w = w' := by
  obtain ⟨q, hq⟩ : ∃ q, a.tdiv 1440 = q := ⟨_, rfl⟩
  have hq1 : a / 1440 ≤ q ∧ q ≤ a / 1440 + 1 := by
    rw [← hq]
    by_cases h : a < 0
    · have h2 := Int.neg_tdiv (a := -a) (b := 1440)
      have h3 : (-a).tdiv 1440 = (-a) / 1440 := Int.tdiv_eq_ediv_of_nonneg (by omega)
      rw [Int.neg_neg, h3] at h2
      rw [h2]
      omega
    · rw [Int.tdiv_eq_ediv_of_nonneg (by omega)]; omega
  go_enter Tryz.func57, Tryz.ntmps57
  go_wp2_with fail
  clear hq
  go_loopw [5] (fun i wr => ∃ n : Int, i = .int .i64 n ∧ a / 1440 ≤ n ∧ n ≤ a / 1440 + 1 ∧ w = wr) (fun i _ => (intOf i - a / 1440).toNat)
  case atStart => exact ⟨q, rfl, hq1.1, hq1.2, rfl⟩
  case round =>
    obtain ⟨n, rfl, h1, h2, rfl⟩ := hrel
    by_cases hn : n = a / 1440
    · have h3 : ¬ a < n * 1440 := by omega
      go_wp2_with fail
      go_ret
      exact ⟨ret_i (by unfold dayIn; first | rfl | exact hn), rfl⟩
    · have h3 : a < n * 1440 := by omega
      go_wp2_with fail
      go_roundw
      case rel => exact ⟨n - 1, rfl, by omega, by omega, trivial⟩
      case measure => simp [intOf]; omega
set_option maxHeartbeats 4000000 in
set_option maxRecDepth 100000 in
theorem dayOf_any (N : Nat → Prop) (A : Option Addr) (nm : ByteArray) (xs : List Sft) (c : Nat) (m : Int) (w : World) (hS : Sl rSft N w A xs) (hz : GoodZ xs) (hm : -10000000 ≤ m ∧ m ≤ 10000000) :
    Calls Tryz.prog 18 #[.agg #[.string nm, .slice A xs.length c], .int .i64 m] w fun e w' => e = .returned (.int .i64 (dayIn (clk xs m))) ∧ Below w.heap.size w w' := by
  have Hb0 : Hid (Below w.heap.size w (w.alloc (.cells #[.string nm, .slice A xs.length c] 28))) := (Below.refl _ _).alloc (Nat.le_refl _) _
  have Hc := Lib.hid (clock_any N nm A c xs m _ (hS.keepB Hb0.out) (by have := hz.len; omega) (fun s hs => (hz.rng s hs).2) (by omega))
  have hle := clk_le xs m (fun s hs => (hz.rng s hs).2)
  generalize clk xs m = cl at *
  clear hS hz
  go_enter Tryz.func18, Tryz.ntmps18
  go_wp2_with fail
  ((with_reducible refine (Hc.out).mono ?_); rintro e w1 ⟨rfl, hl_w1⟩)
  have hz_w1 := hl_w1.size
  have Hb1 := Lib.hid (Hb0.out.trans (hl_w1.mono (by simp)))
  clear Hc hl_w1 hz_w1
  go_wp2_with fail
  ((with_reducible refine (down_any cl _ (by omega)).mono ?_); rintro e _ ⟨rfl, rfl⟩)
  go_wp2_with fail
  go_ret
  exact ⟨rfl, Hb1.out⟩
/-- what a reading of a zone gives: the fault, or the value v -/
def readV (f at' v : Int) : Value := if f ≠ 0 then .tuple #[.int .i64 0, .int .i64 f] else if ¬ (0 ≤ at' ∧ at' ≤ 4321439) then .tuple #[.int .i64 0, .int .i64 1] else .tuple #[.int .i64 v, .int .i64 0]
set_option maxHeartbeats 4000000 in
set_option maxRecDepth 100000 in
theorem local_any (N : Nat → Prop) (A : Option Addr) (nm : ByteArray) (xs : List Sft) (c : Nat) (m : Int) (w : World) (hS : Sl rSft N w A xs) (hnm : nm.size ≤ 1000000000) (hn : xs.length ≤ 1000000000) (hsm : ∀ s ∈ xs, s.small) :
    Calls Tryz.prog 12 #[.agg #[.string nm, .slice A xs.length c], .int .i64 m] w fun e w' => e = .returned (readV (zoneFault nm xs) m (clk xs m)) ∧ Below w.heap.size w w' := by
  have Hb0 : Hid (Below w.heap.size w (w.alloc (.cells #[.string nm, .slice A xs.length c] 28))) := (Below.refl _ _).alloc (Nat.le_refl _) _
  have lvZ := LV.new w w.heap.size #[.string nm, .slice A xs.length c] 28 rfl
  have HS := Lib.hid (hS.keepB Hb0.out)
  have Hc := Lib.hid (checkZone_any N A nm xs c _ HS.out hnm hn hsm)
  have Hg : Hid (zoneFault nm xs = 0 → GoodZ xs) := fun h => zone_good h
  clear hS hsm
  generalize zoneFault nm xs = f at *
  obtain ⟨R, HR⟩ : ∃ R, Hid (readV f m (clk xs m) = R) := ⟨_, Lib.hid rfl⟩
  rw [HR.out]
  go_enter Tryz.func12, Tryz.ntmps12
  go_wp2_with fail
  ((with_reducible refine (Hc.out).mono ?_); rintro e w1 ⟨rfl, hl_w1⟩)
  have hz_w1 := hl_w1.size
  have Hb1 := Lib.hid (Hb0.out.trans (hl_w1.mono (by simp)))
  have lv1 := LV.kb lvZ hl_w1 lvZ.lt
  have HS1 := Lib.hid (HS.out.keepB hl_w1)
  have z0 : w1.cell? ⟨w.heap.size, 0, none⟩ = some (.string nm) := lv1.cell 0 _ rfl
  have z1 : w1.cell? ⟨w.heap.size, 1, none⟩ = some (.slice A xs.length c) := lv1.cell 1 _ rfl
  clear Hc hl_w1 hz_w1 lvZ lv1 HS
  by_cases hf : f = 0
  · have Hgz := Lib.hid (Hg.out hf)
    subst hf
    clear Hg
    by_cases hm : 0 ≤ m ∧ m ≤ 4321439
    · have em : decide ((0 : Int) ≤ m ∧ m ≤ 4321439) = true := by simpa using hm
      have HR2 : Hid (.tuple #[.int .i64 (clk xs m), .int .i64 0] = R) := by show _ = _; rw [← HR.out, readV, if_neg (by simp), if_neg (not_not_intro hm)]
      clear HR
      have Hv : Hid (Calls Tryz.prog _ _ _ _) := Lib.hid (localAt_any N A nm xs c m w1 HS1.out Hgz.out (by omega))
      generalize clk xs m = v at *
      go_wp2_with fail
      ((with_reducible refine (ewithin_any _ _ _ _).mono ?_); rintro e _ ⟨rfl, rfl⟩)
      rw [em]
      go_wp2_with fail
      ((with_reducible refine (Hv.out).mono ?_); rintro e w2 ⟨rfl, hl_w2⟩)
      have Hb2 := Lib.hid (Hb1.out.trans (hl_w2.mono Hb1.out.size))
      clear Hv hl_w2
      go_wp2_with fail
      go_ret2
      exact ⟨by rw [← HR2.out]; rfl, Hb2.out⟩
    · have em : decide ((0 : Int) ≤ m ∧ m ≤ 4321439) = false := by simpa using hm
      have HR2 : Hid (.tuple #[.int .i64 0, .int .i64 1] = R) := by show _ = _; rw [← HR.out, readV, if_neg (by simp), if_pos hm]
      clear HR
      go_wp2_with fail
      ((with_reducible refine (ewithin_any _ _ _ _).mono ?_); rintro e _ ⟨rfl, rfl⟩)
      rw [em]
      go_wp2_with fail
      go_ret2
      exact ⟨by rw [← HR2.out]; rfl, Hb1.out⟩
  · have e0 : (f != 0) = true := by simpa using hf
    have HR2 : Hid (.tuple #[.int .i64 0, .int .i64 f] = R) := by show _ = _; rw [← HR.out, readV, if_pos hf]
    clear HR hf
    go_wp2_with fail
    go_ret2
    exact ⟨by rw [← HR2.out]; rfl, Hb1.out⟩
set_option maxHeartbeats 4000000 in
set_option maxRecDepth 100000 in
theorem day_any (N : Nat → Prop) (A : Option Addr) (nm : ByteArray) (xs : List Sft) (c : Nat) (m : Int) (w : World) (hS : Sl rSft N w A xs) (hnm : nm.size ≤ 1000000000) (hn : xs.length ≤ 1000000000) (hsm : ∀ s ∈ xs, s.small) :
    Calls Tryz.prog 13 #[.agg #[.string nm, .slice A xs.length c], .int .i64 m] w fun e w' => e = .returned (readV (zoneFault nm xs) m (dayIn (clk xs m))) ∧ Below w.heap.size w w' := by
  have Hb0 : Hid (Below w.heap.size w (w.alloc (.cells #[.string nm, .slice A xs.length c] 28))) := (Below.refl _ _).alloc (Nat.le_refl _) _
  have lvZ := LV.new w w.heap.size #[.string nm, .slice A xs.length c] 28 rfl
  have HS := Lib.hid (hS.keepB Hb0.out)
  have Hc := Lib.hid (checkZone_any N A nm xs c _ HS.out hnm hn hsm)
  have Hg : Hid (zoneFault nm xs = 0 → GoodZ xs) := fun h => zone_good h
  clear hS hsm
  generalize zoneFault nm xs = f at *
  obtain ⟨R, HR⟩ : ∃ R, Hid (readV f m (dayIn (clk xs m)) = R) := ⟨_, Lib.hid rfl⟩
  rw [HR.out]
  go_enter Tryz.func13, Tryz.ntmps13
  go_wp2_with fail
  ((with_reducible refine (Hc.out).mono ?_); rintro e w1 ⟨rfl, hl_w1⟩)
  have hz_w1 := hl_w1.size
  have Hb1 := Lib.hid (Hb0.out.trans (hl_w1.mono (by simp)))
  have lv1 := LV.kb lvZ hl_w1 lvZ.lt
  have HS1 := Lib.hid (HS.out.keepB hl_w1)
  have z0 : w1.cell? ⟨w.heap.size, 0, none⟩ = some (.string nm) := lv1.cell 0 _ rfl
  have z1 : w1.cell? ⟨w.heap.size, 1, none⟩ = some (.slice A xs.length c) := lv1.cell 1 _ rfl
  clear Hc hl_w1 hz_w1 lvZ lv1 HS
  by_cases hf : f = 0
  · have Hgz := Lib.hid (Hg.out hf)
    subst hf
    clear Hg
    by_cases hm : 0 ≤ m ∧ m ≤ 4321439
    · have em : decide ((0 : Int) ≤ m ∧ m ≤ 4321439) = true := by simpa using hm
      have HR2 : Hid (.tuple #[.int .i64 (dayIn (clk xs m)), .int .i64 0] = R) := by show _ = _; rw [← HR.out, readV, if_neg (by simp), if_neg (not_not_intro hm)]
      clear HR
      have Hv : Hid (Calls Tryz.prog _ _ _ _) := Lib.hid (dayAt_any N A nm xs c m w1 HS1.out Hgz.out (by omega))
      generalize dayIn (clk xs m) = v at *
      go_wp2_with fail
      ((with_reducible refine (ewithin_any _ _ _ _).mono ?_); rintro e _ ⟨rfl, rfl⟩)
      rw [em]
      go_wp2_with fail
      ((with_reducible refine (Hv.out).mono ?_); rintro e w2 ⟨rfl, hl_w2⟩)
      have Hb2 := Lib.hid (Hb1.out.trans (hl_w2.mono Hb1.out.size))
      clear Hv hl_w2
      go_wp2_with fail
      go_ret2
      exact ⟨by rw [← HR2.out]; rfl, Hb2.out⟩
    · have em : decide ((0 : Int) ≤ m ∧ m ≤ 4321439) = false := by simpa using hm
      have HR2 : Hid (.tuple #[.int .i64 0, .int .i64 1] = R) := by show _ = _; rw [← HR.out, readV, if_neg (by simp), if_pos hm]
      clear HR
      go_wp2_with fail
      ((with_reducible refine (ewithin_any _ _ _ _).mono ?_); rintro e _ ⟨rfl, rfl⟩)
      rw [em]
      go_wp2_with fail
      go_ret2
      exact ⟨by rw [← HR2.out]; rfl, Hb1.out⟩
  · have e0 : (f != 0) = true := by simpa using hf
    have HR2 : Hid (.tuple #[.int .i64 0, .int .i64 f] = R) := by show _ = _; rw [← HR.out, readV, if_pos hf]
    clear HR hf
    go_wp2_with fail
    go_ret2
    exact ⟨by rw [← HR2.out]; rfl, Hb1.out⟩
end Go.Proofs.YtcbpajhlollcbaaGreatDoor
