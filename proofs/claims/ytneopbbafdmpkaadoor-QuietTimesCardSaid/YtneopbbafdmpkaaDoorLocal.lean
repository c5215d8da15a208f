/- What event.LocalAt, DayAt, Local and Day, and handref2.down and DayOf return. -/
import Derived.Test.YtneopbbafdmpkaaDoorClock
namespace Go.Proofs.YtneopbbafdmpkaaDoor
open Go.RowKit
set_option maxHeartbeats 4000000 in
set_option maxRecDepth 100000 in
theorem local1_any (N : Nat → Prop) (A : Option Addr) (nm : ByteArray) (xs : List Sft) (c Zb Mb k : Nat) (m : Int) (s : Sft) (w : World) (hS : Sl rSft N w A xs) (_hn : xs.length ≤ 1000) (hZ : LV w Zb #[.string nm, .slice A xs.length c] 51) (hM : LV w Mb #[.int .i64 m] 3) (hk : xs[k]? = some s) :
    Calls Tryd.prog 75 #[.int .i64 (k : Int), .pointer (some ⟨Zb, 0, none⟩), .pointer (some ⟨Mb, 0, none⟩)] w fun e w' => e = .returned (.bool (decide (m < s.at'))) ∧ Below w.heap.size w w' := by
  obtain ⟨blk, off, rfl, hblk, c0, c1⟩ := hS.sft k s hk
  have hlt : k < xs.length := (List.getElem?_eq_some_iff.1 hk).1
  have z1 : w.cell? ⟨Zb, 1, none⟩ = some (.slice (some ⟨blk, off, none⟩) xs.length c) := hZ.cell 1 _ rfl
  have m0 : w.cell? ⟨Mb, 0, none⟩ = some (.int .i64 m) := hM.cell 0 _ rfl
  clear hS hZ hM hk c1
  go_enter Tryd.func75, Tryd.ntmps75
  go_wp2_with fail
  go_quiet (fail)
  go_wp2_with fail
  go_ret
  exact ⟨rfl, below_drewN _ _ _⟩
/-- where the shifts behind m begin -/
def GivesCut (xs : List Sft) (m : Int) (w : World) (e : Ending) (w' : World) : Prop :=
  ∃ i : Nat, e = .returned (.int .i64 (i : Int)) ∧ i ≤ xs.length ∧ (∀ (p : Nat) (s : Sft), p < i → xs[p]? = some s → s.at' ≤ m) ∧ (∀ (p : Nat) (s : Sft), i ≤ p → xs[p]? = some s → m < s.at') ∧ Below w.heap.size w w'
set_option maxHeartbeats 4000000 in
set_option maxRecDepth 100000 in
theorem search_any (N : Nat → Prop) (A : Option Addr) (nm : ByteArray) (xs : List Sft) (c Zb Mb : Nat) (m : Int) (w : World) (hS : Sl rSft N w A xs) (hz : GoodZ xs) (hZ : LV w Zb #[.string nm, .slice A xs.length c] 51) (hM : LV w Mb #[.int .i64 m] 3) :
    Calls Tryd.prog 74 #[.int .i64 (xs.length : Int), .func (.func 75) #[] #[.pointer (some ⟨Zb, 0, none⟩), .pointer (some ⟨Mb, 0, none⟩)]] w (GivesCut xs m w) := by
  have hn := hz.len
  have Hz := Lib.hid hz
  have HS := Lib.hid hS
  clear hS hz
  go_enter Tryd.func74, Tryd.ntmps74
  go_wp2_with fail
  go_loopw [5, 6] (fun a b wr => ∃ i j : Nat, i ≤ j ∧ j ≤ xs.length ∧ a = .int .i64 i ∧ b = .int .i64 j ∧ (∀ (p : Nat) (s : Sft), p < i → xs[p]? = some s → s.at' ≤ m) ∧ (∀ (p : Nat) (s : Sft), j ≤ p → xs[p]? = some s → m < s.at') ∧ Below w.heap.size w wr) (fun a b _ => (intOf b - intOf a).toNat)
  case atStart => exact ⟨0, xs.length, by omega, by omega, rfl, rfl, (fun p f h => by omega), (fun p f h hp => by rw [List.getElem?_eq_none h] at hp; cases hp), Below.refl _ _⟩
  case round =>
    obtain ⟨i, j, hij, hj, rfl, rfl, hlo, hhi, hbl⟩ := hrel
    have Hlo := Lib.hid hlo
    have Hhi := Lib.hid hhi
    have hsz := hbl.size
    have hZr := LV.kb hZ hbl hZ.lt
    have hMr := LV.kb hM hbl hM.lt
    have HSr := Lib.hid (HS.out.keepB hbl)
    clear hlo hhi hZ hM
    by_cases hlt : i < j
    · obtain ⟨h, hh⟩ : ∃ h : Nat, h = (i + j) / 2 := ⟨_, rfl⟩
      have h1 : i ≤ h := by omega
      have h2 : h < j := by omega
      have eh : ((i : Int) + (j : Int)) / 2 = (h : Int) := by omega
      clear hh
      obtain ⟨s, hs⟩ : ∃ s, xs[h]? = some s := ⟨_, List.getElem?_eq_getElem (by omega)⟩
      have Hs := Lib.hid hs
      have Hc : Hid (Calls Tryd.prog 75 #[.int .i64 (h : Int), .pointer (some ⟨Zb, 0, none⟩), .pointer (some ⟨Mb, 0, none⟩)] wr fun e w' => e = .returned (.bool (decide (m < s.at'))) ∧ Below wr.heap.size wr w') := local1_any N A nm xs c Zb Mb h m s wr HSr.out (by omega) hZr hMr hs
      clear hs HSr hZr hMr
      go_wp2_with fail
      ((with_reducible refine (Hc.out).mono ?_); rintro e w1 ⟨rfl, hl_w1⟩)
      have Hb1 : Hid (Below w.heap.size w w1) := hbl.trans (hl_w1.mono hsz)
      clear hl_w1 Hc
      by_cases hc : m < s.at'
      · have hc' : decide (m < s.at') = true := by simpa using hc
        rw [hc']
        have Hl : Hid (∀ (p : Nat) (t : Sft), h ≤ p → xs[p]? = some t → m < t.at') := fun p t hp ht => by
          by_cases hph : p = h
          · subst hph
            rw [Hs.out] at ht
            cases ht
            exact hc
          · have := Hz.out.rise h p s t (by omega) Hs.out ht
            omega
        clear hc hc'
        go_wp2_with fail
        go_roundw
        case rel => exact ⟨i, h, by omega, by omega, rfl, rfl, Hlo.out, Hl.out, Hb1.out⟩
        case measure => simp [intOf]; omega
      · have hc' : decide (m < s.at') = false := by simpa using hc
        rw [hc']
        have Hl : Hid (∀ (p : Nat) (t : Sft), p < h + 1 → xs[p]? = some t → t.at' ≤ m) := fun p t hp ht => by
          by_cases hph : p = h
          · subst hph
            rw [Hs.out] at ht
            cases ht
            omega
          · have := Hz.out.rise p h t s (by omega) ht Hs.out
            omega
        clear hc hc'
        go_wp2_with fail
        go_roundw
        case rel => exact ⟨h + 1, j, by omega, by omega, by go_num, rfl, Hl.out, Hhi.out, Hb1.out⟩
        case measure => simp [intOf]; omega
    · obtain rfl : i = j := by omega
      go_wp2_with fail
      go_ret
      exact ⟨i, rfl, by omega, Hlo.out, Hhi.out, hbl⟩
set_option maxHeartbeats 4000000 in
set_option maxRecDepth 100000 in
theorem localAt_any (N : Nat → Prop) (A : Option Addr) (nm : ByteArray) (xs : List Sft) (c : Nat) (m : Int) (w : World) (hS : Sl rSft N w A xs) (hz : GoodZ xs) (hm : 0 ≤ m ∧ m < 4321440) :
    Calls Tryd.prog 65 #[.agg #[.string nm, .slice A xs.length c], .int .i64 m] w fun e w' => e = .returned (.int .i64 (clk xs m)) ∧ Below w.heap.size w w' := by
  have hn := hz.len
  have Hz := Lib.hid hz
  have Hb0 : Hid (Below w.heap.size w ((w.alloc (.cells #[.string nm, .slice A xs.length c] 51)).alloc (.cells #[.int .i64 m] 3))) := ((Below.refl _ _).alloc (Nat.le_refl _) _).alloc (by simp) _
  have HS0 := Lib.hid (hS.keepB Hb0.out)
  have lvZ := (LV.new w w.heap.size #[.string nm, .slice A xs.length c] 51 rfl).alloc (.cells #[.int .i64 m] 3)
  have lvM := LV.new (w.alloc (.cells #[.string nm, .slice A xs.length c] 51)) (w.heap.size + 1) #[.int .i64 m] 3 (by simp)
  clear hS hz
  go_enter Tryd.func65, Tryd.ntmps65
  go_wp2_with fail
  ((with_reducible refine (search_any N A nm xs c w.heap.size (w.heap.size + 1) m _ HS0.out Hz.out lvZ lvM).mono ?_); rintro e w1 ⟨i, rfl, hi, hlo, hhi, hl1⟩)
  have HS1 := Lib.hid (HS0.out.keepB hl1)
  have Hb1 := Lib.hid (Hb0.out.trans (hl1.mono (by simp; omega)))
  have lvZ1 := LV.kb lvZ hl1 lvZ.lt
  have lvM1 := LV.kb lvM hl1 lvM.lt
  have hi0 : i ≠ 0 := by
    rintro rfl
    have hlt : 0 < xs.length := Hz.out.ne
    have hk : xs[0]? = some xs[0] := List.getElem?_eq_getElem hlt
    have h1 := hhi 0 _ (Nat.le_refl _) hk
    have h2 := Hz.out.zero _ hk
    omega
  obtain ⟨j, rfl⟩ : ∃ j, i = j + 1 := ⟨i - 1, by omega⟩
  obtain ⟨s, hs⟩ : ∃ s, xs[j]? = some s := ⟨_, List.getElem?_eq_getElem (by omega)⟩
  obtain ⟨blk, off, rfl, hblk, c0, c1⟩ := HS1.out.sft j s hs
  have z1 : w1.cell? ⟨w.heap.size, 1, none⟩ = some (.slice (some ⟨blk, off, none⟩) xs.length c) := lvZ1.cell 1 _ rfl
  have m0 : w1.cell? ⟨w.heap.size + 1, 0, none⟩ = some (.int .i64 m) := lvM1.cell 0 _ rfl
  have Hr : Hid (clk xs m = m + s.off) := clk_at xs m j s hs (hlo j s (by omega) hs) (fun p t hp ht => hhi p t (by omega) ht)
  have hoff := (Hz.out.rng s (List.mem_of_getElem? hs)).2
  have hk3 : (j : Int) + 1 - 1 = (j : Int) := by omega
  have hk4 : ((j + 1 : Nat) : Int) - 1 = (j : Int) := by omega
  have hsum : IntKind.i64.wrap (m + s.off) = m + s.off := IntWalk.i64_in _ (by omega)
  clear hlo hhi hl1 hs c0 lvZ1 lvM1 lvZ lvM HS0 HS1 Hb0 hi0
  go_wp2_with fail
  go_quiet (fail)
  go_wp2_with fail
  go_ret
  exact ⟨ret_i Hr.out.symm, Hb1.out.trans (below_drewN _ _ _)⟩
end Go.Proofs.YtneopbbafdmpkaaDoor
