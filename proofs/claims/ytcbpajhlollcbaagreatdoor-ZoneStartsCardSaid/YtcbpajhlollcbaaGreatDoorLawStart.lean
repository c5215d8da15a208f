/- The law ZoneStarts walked: it returns true, and nothing that was there has turned. -/
import Derived.Test.YtcbpajhlollcbaaGreatDoorGenZone2
import Derived.Test.YtcbpajhlollcbaaGreatDoorRefZone
import Derived.Test.YtcbpajhlollcbaaGreatDoorHappen
import Derived.Test.YtcbpajhlollcbaaGreatDoorMomOf
namespace Go.Proofs.YtcbpajhlollcbaaGreatDoor
open Go.RowKit
/-- what the reading of a moment gives: a value and an error -/
def momOf (f day minute : Int) (o : Option Int) : Int × Int := if f ≠ 0 then (0, f) else if ¬ ((0 ≤ day ∧ day ≤ 3000) ∧ (0 ≤ minute ∧ minute ≤ 1439)) then (0, 1) else
  match o with | some m => (m, 0) | none => (0, 8)
theorem momV_eq (f day minute : Int) (o : Option Int) : momV f day minute o = .tuple #[.int .i64 (momOf f day minute o).1, .int .i64 (momOf f day minute o).2] := by
  by_cases h1 : f = 0
  · by_cases h2 : (0 ≤ day ∧ day ≤ 3000) ∧ (0 ≤ minute ∧ minute ≤ 1439)
    · cases o <;> simp only [momV, momOf, h1, h2, ne_eq, not_true_eq_false, if_false, and_self, not_false_eq_true]
    · simp only [momV.eq_def, momOf.eq_def, h1, ne_eq, not_true_eq_false, if_false, if_pos h2]
  · simp only [momV.eq_def, momOf.eq_def, ne_eq, if_pos h1]
set_option maxHeartbeats 8000000 in
set_option maxRecDepth 100000 in
theorem right_any (N : Nat → Prop) (A : Option Addr) (nm : ByteArray) (xs : List Sft) (c Zb Db : Nat) (day minute f g : Int) (w : World) (hS : Sl rSft N w A xs) (hZ : LV w Zb #[.string nm, .slice A xs.length c] 28) (hD : LV w Db #[.int .i64 day] 3)
    (hg : g = if f ≠ 0 then f else if ¬ ((0 ≤ day ∧ day ≤ 3000) ∧ (0 ≤ minute ∧ minute ≤ 1439)) then 1 else 0) (hz : f = 0 → GoodZ xs) :
    Calls Tryz.prog 21 #[.int .i64 (momOf f day minute (reachGo (day * 1440 + minute) xs)).1, .int .i64 (momOf f day minute (reachGo (day * 1440 + minute) xs)).2, .int .i64 g, .int .i64 minute, .pointer (some ⟨Zb, 0, none⟩), .pointer (some ⟨Db, 0, none⟩)] w fun e w' => e = .returned (.bool true) ∧ Below w.heap.size w w' := by
  have z0 : w.cell? ⟨Zb, 0, none⟩ = some (.string nm) := hZ.cell 0 _ rfl
  have z1 : w.cell? ⟨Zb, 1, none⟩ = some (.slice A xs.length c) := hZ.cell 1 _ rfl
  have d0 : w.cell? ⟨Db, 0, none⟩ = some (.int .i64 day) := hD.cell 0 _ rfl
  clear hZ hD
  by_cases hf : f = 0
  · have Hz := Lib.hid (hz hf)
    subst hf
    clear hz
    by_cases hr : (0 ≤ day ∧ day ≤ 3000) ∧ (0 ≤ minute ∧ minute ≤ 1439)
    · rw [if_neg (by simp), if_neg (not_not_intro hr)] at hg
      subst hg
      have Hm := Lib.hid (momentOf_any N A nm xs c day minute w hS Hz.out hr.1 hr.2)
      clear hS Hz
      unfold momOf
      rw [if_neg (by simp), if_neg (not_not_intro hr)]
      generalize reachGo (day * 1440 + minute) xs = o at *
      rcases o with _ | m
      · go_enter Tryz.func21, Tryz.ntmps21
        go_wp2_with fail
        ((with_reducible refine (Hm.out).mono ?_); rintro e w1 ⟨rfl, hl_w1⟩)
        have hz_w1 := hl_w1.size
        unfold momOfV
        go_wp2_with fail
        go_ret
        exact ⟨rfl, hl_w1⟩
      · go_enter Tryz.func21, Tryz.ntmps21
        go_wp2_with fail
        ((with_reducible refine (Hm.out).mono ?_); rintro e w1 ⟨rfl, hl_w1⟩)
        have hz_w1 := hl_w1.size
        unfold momOfV
        go_wp2_with fail
        go_ret
        exact ⟨rfl, hl_w1⟩
    · rw [if_neg (by simp), if_pos hr] at hg
      subst hg
      unfold momOf
      rw [if_neg (by simp), if_pos hr]
      clear hS
      go_enter Tryz.func21, Tryz.ntmps21
      go_wp2_with fail
      go_ret
      exact ⟨rfl, Below.refl _ _⟩
  · rw [if_pos hf] at hg
    subst hg
    unfold momOf
    rw [if_pos hf]
    have f1 : (g != 0) = true := by simpa using hf
    clear hS hz
    go_enter Tryz.func21, Tryz.ntmps21
    go_wp2_with fail
    go_ret
    exact ⟨rfl, Below.refl _ _⟩
set_option maxHeartbeats 8000000 in
set_option maxRecDepth 100000 in
theorem zoneStarts_any (v : Value) (w : World) (hv : IntsIn v w) :
    Calls Tryz.prog 4 #[v] w fun e w' => e = .returned (.bool true) ∧ Below w.heap.size w w' := by
  obtain ⟨va, vn, vc, rfl⟩ : ∃ a n c, v = .slice a n c := by
    rcases hv with ⟨a, c, rfl⟩ | ⟨k, off, len, cap, rfl, _⟩
    · exact ⟨_, _, _, rfl⟩
    · exact ⟨_, _, _, rfl⟩
  have g0 := G.start (Strm.start hv)
  clear hv
  go_enter Tryz.func4, Tryz.ntmps4
  go_wp2_with fail
  ((with_reducible refine (zone_any w.heap.size 0 _ g0.s (by omega)).mono ?_); rintro e w1 ⟨nm, vz, xs, rfl, hnm, ho, hxl, hsm, g1⟩)
  obtain ⟨A, c, rfl, hS⟩ := ho.toSl (off_ge' (by simp))
  have g2 := (g0.step g1.k g1.s).alloc (.cells #[.string nm, .slice A xs.length c] 28)
  have hz1 := g1.size
  simp only [World.size_alloc] at hz1
  have lvZ := LV.new w1 w1.heap.size #[.string nm, .slice A xs.length c] 28 rfl
  have HS := Lib.hid (hS.keepB (w' := w1.alloc (.cells #[.string nm, .slice A xs.length c] 28)) ((Below.refl _ _).alloc (Nat.le_refl _) _))
  clear ho hS g0 g1
  go_wp2_with fail
  ((with_reducible refine (pick_le w.heap.size _ _ _ (-1) 3001 g2.s (by simp) (by simp) (intsIn_of (by decide)) (by simp) (by simp) (by omega)).mono ?_); rintro e w2 ⟨day, day_lo, day_hi, rfl, hk_w2, hs_w2⟩)
  have g3 := g2.step hk_w2 hs_w2
  have lv3 := lvZ.keep hk_w2 (by omega)
  have HS3 := Lib.hid (HS.out.keep hk_w2.n)
  clear hk_w2 hs_w2 g2 lvZ HS
  go_wp2_with fail
  ((with_reducible refine (pick_le w.heap.size _ _ _ (-1) 1440 g3.s (by simp) (by simp) (intsIn_of (by decide)) (by simp) (by simp) (by omega)).mono ?_); rintro e w3 ⟨mn, mn_lo, mn_hi, rfl, hk_w3, hs_w3⟩)
  have g4 := (g3.step hk_w3 hs_w3).alloc (.cells #[.int .i64 day] 3)
  have lv4 := (lv3.keep hk_w3 (by omega)).alloc (.cells #[.int .i64 day] 3)
  have lvd := LV.new w3 w3.heap.size #[.int .i64 day] 3 rfl
  have HS4 := Lib.hid ((HS3.out.keep hk_w3.n).keepB (w' := w3.alloc (.cells #[.int .i64 day] 3)) ((Below.refl _ _).alloc (Nat.le_refl _) _))
  clear hk_w3 hs_w3 g3 lv3 HS3
  have Hbw : Hid (Below w.heap.size w (w3.alloc (.cells #[.int .i64 day] 3))) := ((Below.refl _ _).alloc (Nat.le_refl _) _).trans (g4.k.below (Nat.le_refl _) (by simp))
  generalize hw4 : w3.alloc (.cells #[.int .i64 day] 3) = w4 at *
  generalize hD : w3.heap.size = D at *
  have hZl := lv4.lt
  have hDl := lvd.lt
  have Hs := Lib.hid (fun w' (h : Below w4.heap.size w4 w') => start_any (Off w.heap.size) A nm xs c day w' (HS4.out.keepB h) (by omega) (by omega) hsm)
  have Hm := Lib.hid (fun w' (h : Below w4.heap.size w4 w') => moment_any (Off w.heap.size) A nm xs c day mn w' (HS4.out.keepB h) (by omega) (by omega) hsm)
  have Hf := Lib.hid (fun w' (h : Below w4.heap.size w4 w') => refZone_any (Off w.heap.size) A nm xs c w' (HS4.out.keepB h) (by omega) (by omega) hsm)
  have Hz : Hid (zoneFault nm xs = 0 → GoodZ xs) := fun h => zone_good h
  have Hlv := Lib.hid (fun w' (h : Below w4.heap.size w4 w') => LV.kb lv4 h hZl)
  have Hdv := Lib.hid (fun w' (h : Below w4.heap.size w4 w') => LV.kb lvd h hDl)
  rw [momV_eq] at Hs Hm
  generalize hf0 : zoneFault nm xs = f at *
  have Hr1 := Lib.hid (fun w' (h : Below w4.heap.size w4 w') (g : Int) (hg : g = if f ≠ 0 then f else if ¬ ((0 ≤ day ∧ day ≤ 3000) ∧ ((0 : Int) ≤ 0 ∧ (0 : Int) ≤ 1439)) then 1 else 0) => right_any (Off w.heap.size) A nm xs c w1.heap.size D day 0 f g w' (HS4.out.keepB h) (Hlv.out w' h) (Hdv.out w' h) hg Hz.out)
  have Hr2 := Lib.hid (fun w' (h : Below w4.heap.size w4 w') (g : Int) (hg : g = if f ≠ 0 then f else if ¬ ((0 ≤ day ∧ day ≤ 3000) ∧ (0 ≤ mn ∧ mn ≤ 1439)) then 1 else 0) => right_any (Off w.heap.size) A nm xs c w1.heap.size D day mn f g w' (HS4.out.keepB h) (Hlv.out w' h) (Hdv.out w' h) hg Hz.out)
  generalize (momOf f day 0 (reachGo (day * 1440 + 0) xs)).1 = a1 at *
  generalize (momOf f day 0 (reachGo (day * 1440 + 0) xs)).2 = a2 at *
  generalize (momOf f day mn (reachGo (day * 1440 + mn) xs)).1 = b1 at *
  generalize (momOf f day mn (reachGo (day * 1440 + mn) xs)).2 = b2 at *
  have Hb0 := Lib.hid (Below.refl w4.heap.size w4)
  clear hsm HS4 g4 lv4 lvd Hz hf0
  by_cases hf : f = 0
  · subst hf
    by_cases hd : 0 ≤ day ∧ day ≤ 3000
    · have d1 : ¬ day < 0 := by omega
      have d2 : ¬ 3000 < day := by omega
      by_cases hm : 0 ≤ mn ∧ mn ≤ 1439
      · have m1 : ¬ mn < 0 := by omega
        have m2 : ¬ 1440 ≤ mn := by omega
        have lvq := Hlv.out _ Hb0.out
        have z0 := lvq.cell 0 _ rfl
        have z1 : World.cell? _ ⟨w1.heap.size, 1, none⟩ = some (.slice A xs.length c) := lvq.cell 1 _ rfl
        have d0 : World.cell? _ ⟨D, 0, none⟩ = some (.int .i64 day) := (Hdv.out _ Hb0.out).cell 0 _ rfl
        go_wp2_with fail
        ((with_reducible refine (Hs.out _ Hb0.out).mono ?_); rintro e w5 ⟨rfl, hl_w5⟩)
        have Hb_w5 := Lib.hid (Hb0.out.trans (hl_w5.mono Hb0.out.size))
        clear hl_w5 lvq z0 z1 d0 Hs
        have lvq := Hlv.out _ Hb_w5.out
        have z0 := lvq.cell 0 _ rfl
        have z1 : World.cell? _ ⟨w1.heap.size, 1, none⟩ = some (.slice A xs.length c) := lvq.cell 1 _ rfl
        have d0 : World.cell? _ ⟨D, 0, none⟩ = some (.int .i64 day) := (Hdv.out _ Hb_w5.out).cell 0 _ rfl
        go_wp2_with fail
        ((with_reducible refine (Hm.out _ Hb_w5.out).mono ?_); rintro e w6 ⟨rfl, hl_w6⟩)
        have Hb_w6 := Lib.hid (Hb_w5.out.trans (hl_w6.mono Hb_w5.out.size))
        clear hl_w6 lvq z0 z1 d0 Hm
        have lvq := Hlv.out _ Hb_w6.out
        have z0 := lvq.cell 0 _ rfl
        have z1 : World.cell? _ ⟨w1.heap.size, 1, none⟩ = some (.slice A xs.length c) := lvq.cell 1 _ rfl
        have d0 : World.cell? _ ⟨D, 0, none⟩ = some (.int .i64 day) := (Hdv.out _ Hb_w6.out).cell 0 _ rfl
        go_wp2_with fail
        ((with_reducible refine (Hf.out _ Hb_w6.out).mono ?_); rintro e w7 ⟨rfl, hl_w7⟩)
        have Hb_w7 := Lib.hid (Hb_w6.out.trans (hl_w7.mono Hb_w6.out.size))
        clear hl_w7 lvq z0 z1 d0 Hf
        have d0 : World.cell? _ ⟨D, 0, none⟩ = some (.int .i64 day) := (Hdv.out _ Hb_w7.out).cell 0 _ rfl
        go_wp2_with fail
        ((with_reducible refine (Hr1.out _ Hb_w7.out 0 (by simp <;> omega)).mono ?_); rintro e w8 ⟨rfl, hl_w8⟩)
        have Hb_w8 := Lib.hid (Hb_w7.out.trans (hl_w8.mono Hb_w7.out.size))
        clear hl_w8
        go_wp2_with fail
        ((with_reducible refine (Hr2.out _ Hb_w8.out 0 (by simp <;> omega)).mono ?_); rintro e w9 ⟨rfl, hl_w9⟩)
        have Hb_w9 := Lib.hid (Hb_w8.out.trans (hl_w9.mono Hb_w8.out.size))
        clear hl_w9
        go_wp2_with fail
        ((with_reducible refine (happenings_any _).mono ?_); rintro e wh ⟨rfl, hlh⟩)
        go_wp2_with fail
        go_ret
        exact ⟨rfl, Hbw.out.trans (((Hb_w9.out.trans (hlh.mono Hb_w9.out.size))).mono Hbw.out.size)⟩
      · by_cases m1 : mn < 0
        · have lvq := Hlv.out _ Hb0.out
          have z0 := lvq.cell 0 _ rfl
          have z1 : World.cell? _ ⟨w1.heap.size, 1, none⟩ = some (.slice A xs.length c) := lvq.cell 1 _ rfl
          have d0 : World.cell? _ ⟨D, 0, none⟩ = some (.int .i64 day) := (Hdv.out _ Hb0.out).cell 0 _ rfl
          go_wp2_with fail
          ((with_reducible refine (Hs.out _ Hb0.out).mono ?_); rintro e w5 ⟨rfl, hl_w5⟩)
          have Hb_w5 := Lib.hid (Hb0.out.trans (hl_w5.mono Hb0.out.size))
          clear hl_w5 lvq z0 z1 d0 Hs
          have lvq := Hlv.out _ Hb_w5.out
          have z0 := lvq.cell 0 _ rfl
          have z1 : World.cell? _ ⟨w1.heap.size, 1, none⟩ = some (.slice A xs.length c) := lvq.cell 1 _ rfl
          have d0 : World.cell? _ ⟨D, 0, none⟩ = some (.int .i64 day) := (Hdv.out _ Hb_w5.out).cell 0 _ rfl
          go_wp2_with fail
          ((with_reducible refine (Hm.out _ Hb_w5.out).mono ?_); rintro e w6 ⟨rfl, hl_w6⟩)
          have Hb_w6 := Lib.hid (Hb_w5.out.trans (hl_w6.mono Hb_w5.out.size))
          clear hl_w6 lvq z0 z1 d0 Hm
          have lvq := Hlv.out _ Hb_w6.out
          have z0 := lvq.cell 0 _ rfl
          have z1 : World.cell? _ ⟨w1.heap.size, 1, none⟩ = some (.slice A xs.length c) := lvq.cell 1 _ rfl
          have d0 : World.cell? _ ⟨D, 0, none⟩ = some (.int .i64 day) := (Hdv.out _ Hb_w6.out).cell 0 _ rfl
          go_wp2_with fail
          ((with_reducible refine (Hf.out _ Hb_w6.out).mono ?_); rintro e w7 ⟨rfl, hl_w7⟩)
          have Hb_w7 := Lib.hid (Hb_w6.out.trans (hl_w7.mono Hb_w6.out.size))
          clear hl_w7 lvq z0 z1 d0 Hf
          have d0 : World.cell? _ ⟨D, 0, none⟩ = some (.int .i64 day) := (Hdv.out _ Hb_w7.out).cell 0 _ rfl
          go_wp2_with fail
          ((with_reducible refine (Hr1.out _ Hb_w7.out 0 (by simp <;> omega)).mono ?_); rintro e w8 ⟨rfl, hl_w8⟩)
          have Hb_w8 := Lib.hid (Hb_w7.out.trans (hl_w8.mono Hb_w7.out.size))
          clear hl_w8
          go_wp2_with fail
          ((with_reducible refine (Hr2.out _ Hb_w8.out 1 (by simp <;> omega)).mono ?_); rintro e w9 ⟨rfl, hl_w9⟩)
          have Hb_w9 := Lib.hid (Hb_w8.out.trans (hl_w9.mono Hb_w8.out.size))
          clear hl_w9
          go_wp2_with fail
          ((with_reducible refine (happenings_any _).mono ?_); rintro e wh ⟨rfl, hlh⟩)
          go_wp2_with fail
          go_ret
          exact ⟨rfl, Hbw.out.trans (((Hb_w9.out.trans (hlh.mono Hb_w9.out.size))).mono Hbw.out.size)⟩
        · have m2 : 1440 ≤ mn := by omega
          have lvq := Hlv.out _ Hb0.out
          have z0 := lvq.cell 0 _ rfl
          have z1 : World.cell? _ ⟨w1.heap.size, 1, none⟩ = some (.slice A xs.length c) := lvq.cell 1 _ rfl
          have d0 : World.cell? _ ⟨D, 0, none⟩ = some (.int .i64 day) := (Hdv.out _ Hb0.out).cell 0 _ rfl
          go_wp2_with fail
          ((with_reducible refine (Hs.out _ Hb0.out).mono ?_); rintro e w5 ⟨rfl, hl_w5⟩)
          have Hb_w5 := Lib.hid (Hb0.out.trans (hl_w5.mono Hb0.out.size))
          clear hl_w5 lvq z0 z1 d0 Hs
          have lvq := Hlv.out _ Hb_w5.out
          have z0 := lvq.cell 0 _ rfl
          have z1 : World.cell? _ ⟨w1.heap.size, 1, none⟩ = some (.slice A xs.length c) := lvq.cell 1 _ rfl
          have d0 : World.cell? _ ⟨D, 0, none⟩ = some (.int .i64 day) := (Hdv.out _ Hb_w5.out).cell 0 _ rfl
          go_wp2_with fail
          ((with_reducible refine (Hm.out _ Hb_w5.out).mono ?_); rintro e w6 ⟨rfl, hl_w6⟩)
          have Hb_w6 := Lib.hid (Hb_w5.out.trans (hl_w6.mono Hb_w5.out.size))
          clear hl_w6 lvq z0 z1 d0 Hm
          have lvq := Hlv.out _ Hb_w6.out
          have z0 := lvq.cell 0 _ rfl
          have z1 : World.cell? _ ⟨w1.heap.size, 1, none⟩ = some (.slice A xs.length c) := lvq.cell 1 _ rfl
          have d0 : World.cell? _ ⟨D, 0, none⟩ = some (.int .i64 day) := (Hdv.out _ Hb_w6.out).cell 0 _ rfl
          go_wp2_with fail
          ((with_reducible refine (Hf.out _ Hb_w6.out).mono ?_); rintro e w7 ⟨rfl, hl_w7⟩)
          have Hb_w7 := Lib.hid (Hb_w6.out.trans (hl_w7.mono Hb_w6.out.size))
          clear hl_w7 lvq z0 z1 d0 Hf
          have d0 : World.cell? _ ⟨D, 0, none⟩ = some (.int .i64 day) := (Hdv.out _ Hb_w7.out).cell 0 _ rfl
          go_wp2_with fail
          ((with_reducible refine (Hr1.out _ Hb_w7.out 0 (by simp <;> omega)).mono ?_); rintro e w8 ⟨rfl, hl_w8⟩)
          have Hb_w8 := Lib.hid (Hb_w7.out.trans (hl_w8.mono Hb_w7.out.size))
          clear hl_w8
          go_wp2_with fail
          ((with_reducible refine (Hr2.out _ Hb_w8.out 1 (by simp <;> omega)).mono ?_); rintro e w9 ⟨rfl, hl_w9⟩)
          have Hb_w9 := Lib.hid (Hb_w8.out.trans (hl_w9.mono Hb_w8.out.size))
          clear hl_w9
          go_wp2_with fail
          ((with_reducible refine (happenings_any _).mono ?_); rintro e wh ⟨rfl, hlh⟩)
          go_wp2_with fail
          go_ret
          exact ⟨rfl, Hbw.out.trans (((Hb_w9.out.trans (hlh.mono Hb_w9.out.size))).mono Hbw.out.size)⟩
    · by_cases d1 : day < 0
      · have lvq := Hlv.out _ Hb0.out
        have z0 := lvq.cell 0 _ rfl
        have z1 : World.cell? _ ⟨w1.heap.size, 1, none⟩ = some (.slice A xs.length c) := lvq.cell 1 _ rfl
        have d0 : World.cell? _ ⟨D, 0, none⟩ = some (.int .i64 day) := (Hdv.out _ Hb0.out).cell 0 _ rfl
        go_wp2_with fail
        ((with_reducible refine (Hs.out _ Hb0.out).mono ?_); rintro e w5 ⟨rfl, hl_w5⟩)
        have Hb_w5 := Lib.hid (Hb0.out.trans (hl_w5.mono Hb0.out.size))
        clear hl_w5 lvq z0 z1 d0 Hs
        have lvq := Hlv.out _ Hb_w5.out
        have z0 := lvq.cell 0 _ rfl
        have z1 : World.cell? _ ⟨w1.heap.size, 1, none⟩ = some (.slice A xs.length c) := lvq.cell 1 _ rfl
        have d0 : World.cell? _ ⟨D, 0, none⟩ = some (.int .i64 day) := (Hdv.out _ Hb_w5.out).cell 0 _ rfl
        go_wp2_with fail
        ((with_reducible refine (Hm.out _ Hb_w5.out).mono ?_); rintro e w6 ⟨rfl, hl_w6⟩)
        have Hb_w6 := Lib.hid (Hb_w5.out.trans (hl_w6.mono Hb_w5.out.size))
        clear hl_w6 lvq z0 z1 d0 Hm
        have lvq := Hlv.out _ Hb_w6.out
        have z0 := lvq.cell 0 _ rfl
        have z1 : World.cell? _ ⟨w1.heap.size, 1, none⟩ = some (.slice A xs.length c) := lvq.cell 1 _ rfl
        have d0 : World.cell? _ ⟨D, 0, none⟩ = some (.int .i64 day) := (Hdv.out _ Hb_w6.out).cell 0 _ rfl
        go_wp2_with fail
        ((with_reducible refine (Hf.out _ Hb_w6.out).mono ?_); rintro e w7 ⟨rfl, hl_w7⟩)
        have Hb_w7 := Lib.hid (Hb_w6.out.trans (hl_w7.mono Hb_w6.out.size))
        clear hl_w7 lvq z0 z1 d0 Hf
        have d0 : World.cell? _ ⟨D, 0, none⟩ = some (.int .i64 day) := (Hdv.out _ Hb_w7.out).cell 0 _ rfl
        go_wp2_with fail
        ((with_reducible refine (Hr1.out _ Hb_w7.out 1 (by simp <;> omega)).mono ?_); rintro e w8 ⟨rfl, hl_w8⟩)
        have Hb_w8 := Lib.hid (Hb_w7.out.trans (hl_w8.mono Hb_w7.out.size))
        clear hl_w8
        go_wp2_with fail
        ((with_reducible refine (Hr2.out _ Hb_w8.out 1 (by simp <;> omega)).mono ?_); rintro e w9 ⟨rfl, hl_w9⟩)
        have Hb_w9 := Lib.hid (Hb_w8.out.trans (hl_w9.mono Hb_w8.out.size))
        clear hl_w9
        go_wp2_with fail
        ((with_reducible refine (happenings_any _).mono ?_); rintro e wh ⟨rfl, hlh⟩)
        go_wp2_with fail
        go_ret
        exact ⟨rfl, Hbw.out.trans (((Hb_w9.out.trans (hlh.mono Hb_w9.out.size))).mono Hbw.out.size)⟩
      · have d2 : 3000 < day := by omega
        have lvq := Hlv.out _ Hb0.out
        have z0 := lvq.cell 0 _ rfl
        have z1 : World.cell? _ ⟨w1.heap.size, 1, none⟩ = some (.slice A xs.length c) := lvq.cell 1 _ rfl
        have d0 : World.cell? _ ⟨D, 0, none⟩ = some (.int .i64 day) := (Hdv.out _ Hb0.out).cell 0 _ rfl
        go_wp2_with fail
        ((with_reducible refine (Hs.out _ Hb0.out).mono ?_); rintro e w5 ⟨rfl, hl_w5⟩)
        have Hb_w5 := Lib.hid (Hb0.out.trans (hl_w5.mono Hb0.out.size))
        clear hl_w5 lvq z0 z1 d0 Hs
        have lvq := Hlv.out _ Hb_w5.out
        have z0 := lvq.cell 0 _ rfl
        have z1 : World.cell? _ ⟨w1.heap.size, 1, none⟩ = some (.slice A xs.length c) := lvq.cell 1 _ rfl
        have d0 : World.cell? _ ⟨D, 0, none⟩ = some (.int .i64 day) := (Hdv.out _ Hb_w5.out).cell 0 _ rfl
        go_wp2_with fail
        ((with_reducible refine (Hm.out _ Hb_w5.out).mono ?_); rintro e w6 ⟨rfl, hl_w6⟩)
        have Hb_w6 := Lib.hid (Hb_w5.out.trans (hl_w6.mono Hb_w5.out.size))
        clear hl_w6 lvq z0 z1 d0 Hm
        have lvq := Hlv.out _ Hb_w6.out
        have z0 := lvq.cell 0 _ rfl
        have z1 : World.cell? _ ⟨w1.heap.size, 1, none⟩ = some (.slice A xs.length c) := lvq.cell 1 _ rfl
        have d0 : World.cell? _ ⟨D, 0, none⟩ = some (.int .i64 day) := (Hdv.out _ Hb_w6.out).cell 0 _ rfl
        go_wp2_with fail
        ((with_reducible refine (Hf.out _ Hb_w6.out).mono ?_); rintro e w7 ⟨rfl, hl_w7⟩)
        have Hb_w7 := Lib.hid (Hb_w6.out.trans (hl_w7.mono Hb_w6.out.size))
        clear hl_w7 lvq z0 z1 d0 Hf
        have d0 : World.cell? _ ⟨D, 0, none⟩ = some (.int .i64 day) := (Hdv.out _ Hb_w7.out).cell 0 _ rfl
        go_wp2_with fail
        ((with_reducible refine (Hr1.out _ Hb_w7.out 1 (by simp <;> omega)).mono ?_); rintro e w8 ⟨rfl, hl_w8⟩)
        have Hb_w8 := Lib.hid (Hb_w7.out.trans (hl_w8.mono Hb_w7.out.size))
        clear hl_w8
        go_wp2_with fail
        ((with_reducible refine (Hr2.out _ Hb_w8.out 1 (by simp <;> omega)).mono ?_); rintro e w9 ⟨rfl, hl_w9⟩)
        have Hb_w9 := Lib.hid (Hb_w8.out.trans (hl_w9.mono Hb_w8.out.size))
        clear hl_w9
        go_wp2_with fail
        ((with_reducible refine (happenings_any _).mono ?_); rintro e wh ⟨rfl, hlh⟩)
        go_wp2_with fail
        go_ret
        exact ⟨rfl, Hbw.out.trans (((Hb_w9.out.trans (hlh.mono Hb_w9.out.size))).mono Hbw.out.size)⟩
  · have f0 : (f == 0) = false := by simpa using hf
    have lvq := Hlv.out _ Hb0.out
    have z0 := lvq.cell 0 _ rfl
    have z1 : World.cell? _ ⟨w1.heap.size, 1, none⟩ = some (.slice A xs.length c) := lvq.cell 1 _ rfl
    have d0 : World.cell? _ ⟨D, 0, none⟩ = some (.int .i64 day) := (Hdv.out _ Hb0.out).cell 0 _ rfl
    go_wp2_with fail
    ((with_reducible refine (Hs.out _ Hb0.out).mono ?_); rintro e w5 ⟨rfl, hl_w5⟩)
    have Hb_w5 := Lib.hid (Hb0.out.trans (hl_w5.mono Hb0.out.size))
    clear hl_w5 lvq z0 z1 d0 Hs
    have lvq := Hlv.out _ Hb_w5.out
    have z0 := lvq.cell 0 _ rfl
    have z1 : World.cell? _ ⟨w1.heap.size, 1, none⟩ = some (.slice A xs.length c) := lvq.cell 1 _ rfl
    have d0 : World.cell? _ ⟨D, 0, none⟩ = some (.int .i64 day) := (Hdv.out _ Hb_w5.out).cell 0 _ rfl
    go_wp2_with fail
    ((with_reducible refine (Hm.out _ Hb_w5.out).mono ?_); rintro e w6 ⟨rfl, hl_w6⟩)
    have Hb_w6 := Lib.hid (Hb_w5.out.trans (hl_w6.mono Hb_w5.out.size))
    clear hl_w6 lvq z0 z1 d0 Hm
    have lvq := Hlv.out _ Hb_w6.out
    have z0 := lvq.cell 0 _ rfl
    have z1 : World.cell? _ ⟨w1.heap.size, 1, none⟩ = some (.slice A xs.length c) := lvq.cell 1 _ rfl
    have d0 : World.cell? _ ⟨D, 0, none⟩ = some (.int .i64 day) := (Hdv.out _ Hb_w6.out).cell 0 _ rfl
    go_wp2_with fail
    ((with_reducible refine (Hf.out _ Hb_w6.out).mono ?_); rintro e w7 ⟨rfl, hl_w7⟩)
    have Hb_w7 := Lib.hid (Hb_w6.out.trans (hl_w7.mono Hb_w6.out.size))
    clear hl_w7 lvq z0 z1 d0 Hf
    have d0 : World.cell? _ ⟨D, 0, none⟩ = some (.int .i64 day) := (Hdv.out _ Hb_w7.out).cell 0 _ rfl
    go_wp2_with fail
    ((with_reducible refine (Hr1.out _ Hb_w7.out f (by simp <;> omega)).mono ?_); rintro e w8 ⟨rfl, hl_w8⟩)
    have Hb_w8 := Lib.hid (Hb_w7.out.trans (hl_w8.mono Hb_w7.out.size))
    clear hl_w8
    go_wp2_with fail
    ((with_reducible refine (Hr2.out _ Hb_w8.out f (by simp <;> omega)).mono ?_); rintro e w9 ⟨rfl, hl_w9⟩)
    have Hb_w9 := Lib.hid (Hb_w8.out.trans (hl_w9.mono Hb_w8.out.size))
    clear hl_w9
    go_wp2_with fail
    ((with_reducible refine (happenings_any _).mono ?_); rintro e wh ⟨rfl, hlh⟩)
    go_wp2_with fail
    go_ret
    exact ⟨rfl, Hbw.out.trans (((Hb_w9.out.trans (hlh.mono Hb_w9.out.size))).mono Hbw.out.size)⟩
end Go.Proofs.YtcbpajhlollcbaaGreatDoor
