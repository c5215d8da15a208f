/- The law ZoneClocks walked: it returns true, and nothing that was there has turned. -/
import Derived.Test.YtcbpajhlollcbaaGreatDoorGenZone2
import Derived.Test.YtcbpajhlollcbaaGreatDoorRefZone
import Derived.Test.YtcbpajhlollcbaaGreatDoorHappen
namespace Go.Proofs.YtcbpajhlollcbaaGreatDoor
open Go.RowKit
set_option maxHeartbeats 8000000 in
set_option maxRecDepth 100000 in
theorem zoneClocks_any (v : Value) (w : World) (hv : IntsIn v w) :
    Calls Tryz.prog 3 #[v] w fun e w' => e = .returned (.bool true) ∧ Below w.heap.size w w' := by
  obtain ⟨va, vn, vc, rfl⟩ : ∃ a n c, v = .slice a n c := by
    rcases hv with ⟨a, c, rfl⟩ | ⟨k, off, len, cap, rfl, _⟩
    · exact ⟨_, _, _, rfl⟩
    · exact ⟨_, _, _, rfl⟩
  have g0 := G.start (Strm.start hv)
  clear hv
  go_enter Tryz.func3, Tryz.ntmps3
  go_wp2_with fail
  ((with_reducible refine (zone_any w.heap.size 0 _ g0.s (by omega)).mono ?_); rintro e w1 ⟨nm, vz, xs, rfl, hnm, ho, hxl, hsm, g1⟩)
  obtain ⟨A, c, rfl, hS⟩ := ho.toSl (off_ge' (by simp))
  have g2 := (g0.step g1.k g1.s).alloc (.cells #[.string nm, .slice A xs.length c] 28)
  have hz1 := g1.size
  simp only [World.size_alloc] at hz1
  have lvZ := LV.new w1 w1.heap.size #[.string nm, .slice A xs.length c] 28 rfl
  have HS := Lib.hid (hS.keepB (w' := w1.alloc (.cells #[.string nm, .slice A xs.length c] 28)) ((Below.refl _ _).alloc (Nat.le_refl _) _))
  clear ho hS g0 g1
  go_wp2_with fail
  ((with_reducible refine (next_any w.heap.size _ _ _ g2.s (by omega) (by omega) (by omega)).mono ?_); rintro e w2 ⟨r2, r2_lo, r2_hi, rfl, hk_w2, hs_w2⟩)
  have g3 := g2.step hk_w2 hs_w2
  have lv3 := lvZ.keep hk_w2 (by omega)
  have HS3 := Lib.hid (HS.out.keep hk_w2.n)
  clear hk_w2 hs_w2 g2 lvZ HS
  go_wp2_with fail
  ((with_reducible refine (pick_le w.heap.size _ _ _ (-1) 4321440 g3.s (by simp) (by simp) (by repeat (first | exact intsIn_nil | refine intsIn_cons (by omega) ?_)) (by simp) (by simp) (by omega)).mono ?_); rintro e w3 ⟨m, m_lo, m_hi, rfl, hk_w3, hs_w3⟩)
  have g4 := g3.step hk_w3 hs_w3
  have lv4 := lv3.keep hk_w3 (by omega)
  have HS4 := Lib.hid (HS3.out.keep hk_w3.n)
  clear hk_w3 hs_w3 g3 lv3 HS3
  have Hbw : Hid (Below w.heap.size w w3) := ((Below.refl _ _).alloc (Nat.le_refl _) _).trans (g4.k.below (Nat.le_refl _) (by simp))
  have hZl := lv4.lt
  have Hl := Lib.hid (fun w' (h : Below w3.heap.size w3 w') => local_any (Off w.heap.size) A nm xs c m w' (HS4.out.keepB h) (by omega) (by omega) hsm)
  have Hd := Lib.hid (fun w' (h : Below w3.heap.size w3 w') => day_any (Off w.heap.size) A nm xs c m w' (HS4.out.keepB h) (by omega) (by omega) hsm)
  have Hf := Lib.hid (fun w' (h : Below w3.heap.size w3 w') => refZone_any (Off w.heap.size) A nm xs c w' (HS4.out.keepB h) (by omega) (by omega) hsm)
  have Hc := Lib.hid (fun w' (h : Below w3.heap.size w3 w') => checkZone_any (Off w.heap.size) A nm xs c w' (HS4.out.keepB h) (by omega) (by omega) hsm)
  have Hk := Lib.hid (fun w' (h : Below w3.heap.size w3 w') (hz : GoodZ xs) (hm : 0 ≤ m ∧ m ≤ 4321439) => clock_any (Off w.heap.size) nm A c xs m w' (HS4.out.keepB h) (by omega) (fun s hs => (hz.rng s hs).2) (by omega))
  have Ho := Lib.hid (fun w' (h : Below w3.heap.size w3 w') (hz : GoodZ xs) (hm : 0 ≤ m ∧ m ≤ 4321439) => dayOf_any (Off w.heap.size) A nm xs c m w' (HS4.out.keepB h) hz (by omega))
  have Hz : Hid (zoneFault nm xs = 0 → GoodZ xs) := fun h => zone_good h
  clear hsm HS4 g4
  generalize hf0 : zoneFault nm xs = f at *
  clear hf0
  obtain ⟨cl, hcl⟩ : ∃ cl, clk xs m = cl := ⟨_, rfl⟩
  obtain ⟨dy, hdy⟩ : ∃ dy, dayIn (clk xs m) = dy := ⟨_, rfl⟩
  have Hlv := Lib.hid (fun w' (h : Below w3.heap.size w3 w') => LV.kb lv4 h hZl)
  rw [hcl] at Hl Hk
  rw [hdy] at Hd Ho
  have Hb0 := Lib.hid (Below.refl w3.heap.size w3)
  clear lv4 hcl hdy
  by_cases hf : f = 0
  · have Hgz := Lib.hid (Hz.out hf)
    subst hf
    by_cases hm : 0 ≤ m ∧ m ≤ 4321439
    · have Hk2 := Lib.hid (fun w' h => Hk.out w' h Hgz.out hm)
      have Ho2 := Lib.hid (fun w' h => Ho.out w' h Hgz.out hm)
      have e1 : readV 0 m cl = .tuple #[.int .i64 cl, .int .i64 0] := by rw [readV, if_neg (by simp), if_neg (not_not_intro hm)]
      have e2 : readV 0 m dy = .tuple #[.int .i64 dy, .int .i64 0] := by rw [readV, if_neg (by simp), if_neg (not_not_intro hm)]
      rw [e1] at Hl
      rw [e2] at Hd
      have t1 : ¬ m < 0 := by omega
      have t2 : ¬ 4321440 ≤ m := by omega
      clear e1 e2 Hk Ho Hz Hgz
      have lvq := Hlv.out _ Hb0.out
      have z0 := lvq.cell 0 _ rfl
      have z1 : World.cell? _ ⟨w1.heap.size, 1, none⟩ = some (.slice A xs.length c) := lvq.cell 1 _ rfl
      go_wp2_with fail
      ((with_reducible refine (Hl.out _ Hb0.out).mono ?_); rintro e w4 ⟨rfl, hl_w4⟩)
      have Hb_w4 := Lib.hid (Hb0.out.trans (hl_w4.mono Hb0.out.size))
      clear hl_w4 lvq z0 z1 Hl
      have lvq := Hlv.out _ Hb_w4.out
      have z0 := lvq.cell 0 _ rfl
      have z1 : World.cell? _ ⟨w1.heap.size, 1, none⟩ = some (.slice A xs.length c) := lvq.cell 1 _ rfl
      go_wp2_with fail
      ((with_reducible refine (Hd.out _ Hb_w4.out).mono ?_); rintro e w5 ⟨rfl, hl_w5⟩)
      have Hb_w5 := Lib.hid (Hb_w4.out.trans (hl_w5.mono Hb_w4.out.size))
      clear hl_w5 lvq z0 z1 Hd
      have lvq := Hlv.out _ Hb_w5.out
      have z0 := lvq.cell 0 _ rfl
      have z1 : World.cell? _ ⟨w1.heap.size, 1, none⟩ = some (.slice A xs.length c) := lvq.cell 1 _ rfl
      go_wp2_with fail
      ((with_reducible refine (Hf.out _ Hb_w5.out).mono ?_); rintro e w6 ⟨rfl, hl_w6⟩)
      have Hb_w6 := Lib.hid (Hb_w5.out.trans (hl_w6.mono Hb_w5.out.size))
      clear hl_w6 lvq z0 z1 Hf
      have lvq := Hlv.out _ Hb_w6.out
      have z0 := lvq.cell 0 _ rfl
      have z1 : World.cell? _ ⟨w1.heap.size, 1, none⟩ = some (.slice A xs.length c) := lvq.cell 1 _ rfl
      go_wp2_with fail
      ((with_reducible refine (Hc.out _ Hb_w6.out).mono ?_); rintro e w7 ⟨rfl, hl_w7⟩)
      have Hb_w7 := Lib.hid (Hb_w6.out.trans (hl_w7.mono Hb_w6.out.size))
      clear hl_w7 lvq z0 z1 Hc
      have Hb7 := Hb_w7
      clear Hb_w4 Hb_w5 Hb_w6 Hb_w7
      have lvq := Hlv.out _ Hb7.out
      have z0 := lvq.cell 0 _ rfl
      have z1 : World.cell? _ ⟨w1.heap.size, 1, none⟩ = some (.slice A xs.length c) := lvq.cell 1 _ rfl
      go_wp2_with fail
      ((with_reducible refine (Hk2.out _ Hb7.out).mono ?_); rintro e w8 ⟨rfl, hl_w8⟩)
      have Hb_w8 := Lib.hid (Hb7.out.trans (hl_w8.mono Hb7.out.size))
      clear hl_w8 lvq z0 z1 Hk2
      have lvq := Hlv.out _ Hb_w8.out
      have z0 := lvq.cell 0 _ rfl
      have z1 : World.cell? _ ⟨w1.heap.size, 1, none⟩ = some (.slice A xs.length c) := lvq.cell 1 _ rfl
      go_wp2_with fail
      ((with_reducible refine (Ho2.out _ Hb_w8.out).mono ?_); rintro e w9 ⟨rfl, hl_w9⟩)
      have Hb_w9 := Lib.hid (Hb_w8.out.trans (hl_w9.mono Hb_w8.out.size))
      clear hl_w9 lvq z0 z1 Ho2
      go_wp2_with fail
      ((with_reducible refine (happenings_any _).mono ?_); rintro e wh ⟨rfl, hlh⟩)
      go_wp2_with fail
      go_ret
      exact ⟨rfl, Hbw.out.trans (((Hb_w9.out.trans (hlh.mono Hb_w9.out.size))).mono Hbw.out.size)⟩
    · have e1 : readV 0 m cl = .tuple #[.int .i64 0, .int .i64 1] := by rw [readV, if_neg (by simp), if_pos hm]
      have e2 : readV 0 m dy = .tuple #[.int .i64 0, .int .i64 1] := by rw [readV, if_neg (by simp), if_pos hm]
      rw [e1] at Hl
      rw [e2] at Hd
      clear e1 e2 Hk Ho Hz Hgz
      by_cases t1 : m < 0
      · have lvq := Hlv.out _ Hb0.out
        have z0 := lvq.cell 0 _ rfl
        have z1 : World.cell? _ ⟨w1.heap.size, 1, none⟩ = some (.slice A xs.length c) := lvq.cell 1 _ rfl
        go_wp2_with fail
        ((with_reducible refine (Hl.out _ Hb0.out).mono ?_); rintro e w4 ⟨rfl, hl_w4⟩)
        have Hb_w4 := Lib.hid (Hb0.out.trans (hl_w4.mono Hb0.out.size))
        clear hl_w4 lvq z0 z1 Hl
        have lvq := Hlv.out _ Hb_w4.out
        have z0 := lvq.cell 0 _ rfl
        have z1 : World.cell? _ ⟨w1.heap.size, 1, none⟩ = some (.slice A xs.length c) := lvq.cell 1 _ rfl
        go_wp2_with fail
        ((with_reducible refine (Hd.out _ Hb_w4.out).mono ?_); rintro e w5 ⟨rfl, hl_w5⟩)
        have Hb_w5 := Lib.hid (Hb_w4.out.trans (hl_w5.mono Hb_w4.out.size))
        clear hl_w5 lvq z0 z1 Hd
        have lvq := Hlv.out _ Hb_w5.out
        have z0 := lvq.cell 0 _ rfl
        have z1 : World.cell? _ ⟨w1.heap.size, 1, none⟩ = some (.slice A xs.length c) := lvq.cell 1 _ rfl
        go_wp2_with fail
        ((with_reducible refine (Hf.out _ Hb_w5.out).mono ?_); rintro e w6 ⟨rfl, hl_w6⟩)
        have Hb_w6 := Lib.hid (Hb_w5.out.trans (hl_w6.mono Hb_w5.out.size))
        clear hl_w6 lvq z0 z1 Hf
        have lvq := Hlv.out _ Hb_w6.out
        have z0 := lvq.cell 0 _ rfl
        have z1 : World.cell? _ ⟨w1.heap.size, 1, none⟩ = some (.slice A xs.length c) := lvq.cell 1 _ rfl
        go_wp2_with fail
        ((with_reducible refine (Hc.out _ Hb_w6.out).mono ?_); rintro e w7 ⟨rfl, hl_w7⟩)
        have Hb_w7 := Lib.hid (Hb_w6.out.trans (hl_w7.mono Hb_w6.out.size))
        clear hl_w7 lvq z0 z1 Hc
        have Hb7 := Hb_w7
        clear Hb_w4 Hb_w5 Hb_w6 Hb_w7
        go_wp2_with fail
        ((with_reducible refine (happenings_any _).mono ?_); rintro e wh ⟨rfl, hlh⟩)
        go_wp2_with fail
        go_ret
        exact ⟨rfl, Hbw.out.trans (((Hb7.out.trans (hlh.mono Hb7.out.size))).mono Hbw.out.size)⟩
      · have t2 : 4321440 ≤ m := by omega
        have lvq := Hlv.out _ Hb0.out
        have z0 := lvq.cell 0 _ rfl
        have z1 : World.cell? _ ⟨w1.heap.size, 1, none⟩ = some (.slice A xs.length c) := lvq.cell 1 _ rfl
        go_wp2_with fail
        ((with_reducible refine (Hl.out _ Hb0.out).mono ?_); rintro e w4 ⟨rfl, hl_w4⟩)
        have Hb_w4 := Lib.hid (Hb0.out.trans (hl_w4.mono Hb0.out.size))
        clear hl_w4 lvq z0 z1 Hl
        have lvq := Hlv.out _ Hb_w4.out
        have z0 := lvq.cell 0 _ rfl
        have z1 : World.cell? _ ⟨w1.heap.size, 1, none⟩ = some (.slice A xs.length c) := lvq.cell 1 _ rfl
        go_wp2_with fail
        ((with_reducible refine (Hd.out _ Hb_w4.out).mono ?_); rintro e w5 ⟨rfl, hl_w5⟩)
        have Hb_w5 := Lib.hid (Hb_w4.out.trans (hl_w5.mono Hb_w4.out.size))
        clear hl_w5 lvq z0 z1 Hd
        have lvq := Hlv.out _ Hb_w5.out
        have z0 := lvq.cell 0 _ rfl
        have z1 : World.cell? _ ⟨w1.heap.size, 1, none⟩ = some (.slice A xs.length c) := lvq.cell 1 _ rfl
        go_wp2_with fail
        ((with_reducible refine (Hf.out _ Hb_w5.out).mono ?_); rintro e w6 ⟨rfl, hl_w6⟩)
        have Hb_w6 := Lib.hid (Hb_w5.out.trans (hl_w6.mono Hb_w5.out.size))
        clear hl_w6 lvq z0 z1 Hf
        have lvq := Hlv.out _ Hb_w6.out
        have z0 := lvq.cell 0 _ rfl
        have z1 : World.cell? _ ⟨w1.heap.size, 1, none⟩ = some (.slice A xs.length c) := lvq.cell 1 _ rfl
        go_wp2_with fail
        ((with_reducible refine (Hc.out _ Hb_w6.out).mono ?_); rintro e w7 ⟨rfl, hl_w7⟩)
        have Hb_w7 := Lib.hid (Hb_w6.out.trans (hl_w7.mono Hb_w6.out.size))
        clear hl_w7 lvq z0 z1 Hc
        have Hb7 := Hb_w7
        clear Hb_w4 Hb_w5 Hb_w6 Hb_w7
        go_wp2_with fail
        ((with_reducible refine (happenings_any _).mono ?_); rintro e wh ⟨rfl, hlh⟩)
        go_wp2_with fail
        go_ret
        exact ⟨rfl, Hbw.out.trans (((Hb7.out.trans (hlh.mono Hb7.out.size))).mono Hbw.out.size)⟩
  · have e1 : readV f m cl = .tuple #[.int .i64 0, .int .i64 f] := by rw [readV, if_pos hf]
    have e2 : readV f m dy = .tuple #[.int .i64 0, .int .i64 f] := by rw [readV, if_pos hf]
    rw [e1] at Hl
    rw [e2] at Hd
    clear e1 e2 Hk Ho Hz
    have f0 : (f == 0) = false := by simpa using hf
    have f1 : (f != 0) = true := by simpa using hf
    have lvq := Hlv.out _ Hb0.out
    have z0 := lvq.cell 0 _ rfl
    have z1 : World.cell? _ ⟨w1.heap.size, 1, none⟩ = some (.slice A xs.length c) := lvq.cell 1 _ rfl
    go_wp2_with fail
    ((with_reducible refine (Hl.out _ Hb0.out).mono ?_); rintro e w4 ⟨rfl, hl_w4⟩)
    have Hb_w4 := Lib.hid (Hb0.out.trans (hl_w4.mono Hb0.out.size))
    clear hl_w4 lvq z0 z1 Hl
    have lvq := Hlv.out _ Hb_w4.out
    have z0 := lvq.cell 0 _ rfl
    have z1 : World.cell? _ ⟨w1.heap.size, 1, none⟩ = some (.slice A xs.length c) := lvq.cell 1 _ rfl
    go_wp2_with fail
    ((with_reducible refine (Hd.out _ Hb_w4.out).mono ?_); rintro e w5 ⟨rfl, hl_w5⟩)
    have Hb_w5 := Lib.hid (Hb_w4.out.trans (hl_w5.mono Hb_w4.out.size))
    clear hl_w5 lvq z0 z1 Hd
    have lvq := Hlv.out _ Hb_w5.out
    have z0 := lvq.cell 0 _ rfl
    have z1 : World.cell? _ ⟨w1.heap.size, 1, none⟩ = some (.slice A xs.length c) := lvq.cell 1 _ rfl
    go_wp2_with fail
    ((with_reducible refine (Hf.out _ Hb_w5.out).mono ?_); rintro e w6 ⟨rfl, hl_w6⟩)
    have Hb_w6 := Lib.hid (Hb_w5.out.trans (hl_w6.mono Hb_w5.out.size))
    clear hl_w6 lvq z0 z1 Hf
    have lvq := Hlv.out _ Hb_w6.out
    have z0 := lvq.cell 0 _ rfl
    have z1 : World.cell? _ ⟨w1.heap.size, 1, none⟩ = some (.slice A xs.length c) := lvq.cell 1 _ rfl
    go_wp2_with fail
    ((with_reducible refine (Hc.out _ Hb_w6.out).mono ?_); rintro e w7 ⟨rfl, hl_w7⟩)
    have Hb_w7 := Lib.hid (Hb_w6.out.trans (hl_w7.mono Hb_w6.out.size))
    clear hl_w7 lvq z0 z1 Hc
    have Hb7 := Hb_w7
    clear Hb_w4 Hb_w5 Hb_w6 Hb_w7
    go_wp2_with fail
    ((with_reducible refine (happenings_any _).mono ?_); rintro e wh ⟨rfl, hlh⟩)
    go_wp2_with fail
    go_ret
    exact ⟨rfl, Hbw.out.trans (((Hb7.out.trans (hlh.mono Hb7.out.size))).mono Hbw.out.size)⟩
end Go.Proofs.YtcbpajhlollcbaaGreatDoor
