/- What event.within and event.CheckZone return. -/
import Derived.Test.YtneopbbafdmpkaaDoorZoneLaw
import Derived.Test.YtneopbbafdmpkaaDoorRep
import Derived.Test.YtneopbbafdmpkaaDoorPreds
import Derived.Test.YtneopbbafdmpkaaDoorMix
import Derived.WalkLawsBesides
namespace Go.Proofs.YtneopbbafdmpkaaDoor
open Go.RowKit
theorem LV.kb {w w' : World} {X B : Nat} {cs : Array Value} {T : TypeId} (h : LV w X cs T) (k : Below B w w') (hb : X < B) : LV w' X cs T := (k.block X hb).trans h
def Sft.cells (s : Sft) : List Value := [.int .i64 s.at', .int .i64 s.off]
def rSft : Rep Sft := .flat 2 Sft.cells (fun _ => rfl)
/-- the cells of a shift in a slice -/
theorem Sl.sft {N : Nat → Prop} {w : World} {A : Option Addr} {xs : List Sft} (h : Sl rSft N w A xs) (k : Nat) (s : Sft) (hk : xs[k]? = some s) : ∃ blk off, A = some ⟨blk, off, none⟩ ∧ blk < w.heap.size ∧
    w.cell? ⟨blk, off + k * 2, none⟩ = some (.int .i64 s.at') ∧ w.cell? ⟨blk, off + k * 2 + 1, none⟩ = some (.int .i64 s.off) := by
  obtain ⟨blk, off, l, e, h1, _, h3, h4⟩ := h k s hk
  obtain rfl : l = Sft.cells s := h3
  exact ⟨blk, off, e, h1, h4 0 _ rfl, h4 1 _ rfl⟩
def Sft.small (s : Sft) : Prop := -10000000000000 ≤ s.at' ∧ s.at' ≤ 10000000000000
theorem ewithin_any (n a b : Int) (w : World) : Calls Tryd.prog 64 #[.int .i64 n, .int .i64 a, .int .i64 b] w fun e w' => e = .returned (.bool (decide (a ≤ n ∧ n ≤ b))) ∧ w = w' := by
  by_cases h1 : a ≤ n <;> by_cases h2 : n ≤ b
  all_goals
    simp only [h1, h2, and_true, and_false, decide_true, decide_false]
    go_enter Tryd.func64, Tryd.ntmps64
    go_wp2
    go_ret
    exact ⟨rfl, rfl⟩
set_option maxHeartbeats 4000000 in
set_option maxRecDepth 100000 in
theorem checkZone_any (N : Nat → Prop) (A : Option Addr) (nm : ByteArray) (xs : List Sft) (c : Nat) (w : World) (hS : Sl rSft N w A xs) (hnm : nm.size ≤ 1000000000) (hn : xs.length ≤ 1000000000) (hsm : ∀ s ∈ xs, s.small) :
    Calls Tryd.prog 50 #[.agg #[.string nm, .slice A xs.length c]] w fun e w' => e = .returned (.int .i64 (zoneFault nm xs)) ∧ Below w.heap.size w w' := by
  have Hkey : Hid (∀ w, Calls Tryd.prog 41 #[.string nm] w fun e w' => e = .returned (.bool (L.isKey nm)) ∧ Below w.heap.size w w') := fun w => (isKey_any nm w hnm).mono fun e w' ⟨h1, h2⟩ => ⟨h1, h2 ▸ Below.refl _ _⟩
  have HS := Lib.hid hS
  have Hsm := Lib.hid hsm
  clear hS hsm
  obtain ⟨R, HR⟩ : ∃ R, Hid (zoneFault nm xs = R) := ⟨_, Lib.hid rfl⟩
  rw [HR.out]
  have Hb0 : Hid (Below w.heap.size w (w.alloc (.cells #[.string nm, .slice A xs.length c] 51))) := (Below.refl _ _).alloc (Nat.le_refl _) _
  have lvZ := LV.new w w.heap.size #[.string nm, .slice A xs.length c] 51 rfl
  by_cases hK : L.isKey nm = true
  · rw [hK] at Hkey
    go_enter Tryd.func50, Tryd.ntmps50
    go_wp2_with fail
    ((with_reducible refine (Hkey.out _).mono ?_); rintro e w1 ⟨rfl, hl_w1⟩)
    have hz_w1 := hl_w1.size
    have lv1 := LV.kb lvZ hl_w1 (by simp)
    have Hb1 : Hid (Below w.heap.size w w1) := Hb0.out.trans (hl_w1.mono (by simp))
    have hz1 := Hb1.out.size
    have hlt1 := lv1.lt
    have z1 := lv1.cell 1 _ rfl
    clear hl_w1 hz_w1 lvZ Hb0 Hkey
    by_cases h0 : xs.length = 0
    · have h0' : ((xs.length : Int) == 0) = true := by simpa using h0
      have HR2 : Hid (3 = R) := by show _ = _; rw [← HR.out, zoneFault, hK, if_neg (by simp), if_pos h0]
      clear HR
      go_wp2_with fail
      go_ret
      exact ⟨ret_i HR2.out, Hb1.out⟩
    · have h0' : ((xs.length : Int) == 0) = false := by simpa using h0
      by_cases h100 : 100 < xs.length
      · have HR2 : Hid (2 = R) := by show _ = _; rw [← HR.out, zoneFault, hK, if_neg (by simp), if_neg h0, if_pos h100]
        clear HR
        go_wp2_with fail
        go_ret
        exact ⟨ret_i HR2.out, Hb1.out⟩
      · have HR2 : Hid (shiftsGo none xs = R) := by show _ = _; rw [← HR.out, zoneFault, hK, if_neg (by simp), if_neg h0, if_neg h100]
        clear HR hK
        go_wp2_with fail
        go_loopw [23] (fun i wr => ∃ k : Nat, k ≤ xs.length ∧ i = .int .i64 k ∧ shiftsGo (if k = 0 then none else (xs[k - 1]?).map Sft.at') (xs.drop k) = R ∧ Below w1.heap.size w1 wr) (fun i _ => xs.length - (intOf i).toNat)
        case atStart => exact ⟨0, Nat.zero_le _, rfl, HR2.out, Below.refl _ _⟩
        case round =>
          clear HR2
          obtain ⟨k, hk, rfl, hr, hbl⟩ := hrel
          have Hr := Lib.hid hr
          have Hbl := Lib.hid hbl
          have hszr := hbl.size
          have lvr := LV.kb lv1 hbl lv1.lt
          have zr := lvr.cell 1 _ rfl
          have Hbw : Hid (Below w.heap.size w wr) := Hb1.out.trans (hbl.mono Hb1.out.size)
          clear hr hbl z1 lv1
          by_cases hlt : k < xs.length
          · obtain ⟨s, hs⟩ : ∃ s, xs[k]? = some s := ⟨_, List.getElem?_eq_getElem hlt⟩
            obtain ⟨blk, off, rfl, hblk, c0, c1⟩ := HS.out.sft k s hs
            have d0 := (Hbw.out.cell (p := ⟨blk, off + k * 2, none⟩) hblk).trans c0
            have d1 := (Hbw.out.cell (p := ⟨blk, off + k * 2 + 1, none⟩) hblk).trans c1
            have hss := Hsm.out s (List.mem_of_getElem? hs)
            unfold Sft.small at hss
            have Hs := Lib.hid hs
            have Hstep : Hid (shiftsGo (if k = 0 then none else (xs[k - 1]?).map Sft.at') (s :: xs.drop (k + 1)) = R) := by
              show _ = _
              rw [← Hr.out, List.drop_eq_getElem_cons hlt]
              have : xs[k] = s := by simpa [List.getElem?_eq_getElem hlt] using Hs.out
              rw [this]
            clear Hr c0 c1 hs
            have Hb2 : Hid (Below w1.heap.size w1 (wr.alloc (.cells #[.int .i64 s.at', .int .i64 s.off] 69))) := Hbl.out.alloc Hbl.out.size _
            have Hbw2 : Hid (Below w.heap.size w (wr.alloc (.cells #[.int .i64 s.at', .int .i64 s.off] 69))) := Hbw.out.alloc Hbw.out.size _
            by_cases ha : 0 ≤ s.at' ∧ s.at' ≤ 4321439
            · have ea : decide ((0 : Int) ≤ s.at' ∧ s.at' ≤ 4321439) = true := by simpa using ha
              by_cases ho : -720 ≤ s.off ∧ s.off ≤ 840
              · have eo : decide ((-720 : Int) ≤ s.off ∧ s.off ≤ 840) = true := by simpa using ho
                go_wp2_with fail
                ((with_reducible refine (ewithin_any _ _ _ _).mono ?_); rintro e _ ⟨rfl, rfl⟩)
                rw [ea]
                go_wp2_with fail
                ((with_reducible refine (ewithin_any _ _ _ _).mono ?_); rintro e _ ⟨rfl, rfl⟩)
                rw [eo]
                clear ea eo d0 d1 zr
                have lvs := LV.new wr wr.heap.size #[.int .i64 s.at', .int .i64 s.off] 69 rfl
                have lvz2 := lvr.alloc (.cells #[.int .i64 s.at', .int .i64 s.off] 69)
                clear lvr
                generalize wr.alloc (.cells #[.int .i64 s.at', .int .i64 s.off] 69) = wq at *
                have s0 : wq.cell? ⟨wr.heap.size, 0, none⟩ = some (.int .i64 s.at') := lvs.cell 0 _ rfl
                have z1 : wq.cell? ⟨w.heap.size, 1, none⟩ = some (.slice (some ⟨blk, off, none⟩) xs.length c) := lvz2.cell 1 _ rfl
                clear lvs lvz2
                by_cases hk0 : k = 0
                · have hk1 : decide ((0 : Int) < (k : Int)) = false := by simp; omega
                  have hk2 : ((k : Int) == 0) = true := by simp; omega
                  by_cases hz : s.at' = 0
                  · have hz' : (s.at' == 0) = true := by simpa using hz
                    have Hn : Hid (shiftsGo (if k + 1 = 0 then none else (xs[k + 1 - 1]?).map Sft.at') (xs.drop (k + 1)) = R) := by
                      show _ = _
                      rw [← Hstep.out, if_pos hk0, shiftsGo_zero s _ ⟨ha, ho⟩ hz, if_neg (Nat.succ_ne_zero k), Nat.add_sub_cancel, Hs.out]
                      rfl
                    clear Hstep hz
                    go_wp2_with fail
                    go_quiet (fail)
                    go_wp2_with fail
                    go_roundw
                    case rel => exact ⟨k + 1, by omega, by go_num, Hn.out, Hb2.out.trans (below_drewN _ _ _)⟩
                    case measure => simp [intOf]; omega
                  · have hz' : (s.at' == 0) = false := by simpa using hz
                    have Hn : Hid (3 = R) := by
                      show _ = _
                      rw [← Hstep.out, if_pos hk0, shiftsGo_first s _ ⟨ha, ho⟩ hz]
                    clear Hstep hz
                    go_wp2_with fail
                    go_ret
                    exact ⟨ret_i Hn.out, Hbw2.out⟩
                · obtain ⟨j, rfl⟩ : ∃ j, k = j + 1 := ⟨k - 1, by omega⟩
                  obtain ⟨p, hp⟩ : ∃ p, xs[j]? = some p := ⟨_, List.getElem?_eq_getElem (by omega)⟩
                  obtain ⟨_, _, e, _, p0, _⟩ := HS.out.sft j p hp
                  cases e
                  have q0 : wq.cell? ⟨blk, off + j * 2, none⟩ = some (.int .i64 p.at') := (Hbw2.out.cell (p := ⟨blk, off + j * 2, none⟩) hblk).trans p0
                  have hps := Hsm.out p (List.mem_of_getElem? hp)
                  unfold Sft.small at hps
                  have Hp := Lib.hid hp
                  have hk1 : decide ((0 : Int) < (j : Int) + 1) = true := by rw [decide_eq_true_eq]; omega
                  have hk2 : ((j : Int) + 1 == 0) = false := by rw [beq_eq_false_iff_ne]; omega
                  have hk3 : (j : Int) + 1 - 1 = (j : Int) := by omega
                  have hsum : IntKind.i64.wrap (p.at' + 1800) = p.at' + 1800 := IntWalk.i64_in _ (by omega)
                  have Hn0 : Hid ((if s.at' < p.at' + 1800 then 7 else shiftsGo (some s.at') (xs.drop (j + 1 + 1))) = R) := by
                    show _ = _
                    rw [← Hstep.out, if_neg (Nat.succ_ne_zero j), Nat.add_sub_cancel, Hp.out]
                    exact (shiftsGo_next p.at' s _ ⟨ha, ho⟩).symm
                  clear Hstep hp p0 hk0
                  by_cases hlt7 : s.at' < p.at' + 1800
                  · have Hn : Hid (7 = R) := by show _ = _; rw [← Hn0.out, if_pos hlt7]
                    clear Hn0
                    go_wp2_with fail
                    go_quiet (fail)
                    go_wp2_with fail
                    go_ret
                    exact ⟨ret_i Hn.out, Hbw2.out.trans (below_drewN _ _ _)⟩
                  · have Hn : Hid (shiftsGo (if j + 1 + 1 = 0 then none else (xs[j + 1 + 1 - 1]?).map Sft.at') (xs.drop (j + 1 + 1)) = R) := by
                      show _ = _
                      rw [← Hn0.out, if_neg hlt7, if_neg (Nat.succ_ne_zero _), Nat.add_sub_cancel, Hs.out]
                      rfl
                    clear Hn0
                    go_wp2_with fail
                    go_quiet (fail)
                    go_wp2_with fail
                    go_roundw
                    case rel => exact ⟨j + 1 + 1, by omega, by go_num, Hn.out, Hb2.out.trans (below_drewN _ _ _)⟩
                    case measure => simp [intOf]; omega
              · have eo : decide ((-720 : Int) ≤ s.off ∧ s.off ≤ 840) = false := by simpa using ho
                have Hn : Hid (1 = R) := by show _ = _; rw [← Hstep.out, shiftsGo_rng _ s _ (fun h => ho h.2)]
                clear Hstep
                go_wp2_with fail
                ((with_reducible refine (ewithin_any _ _ _ _).mono ?_); rintro e _ ⟨rfl, rfl⟩)
                rw [ea]
                go_wp2_with fail
                ((with_reducible refine (ewithin_any _ _ _ _).mono ?_); rintro e _ ⟨rfl, rfl⟩)
                rw [eo]
                go_wp2_with fail
                go_ret
                exact ⟨ret_i Hn.out, Hbw2.out⟩
            · have ea : decide ((0 : Int) ≤ s.at' ∧ s.at' ≤ 4321439) = false := by simpa using ha
              have Hn : Hid (1 = R) := by show _ = _; rw [← Hstep.out, shiftsGo_rng _ s _ (fun h => ha h.1)]
              clear Hstep
              go_wp2_with fail
              ((with_reducible refine (ewithin_any _ _ _ _).mono ?_); rintro e _ ⟨rfl, rfl⟩)
              rw [ea]
              go_wp2_with fail
              go_ret
              exact ⟨ret_i Hn.out, Hbw2.out⟩
          · have Hn : Hid (0 = R) := by show _ = _; rw [← Hr.out, List.drop_eq_nil_of_le (by omega)]; rfl
            clear Hr
            go_wp2_with fail
            go_ret
            exact ⟨ret_i Hn.out, Hbw.out⟩
  · have hK : L.isKey nm = false := by simpa using hK
    rw [hK] at Hkey
    go_enter Tryd.func50, Tryd.ntmps50
    go_wp2_with fail
    ((with_reducible refine (Hkey.out _).mono ?_); rintro e w1 ⟨rfl, hl_w1⟩)
    have hz_w1 := hl_w1.size
    have Hb1 : Hid (Below w.heap.size w w1) := Hb0.out.trans (hl_w1.mono (by simp))
    clear lvZ hl_w1 hz_w1
    go_wp2_with fail
    go_ret
    exact ⟨ret_i (by rw [← HR.out, zoneFault, hK, if_pos rfl]), Hb1.out⟩
end Go.Proofs.YtneopbbafdmpkaaDoor
