/- What event.Reach, Moment and Start, and handref2.MomentOf return. -/
import Derived.Test.YtcbpajhlollcbaaGreatDoorLocal
import Derived.Test.YtcbpajhlollcbaaGreatDoorMomLaw
namespace Go.Proofs.YtcbpajhlollcbaaGreatDoor
open Go.RowKit
def reachV (o : Option Int) : Value := match o with | some m => .tuple #[.int .i64 m, .bool true] | none => .tuple #[.int .i64 0, .bool false]
theorem drop_at {α : Type} {xs : List α} {k : Nat} {s : α} (h : xs[k]? = some s) : xs.drop k = s :: xs.drop (k + 1) := by
  obtain ⟨hlt, rfl⟩ := List.getElem?_eq_some_iff.1 h
  exact List.drop_eq_getElem_cons hlt
theorem endOf_at (xs : List Sft) (k : Nat) : endOf (xs.drop k) = match xs[k]? with | some t => t.at' | none => 4321440 := by
  cases h : xs[k]? with
  | none => rw [List.drop_eq_nil_of_le (List.getElem?_eq_none_iff.1 h)]; rfl
  | some t => rw [drop_at h]; rfl
theorem reach_ret {X M : Int} (h : X = M) : Ending.returned (.tuple #[.int .i64 X, .bool true]) = .returned (reachV (some M)) := by subst h; rfl
set_option maxHeartbeats 4000000 in
set_option maxRecDepth 100000 in
theorem reach_any (N : Nat → Prop) (A : Option Addr) (nm : ByteArray) (xs : List Sft) (c : Nat) (T : Int) (w : World) (hS : Sl rSft N w A xs) (hz : GoodZ xs) (hT : 0 ≤ T ∧ T ≤ 10000000) :
    Calls Tryz.prog 58 #[.agg #[.string nm, .slice A xs.length c], .int .i64 0, .int .i64 T] w fun e w' => e = .returned (reachV (reachGo T xs)) ∧ Below w.heap.size w w' := by
  have hn := hz.len
  have Hz := Lib.hid hz
  have HS := Lib.hid hS
  have Hb0 : Hid (Below w.heap.size w (w.alloc (.cells #[.string nm, .slice A xs.length c] 28))) := (Below.refl _ _).alloc (Nat.le_refl _) _
  have lvZ := LV.new w w.heap.size #[.string nm, .slice A xs.length c] 28 rfl
  clear hS hz
  obtain ⟨R, HR⟩ : ∃ R, Hid (reachV (reachGo T xs) = R) := ⟨_, Lib.hid rfl⟩
  rw [HR.out]
  go_enter Tryz.func58, Tryz.ntmps58
  have z1 := lvZ.cell 1 _ rfl
  go_wp2_with fail
  clear z1
  go_loopw [15] (fun i wr => ∃ k : Nat, k ≤ xs.length ∧ i = .int .i64 k ∧ reachV (reachGo T (xs.drop k)) = R ∧ Below (w.heap.size + 1) (w.alloc (.cells #[.string nm, .slice A xs.length c] 28)) wr) (fun i _ => xs.length - (intOf i).toNat)
  case atStart => exact ⟨0, Nat.zero_le _, rfl, HR.out, Below.refl _ _⟩
  case round =>
    clear HR
    obtain ⟨k, hk, rfl, hr, hbl⟩ := hrel
    have Hr := Lib.hid hr
    have Hbl := Lib.hid hbl
    have hszr := hbl.size
    simp only [World.size_alloc] at hszr
    have lvr := LV.kb lvZ hbl (by omega)
    have zr : wr.cell? ⟨w.heap.size, 1, none⟩ = some (.slice A xs.length c) := lvr.cell 1 _ rfl
    have Hbw : Hid (Below w.heap.size w wr) := Hb0.out.trans (hbl.mono (by omega))
    clear hr hbl lvZ
    by_cases hlt : k < xs.length
    · obtain ⟨s, hs⟩ : ∃ s, xs[k]? = some s := ⟨_, List.getElem?_eq_getElem hlt⟩
      obtain ⟨blk, off, rfl, hblk, c0, c1⟩ := HS.out.sft k s hs
      have d0 := (Hbw.out.cell (p := ⟨blk, off + k * 2, none⟩) hblk).trans c0
      have d1 := (Hbw.out.cell (p := ⟨blk, off + k * 2 + 1, none⟩) hblk).trans c1
      have hss := Hz.out.rng s (List.mem_of_getElem? hs)
      have Hstep : Hid (reachV (reachGo T (s :: xs.drop (k + 1))) = R) := by show _ = _; rw [← Hr.out, drop_at hs]
      have Hb2 : Hid (Below (w.heap.size + 1) (w.alloc (.cells #[.string nm, .slice (some ⟨blk, off, none⟩) xs.length c] 28)) (wr.alloc (.cells #[.int .i64 s.at', .int .i64 s.off] 78))) := Hbl.out.alloc (by omega) _
      have Hbw2 : Hid (Below w.heap.size w (wr.alloc (.cells #[.int .i64 s.at', .int .i64 s.off] 78))) := Hbw.out.alloc (by omega) _
      have hZr : w.heap.size < wr.heap.size := by omega
      have hBr : blk < wr.heap.size := by omega
      have y1 : (wr.alloc (.cells #[.int .i64 s.at', .int .i64 s.off] 78)).cell? ⟨w.heap.size, 1, none⟩ = some (.slice (some ⟨blk, off, none⟩) xs.length c) := by rw [World.cell?_alloc_past _ _ _ hZr]; exact zr
      clear Hr c0 c1 hs
      obtain ⟨M, hM⟩ : ∃ M, max 0 (max s.at' (T - s.off)) = M := ⟨_, rfl⟩
      have e1 := hM
      obtain ⟨E, hE⟩ : ∃ E, endOf (xs.drop (k + 1)) = E := ⟨_, rfl⟩
      have Hn : Hid (reachV (if M < E then some M else reachGo T (xs.drop (k + 1))) = R) := by show _ = _; rw [← Hstep.out, reachGo, hM, hE]
      clear Hstep
      rw [endOf_at] at hE
      by_cases hk1 : k + 1 < xs.length
      · obtain ⟨t, ht⟩ : ∃ t, xs[k + 1]? = some t := ⟨_, List.getElem?_eq_getElem hk1⟩
        obtain ⟨_, _, e, _, p0, _⟩ := HS.out.sft (k + 1) t ht
        cases e
        have q0 := (Hbw.out.cell (p := ⟨blk, off + (k + 1) * 2, none⟩) hblk).trans p0
        rw [ht] at hE
        obtain rfl : t.at' = E := hE
        have y2 : (wr.alloc (.cells #[.int .i64 s.at', .int .i64 s.off] 78)).cell? ⟨blk, off + (k + 1) * 2, none⟩ = some (.int .i64 t.at') := by rw [World.cell?_alloc_past _ _ _ hBr]; exact q0
        clear p0 ht
        go_wp2_with fail
        all_goals first
          | (go_ret2
             exact ⟨by rw [← Hn.out, if_pos (by omega)]; exact reach_ret (by omega), Hbw2.out⟩)
          | (go_roundw
             case rel => exact ⟨k + 1, by omega, by go_num, by rw [← Hn.out, if_neg (by omega)], Hb2.out⟩
             case measure => simp [intOf]; omega)
      · have e0 : xs[k + 1]? = none := List.getElem?_eq_none (by omega)
        rw [e0] at hE
        obtain rfl : (4321440 : Int) = E := hE
        clear e0
        go_wp2_with fail
        all_goals first
          | (go_ret2
             exact ⟨by rw [← Hn.out, if_pos (by omega)]; exact reach_ret (by omega), Hbw2.out⟩)
          | (go_roundw
             case rel => exact ⟨k + 1, by omega, by go_num, by rw [← Hn.out, if_neg (by omega)], Hb2.out⟩
             case measure => simp [intOf]; omega)
    · have Hn : Hid (reachV none = R) := by show _ = _; rw [← Hr.out, List.drop_eq_nil_of_le (by omega)]; rfl
      clear Hr
      go_wp2_with fail
      go_ret2
      exact ⟨by rw [← Hn.out]; rfl, Hbw.out⟩
def momV (f day minute : Int) (o : Option Int) : Value := if f ≠ 0 then .tuple #[.int .i64 0, .int .i64 f] else if ¬ ((0 ≤ day ∧ day ≤ 3000) ∧ (0 ≤ minute ∧ minute ≤ 1439)) then .tuple #[.int .i64 0, .int .i64 1] else
  match o with | some m => .tuple #[.int .i64 m, .int .i64 0] | none => .tuple #[.int .i64 0, .int .i64 8]
set_option maxHeartbeats 4000000 in
set_option maxRecDepth 100000 in
theorem moment_any (N : Nat → Prop) (A : Option Addr) (nm : ByteArray) (xs : List Sft) (c : Nat) (day minute : Int) (w : World) (hS : Sl rSft N w A xs) (hnm : nm.size ≤ 1000000000) (hn : xs.length ≤ 1000000000) (hsm : ∀ s ∈ xs, s.small) :
    Calls Tryz.prog 20 #[.agg #[.string nm, .slice A xs.length c], .int .i64 day, .int .i64 minute] w fun e w' => e = .returned (momV (zoneFault nm xs) day minute (reachGo (day * 1440 + minute) xs)) ∧ Below w.heap.size w w' := by
  have Hb0 : Hid (Below w.heap.size w (w.alloc (.cells #[.string nm, .slice A xs.length c] 28))) := (Below.refl _ _).alloc (Nat.le_refl _) _
  have lvZ := LV.new w w.heap.size #[.string nm, .slice A xs.length c] 28 rfl
  have HS := Lib.hid (hS.keepB Hb0.out)
  have Hc := Lib.hid (checkZone_any N A nm xs c _ HS.out hnm hn hsm)
  have Hg : Hid (zoneFault nm xs = 0 → GoodZ xs) := fun h => zone_good h
  clear hS hsm
  generalize zoneFault nm xs = f at *
  obtain ⟨o, Ho⟩ : ∃ o, Hid (reachGo (day * 1440 + minute) xs = o) := ⟨_, Lib.hid rfl⟩
  rw [Ho.out]
  obtain ⟨R, HR⟩ : ∃ R, Hid (momV f day minute o = R) := ⟨_, Lib.hid rfl⟩
  rw [HR.out]
  go_enter Tryz.func20, Tryz.ntmps20
  go_wp2_with fail
  ((with_reducible refine (Hc.out).mono ?_); rintro e w1 ⟨rfl, hl_w1⟩)
  have hz_w1 := hl_w1.size
  have Hb1 := Lib.hid (Hb0.out.trans (hl_w1.mono (by simp)))
  have lv1 := LV.kb lvZ hl_w1 lvZ.lt
  have HS1 := Lib.hid (HS.out.keepB hl_w1)
  have z0 : w1.cell? ⟨w.heap.size, 0, none⟩ = some (.string nm) := lv1.cell 0 _ rfl
  have z1 : w1.cell? ⟨w.heap.size, 1, none⟩ = some (.slice A xs.length c) := lv1.cell 1 _ rfl
  clear Hc hl_w1 hz_w1 lvZ lv1 HS
  by_cases hf : f = 0
  · have Hgz := Lib.hid (Hg.out hf)
    subst hf
    clear Hg
    by_cases hd : 0 ≤ day ∧ day ≤ 3000
    · have ed : decide ((0 : Int) ≤ day ∧ day ≤ 3000) = true := by simpa using hd
      by_cases hm : 0 ≤ minute ∧ minute ≤ 1439
      · have em : decide ((0 : Int) ≤ minute ∧ minute ≤ 1439) = true := by simpa using hm
        go_wp2_with fail
        ((with_reducible refine (ewithin_any _ _ _ _).mono ?_); rintro e _ ⟨rfl, rfl⟩)
        rw [ed]
        go_wp2_with fail
        ((with_reducible refine (ewithin_any _ _ _ _).mono ?_); rintro e _ ⟨rfl, rfl⟩)
        rw [em]
        have Hv : Hid (Calls Tryz.prog _ _ _ _) := Lib.hid (reach_any N A nm xs c (day * 1440 + minute) w1 HS1.out Hgz.out (by omega))
        rw [Ho.out] at Hv
        clear Ho HS1 Hgz
        go_wp2_with fail
        ((with_reducible refine (Hv.out).mono ?_); rintro e w2 ⟨rfl, hl_w2⟩)
        have Hb2 := Lib.hid (Hb1.out.trans (hl_w2.mono Hb1.out.size))
        clear Hv hl_w2
        rcases o with _ | m
        · unfold reachV
          have HR2 : Hid (.tuple #[.int .i64 0, .int .i64 8] = R) := by show _ = _; rw [← HR.out, momV, if_neg (by simp), if_neg (not_not_intro ⟨hd, hm⟩)]
          clear HR
          go_wp2_with fail
          go_ret2
          exact ⟨by rw [← HR2.out]; rfl, Hb2.out⟩
        · unfold reachV
          have HR2 : Hid (.tuple #[.int .i64 m, .int .i64 0] = R) := by show _ = _; rw [← HR.out, momV, if_neg (by simp), if_neg (not_not_intro ⟨hd, hm⟩)]
          clear HR
          go_wp2_with fail
          go_ret2
          exact ⟨by rw [← HR2.out]; rfl, Hb2.out⟩
      · have em : decide ((0 : Int) ≤ minute ∧ minute ≤ 1439) = false := by simpa using hm
        have HR2 : Hid (.tuple #[.int .i64 0, .int .i64 1] = R) := by show _ = _; rw [← HR.out, momV.eq_def, if_neg (by simp), if_pos (fun h => hm h.2)]
        clear HR
        go_wp2_with fail
        ((with_reducible refine (ewithin_any _ _ _ _).mono ?_); rintro e _ ⟨rfl, rfl⟩)
        rw [ed]
        go_wp2_with fail
        ((with_reducible refine (ewithin_any _ _ _ _).mono ?_); rintro e _ ⟨rfl, rfl⟩)
        rw [em]
        go_wp2_with fail
        go_ret2
        exact ⟨by rw [← HR2.out]; rfl, Hb1.out⟩
    · have ed : decide ((0 : Int) ≤ day ∧ day ≤ 3000) = false := by simpa using hd
      have HR2 : Hid (.tuple #[.int .i64 0, .int .i64 1] = R) := by show _ = _; rw [← HR.out, momV.eq_def, if_neg (by simp), if_pos (fun h => hd h.1)]
      clear HR
      go_wp2_with fail
      ((with_reducible refine (ewithin_any _ _ _ _).mono ?_); rintro e _ ⟨rfl, rfl⟩)
      rw [ed]
      go_wp2_with fail
      go_ret2
      exact ⟨by rw [← HR2.out]; rfl, Hb1.out⟩
  · have e0 : (f != 0) = true := by simpa using hf
    have HR2 : Hid (.tuple #[.int .i64 0, .int .i64 f] = R) := by show _ = _; rw [← HR.out, momV.eq_def, if_pos hf]
    clear HR hf
    go_wp2_with fail
    go_ret2
    exact ⟨by rw [← HR2.out]; rfl, Hb1.out⟩
set_option maxHeartbeats 4000000 in
set_option maxRecDepth 100000 in
theorem start_any (N : Nat → Prop) (A : Option Addr) (nm : ByteArray) (xs : List Sft) (c : Nat) (day : Int) (w : World) (hS : Sl rSft N w A xs) (hnm : nm.size ≤ 1000000000) (hn : xs.length ≤ 1000000000) (hsm : ∀ s ∈ xs, s.small) :
    Calls Tryz.prog 19 #[.agg #[.string nm, .slice A xs.length c], .int .i64 day] w fun e w' => e = .returned (momV (zoneFault nm xs) day 0 (reachGo (day * 1440 + 0) xs)) ∧ Below w.heap.size w w' := by
  have Hb0 : Hid (Below w.heap.size w (w.alloc (.cells #[.string nm, .slice A xs.length c] 28))) := (Below.refl _ _).alloc (Nat.le_refl _) _
  have Hc := Lib.hid (moment_any N A nm xs c day 0 _ (hS.keepB Hb0.out) hnm hn hsm)
  clear hS hsm
  obtain ⟨a, e, ha⟩ : ∃ a e : Int, momV (zoneFault nm xs) day 0 (reachGo (day * 1440 + 0) xs) = .tuple #[.int .i64 a, .int .i64 e] := by
    unfold momV
    repeat' split
    all_goals exact ⟨_, _, rfl⟩
  rw [ha] at Hc ⊢
  go_enter Tryz.func19, Tryz.ntmps19
  go_wp2_with fail
  ((with_reducible refine (Hc.out).mono ?_); rintro e w1 ⟨rfl, hl_w1⟩)
  have hz_w1 := hl_w1.size
  have Hb1 := Lib.hid (Hb0.out.trans (hl_w1.mono (by simp)))
  clear Hc
  go_wp2_with fail
  go_ret2
  exact ⟨rfl, Hb1.out⟩
end Go.Proofs.YtcbpajhlollcbaaGreatDoor
