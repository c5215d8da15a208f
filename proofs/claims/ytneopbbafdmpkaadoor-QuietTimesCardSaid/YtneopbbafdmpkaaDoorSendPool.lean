/- What send.checkPools and handref2.poolFault return. -/
import Derived.Test.YtneopbbafdmpkaaDoorSendChk
namespace Go.Proofs.YtneopbbafdmpkaaDoor
open Go.RowKit
theorem poolF_key {seen : List SPool} {p : SPool} (h : L.isKey p.name = false) : poolF seen p = 5 := by rw [poolF, if_pos h]
theorem poolF_twice {seen : List SPool} {p : SPool} (h : L.isKey p.name = true) (h2 : seen.any (fun q => q.name.toList == p.name.toList) = true) : poolF seen p = 6 := by rw [poolF, if_neg (by simp [h]), if_pos h2]
theorem poolF_ch {seen : List SPool} {p : SPool} (h : L.isKey p.name = true) (h2 : seen.any (fun q => q.name.toList == p.name.toList) = false) (h3 : isCh p.channel = false) : poolF seen p = 4 := by rw [poolF, if_neg (by simp [h]), if_neg (by simp [h2]), if_pos h3]
theorem poolF_rng {seen : List SPool} {p : SPool} (h : L.isKey p.name = true) (h2 : seen.any (fun q => q.name.toList == p.name.toList) = false) (h3 : isCh p.channel = true) (h4 : ¬ ((1 ≤ p.per ∧ p.per ≤ 10000) ∧ (0 ≤ p.first ∧ p.first ≤ 3000))) : poolF seen p = 1 := by rw [poolF, if_neg (by simp [h]), if_neg (by simp [h2]), if_neg (by simp [h3]), if_pos h4]
theorem poolF_rest {seen : List SPool} {p : SPool} (h : L.isKey p.name = true) (h2 : seen.any (fun q => q.name.toList == p.name.toList) = false) (h3 : isCh p.channel = true) (h4 : (1 ≤ p.per ∧ p.per ≤ 10000) ∧ (0 ≤ p.first ∧ p.first ≤ 3000)) :
    poolF seen p = if 60 < p.warm.length then 2 else if p.warm.any (fun n => !(decide (0 ≤ n ∧ n ≤ 1000000))) then 1 else 0 := by rw [poolF, if_neg (by simp [h]), if_neg (by simp [h2]), if_neg (by simp [h3]), if_neg (not_not_intro h4)]
theorem step_no {e x R : Int} (h : (if e ≠ 0 then e else x) = R) (he : e ≠ 0) : e = R := by rw [if_pos he] at h; exact h
theorem step_go {e x R : Int} (h : (if e ≠ 0 then e else x) = R) (he : e = 0) : x = R := by rw [if_neg (by simp [he])] at h; exact h
set_option maxHeartbeats 4000000 in
set_option maxRecDepth 100000 in
theorem checkPools_any (N : Nat → Prop) (A : Option Addr) (xs : List SPool) (c : Nat) (w : World) (hS : Sl rPool N w A xs) (hsm : ∀ p ∈ xs, p.name.size ≤ 1000000000 ∧ p.warm.length ≤ 1000000) (hn : xs.length ≤ 1000000) (hcap : xs.length ≤ c) :
    Calls Tryd.prog 43 #[.slice A xs.length c] w fun e w' => e = .returned (.int .i64 (poolsFault xs)) ∧ Below w.heap.size w w' := by
  have HS := Lib.hid hS
  have Hsm := Lib.hid hsm
  clear hS hsm
  obtain ⟨R, HR⟩ : ∃ R, Hid (poolsFault xs = R) := ⟨_, Lib.hid rfl⟩
  rw [HR.out]
  by_cases h20 : 10 < xs.length
  · go_enter Tryd.func43, Tryd.ntmps43
    go_wp2_with fail
    go_ret
    exact ⟨ret_i (by rw [← HR.out, poolsFault, if_pos h20]), Below.refl _ _⟩
  · have HR2 : Hid (poolsGo [] xs = R) := by show _ = _; rw [← HR.out, poolsFault, if_neg h20]
    clear HR
    go_enter Tryd.func43, Tryd.ntmps43
    go_wp2_with fail
    go_loopw [10] (fun i wr => ∃ k : Nat, k ≤ xs.length ∧ i = .int .i64 k ∧ poolsGo (xs.take k) (xs.drop k) = R ∧ Below w.heap.size w wr) (fun i _ => xs.length - (intOf i).toNat)
    case atStart => exact ⟨0, Nat.zero_le _, rfl, HR2.out, Below.refl _ _⟩
    case round =>
      clear HR2
      obtain ⟨k, hk, rfl, hr, hbl⟩ := hrel
      have Hr := Lib.hid hr
      clear hr
      by_cases hlt : k < xs.length
      · obtain ⟨p, hf⟩ : ∃ p, xs[k]? = some p := ⟨_, List.getElem?_eq_getElem hlt⟩
        have hsz := hbl.size
        have HSr := Lib.hid (HS.out.keepB hbl)
        obtain ⟨blk, off, Aw, cw, rfl, hblk, d0, d1, d2, d3, d4, hSw⟩ := HSr.out.pool k p hf
        have hfs := Hsm.out p (List.mem_of_getElem? hf)
        have hfs1 := hfs.1
        have hfs2 := hfs.2
        have Hstep : Hid ((if poolF (xs.take k) p ≠ 0 then poolF (xs.take k) p else poolsGo (xs.take (k + 1)) (xs.drop (k + 1))) = R) := by
          show _ = _
          rw [← Hr.out, drop_at3 hf, poolsGo, List.take_add_one, hf]
          rfl
        clear Hr hf hfs
        have Hb1 : Hid (Below w.heap.size w (wr.alloc (.cells #[.string p.name, .int .i64 p.channel, .int .i64 p.per, .int .i64 p.first, .slice Aw p.warm.length cw] 36))) := hbl.alloc hbl.size _
        have hb1 : Below wr.heap.size wr (wr.alloc (.cells #[.string p.name, .int .i64 p.channel, .int .i64 p.per, .int .i64 p.first, .slice Aw p.warm.length cw] 36)) := (Below.refl _ _).alloc (Nat.le_refl _) _
        have lvX := LV.new wr wr.heap.size #[.string p.name, .int .i64 p.channel, .int .i64 p.per, .int .i64 p.first, .slice Aw p.warm.length cw] 36 rfl
        have HSw := Lib.hid (hSw.keepB hb1)
        have HCf := Lib.hid (contPools_any wr.heap.size (fun q => q.name.toList == p.name.toList) N (some ⟨blk, off, none⟩) xs k c _ (HSr.out.keepB hb1) (by omega) (by omega) (fun w' q Aw' nw' cw' hb _ => same1_any wr.heap.size p.name _ q Aw' nw' cw' w' (LV.kb3 lvX hb lvX.lt) rfl))
        clear hSw HSr hb1
        by_cases h1 : L.isKey p.name = true
        · obtain ⟨tw, htw⟩ : ∃ tw, (xs.take k).any (fun q => q.name.toList == p.name.toList) = tw := ⟨_, rfl⟩
          rw [htw] at HCf
          go_wp2_with fail
          ((with_reducible refine (isKey_any p.name _ hfs1).mono ?_); rintro e _ ⟨rfl, rfl⟩)
          rw [h1]
          clear d0 d1 d2 d3 d4
          go_wp2_with fail
          ((with_reducible refine (HCf.out).mono ?_); rintro e w1 ⟨rfl, hl_w1⟩)
          have Hb2 := Lib.hid (Hb1.out.trans (hl_w1.mono (by simp; omega)))
          have lv2 := LV.kb3 lvX hl_w1 lvX.lt
          have HSw2 := Lib.hid (HSw.out.keepB hl_w1)
          have x1 : w1.cell? ⟨wr.heap.size, 1, none⟩ = some (.int .i64 p.channel) := lv2.cell 1 _ rfl
          have x2 : w1.cell? ⟨wr.heap.size, 2, none⟩ = some (.int .i64 p.per) := lv2.cell 2 _ rfl
          have x3 : w1.cell? ⟨wr.heap.size, 3, none⟩ = some (.int .i64 p.first) := lv2.cell 3 _ rfl
          have x4 : w1.cell? ⟨wr.heap.size, 4, none⟩ = some (.slice Aw p.warm.length cw) := lv2.cell 4 _ rfl
          clear HCf hl_w1 HSw lvX lv2 Hb1
          cases tw
          · by_cases h3 : isCh p.channel = true
            · by_cases h4 : (1 ≤ p.per ∧ p.per ≤ 10000)
              · have e4 : decide (1 ≤ p.per ∧ p.per ≤ 10000) = true := by simpa using h4
                by_cases h5 : (0 ≤ p.first ∧ p.first ≤ 3000)
                · have e5 : decide (0 ≤ p.first ∧ p.first ≤ 3000) = true := by simpa using h5
                  have Hs2 : Hid ((if (if 60 < p.warm.length then 2 else if p.warm.any (fun n => !(decide (0 ≤ n ∧ n ≤ 1000000))) then 1 else (0 : Int)) ≠ 0 then (if 60 < p.warm.length then 2 else if p.warm.any (fun n => !(decide (0 ≤ n ∧ n ≤ 1000000))) then 1 else 0) else poolsGo (xs.take (k + 1)) (xs.drop (k + 1))) = R) := by
                    show _ = _
                    rw [← Hstep.out, poolF_rest h1 htw h3 ⟨h4, h5⟩]
                  clear Hstep
                  go_wp2_with fail
                  ((with_reducible refine (isChannel_any _ _).mono ?_); rintro e _ ⟨rfl, rfl⟩)
                  rw [h3]
                  go_wp2_with fail
                  ((with_reducible refine (swithin_any _ _ _ _).mono ?_); rintro e _ ⟨rfl, rfl⟩)
                  rw [e4]
                  go_wp2_with fail
                  ((with_reducible refine (swithin_any _ _ _ _).mono ?_); rintro e _ ⟨rfl, rfl⟩)
                  rw [e5]
                  by_cases h6 : 60 < p.warm.length
                  · have Hn : Hid (2 = R) := by show _ = _; rw [← Hs2.out, if_pos h6, if_pos (by decide)]
                    clear Hs2
                    go_wp2_with fail
                    go_ret
                    exact ⟨ret_i Hn.out, Hb2.out⟩
                  · have Hw := Lib.hid (warms_any 0 1000000 N Aw p.warm cw w1 HSw2.out (by omega) (fun w' n => warm1_any n w'))
                    obtain ⟨aw, haw⟩ : ∃ aw, p.warm.any (fun n => !(decide (0 ≤ n ∧ n ≤ 1000000))) = aw := ⟨_, rfl⟩
                    rw [haw] at Hw Hs2
                    go_wp2_with fail
                    ((with_reducible refine (Hw.out).mono ?_); rintro e w2 ⟨rfl, hl_w2⟩)
                    have Hb3 := Lib.hid (Hb2.out.trans (hl_w2.mono Hb2.out.size))
                    cases aw
                    · have Hn : Hid (poolsGo (xs.take (k + 1)) (xs.drop (k + 1)) = R) := by show _ = _; rw [← Hs2.out, if_neg h6]; simp
                      clear Hs2 haw Hw hl_w2
                      go_wp2_with fail
                      go_roundw
                      case rel => exact ⟨k + 1, by omega, by go_num, Hn.out, Hb3.out⟩
                      case measure => simp [intOf]; omega
                    · have Hn : Hid (1 = R) := by show _ = _; rw [← Hs2.out, if_neg h6]; simp
                      clear Hs2 haw Hw hl_w2
                      go_wp2_with fail
                      go_ret
                      exact ⟨ret_i Hn.out, Hb3.out⟩
                · have e5 : decide (0 ≤ p.first ∧ p.first ≤ 3000) = false := by simpa using h5
                  have Hn : Hid (1 = R) := by show _ = _; rw [← step_no Hstep.out (by rw [poolF_rng h1 htw h3 (fun h => h5 h.2)]; decide), poolF_rng h1 htw h3 (fun h => h5 h.2)]
                  clear Hstep
                  go_wp2_with fail
                  ((with_reducible refine (isChannel_any _ _).mono ?_); rintro e _ ⟨rfl, rfl⟩)
                  rw [h3]
                  go_wp2_with fail
                  ((with_reducible refine (swithin_any _ _ _ _).mono ?_); rintro e _ ⟨rfl, rfl⟩)
                  rw [e4]
                  go_wp2_with fail
                  ((with_reducible refine (swithin_any _ _ _ _).mono ?_); rintro e _ ⟨rfl, rfl⟩)
                  rw [e5]
                  go_wp2_with fail
                  go_ret
                  exact ⟨ret_i Hn.out, Hb2.out⟩
              · have e4 : decide (1 ≤ p.per ∧ p.per ≤ 10000) = false := by simpa using h4
                have Hn : Hid (1 = R) := by show _ = _; rw [← step_no Hstep.out (by rw [poolF_rng h1 htw h3 (fun h => h4 h.1)]; decide), poolF_rng h1 htw h3 (fun h => h4 h.1)]
                clear Hstep
                go_wp2_with fail
                ((with_reducible refine (isChannel_any _ _).mono ?_); rintro e _ ⟨rfl, rfl⟩)
                rw [h3]
                go_wp2_with fail
                ((with_reducible refine (swithin_any _ _ _ _).mono ?_); rintro e _ ⟨rfl, rfl⟩)
                rw [e4]
                go_wp2_with fail
                go_ret
                exact ⟨ret_i Hn.out, Hb2.out⟩
            · have h3 : isCh p.channel = false := by simpa using h3
              have Hn : Hid (4 = R) := by show _ = _; rw [← step_no Hstep.out (by rw [poolF_ch h1 htw h3]; decide), poolF_ch h1 htw h3]
              clear Hstep
              go_wp2_with fail
              ((with_reducible refine (isChannel_any _ _).mono ?_); rintro e _ ⟨rfl, rfl⟩)
              rw [h3]
              go_wp2_with fail
              go_ret
              exact ⟨ret_i Hn.out, Hb2.out⟩
          · have Hn : Hid (6 = R) := by show _ = _; rw [← step_no Hstep.out (by rw [poolF_twice h1 htw]; decide), poolF_twice h1 htw]
            clear Hstep
            go_wp2_with fail
            go_ret
            exact ⟨ret_i Hn.out, Hb2.out⟩
        · have h1 : L.isKey p.name = false := by simpa using h1
          have Hn : Hid (5 = R) := by show _ = _; rw [← step_no Hstep.out (by rw [poolF_key h1]; decide), poolF_key h1]
          clear Hstep HCf
          go_wp2_with fail
          ((with_reducible refine (isKey_any p.name _ hfs1).mono ?_); rintro e _ ⟨rfl, rfl⟩)
          rw [h1]
          go_wp2_with fail
          go_ret
          exact ⟨ret_i Hn.out, Hb1.out⟩
      · go_wp2_with fail
        go_ret
        exact ⟨ret_i (by rw [← Hr.out, List.drop_eq_nil_of_le (by omega)]; rfl), hbl⟩
theorem any_false_of {p : Int → Bool} {xs : List Int} (h : ∀ x ∈ xs, p x = false) : xs.any p = false := by
  rw [List.any_eq_false]
  exact fun x hx => by simp [h x hx]
set_option maxHeartbeats 4000000 in
set_option maxRecDepth 100000 in
theorem refPool_any (N : Nat → Prop) (A Aw : Option Addr) (xs : List SPool) (p : SPool) (n c cw : Nat) (w : World) (hS : Sl rPool N w A xs) (hSw : Sl rInt N w Aw p.warm) (hp : p.name.size ≤ 1000000000) (hpw : p.warm.length ≤ 1000000) (hnx : n ≤ xs.length) (hn : xs.length ≤ 1000000) :
    Calls Tryd.prog 35 #[.slice A n c, .agg #[.string p.name, .int .i64 p.channel, .int .i64 p.per, .int .i64 p.first, .slice Aw p.warm.length cw]] w fun e w' => e = .returned (.int .i64 (poolF (xs.take n) p)) ∧ Below w.heap.size w w' := by
  have Hb1 : Hid (Below w.heap.size w (w.alloc (.cells #[.string p.name, .int .i64 p.channel, .int .i64 p.per, .int .i64 p.first, .slice Aw p.warm.length cw] 36))) := (Below.refl _ _).alloc (Nat.le_refl _) _
  have lvX := LV.new w w.heap.size #[.string p.name, .int .i64 p.channel, .int .i64 p.per, .int .i64 p.first, .slice Aw p.warm.length cw] 36 rfl
  have HSw := Lib.hid (hSw.keepB Hb1.out)
  have HCf := Lib.hid (fun w' (h : Below (w.alloc (.cells #[.string p.name, .int .i64 p.channel, .int .i64 p.per, .int .i64 p.first, .slice Aw p.warm.length cw] 36)).heap.size (w.alloc (.cells #[.string p.name, .int .i64 p.channel, .int .i64 p.per, .int .i64 p.first, .slice Aw p.warm.length cw] 36)) w') => contRef_any w.heap.size (fun q => q.name.toList == p.name.toList) N A xs n c w' ((hS.keepB Hb1.out).keepB h) hnx hn (fun w'' q Aw' nw' cw' hb _ => same2_any w.heap.size p.name _ q Aw' nw' cw' w'' (LV.kb3 (LV.kb3 lvX h lvX.lt) hb (LV.kb3 lvX h lvX.lt).lt) rfl))
  have HK : Hid (∀ w, Calls Tryd.prog 33 #[.string p.name] w fun e w' => e = .returned (.bool (L.isKey p.name)) ∧ Below w.heap.size w w') := fun w => Key_any p.name w hp
  clear hS hSw
  obtain ⟨R, HR⟩ : ∃ R, Hid (poolF (xs.take n) p = R) := ⟨_, Lib.hid rfl⟩
  rw [HR.out]
  by_cases h1 : L.isKey p.name = true
  · obtain ⟨tw, htw⟩ : ∃ tw, (xs.take n).any (fun q => q.name.toList == p.name.toList) = tw := ⟨_, rfl⟩
    rw [htw] at HCf
    rw [h1] at HK
    go_enter Tryd.func35, Tryd.ntmps35
    go_wp2_with fail
    ((with_reducible refine (HK.out _).mono ?_); rintro e w1 ⟨rfl, hl_w1⟩)
    have hz_w1 := hl_w1.size
    have Hb2 := Lib.hid (Hb1.out.trans (hl_w1.mono (by simp)))
    have Hc2 := Lib.hid (HCf.out w1 hl_w1)
    have lv1 := LV.kb3 lvX hl_w1 lvX.lt
    have HSw1 := Lib.hid (HSw.out.keepB hl_w1)
    clear HCf hl_w1 hz_w1 HSw lvX Hb1 HK
    go_wp2_with fail
    ((with_reducible refine (Hc2.out).mono ?_); rintro e w2 ⟨rfl, hl_w2⟩)
    have Hb3 := Lib.hid (Hb2.out.trans (hl_w2.mono Hb2.out.size))
    have lv2 := LV.kb3 lv1 hl_w2 lv1.lt
    have HSw2 := Lib.hid (HSw1.out.keepB hl_w2)
    have x1 : w2.cell? ⟨w.heap.size, 1, none⟩ = some (.int .i64 p.channel) := lv2.cell 1 _ rfl
    have x2 : w2.cell? ⟨w.heap.size, 2, none⟩ = some (.int .i64 p.per) := lv2.cell 2 _ rfl
    have x3 : w2.cell? ⟨w.heap.size, 3, none⟩ = some (.int .i64 p.first) := lv2.cell 3 _ rfl
    have x4 : w2.cell? ⟨w.heap.size, 4, none⟩ = some (.slice Aw p.warm.length cw) := lv2.cell 4 _ rfl
    clear Hc2 hl_w2 HSw1 lv1 lv2 Hb2
    cases tw
    · by_cases h3 : isCh p.channel = true
      · have e3 : decide (1 ≤ p.channel ∧ p.channel ≤ 4) = true := h3
        by_cases h4 : (1 ≤ p.per ∧ p.per ≤ 10000)
        · have e4 : decide (1 ≤ p.per ∧ p.per ≤ 10000) = true := by simpa using h4
          by_cases h5 : (0 ≤ p.first ∧ p.first ≤ 3000)
          · have e5 : decide (0 ≤ p.first ∧ p.first ≤ 3000) = true := by simpa using h5
            have Hs2 : Hid ((if 60 < p.warm.length then 2 else if p.warm.any (fun n => !(decide (0 ≤ n ∧ n ≤ 1000000))) then 1 else 0) = R) := by
              show _ = _
              rw [← HR.out, poolF_rest h1 htw h3 ⟨h4, h5⟩]
            clear HR
            go_wp2_with fail
            ((with_reducible refine (in_any _ _ _ _).mono ?_); rintro e _ ⟨rfl, rfl⟩)
            rw [e3]
            go_wp2_with fail
            ((with_reducible refine (in_any _ _ _ _).mono ?_); rintro e _ ⟨rfl, rfl⟩)
            rw [e4]
            go_wp2_with fail
            ((with_reducible refine (in_any _ _ _ _).mono ?_); rintro e _ ⟨rfl, rfl⟩)
            rw [e5]
            by_cases h6 : 60 < p.warm.length
            · have Hn : Hid (2 = R) := by show _ = _; rw [← Hs2.out, if_pos h6]
              clear Hs2
              go_wp2_with fail
              go_ret
              exact ⟨ret_i Hn.out, Hb3.out⟩
            · have Hs3 : Hid ((if p.warm.any (fun n => !(decide (0 ≤ n ∧ n ≤ 1000000))) then 1 else 0) = R) := by show _ = _; rw [← Hs2.out, if_neg h6]
              clear Hs2
              go_wp2_with fail
              go_loopw [40] (fun i wr => ∃ k : Nat, k ≤ p.warm.length ∧ i = .int .i64 k ∧ (∀ x ∈ p.warm.take k, (!(decide ((0 : Int) ≤ x ∧ x ≤ 1000000))) = false) ∧ w2 = wr) (fun i _ => p.warm.length - (intOf i).toNat)
              case atStart => exact ⟨0, Nat.zero_le _, rfl, (fun x hx => by simp at hx), rfl⟩
              case round =>
                obtain ⟨k, hk, rfl, hr, rfl⟩ := hrel
                have Hr := Lib.hid hr
                clear hr
                by_cases hlt : k < p.warm.length
                · obtain ⟨x, hx⟩ : ∃ x, p.warm[k]? = some x := ⟨_, List.getElem?_eq_getElem hlt⟩
                  obtain ⟨blk, off, rfl, hblk, d0⟩ := HSw2.out.int k x hx
                  have Hx := Lib.hid hx
                  clear hx
                  by_cases h7 : 0 ≤ x ∧ x ≤ 1000000
                  · have e7 : decide (0 ≤ x ∧ x ≤ 1000000) = true := by simpa using h7
                    go_wp2_with fail
                    ((with_reducible refine (in_any _ _ _ _).mono ?_); rintro e _ ⟨rfl, rfl⟩)
                    rw [e7]
                    go_wp2_with fail
                    go_roundw
                    case rel =>
                      refine ⟨k + 1, by omega, by go_num, fun y hy => ?_, by first | rfl | trivial⟩
                      rw [List.take_add_one, Hx.out] at hy
                      rcases List.mem_append.1 hy with hy | hy
                      · exact Hr.out y hy
                      · have : y = x := by simpa using hy
                        rw [this, e7]; rfl
                    case measure => simp [intOf]; omega
                  · have e7 : decide (0 ≤ x ∧ x ≤ 1000000) = false := by simpa using h7
                    have Hn : Hid (1 = R) := by
                      show _ = _
                      rw [← Hs3.out, if_pos]
                      exact List.any_eq_true.2 ⟨x, List.mem_of_getElem? Hx.out, by rw [e7]; rfl⟩
                    clear Hs3 Hr
                    go_wp2_with fail
                    ((with_reducible refine (in_any _ _ _ _).mono ?_); rintro e _ ⟨rfl, rfl⟩)
                    rw [e7]
                    go_wp2_with fail
                    go_ret
                    exact ⟨ret_i Hn.out, Hb3.out⟩
                · have Hn : Hid (0 = R) := by
                    show _ = _
                    rw [← Hs3.out, any_false_of (fun x hx => Hr.out x (by rw [List.take_of_length_le (by omega)]; exact hx))]
                    rfl
                  clear Hs3 Hr
                  go_wp2_with fail
                  go_ret
                  exact ⟨ret_i Hn.out, Hb3.out⟩
          · have e5 : decide (0 ≤ p.first ∧ p.first ≤ 3000) = false := by simpa using h5
            have Hn : Hid (1 = R) := by show _ = _; rw [← HR.out, poolF_rng h1 htw h3 (fun h => h5 h.2)]
            clear HR
            go_wp2_with fail
            ((with_reducible refine (in_any _ _ _ _).mono ?_); rintro e _ ⟨rfl, rfl⟩)
            rw [e3]
            go_wp2_with fail
            ((with_reducible refine (in_any _ _ _ _).mono ?_); rintro e _ ⟨rfl, rfl⟩)
            rw [e4]
            go_wp2_with fail
            ((with_reducible refine (in_any _ _ _ _).mono ?_); rintro e _ ⟨rfl, rfl⟩)
            rw [e5]
            go_wp2_with fail
            go_ret
            exact ⟨ret_i Hn.out, Hb3.out⟩
        · have e4 : decide (1 ≤ p.per ∧ p.per ≤ 10000) = false := by simpa using h4
          have Hn : Hid (1 = R) := by show _ = _; rw [← HR.out, poolF_rng h1 htw h3 (fun h => h4 h.1)]
          clear HR
          go_wp2_with fail
          ((with_reducible refine (in_any _ _ _ _).mono ?_); rintro e _ ⟨rfl, rfl⟩)
          rw [e3]
          go_wp2_with fail
          ((with_reducible refine (in_any _ _ _ _).mono ?_); rintro e _ ⟨rfl, rfl⟩)
          rw [e4]
          go_wp2_with fail
          go_ret
          exact ⟨ret_i Hn.out, Hb3.out⟩
      · have h3 : isCh p.channel = false := by simpa using h3
        have e3 : decide (1 ≤ p.channel ∧ p.channel ≤ 4) = false := h3
        have Hn : Hid (4 = R) := by show _ = _; rw [← HR.out, poolF_ch h1 htw h3]
        clear HR
        go_wp2_with fail
        ((with_reducible refine (in_any _ _ _ _).mono ?_); rintro e _ ⟨rfl, rfl⟩)
        rw [e3]
        go_wp2_with fail
        go_ret
        exact ⟨ret_i Hn.out, Hb3.out⟩
    · have Hn : Hid (6 = R) := by show _ = _; rw [← HR.out, poolF_twice h1 htw]
      clear HR
      go_wp2_with fail
      go_ret
      exact ⟨ret_i Hn.out, Hb3.out⟩
  · have h1 : L.isKey p.name = false := by simpa using h1
    have Hn : Hid (5 = R) := by show _ = _; rw [← HR.out, poolF_key h1]
    rw [h1] at HK
    clear HR HCf
    go_enter Tryd.func35, Tryd.ntmps35
    go_wp2_with fail
    ((with_reducible refine (HK.out _).mono ?_); rintro e w1 ⟨rfl, hl_w1⟩)
    have hz_w1 := hl_w1.size
    have Hb2 := Lib.hid (Hb1.out.trans (hl_w1.mono (by simp)))
    go_wp2_with fail
    go_ret
    exact ⟨ret_i Hn.out, Hb2.out⟩
end Go.Proofs.YtneopbbafdmpkaaDoor
