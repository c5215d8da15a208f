/- What handref2.MomentOf returns. -/
import Derived.Test.YtcbpajhlollcbaaGreatDoorReach
namespace Go.Proofs.YtcbpajhlollcbaaGreatDoor
open Go.RowKit
/-- what MomentOf gives: the first moment, or the end -/
def momOfV (o : Option Int) : Value := match o with | some m => .tuple #[.int .i64 m, .bool true] | none => .tuple #[.int .i64 4321440, .bool false]
set_option maxHeartbeats 4000000 in
set_option maxRecDepth 100000 in
theorem momentOf_any (N : Nat → Prop) (A : Option Addr) (nm : ByteArray) (xs : List Sft) (c : Nat) (day minute : Int) (w : World) (hS : Sl rSft N w A xs) (hz : GoodZ xs) (hd : 0 ≤ day ∧ day ≤ 3000) (hm : 0 ≤ minute ∧ minute ≤ 1439) :
    Calls Tryz.prog 22 #[.agg #[.string nm, .slice A xs.length c], .int .i64 day, .int .i64 minute] w fun e w' => e = .returned (momOfV (reachGo (day * 1440 + minute) xs)) ∧ Below w.heap.size w w' := by
  have Hz := Lib.hid hz
  have HS := Lib.hid hS
  have hn := hz.len
  have Hb0 : Hid (Below w.heap.size w (w.alloc (.cells #[.string nm, .slice A xs.length c] 28))) := (Below.refl _ _).alloc (Nat.le_refl _) _
  have lvZ := LV.new w w.heap.size #[.string nm, .slice A xs.length c] 28 rfl
  clear hS hz
  obtain ⟨o, Ho⟩ : ∃ o, Hid (reachGo (day * 1440 + minute) xs = o) := ⟨_, Lib.hid rfl⟩
  rw [Ho.out]
  obtain ⟨m0, hm0⟩ : ∃ m0, mom0 day = m0 := ⟨_, rfl⟩
  have hm0' : max 0 (day * 1440 - 2000) = m0 := hm0
  have Hm0 := Lib.hid hm0
  clear hm0
  have hm1 : 0 ≤ m0 ∧ m0 ≤ 4321440 := by omega
  have HSz := Lib.hid (HS.out.keepB Hb0.out)
  have hzl := lvZ.lt
  clear HS
  go_enter Tryz.func22, Tryz.ntmps22
  go_wp2_with fail
  all_goals
    generalize w.alloc (.cells #[.string nm, .slice A xs.length c] 28) = wz at *
    go_loopw [8] (fun i wr => ∃ m : Int, i = .int .i64 m ∧ m0 ≤ m ∧ m ≤ 4321440 ∧ (∀ k, m0 ≤ k → k < m → clk xs k < day * 1440) ∧ Below wz.heap.size wz wr) (fun i _ => (4321440 - intOf i).toNat)
    case atStart => exact ⟨_, rfl, by omega, by omega, (fun k h1 h2 => by omega), Below.refl _ _⟩
    case round =>
      obtain ⟨m, rfl, h1, h2, h3, hbl⟩ := hrel
      have H3 := Lib.hid h3
      have Hbl := Lib.hid hbl
      have HSr := Lib.hid (HSz.out.keepB hbl)
      have lvr := LV.kb lvZ hbl hzl
      have z0 : wr.cell? ⟨w.heap.size, 0, none⟩ = some (.string nm) := lvr.cell 0 _ rfl
      have z1 : wr.cell? ⟨w.heap.size, 1, none⟩ = some (.slice A xs.length c) := lvr.cell 1 _ rfl
      clear h3 hbl lvr
      by_cases hlt : m < 4321440
      · have Hc := Lib.hid (dayOf_any N A nm xs c m wr HSr.out Hz.out (by omega))
        obtain ⟨cl, hcl⟩ : ∃ cl, clk xs m = cl := ⟨_, rfl⟩
        rw [hcl] at Hc
        clear HSr
        go_wp2_with fail
        ((with_reducible refine (Hc.out).mono ?_); rintro e w1 ⟨rfl, hl_w1⟩)
        have hz_w1 := hl_w1.size
        have Hb1 := Lib.hid (Hbl.out.trans (hl_w1.mono Hbl.out.size))
        clear Hc hl_w1 hz_w1 z0 z1 Hbl
        by_cases hday : dayIn cl < day
        · have hx : cl < day * 1440 := by unfold dayIn at hday; omega
          have H4 : Hid (∀ k, m0 ≤ k → k < m + 1 → clk xs k < day * 1440) := fun k a b => by
            by_cases hk : k = m
            · rw [hk, hcl]; exact hx
            · exact H3.out k a (by omega)
          clear H3 hx
          go_wp2_with fail
          go_roundw
          case rel => exact ⟨m + 1, rfl, by omega, by omega, H4.out, Hb1.out⟩
          case measure => simp [intOf]; omega
        · have H4 : Hid (∀ k, m0 ≤ k → k < m → clk xs k < day * 1440 + minute) := fun k a b => by have := H3.out k a b; omega
          clear H3 hcl
          go_wp2_with fail
          go_loopw [8] (fun i wr => ∃ n : Int, i = .int .i64 n ∧ m0 ≤ n ∧ n ≤ 4321440 ∧ (∀ k, m0 ≤ k → k < n → clk xs k < day * 1440 + minute) ∧ Below wz.heap.size wz wr) (fun i _ => (4321440 - intOf i).toNat)
          case atStart => exact ⟨_, rfl, by omega, by omega, H4.out, Hb1.out⟩
          case round =>
            clear H4 Hb1
            obtain ⟨n, rfl, i1, i2, i3, hbl2⟩ := hrel
            have H3 := Lib.hid i3
            have Hbl2 := Lib.hid hbl2
            have HSr2 := Lib.hid (HSz.out.keepB hbl2)
            have lvr2 := LV.kb lvZ hbl2 hzl
            have z0 : wr.cell? ⟨w.heap.size, 0, none⟩ = some (.string nm) := lvr2.cell 0 _ rfl
            have z1 : wr.cell? ⟨w.heap.size, 1, none⟩ = some (.slice A xs.length c) := lvr2.cell 1 _ rfl
            clear i3 hbl2 lvr2
            by_cases hlt2 : n < 4321440
            · have Hc := Lib.hid (clock_any N nm A c xs n wr HSr2.out (by omega) (fun s hs => (Hz.out.rng s hs).2) (by omega))
              obtain ⟨cl2, hcl2⟩ : ∃ cl, clk xs n = cl := ⟨_, rfl⟩
              rw [hcl2] at Hc
              clear HSr2
              go_wp2_with fail
              ((with_reducible refine (Hc.out).mono ?_); rintro e w2 ⟨rfl, hl_w2⟩)
              have hz_w2 := hl_w2.size
              have Hb2 := Lib.hid (Hbl2.out.trans (hl_w2.mono Hbl2.out.size))
              clear Hc hl_w2 hz_w2 z0 z1 Hbl2
              by_cases hT : cl2 < day * 1440 + minute
              · have H4 : Hid (∀ k, m0 ≤ k → k < n + 1 → clk xs k < day * 1440 + minute) := fun k a b => by
                  by_cases hk : k = n
                  · rw [hk, hcl2]; exact hT
                  · exact H3.out k a (by omega)
                clear H3
                go_wp2_with fail
                go_roundw
                case rel => exact ⟨n + 1, rfl, by omega, by omega, H4.out, Hb2.out⟩
                case measure => simp [intOf]; omega
              · have HR2 : Hid (momOfV o = .tuple #[.int .i64 n, .bool true]) := by
                  show _ = _
                  rw [← Ho.out, mom_first Hz.out day minute n hm.1 (by rw [Hm0.out]; exact i1) (by rw [Hm0.out]; exact H3.out) hlt2 (by omega)]
                  rfl
                clear Ho H3
                go_wp2_with fail
                go_ret2
                exact ⟨by rw [HR2.out]; rfl, Hb0.out.trans (Hb2.out.mono Hb0.out.size)⟩
            · obtain rfl : n = 4321440 := by omega
              have HR2 : Hid (momOfV o = .tuple #[.int .i64 4321440, .bool false]) := by
                show _ = _
                rw [← Ho.out, mom_none Hz.out day minute 4321440 hm.1 (by rw [Hm0.out]; exact H3.out) (by omega)]
                rfl
              clear Ho H3
              go_wp2_with fail
              go_ret2
              exact ⟨by rw [HR2.out]; rfl, Hb0.out.trans (Hbl2.out.mono Hb0.out.size)⟩
      · have H4 : Hid (∀ k, m0 ≤ k → k < m → clk xs k < day * 1440 + minute) := fun k a b => by have := H3.out k a b; omega
        clear H3 z0 z1 HSr
        go_wp2_with fail
        go_loopw [8] (fun i wr => ∃ n : Int, i = .int .i64 n ∧ m0 ≤ n ∧ n ≤ 4321440 ∧ (∀ k, m0 ≤ k → k < n → clk xs k < day * 1440 + minute) ∧ Below wz.heap.size wz wr) (fun i _ => (4321440 - intOf i).toNat)
        case atStart => exact ⟨_, rfl, by omega, by omega, H4.out, Hbl.out⟩
        case round =>
          clear H4 Hbl
          obtain ⟨n, rfl, i1, i2, i3, hbl2⟩ := hrel
          have H3 := Lib.hid i3
          have Hbl2 := Lib.hid hbl2
          have HSr2 := Lib.hid (HSz.out.keepB hbl2)
          have lvr2 := LV.kb lvZ hbl2 hzl
          have z0 : wr.cell? ⟨w.heap.size, 0, none⟩ = some (.string nm) := lvr2.cell 0 _ rfl
          have z1 : wr.cell? ⟨w.heap.size, 1, none⟩ = some (.slice A xs.length c) := lvr2.cell 1 _ rfl
          clear i3 hbl2 lvr2
          by_cases hlt2 : n < 4321440
          · have Hc := Lib.hid (clock_any N nm A c xs n wr HSr2.out (by omega) (fun s hs => (Hz.out.rng s hs).2) (by omega))
            obtain ⟨cl2, hcl2⟩ : ∃ cl, clk xs n = cl := ⟨_, rfl⟩
            rw [hcl2] at Hc
            clear HSr2
            go_wp2_with fail
            ((with_reducible refine (Hc.out).mono ?_); rintro e w2 ⟨rfl, hl_w2⟩)
            have hz_w2 := hl_w2.size
            have Hb2 := Lib.hid (Hbl2.out.trans (hl_w2.mono Hbl2.out.size))
            clear Hc hl_w2 hz_w2 z0 z1 Hbl2
            by_cases hT : cl2 < day * 1440 + minute
            · have H4 : Hid (∀ k, m0 ≤ k → k < n + 1 → clk xs k < day * 1440 + minute) := fun k a b => by
                by_cases hk : k = n
                · rw [hk, hcl2]; exact hT
                · exact H3.out k a (by omega)
              clear H3
              go_wp2_with fail
              go_roundw
              case rel => exact ⟨n + 1, rfl, by omega, by omega, H4.out, Hb2.out⟩
              case measure => simp [intOf]; omega
            · have HR2 : Hid (momOfV o = .tuple #[.int .i64 n, .bool true]) := by
                show _ = _
                rw [← Ho.out, mom_first Hz.out day minute n hm.1 (by rw [Hm0.out]; exact i1) (by rw [Hm0.out]; exact H3.out) hlt2 (by omega)]
                rfl
              clear Ho H3
              go_wp2_with fail
              go_ret2
              exact ⟨by rw [HR2.out]; rfl, Hb0.out.trans (Hb2.out.mono Hb0.out.size)⟩
          · obtain rfl : n = 4321440 := by omega
            have HR2 : Hid (momOfV o = .tuple #[.int .i64 4321440, .bool false]) := by
              show _ = _
              rw [← Ho.out, mom_none Hz.out day minute 4321440 hm.1 (by rw [Hm0.out]; exact H3.out) (by omega)]
              rfl
            clear Ho H3
            go_wp2_with fail
            go_ret2
            exact ⟨by rw [HR2.out]; rfl, Hb0.out.trans (Hbl2.out.mono Hb0.out.size)⟩
end Go.Proofs.YtcbpajhlollcbaaGreatDoor
