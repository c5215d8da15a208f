/- What handref2.PointsOf returns. -/
import Derived.Test.YtmlpkejeglpciaaDoorScore
import Derived.Test.YtmlpkejeglpciaaDoorBase
namespace Go.Proofs.YtmlpkejeglpciaaDoor
open Go.RowKit
set_option maxHeartbeats 8000000 in
set_option maxRecDepth 100000 in
theorem pointsOf_any (N : Nat → Prop) (Am Aa Ab : Option Addr) (ms : List Meas) (a b : List Fld) (cm ca cb : Nat) (w : World) (hM : Sl rMeas N w Am ms) (hA : Sl rFld N w Aa a) (hB : Sl rFld N w Ab b) (hm : MOk ms) (ha : FOk a) (hb : FOk b) (hT : Tabs w) :
    Calls Tryd.prog 13 #[.slice Am ms.length cm, .slice Aa a.length ca, .slice Ab b.length cb] w fun e w' => e = .returned (.int .i64 (goM a b ms)) ∧ Below w.heap.size w w' := by
  have HM := Lib.hid hM
  have HA := Lib.hid hA
  have HB := Lib.hid hB
  have Hm := Lib.hid hm
  have Ha := Lib.hid ha
  have Hb := Lib.hid hb
  have HT := Lib.hid hT
  have hml := hm.1
  have hal := ha.1
  have hbl0 := hb.1
  clear hM hA hB hm ha hb hT
  obtain ⟨R, HR⟩ : ∃ R, Hid (goM a b ms = R) := ⟨_, Lib.hid rfl⟩
  rw [HR.out]
  go_enter Tryd.func13, Tryd.ntmps13
  go_wp2_with fail
  go_loopw [7, 16] (fun s i wr => ∃ (k : Nat) (t : Int), k ≤ ms.length ∧ i = .int .i64 k ∧ s = .int .i64 t ∧ t + goM a b (ms.drop k) = R ∧ -(900000 * (k : Int)) ≤ t ∧ t ≤ 900000 * (k : Int) ∧ Below w.heap.size w wr) (fun _ i _ => ms.length - (intOf i).toNat)
  case atStart => exact ⟨0, 0, by omega, rfl, rfl, by simpa using HR.out, by omega, by omega, Below.refl _ _⟩
  case round =>
    clear HR
    obtain ⟨k, t, hk, rfl, rfl, hr, ht1, ht2, hbl⟩ := hrel
    have Hr := Lib.hid hr
    clear hr
    by_cases hlt : k < ms.length
    · obtain ⟨m, hmk⟩ : ∃ m, ms[k]? = some m := ⟨_, List.getElem?_eq_getElem hlt⟩
      obtain ⟨blk, off, rfl, hblk, d0, d1, d2, d3⟩ := (HM.out.keepB hbl).meas k m hmk
      have Hok := Lib.hid (Hm.out.2 m (List.mem_of_getElem? hmk))
      have hpts := Hok.out.2
      have Hstep : Hid (t + (goA m b a + goM a b (ms.drop (k + 1))) = R) := by show _ = _; rw [← Hr.out, drop_at2 hmk]; rfl
      clear Hr hmk
      have lvX := LV.new wr wr.heap.size #[.string m.name, .int .i64 m.how, .int .i64 m.far, .int .i64 m.pts] 45 rfl
      have Hb1 : Hid (Below w.heap.size w (wr.alloc (.cells #[.string m.name, .int .i64 m.how, .int .i64 m.far, .int .i64 m.pts] 45))) := hbl.alloc hbl.size _
      have hsz := hbl.size
      clear hbl
      go_wp2_with fail
      clear d0 d1 d2 d3
      obtain ⟨X, hX⟩ : ∃ X, X = wr.heap.size := ⟨_, rfl⟩
      have hXw : w.heap.size ≤ X := by omega
      rw [← hX] at lvX ⊢
      generalize wr.alloc (.cells #[.string m.name, .int .i64 m.how, .int .i64 m.far, .int .i64 m.pts] 45) = W1 at *
      have hXW := lvX.lt
      clear hX hsz
      go_loopw [7, 22] (fun s i wr => ∃ (p : Nat) (t2 : Int), p ≤ a.length ∧ i = .int .i64 p ∧ s = .int .i64 t2 ∧ t2 + (goA m b (a.drop p) + goM a b (ms.drop (k + 1))) = R ∧ -(900000 * (k : Int) + 30000 * (p : Int)) ≤ t2 ∧ t2 ≤ 900000 * (k : Int) + 30000 * (p : Int) ∧ Below W1.heap.size W1 wr) (fun _ i _ => a.length - (intOf i).toNat)
      case atStart => exact ⟨0, t, by omega, rfl, rfl, Hstep.out, by omega, by omega, Below.refl _ _⟩
      case round =>
        clear Hstep
        obtain ⟨p, t2, hp, rfl, rfl, hr2, ht21, ht22, hbl2⟩ := hrel
        have Hr := Lib.hid hr2
        have Hb2 := Lib.hid (Hb1.out.trans (hbl2.mono Hb1.out.size))
        have lvX2 := LV.kb2 lvX hbl2 hXW
        clear hr2 ht1 ht2
        by_cases hlt2 : p < a.length
        · obtain ⟨f, hf⟩ : ∃ f, a[p]? = some f := ⟨_, List.getElem?_eq_getElem hlt2⟩
          obtain ⟨blka, offa, rfl, hblka, d0, d1, d2, d3⟩ := (HA.out.keepB Hb2.out).fld p f hf
          have hft := Ha.out.2.1 f (List.mem_of_getElem? hf)
          have Hstep : Hid (t2 + (goB m f b + goA m b (a.drop (p + 1)) + goM a b (ms.drop (k + 1))) = R) := by show _ = _; rw [← Hr.out, drop_at2 hf]; rfl
          clear Hr hf
          have Hb3 : Hid (Below W1.heap.size W1 (wr.alloc (.cells #[.string f.name, .int .i64 f.kind, .string f.text, .int .i64 f.num] 52))) := hbl2.alloc hbl2.size _
          have lvX3 := lvX2.alloc (.cells #[.string f.name, .int .i64 f.kind, .string f.text, .int .i64 f.num] 52)
          have lvY3 := LV.new wr wr.heap.size #[.string f.name, .int .i64 f.kind, .string f.text, .int .i64 f.num] 52 rfl
          clear lvX2 Hb2 hbl2
          go_wp2_with fail
          clear d0 d1 d2 d3
          obtain ⟨Y, hY⟩ : ∃ Y, Y = wr.heap.size := ⟨_, rfl⟩
          rw [← hY] at lvY3 ⊢
          generalize wr.alloc (.cells #[.string f.name, .int .i64 f.kind, .string f.text, .int .i64 f.num] 52) = W2 at *
          have hXW2 := lvX3.lt
          have hYW2 := lvY3.lt
          clear hY
          go_loopw [7, 28] (fun s i wr => ∃ (q : Nat) (t3 : Int), q ≤ b.length ∧ i = .int .i64 q ∧ s = .int .i64 t3 ∧ t3 + (goB m f (b.drop q) + goA m b (a.drop (p + 1)) + goM a b (ms.drop (k + 1))) = R ∧ -(900000 * (k : Int) + 30000 * (p : Int) + 1000 * (q : Int)) ≤ t3 ∧ t3 ≤ 900000 * (k : Int) + 30000 * (p : Int) + 1000 * (q : Int) ∧ Below W2.heap.size W2 wr) (fun _ i _ => b.length - (intOf i).toNat)
          case atStart => exact ⟨0, t2, by omega, rfl, rfl, Hstep.out, by omega, by omega, Below.refl _ _⟩
          case round =>
            clear Hstep
            obtain ⟨q, t3, hq, rfl, rfl, hr3, ht31, ht32, hbl3⟩ := hrel
            have Hr := Lib.hid hr3
            have Hb4 := Lib.hid (Hb3.out.trans (hbl3.mono Hb3.out.size))
            have Hb5 := Lib.hid (Hb1.out.trans (Hb4.out.mono Hb1.out.size))
            have lvX4 := LV.kb2 lvX3 hbl3 hXW2
            have lvY4 := LV.kb2 lvY3 hbl3 hYW2
            clear hr3 ht21 ht22
            by_cases hlt3 : q < b.length
            · obtain ⟨g, hg⟩ : ∃ g, b[q]? = some g := ⟨_, List.getElem?_eq_getElem hlt3⟩
              obtain ⟨blkb, offb, rfl, hblkb, d0, d1, d2, d3⟩ := (HB.out.keepB Hb5.out).fld q g hg
              have hgt := Hb.out.2.1 g (List.mem_of_getElem? hg)
              have Hstep : Hid (t3 + (gain m f g + goB m f (b.drop (q + 1)) + goA m b (a.drop (p + 1)) + goM a b (ms.drop (k + 1))) = R) := by show _ = _; rw [← Hr.out, drop_at2 hg]; rfl
              clear Hr hg
              have Hb6 : Hid (Below W2.heap.size W2 (wr.alloc (.cells #[.string g.name, .int .i64 g.kind, .string g.text, .int .i64 g.num] 52))) := hbl3.alloc hbl3.size _
              have Hb7 : Hid (Below w.heap.size w (wr.alloc (.cells #[.string g.name, .int .i64 g.kind, .string g.text, .int .i64 g.num] 52))) := Hb5.out.alloc Hb5.out.size _
              have lvX5 := lvX4.alloc (.cells #[.string g.name, .int .i64 g.kind, .string g.text, .int .i64 g.num] 52)
              have lvY5 := lvY4.alloc (.cells #[.string g.name, .int .i64 g.kind, .string g.text, .int .i64 g.num] 52)
              have lvZ5 := LV.new wr wr.heap.size #[.string g.name, .int .i64 g.kind, .string g.text, .int .i64 g.num] 52 rfl
              have Hal := Lib.hid (refAlike_any m f.kind f.num g.kind g.num f.text g.text _ (Utf8Tabs_below HT.out Hb7.out) hft hgt Hok.out.1)
              change Hid (Calls _ _ _ _ fun e w' => e = .returned (.bool (fits m f g)) ∧ _) at Hal
              have x0 : (wr.alloc (.cells #[.string g.name, .int .i64 g.kind, .string g.text, .int .i64 g.num] 52)).cell? ⟨X, 0, none⟩ = some (.string m.name) := lvX5.cell 0 _ rfl
              have x1 : (wr.alloc (.cells #[.string g.name, .int .i64 g.kind, .string g.text, .int .i64 g.num] 52)).cell? ⟨X, 1, none⟩ = some (.int .i64 m.how) := lvX5.cell 1 _ rfl
              have x2 : (wr.alloc (.cells #[.string g.name, .int .i64 g.kind, .string g.text, .int .i64 g.num] 52)).cell? ⟨X, 2, none⟩ = some (.int .i64 m.far) := lvX5.cell 2 _ rfl
              have x3 : (wr.alloc (.cells #[.string g.name, .int .i64 g.kind, .string g.text, .int .i64 g.num] 52)).cell? ⟨X, 3, none⟩ = some (.int .i64 m.pts) := lvX5.cell 3 _ rfl
              have y0 : (wr.alloc (.cells #[.string g.name, .int .i64 g.kind, .string g.text, .int .i64 g.num] 52)).cell? ⟨Y, 0, none⟩ = some (.string f.name) := lvY5.cell 0 _ rfl
              have y1 : (wr.alloc (.cells #[.string g.name, .int .i64 g.kind, .string g.text, .int .i64 g.num] 52)).cell? ⟨Y, 1, none⟩ = some (.int .i64 f.kind) := lvY5.cell 1 _ rfl
              have y2 : (wr.alloc (.cells #[.string g.name, .int .i64 g.kind, .string g.text, .int .i64 g.num] 52)).cell? ⟨Y, 2, none⟩ = some (.string f.text) := lvY5.cell 2 _ rfl
              have y3 : (wr.alloc (.cells #[.string g.name, .int .i64 g.kind, .string g.text, .int .i64 g.num] 52)).cell? ⟨Y, 3, none⟩ = some (.int .i64 f.num) := lvY5.cell 3 _ rfl
              clear lvY4 lvX4 lvY5 lvZ5 hbl3 Hb5
              by_cases hfn : f.name = m.name
              · have hfn' := beqS.2 hfn
                have Hfn := Lib.hid hfn
                clear hfn
                by_cases hgn : g.name = m.name
                · have hgn' := beqS.2 hgn
                  have Hgn := Lib.hid hgn
                  clear hgn
                  go_wp2_with fail
                  refine (Hal.out).mono ?_
                  rintro e w5 ⟨rfl, hl5⟩
                  have Hb8 := Lib.hid (Hb6.out.trans (hl5.mono Hb6.out.size))
                  have v3 : w5.cell? ⟨X, 3, none⟩ = some (.int .i64 m.pts) := (LV.kb2 lvX5 hl5 lvX5.lt).cell 3 _ rfl
                  clear x0 x1 x2 x3 y0 y1 y2 y3 hl5 Hal Hb7 Hb6 lvX5 d0 d1 d2 d3
                  by_cases hfit : fits m f g = true
                  · rw [hfit]
                    have Hn : Hid (t3 + m.pts + (goB m f (b.drop (q + 1)) + goA m b (a.drop (p + 1)) + goM a b (ms.drop (k + 1))) = R) := by show _ = _; rw [← Hstep.out, gain, if_pos ⟨Hfn.out, Hgn.out, hfit⟩]; omega
                    clear Hstep
                    go_wp2_with fail
                    go_roundw
                    case rel => exact ⟨q + 1, t3 + m.pts, by omega, by go_num, rfl, Hn.out, by omega, by omega, Hb8.out⟩
                    case measure => simp [intOf]; omega
                  · have hfit' : fits m f g = false := by simpa using hfit
                    rw [hfit']
                    have Hn : Hid (t3 + (goB m f (b.drop (q + 1)) + goA m b (a.drop (p + 1)) + goM a b (ms.drop (k + 1))) = R) := by show _ = _; rw [← Hstep.out, gain, if_neg (fun e => hfit e.2.2)]; omega
                    clear Hstep
                    go_wp2_with fail
                    go_roundw
                    case rel => exact ⟨q + 1, t3, by omega, by go_num, rfl, Hn.out, by omega, by omega, Hb8.out⟩
                    case measure => simp [intOf]; omega
                · have hgn' : (g.name.toList == m.name.toList) = false := by
                    cases h : g.name.toList == m.name.toList with
                    | false => rfl
                    | true => exact absurd (beqS.1 h) hgn
                  have Hn : Hid (t3 + (goB m f (b.drop (q + 1)) + goA m b (a.drop (p + 1)) + goM a b (ms.drop (k + 1))) = R) := by show _ = _; rw [← Hstep.out, gain, if_neg (fun e => hgn e.2.1)]; omega
                  clear Hstep Hal
                  go_wp2_with fail
                  go_roundw
                  case rel => exact ⟨q + 1, t3, by omega, by go_num, rfl, Hn.out, by omega, by omega, Hb6.out⟩
                  case measure => simp [intOf]; omega
              · have hfn' : (f.name.toList == m.name.toList) = false := by
                  cases h : f.name.toList == m.name.toList with
                  | false => rfl
                  | true => exact absurd (beqS.1 h) hfn
                have Hn : Hid (t3 + (goB m f (b.drop (q + 1)) + goA m b (a.drop (p + 1)) + goM a b (ms.drop (k + 1))) = R) := by show _ = _; rw [← Hstep.out, gain, if_neg (fun e => hfn e.1)]; omega
                clear Hstep Hal
                go_wp2_with fail
                go_roundw
                case rel => exact ⟨q + 1, t3, by omega, by go_num, rfl, Hn.out, by omega, by omega, Hb6.out⟩
                case measure => simp [intOf]; omega
            · have Hn : Hid (t3 + (goA m b (a.drop (p + 1)) + goM a b (ms.drop (k + 1))) = R) := by show _ = _; rw [← Hr.out, List.drop_eq_nil_of_le (show b.length ≤ q by omega)]; simp only [goB]; omega
              clear Hr Hb5 lvX4 lvY4
              go_wp2_with fail
              go_roundw
              case rel => exact ⟨p + 1, t3, by omega, by go_num, rfl, Hn.out, by omega, by omega, Hb4.out⟩
              case measure => simp [intOf]; omega
        · have Hn : Hid (t2 + goM a b (ms.drop (k + 1)) = R) := by show _ = _; rw [← Hr.out, List.drop_eq_nil_of_le (show a.length ≤ p by omega)]; simp only [goA]; omega
          clear Hr lvX2
          go_wp2_with fail
          go_roundw
          case rel => exact ⟨k + 1, t2, by omega, by go_num, rfl, Hn.out, by omega, by omega, Hb2.out⟩
          case measure => simp [intOf]; omega
    · have Hn : Hid (t = R) := by show _ = _; rw [← Hr.out, List.drop_eq_nil_of_le (by omega)]; simp [goM]
      clear Hr
      go_wp2_with fail
      go_ret
      exact ⟨ret_i Hn.out, hbl⟩
end Go.Proofs.YtmlpkejeglpciaaDoor
