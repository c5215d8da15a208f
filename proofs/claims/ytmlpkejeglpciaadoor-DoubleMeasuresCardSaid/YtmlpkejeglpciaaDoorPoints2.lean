/- What person.Points returns. -/
import Derived.Test.YtmlpkejeglpciaaDoorScore
namespace Go.Proofs.YtmlpkejeglpciaaDoor
open Go.RowKit
def ptsV (fm fa fb s : Int) : Value := if fm ≠ 0 then .tuple #[.int .i64 0, .int .i64 fm] else if fa ≠ 0 then .tuple #[.int .i64 0, .int .i64 fa] else if fb ≠ 0 then .tuple #[.int .i64 0, .int .i64 fb] else .tuple #[.int .i64 s, .int .i64 0]
set_option maxHeartbeats 4000000 in
set_option maxRecDepth 100000 in
theorem points2_any (N : Nat → Prop) (Am Aa Ab : Option Addr) (ms : List Meas) (a b : List Fld) (cm ca cb : Nat) (w : World) (hM : Sl rMeas N w Am ms) (hA : Sl rFld N w Aa a) (hB : Sl rFld N w Ab b) (hms : ∀ m ∈ ms, m.name.size ≤ 1000000000) (hml : ms.length ≤ 1000) (has : ∀ f ∈ a, f.small) (hal : a.length ≤ 1000) (hbs : ∀ f ∈ b, f.small) (hbl : b.length ≤ 1000) (hT : Tabs w) :
    Calls Tryd.prog 7 #[.slice Am ms.length cm, .slice Aa a.length ca, .slice Ab b.length cb] w fun e w' => e = .returned (ptsV (measFault ms) (fldsFault a) (fldsFault b) (goM a b ms)) ∧ Below w.heap.size w w' := by
  have HM := Lib.hid (checkMeasures_any N Am ms cm w hM hms (by omega))
  have HA := Lib.hid (fun w' (h : Below w.heap.size w w') => checkFields_any N Aa a ca w' (hA.keepB h) has (by omega) (Utf8Tabs_below hT h))
  have HB := Lib.hid (fun w' (h : Below w.heap.size w w') => checkFields_any N Ab b cb w' (hB.keepB h) hbs (by omega) (Utf8Tabs_below hT h))
  have HS := Lib.hid (fun w' (h : Below w.heap.size w w') (hm : MOk ms) (ha : FOk a) (hb : FOk b) => score_any N Am Aa Ab ms a b cm ca cb w' (hM.keepB h) (hA.keepB h) (hB.keepB h) hm ha hb (Utf8Tabs_below hT h))
  have Hm : Hid (measFault ms = 0 → MOk ms) := fun h => meas_ok h
  have Ha : Hid (fldsFault a = 0 → FOk a) := fun h => flds_ok h
  have Hb : Hid (fldsFault b = 0 → FOk b) := fun h => flds_ok h
  clear hM hA hB hms has hbs hT
  generalize measFault ms = fm at *
  generalize fldsFault a = fa at *
  generalize fldsFault b = fb at *
  generalize goM a b ms = sc at *
  obtain ⟨R, HR⟩ : ∃ R, Hid (ptsV fm fa fb sc = R) := ⟨_, Lib.hid rfl⟩
  rw [HR.out]
  go_enter Tryd.func7, Tryd.ntmps7
  go_wp2_with fail
  refine (HM.out).mono ?_
  rintro e w1 ⟨rfl, hl_w1⟩
  have hz_w1 := hl_w1.size
  have Hb1 := Lib.hid hl_w1
  clear HM hl_w1
  by_cases hfm : fm = 0
  · subst hfm
    have Hm2 := Lib.hid (Hm.out rfl)
    clear Hm
    have lvT := LV.new w1 w1.heap.size #[.slice Aa a.length ca, .slice Ab b.length cb] 28 rfl
    have Hb2 : Hid (Below w.heap.size w (w1.alloc (.cells #[.slice Aa a.length ca, .slice Ab b.length cb] 28))) := Hb1.out.alloc Hb1.out.size _
    go_wp2_with fail
    obtain ⟨X, hX⟩ : ∃ X, X = w1.heap.size := ⟨_, rfl⟩
    have hXw : w.heap.size ≤ X := by omega
    rw [← hX] at lvT ⊢
    generalize w1.alloc (.cells #[.slice Aa a.length ca, .slice Ab b.length cb] 28) = W1 at *
    have hXW := lvT.lt
    clear hX Hb1 hz_w1
    go_loopw [21] (fun i wr => ∃ k : Nat, k ≤ 2 ∧ i = .int .i64 k ∧ (1 ≤ k → fa = 0) ∧ (2 ≤ k → fb = 0) ∧ Below W1.heap.size W1 wr) (fun i _ => 2 - (intOf i).toNat)
    case atStart => exact ⟨0, by omega, rfl, (fun h => by omega), (fun h => by omega), Below.refl _ _⟩
    case round =>
      obtain ⟨k, hk, rfl, h1, h2, hbl⟩ := hrel
      have Hbl := Lib.hid hbl
      have Hbw := Lib.hid (Hb2.out.trans (hbl.mono Hb2.out.size))
      have lvr := LV.kb2 lvT hbl hXW
      clear hbl
      obtain rfl | rfl | rfl : k = 0 ∨ k = 1 ∨ k = 2 := by omega
      · have c0 : wr.cell? ⟨X, 0, none⟩ = some (.slice Aa a.length ca) := lvr.cell 0 _ rfl
        clear h1 h2
        go_wp2_with fail
        refine (HA.out _ Hbw.out).mono ?_
        rintro e w2 ⟨rfl, hl2⟩
        have Hb3 := Lib.hid (Hbl.out.trans (hl2.mono Hbl.out.size))
        have Hb4 := Lib.hid (Hbw.out.trans (hl2.mono Hbw.out.size))
        clear hl2
        by_cases hfa : fa = 0
        · subst hfa
          go_wp2_with fail
          go_roundw
          case rel => exact ⟨1, by omega, by go_num, (fun _ => by first | rfl | trivial), (fun h => by omega), Hb3.out⟩
          case measure => simp [intOf]
        · have hfa' : (fa != 0) = true := by simpa using hfa
          have Hn : Hid (.tuple #[.int .i64 0, .int .i64 fa] = R) := by show _ = _; rw [← HR.out, ptsV, if_neg (by simp), if_pos hfa]
          clear HR hfa
          go_wp2_with fail
          go_ret2
          exact ⟨by rw [← Hn.out]; rfl, Hb4.out⟩
      · obtain rfl := h1 (by omega)
        have c0 : wr.cell? ⟨X, 1, none⟩ = some (.slice Ab b.length cb) := lvr.cell 1 _ rfl
        clear h1 h2
        go_wp2_with fail
        refine (HB.out _ Hbw.out).mono ?_
        rintro e w2 ⟨rfl, hl2⟩
        have Hb3 := Lib.hid (Hbl.out.trans (hl2.mono Hbl.out.size))
        have Hb4 := Lib.hid (Hbw.out.trans (hl2.mono Hbw.out.size))
        clear hl2
        by_cases hfb : fb = 0
        · subst hfb
          go_wp2_with fail
          go_roundw
          case rel => exact ⟨2, by omega, by go_num, (fun _ => by first | rfl | trivial), (fun _ => by first | rfl | trivial), Hb3.out⟩
          case measure => simp [intOf]
        · have hfb' : (fb != 0) = true := by simpa using hfb
          have Hn : Hid (.tuple #[.int .i64 0, .int .i64 fb] = R) := by show _ = _; rw [← HR.out, ptsV, if_neg (by simp), if_neg (by simp), if_pos hfb]
          clear HR hfb
          go_wp2_with fail
          go_ret2
          exact ⟨by rw [← Hn.out]; rfl, Hb4.out⟩
      · obtain rfl := h1 (by omega)
        obtain rfl := h2 (by omega)
        have Hn : Hid (.tuple #[.int .i64 sc, .int .i64 0] = R) := by show _ = _; rw [← HR.out, ptsV, if_neg (by simp), if_neg (by simp), if_neg (by simp)]
        have HS2 := Lib.hid (HS.out _ Hbw.out Hm2.out (Ha.out rfl) (Hb.out rfl))
        clear HR h1 h2 HS
        go_wp2_with fail
        refine (HS2.out).mono ?_
        rintro e w2 ⟨rfl, hl2⟩
        have Hb4 := Lib.hid (Hbw.out.trans (hl2.mono Hbw.out.size))
        go_wp2_with fail
        go_ret2
        exact ⟨by rw [← Hn.out]; rfl, Hb4.out⟩
  · have hfm' : (fm != 0) = true := by simpa using hfm
    have Hn : Hid (.tuple #[.int .i64 0, .int .i64 fm] = R) := by show _ = _; rw [← HR.out, ptsV, if_pos hfm]
    clear HR hfm
    go_wp2_with fail
    go_ret2
    exact ⟨by rw [← Hn.out]; rfl, Hb1.out⟩
end Go.Proofs.YtmlpkejeglpciaaDoor
