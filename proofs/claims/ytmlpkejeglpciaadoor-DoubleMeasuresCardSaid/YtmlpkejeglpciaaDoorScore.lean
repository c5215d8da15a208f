/- What person.score, person.Points and handref2.PointsOf return. -/
import Derived.Test.YtmlpkejeglpciaaDoorPtsLaw
namespace Go.Proofs.YtmlpkejeglpciaaDoor
open Go.RowKit
def MOk (ms : List Meas) : Prop := ms.length ≤ 20 ∧ ∀ m ∈ ms, (m.how ≠ 1 → 1 ≤ m.far ∧ m.far ≤ 20) ∧ -1000 ≤ m.pts ∧ m.pts ≤ 1000
def FOk (l : List Fld) : Prop := l.length ≤ 30 ∧ (∀ f ∈ l, f.text.size ≤ 200) ∧ Rising l
theorem LV.kb2 {w w' : World} {X B : Nat} {cs : Array Value} {T : TypeId} (h : LV w X cs T) (k : Below B w w') (hb : X < B) : LV w' X cs T := (k.block X hb).trans h
theorem drop_at2 {α : Type} {xs : List α} {k : Nat} {s : α} (h : xs[k]? = some s) : xs.drop k = s :: xs.drop (k + 1) := by
  obtain ⟨hlt, rfl⟩ := List.getElem?_eq_some_iff.1 h
  exact List.drop_eq_getElem_cons hlt
set_option maxHeartbeats 4000000 in
set_option maxRecDepth 100000 in
theorem score_any (N : Nat → Prop) (Am Aa Ab : Option Addr) (ms : List Meas) (a b : List Fld) (cm ca cb : Nat) (w : World) (hM : Sl rMeas N w Am ms) (hA : Sl rFld N w Aa a) (hB : Sl rFld N w Ab b) (hm : MOk ms) (ha : FOk a) (hb : FOk b) (hT : Tabs w) :
    Calls Tryd.prog 22 #[.slice Am ms.length cm, .slice Aa a.length ca, .slice Ab b.length cb] w fun e w' => e = .returned (.int .i64 (goM a b ms)) ∧ Below w.heap.size w w' := by
  have HM := Lib.hid hM
  have Hm := Lib.hid hm
  have Ha := Lib.hid ha
  have Hb := Lib.hid hb
  have HT := Lib.hid hT
  have hml := hm.1
  have HFa := Lib.hid (fun w' (h : Below w.heap.size w w') nm => find_any N Aa a nm ca w' (hA.keepB h) (by have := ha.1; omega) ha.2.2)
  have HFb := Lib.hid (fun w' (h : Below w.heap.size w w') nm => find_any N Ab b nm cb w' (hB.keepB h) (by have := hb.1; omega) hb.2.2)
  clear hM hA hB hm ha hb hT
  obtain ⟨R, HR⟩ : ∃ R, Hid (goM a b ms = R) := ⟨_, Lib.hid rfl⟩
  rw [HR.out]
  go_enter Tryd.func22, Tryd.ntmps22
  go_wp2_with fail
  go_loopw [7, 16] (fun s i wr => ∃ (k : Nat) (t : Int), k ≤ ms.length ∧ i = .int .i64 k ∧ s = .int .i64 t ∧ t + goM a b (ms.drop k) = R ∧ -(1000 * (k : Int)) ≤ t ∧ t ≤ 1000 * (k : Int) ∧ Below w.heap.size w wr) (fun _ i _ => ms.length - (intOf i).toNat)
  case atStart => exact ⟨0, 0, by omega, rfl, rfl, by simpa using HR.out, by omega, by omega, Below.refl _ _⟩
  case round =>
    clear HR
    obtain ⟨k, t, hk, rfl, rfl, hr, ht1, ht2, hbl⟩ := hrel
    have Hr := Lib.hid hr
    clear hr
    by_cases hlt : k < ms.length
    · obtain ⟨m, hmk⟩ : ∃ m, ms[k]? = some m := ⟨_, List.getElem?_eq_getElem hlt⟩
      obtain ⟨blk, off, rfl, hblk, d0, d1, d2, d3⟩ := (HM.out.keepB hbl).meas k m hmk
      have Hok := Lib.hid (Hm.out.2 m (List.mem_of_getElem? hmk))
      have hpts := Hok.out.2
      have Hstep : Hid (t + (goA m b a + goM a b (ms.drop (k + 1))) = R) := by show _ = _; rw [← Hr.out, drop_at2 hmk]; rfl
      clear Hr hmk
      have lvX := LV.new wr wr.heap.size #[.string m.name, .int .i64 m.how, .int .i64 m.far, .int .i64 m.pts] 45 rfl
      have Hb1 : Hid (Below w.heap.size w (wr.alloc (.cells #[.string m.name, .int .i64 m.how, .int .i64 m.far, .int .i64 m.pts] 45))) := hbl.alloc hbl.size _
      have hsz := hbl.size
      clear hbl
      go_wp2_with fail
      refine (HFa.out _ Hb1.out _).mono ?_
      rintro e w1 ⟨o1, hf1, rfl, hl1⟩
      have lvX1 := LV.kb2 lvX hl1 lvX.lt
      have Hb2 := Lib.hid (Hb1.out.trans (hl1.mono Hb1.out.size))
      have hz1 := hl1.size
      simp only [World.size_alloc] at hz1
      have Hf1 := Lib.hid hf1
      have c1 : w1.cell? ⟨wr.heap.size, 0, none⟩ = some (.string m.name) := lvX1.cell 0 _ rfl
      clear d0 d1 d2 d3 lvX hl1 hf1 Hb1
      obtain ⟨k1, t1, n1, e1⟩ : ∃ (k : Int) (t : ByteArray) (n : Int), valOf o1 = .agg #[.int .i64 k, .string t, .int .i64 n] := by cases o1 <;> exact ⟨_, _, _, rfl⟩
      rw [e1]
      have Hb3 : Hid (Below w.heap.size w (w1.alloc (.cells #[.int .i64 k1, .string t1, .int .i64 n1] 49))) := Hb2.out.alloc Hb2.out.size _
      have lvX2 := lvX1.alloc (.cells #[.int .i64 k1, .string t1, .int .i64 n1] 49)
      have lvY2 := LV.new w1 w1.heap.size #[.int .i64 k1, .string t1, .int .i64 n1] 49 rfl
      have c2 : (w1.alloc (.cells #[.int .i64 k1, .string t1, .int .i64 n1] 49)).cell? ⟨wr.heap.size, 0, none⟩ = some (.string m.name) := lvX2.cell 0 _ rfl
      clear lvX1 Hb2
      go_wp2_with fail
      refine (HFb.out _ Hb3.out _).mono ?_
      rintro e w2 ⟨o2, hf2, rfl, hl2⟩
      have lvX3 := LV.kb2 lvX2 hl2 lvX2.lt
      have lvY3 := LV.kb2 lvY2 hl2 lvY2.lt
      have Hb4 := Lib.hid (Hb3.out.trans (hl2.mono Hb3.out.size))
      have hz2 := hl2.size
      simp only [World.size_alloc] at hz2
      have Hf2 := Lib.hid hf2
      clear c1 c2 lvX2 lvY2 hl2 hf2 Hb3
      obtain ⟨k2, t2, n2, e2⟩ : ∃ (k : Int) (t : ByteArray) (n : Int), valOf o2 = .agg #[.int .i64 k, .string t, .int .i64 n] := by cases o2 <;> exact ⟨_, _, _, rfl⟩
      rw [e2]
      have Hb5 : Hid (Below w.heap.size w (w2.alloc (.cells #[.int .i64 k2, .string t2, .int .i64 n2] 49))) := Hb4.out.alloc Hb4.out.size _
      have lvX4 := lvX3.alloc (.cells #[.int .i64 k2, .string t2, .int .i64 n2] 49)
      have lvY4 := lvY3.alloc (.cells #[.int .i64 k2, .string t2, .int .i64 n2] 49)
      have lvZ4 := LV.new w2 w2.heap.size #[.int .i64 k2, .string t2, .int .i64 n2] 49 rfl
      have Hadd : Hid (goA m b a = addOf m o1 o2) := goA_finds m a b Ha.out.2.2 Hb.out.2.2 o1 o2 Hf1.out Hf2.out
      clear lvX3 lvY3 Hb4
      rcases o1 with _ | f
      · have Hn : Hid (t + goM a b (ms.drop (k + 1)) = R) := by show _ = _; rw [← Hstep.out, Hadd.out]; simp [addOf]
        clear Hstep Hadd
        go_wp2_with fail
        go_roundw
        case rel => exact ⟨k + 1, t, by omega, by go_num, rfl, Hn.out, by omega, by omega, Hb5.out⟩
        case measure => simp [intOf]; omega
      rcases o2 with _ | g
      · have Hn : Hid (t + goM a b (ms.drop (k + 1)) = R) := by show _ = _; rw [← Hstep.out, Hadd.out]; simp [addOf]
        clear Hstep Hadd
        go_wp2_with fail
        go_roundw
        case rel => exact ⟨k + 1, t, by omega, by go_num, rfl, Hn.out, by omega, by omega, Hb5.out⟩
        case measure => simp [intOf]; omega
      obtain ⟨rfl, rfl, rfl⟩ : f.kind = k1 ∧ f.text = t1 ∧ f.num = n1 := by simpa [valOf] using e1
      obtain ⟨rfl, rfl, rfl⟩ : g.kind = k2 ∧ g.text = t2 ∧ g.num = n2 := by simpa [valOf] using e2
      clear e1 e2
      have Hal := Lib.hid (alike_any m f.kind f.num g.kind g.num f.text g.text _ (Utf8Tabs_below HT.out Hb5.out) (Ha.out.2.1 f (Hf1.out.1 f rfl).1) (Hb.out.2.1 g (Hf2.out.1 g rfl).1) Hok.out.1)
      change Hid (Calls _ _ _ _ fun e w' => e = .returned (.bool (fits m f g)) ∧ _) at Hal
      have x0 : (w2.alloc (.cells #[.int .i64 g.kind, .string g.text, .int .i64 g.num] 49)).cell? ⟨wr.heap.size, 0, none⟩ = some (.string m.name) := lvX4.cell 0 _ rfl
      have x1 : (w2.alloc (.cells #[.int .i64 g.kind, .string g.text, .int .i64 g.num] 49)).cell? ⟨wr.heap.size, 1, none⟩ = some (.int .i64 m.how) := lvX4.cell 1 _ rfl
      have x2 : (w2.alloc (.cells #[.int .i64 g.kind, .string g.text, .int .i64 g.num] 49)).cell? ⟨wr.heap.size, 2, none⟩ = some (.int .i64 m.far) := lvX4.cell 2 _ rfl
      have x3 : (w2.alloc (.cells #[.int .i64 g.kind, .string g.text, .int .i64 g.num] 49)).cell? ⟨wr.heap.size, 3, none⟩ = some (.int .i64 m.pts) := lvX4.cell 3 _ rfl
      have y0 : (w2.alloc (.cells #[.int .i64 g.kind, .string g.text, .int .i64 g.num] 49)).cell? ⟨w1.heap.size, 0, none⟩ = some (.int .i64 f.kind) := lvY4.cell 0 _ rfl
      have y1 : (w2.alloc (.cells #[.int .i64 g.kind, .string g.text, .int .i64 g.num] 49)).cell? ⟨w1.heap.size, 1, none⟩ = some (.string f.text) := lvY4.cell 1 _ rfl
      have y2 : (w2.alloc (.cells #[.int .i64 g.kind, .string g.text, .int .i64 g.num] 49)).cell? ⟨w1.heap.size, 2, none⟩ = some (.int .i64 f.num) := lvY4.cell 2 _ rfl
      have z0 : (w2.alloc (.cells #[.int .i64 g.kind, .string g.text, .int .i64 g.num] 49)).cell? ⟨w2.heap.size, 0, none⟩ = some (.int .i64 g.kind) := lvZ4.cell 0 _ rfl
      have z1 : (w2.alloc (.cells #[.int .i64 g.kind, .string g.text, .int .i64 g.num] 49)).cell? ⟨w2.heap.size, 1, none⟩ = some (.string g.text) := lvZ4.cell 1 _ rfl
      have z2 : (w2.alloc (.cells #[.int .i64 g.kind, .string g.text, .int .i64 g.num] 49)).cell? ⟨w2.heap.size, 2, none⟩ = some (.int .i64 g.num) := lvZ4.cell 2 _ rfl
      clear lvY4 lvZ4 Hok Hf1 Hf2
      go_wp2_with fail
      refine (Hal.out).mono ?_
      rintro e w5 ⟨rfl, hl5⟩
      have Hb6 := Lib.hid (Hb5.out.trans (hl5.mono Hb5.out.size))
      have v3 : w5.cell? ⟨wr.heap.size, 3, none⟩ = some (.int .i64 m.pts) := (LV.kb2 lvX4 hl5 lvX4.lt).cell 3 _ rfl
      clear x0 x1 x2 x3 y0 y1 y2 z0 z1 z2 hl5 Hal Hb5 lvX4
      by_cases hfit : fits m f g = true
      · rw [hfit]
        have Hn : Hid (t + m.pts + goM a b (ms.drop (k + 1)) = R) := by show _ = _; rw [← Hstep.out, Hadd.out]; simp only [addOf, hfit, if_true]; omega
        clear Hstep Hadd
        go_wp2_with fail
        go_roundw
        case rel => exact ⟨k + 1, t + m.pts, by omega, by go_num, rfl, Hn.out, by omega, by omega, Hb6.out⟩
        case measure => simp [intOf]; omega
      · have hfit' : fits m f g = false := by simpa using hfit
        rw [hfit']
        have Hn : Hid (t + goM a b (ms.drop (k + 1)) = R) := by show _ = _; rw [← Hstep.out, Hadd.out]; simp [addOf, hfit']
        clear Hstep Hadd
        go_wp2_with fail
        go_roundw
        case rel => exact ⟨k + 1, t, by omega, by go_num, rfl, Hn.out, by omega, by omega, Hb6.out⟩
        case measure => simp [intOf]; omega
    · have Hn : Hid (t = R) := by show _ = _; rw [← Hr.out, List.drop_eq_nil_of_le (by omega)]; simp [goM]
      clear Hr
      go_wp2_with fail
      go_ret
      exact ⟨ret_i Hn.out, hbl⟩
end Go.Proofs.YtmlpkejeglpciaaDoor
