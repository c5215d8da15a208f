/- What person.Find and slices.BinarySearchFunc return. -/
import Derived.Test.YtmlpkejeglpciaaDoorFields
import Derived.Test.YtmlpkejeglpciaaDoorIdOrder
namespace Go.Proofs.YtmlpkejeglpciaaDoor
open Go.RowKit
theorem find1_any (f : Fld) (nm : ByteArray) (w : World) :
    Calls Tryd.prog 60 #[.agg #[.string f.name, .int .i64 f.kind, .string f.text, .int .i64 f.num], .string nm] w fun e w' => e = .returned (.int .i64 (cmpS f.name nm)) ∧ Below w.heap.size w w' := by
  have Hb : Hid (Below w.heap.size w (w.alloc (.cells #[.string f.name, .int .i64 f.kind, .string f.text, .int .i64 f.num] 52))) := (Below.refl _ _).alloc (Nat.le_refl _) _
  go_enter Tryd.func60, Tryd.ntmps60
  go_wp2_with fail
  refine (compareS_any f.name nm _).mono ?_
  rintro e _ ⟨rfl, rfl⟩
  go_wp2_with fail
  go_ret
  exact ⟨rfl, Hb.out⟩
/-- the names rise -/
def Rising (xs : List Fld) : Prop := ∀ (i j : Nat) (f g : Fld), i < j → xs[i]? = some f → xs[j]? = some g → ltS f.name g.name = true
/-- where a name stands, or would stand -/
def GivesPlace (xs : List Fld) (nm : ByteArray) (w : World) (e : Ending) (w' : World) : Prop :=
  ∃ (i : Nat) (b : Bool), e = .returned (.tuple #[.int .i64 i, .bool b]) ∧ i ≤ xs.length ∧ (∀ p f, p < i → xs[p]? = some f → ltS f.name nm = true) ∧ (∀ p f, i ≤ p → xs[p]? = some f → ltS f.name nm = false) ∧
    (b = true ↔ ∃ f, xs[i]? = some f ∧ cmpS f.name nm = 0) ∧ Below w.heap.size w w'
set_option maxHeartbeats 4000000 in
set_option maxRecDepth 100000 in
theorem bsearch_any (N : Nat → Prop) (A : Option Addr) (xs : List Fld) (nm : ByteArray) (c : Nat) (w : World) (hS : Sl rFld N w A xs) (hn : xs.length ≤ 1000) (hri : Rising xs) :
    Calls Tryd.prog 59 #[.slice A xs.length c, .string nm, .func (.func 60) #[] #[]] w (GivesPlace xs nm w) := by
  have HS := Lib.hid hS
  have Hri := Lib.hid hri
  clear hS hri
  go_enter Tryd.func59, Tryd.ntmps59
  go_wp2_with fail
  go_loopw [9, 10] (fun a b wr => ∃ i j : Nat, i ≤ j ∧ j ≤ xs.length ∧ a = .int .i64 i ∧ b = .int .i64 j ∧ (∀ p f, p < i → xs[p]? = some f → ltS f.name nm = true) ∧ (∀ p f, j ≤ p → xs[p]? = some f → ltS f.name nm = false) ∧ Below w.heap.size w wr) (fun a b _ => (intOf b - intOf a).toNat)
  case atStart => exact ⟨0, xs.length, by omega, by omega, rfl, rfl, (fun p f h => by omega), (fun p f h hp => by rw [List.getElem?_eq_none h] at hp; cases hp), Below.refl _ _⟩
  case round =>
    obtain ⟨i, j, hij, hj, rfl, rfl, hlo, hhi, hbl⟩ := hrel
    have Hlo := Lib.hid hlo
    have Hhi := Lib.hid hhi
    have hsz := hbl.size
    clear hlo hhi
    by_cases hlt : i < j
    · obtain ⟨h, hh⟩ : ∃ h : Nat, h = (i + j) / 2 := ⟨_, rfl⟩
      have h1 : i ≤ h := by omega
      have h2 : h < j := by omega
      have eh : ((i : Int) + (j : Int)) / 2 = (h : Int) := by omega
      clear hh
      obtain ⟨f, hf⟩ : ∃ f, xs[h]? = some f := ⟨_, List.getElem?_eq_getElem (by omega)⟩
      obtain ⟨blk, off, rfl, hblk, c0, c1, c2, c3⟩ := HS.out.fld h f hf
      have d0 := (hbl.cell (p := ⟨blk, off + h * 4, none⟩) hblk).trans c0
      have d1 := (hbl.cell (p := ⟨blk, off + h * 4 + 1, none⟩) hblk).trans c1
      have d2 := (hbl.cell (p := ⟨blk, off + h * 4 + 2, none⟩) hblk).trans c2
      have d3 := (hbl.cell (p := ⟨blk, off + h * 4 + 3, none⟩) hblk).trans c3
      have Hf := Lib.hid hf
      clear c0 c1 c2 c3 hf
      go_wp2_with fail
      refine (find1_any f nm _).mono ?_
      rintro e w1 ⟨rfl, hl_w1⟩
      have hz_w1 := hl_w1.size
      have Hb1 : Hid (Below w.heap.size w w1) := hbl.trans (hl_w1.mono hsz)
      have Hcn := Lib.hid (cmpS_neg f.name nm)
      generalize cmpS f.name nm = cm at *
      clear hl_w1 hz_w1 d0 d1 d2 d3
      by_cases hc : cm < 0
      · have Hl : Hid (∀ p g, p < h + 1 → xs[p]? = some g → ltS g.name nm = true) := fun p g hp hg => by
          by_cases hph : p = h
          · subst hph
            rw [Hf.out] at hg
            cases hg
            exact Hcn.out.1 hc
          · exact ltS_trans (Hri.out p h g f (by omega) hg Hf.out) (Hcn.out.1 hc)
        go_wp2_with fail
        go_roundw
        case rel => exact ⟨h + 1, j, by omega, by omega, by go_num, rfl, Hl.out, Hhi.out, Hb1.out⟩
        case measure => simp [intOf]; omega
      · have hnl : ltS f.name nm = false := by
          cases hx : ltS f.name nm
          · rfl
          · exact absurd (Hcn.out.2 hx) hc
        have Hl : Hid (∀ p g, h ≤ p → xs[p]? = some g → ltS g.name nm = false) := fun p g hp hg => by
          by_cases hph : p = h
          · subst hph
            rw [Hf.out] at hg
            cases hg
            exact hnl
          · cases hx : ltS g.name nm
            · rfl
            · rw [ltS_trans (Hri.out h p f g (by omega) Hf.out hg) hx] at hnl
              cases hnl
        clear hnl
        go_wp2_with fail
        go_roundw
        case rel => exact ⟨i, h, by omega, by omega, rfl, rfl, Hlo.out, Hl.out, Hb1.out⟩
        case measure => simp [intOf]; omega
    · obtain rfl : i = j := by omega
      by_cases hlen : i < xs.length
      · obtain ⟨f, hf⟩ : ∃ f, xs[i]? = some f := ⟨_, List.getElem?_eq_getElem hlen⟩
        obtain ⟨blk, off, rfl, hblk, c0, c1, c2, c3⟩ := HS.out.fld i f hf
        have d0 := (hbl.cell (p := ⟨blk, off + i * 4, none⟩) hblk).trans c0
        have d1 := (hbl.cell (p := ⟨blk, off + i * 4 + 1, none⟩) hblk).trans c1
        have d2 := (hbl.cell (p := ⟨blk, off + i * 4 + 2, none⟩) hblk).trans c2
        have d3 := (hbl.cell (p := ⟨blk, off + i * 4 + 3, none⟩) hblk).trans c3
        have Hf := Lib.hid hf
        clear c0 c1 c2 c3 hf
        go_wp2_with fail
        refine (find1_any f nm _).mono ?_
        rintro e w1 ⟨rfl, hl_w1⟩
        have hz_w1 := hl_w1.size
        have Hb1 : Hid (Below w.heap.size w w1) := hbl.trans (hl_w1.mono hsz)
        obtain ⟨cm, Hcm⟩ : ∃ cm, Hid (cmpS f.name nm = cm) := ⟨_, Lib.hid rfl⟩
        rw [Hcm.out]
        clear hl_w1 hz_w1 d0 d1 d2 d3
        go_wp2_with fail
        go_ret2
        exact ⟨i, (cm == 0), rfl, by omega, Hlo.out, Hhi.out, by rw [beq_iff_eq]; exact ⟨fun h => ⟨f, Hf.out, by rw [Hcm.out, h]⟩, fun ⟨g, hg, hz⟩ => by rw [Hf.out] at hg; cases hg; rw [← Hcm.out]; exact hz⟩, Hb1.out⟩
      · go_wp2_with fail
        go_ret2
        exact ⟨i, false, rfl, by omega, Hlo.out, Hhi.out, ⟨(fun h => by cases h), (fun ⟨g, hg, _⟩ => by rw [List.getElem?_eq_none (by omega)] at hg; cases hg)⟩, hbl⟩
/-- the field of a name, if there is one -/
def FindsTo (xs : List Fld) (nm : ByteArray) (o : Option Fld) : Prop := (∀ f, o = some f → f ∈ xs ∧ f.name = nm) ∧ (o = none → ∀ f ∈ xs, f.name ≠ nm)
def valOf (o : Option Fld) : Value := match o with | some f => .agg #[.int .i64 f.kind, .string f.text, .int .i64 f.num] | none => .agg #[.int .i64 0, .string ⟨#[]⟩, .int .i64 0]
def GivesFld (xs : List Fld) (nm : ByteArray) (w : World) (e : Ending) (w' : World) : Prop := ∃ o, FindsTo xs nm o ∧ e = .returned (.tuple #[valOf o, .bool o.isSome]) ∧ Below w.heap.size w w'
set_option maxHeartbeats 4000000 in
set_option maxRecDepth 100000 in
theorem find_any (N : Nat → Prop) (A : Option Addr) (xs : List Fld) (nm : ByteArray) (c : Nat) (w : World) (hS : Sl rFld N w A xs) (hn : xs.length ≤ 1000) (hri : Rising xs) :
    Calls Tryd.prog 39 #[.slice A xs.length c, .string nm] w (GivesFld xs nm w) := by
  have HS := Lib.hid hS
  have Hri := Lib.hid hri
  have Hb : Hid (Below w.heap.size w (w.alloc (.cells #[.int .i64 0, .string ⟨#[]⟩, .int .i64 0] 49))) := (Below.refl _ _).alloc (Nat.le_refl _) _
  have lvR := LV.new w w.heap.size #[.int .i64 0, .string ⟨#[]⟩, .int .i64 0] 49 rfl
  have HSb := Lib.hid (HS.out.keepB Hb.out)
  clear hS hri HS
  go_enter Tryd.func39, Tryd.ntmps39
  go_wp2_with fail
  refine (bsearch_any N A xs nm c _ HSb.out hn Hri.out).mono ?_
  rintro e w1 ⟨i, b, rfl, hi, hlo, hhi, hb, hl1⟩
  have Hlo := Lib.hid hlo
  have Hhi := Lib.hid hhi
  have HbI := Lib.hid hb
  have HS1 := Lib.hid (HSb.out.keepB hl1)
  have Hb1 := Lib.hid (Hb.out.trans (hl1.mono (by simp)))
  have lv1 : LV w1 w.heap.size #[.int .i64 0, .string ⟨#[]⟩, .int .i64 0] 49 := (hl1.block _ lvR.lt).trans lvR
  clear hlo hhi hb hl1 HSb Hb lvR
  cases b
  · have Hf : Hid (FindsTo xs nm none) := by
      refine ⟨(fun f h => by cases h), fun _ f hf hnm => ?_⟩
      obtain ⟨p, hp, e⟩ := List.getElem_of_mem hf
      have hpf : xs[p]? = some f := by rw [List.getElem?_eq_getElem hp, e]
      rcases Nat.lt_trichotomy p i with h | h | h
      · have := Hlo.out p f h hpf
        rw [hnm, ltS_irr] at this; cases this
      · subst h
        have := HbI.out.2 ⟨f, hpf, (cmpS_zero _ _).2 hnm⟩
        cases this
      · have hg : xs[i]? = some (xs[i]'(by omega)) := List.getElem?_eq_getElem (by omega)
        have h1 := Hri.out i p _ f h hg hpf
        have h2 := Hhi.out i _ (Nat.le_refl _) hg
        rw [hnm, h2] at h1; cases h1
    have Hbf : Hid (Below w.heap.size w (((w1.setCell ⟨w.heap.size, 0, none⟩ (.int .i64 0)).setCell ⟨w.heap.size, 1, none⟩ (.string ⟨#[]⟩)).setCell ⟨w.heap.size, 2, none⟩ (.int .i64 0))) := ((Hb1.out.setCell (p := ⟨w.heap.size, 0, none⟩) (Nat.le_refl _) _).setCell (p := ⟨w.heap.size, 1, none⟩) (Nat.le_refl _) _).setCell (p := ⟨w.heap.size, 2, none⟩) (Nat.le_refl _) _
    have lv1_c0 := lv1.cell 0 _ rfl
    have lv1_c1 := lv1.cell 1 _ rfl
    have lv1_c2 := lv1.cell 2 _ rfl
    have lv1_f0 := lv1.free 0
    have lv1_f1 := lv1.free 1
    have lv1_f2 := lv1.free 2
    go_wp2_with fail
    exact bodyPost_ret (v := .tuple #[.agg #[.int .i64 0, .string ⟨#[]⟩, .int .i64 0], .bool false]) (by simp [results, Tryd.results39, go_sem, lv1_c0, lv1_c1, lv1_c2]) rfl ⟨none, Hf.out, rfl, Hbf.out⟩
  · obtain ⟨f, hf, hz⟩ := HbI.out.1 rfl
    have hlt : i < xs.length := (List.getElem?_eq_some_iff.1 hf).1
    have Hf : Hid (FindsTo xs nm (some f)) := ⟨(fun g h => by cases h; exact ⟨List.mem_of_getElem? hf, (cmpS_zero _ _).1 hz⟩), (fun h => by cases h)⟩
    obtain ⟨blk, off, rfl, hblk, c0, c1, c2, c3⟩ := HS1.out.fld i f hf
    have Hbf : Hid (Below w.heap.size w (((w1.setCell ⟨w.heap.size, 0, none⟩ (.int .i64 f.kind)).setCell ⟨w.heap.size, 1, none⟩ (.string f.text)).setCell ⟨w.heap.size, 2, none⟩ (.int .i64 f.num))) := ((Hb1.out.setCell (p := ⟨w.heap.size, 0, none⟩) (Nat.le_refl _) _).setCell (p := ⟨w.heap.size, 1, none⟩) (Nat.le_refl _) _).setCell (p := ⟨w.heap.size, 2, none⟩) (Nat.le_refl _) _
    have lv1_c0 := lv1.cell 0 _ rfl
    have lv1_c1 := lv1.cell 1 _ rfl
    have lv1_c2 := lv1.cell 2 _ rfl
    have lv1_f0 := lv1.free 0
    have lv1_f1 := lv1.free 1
    have lv1_f2 := lv1.free 2
    clear hf hz c0 Hlo Hhi
    go_wp2_with fail
    exact bodyPost_ret (v := .tuple #[.agg #[.int .i64 f.kind, .string f.text, .int .i64 f.num], .bool true]) (by simp [results, Tryd.results39, go_sem, lv1_c0, lv1_c1, lv1_c2]) rfl ⟨some f, Hf.out, rfl, Hbf.out⟩
end Go.Proofs.YtmlpkejeglpciaaDoor
