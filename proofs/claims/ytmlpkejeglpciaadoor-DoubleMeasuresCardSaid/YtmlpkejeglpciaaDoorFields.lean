/- What person.CheckFields returns. -/
import Derived.Test.YtmlpkejeglpciaaDoorValue
import Derived.Test.YtmlpkejeglpciaaDoorRep
import Derived.Test.YtmlpkejeglpciaaDoorRefKey
import Derived.Test.YtmlpkejeglpciaaDoorMix
import Derived.Test.YtmlpkejeglpciaaDoorCmp
import Derived.WalkLawsBesides
namespace Go.Proofs.YtmlpkejeglpciaaDoor
open Go.RowKit
/-- a field: its name, and its value's kind, text and number -/
structure Fld where
  name : ByteArray
  kind : Int
  text : ByteArray
  num : Int
def Fld.cells (f : Fld) : List Value := [.string f.name, .int .i64 f.kind, .string f.text, .int .i64 f.num]
def rFld : Rep Fld := .flat 4 Fld.cells (fun _ => rfl)
def Fld.small (f : Fld) : Prop := f.name.size ≤ 1000000000 ∧ f.text.size ≤ 1000000000
def fldsGo (prev : Option ByteArray) : List Fld → Int
  | [] => 0
  | f :: r => if L.isKey f.name = false then 5 else if ¬ valueFault f.kind f.text f.num = 0 then valueFault f.kind f.text f.num else
    if prev.any (fun p => leS f.name p) then 7 else fldsGo (some f.name) r
def fldsFault (l : List Fld) : Int := if 30 < l.length then 2 else fldsGo none l
def prevAt (xs : List Fld) (k : Nat) : Option ByteArray := if k = 0 then none else (xs[k - 1]?).map Fld.name
/-- the cells of a field in a slice -/
theorem Sl.fld {N : Nat → Prop} {w : World} {A : Option Addr} {xs : List Fld} (h : Sl rFld N w A xs) (k : Nat) (f : Fld) (hk : xs[k]? = some f) : ∃ blk off, A = some ⟨blk, off, none⟩ ∧ blk < w.heap.size ∧
    w.cell? ⟨blk, off + k * 4, none⟩ = some (.string f.name) ∧ w.cell? ⟨blk, off + k * 4 + 1, none⟩ = some (.int .i64 f.kind) ∧ w.cell? ⟨blk, off + k * 4 + 2, none⟩ = some (.string f.text) ∧ w.cell? ⟨blk, off + k * 4 + 3, none⟩ = some (.int .i64 f.num) := by
  obtain ⟨blk, off, l, e, h1, _, h3, h4⟩ := h k f hk
  obtain rfl : l = Fld.cells f := h3
  exact ⟨blk, off, e, h1, h4 0 _ rfl, h4 1 _ rfl, h4 2 _ rfl, h4 3 _ rfl⟩
set_option maxHeartbeats 4000000 in
set_option maxRecDepth 100000 in
theorem checkFields_any (N : Nat → Prop) (A : Option Addr) (xs : List Fld) (c : Nat) (w : World) (hS : Sl rFld N w A xs) (hsm : ∀ f ∈ xs, f.small) (hn : xs.length ≤ 1000000000) (hT : Tabs w) :
    Calls Tryd.prog 21 #[.slice A xs.length c] w fun e w' => e = .returned (.int .i64 (fldsFault xs)) ∧ Below w.heap.size w w' := by
  have HT := Lib.hid hT
  have HS := Lib.hid hS
  have Hsm := Lib.hid hsm
  clear hT hS hsm
  obtain ⟨R, HR⟩ : ∃ R, Hid (fldsFault xs = R) := ⟨_, Lib.hid rfl⟩
  rw [HR.out]
  by_cases h30 : 30 < xs.length
  · go_enter Tryd.func21, Tryd.ntmps21
    go_wp2_with fail
    go_ret
    exact ⟨ret_i (by rw [← HR.out]; simp [fldsFault, h30]), Below.refl _ _⟩
  · have HR2 : Hid (fldsGo none xs = R) := by show _ = _; rw [← HR.out, fldsFault, if_neg h30]
    clear HR
    go_enter Tryd.func21, Tryd.ntmps21
    go_wp2_with fail
    go_loopw [11] (fun i wr => ∃ k : Nat, k ≤ xs.length ∧ i = .int .i64 k ∧ fldsGo (prevAt xs k) (xs.drop k) = R ∧ Below w.heap.size w wr) (fun i _ => xs.length - (intOf i).toNat)
    case atStart => exact ⟨0, Nat.zero_le _, rfl, HR2.out, Below.refl _ _⟩
    case round =>
      clear HR2
      obtain ⟨k, hk, rfl, hr, hbl⟩ := hrel
      have Hr := Lib.hid hr
      clear hr
      by_cases hlt : k < xs.length
      · obtain ⟨f, hf⟩ : ∃ f, xs[k]? = some f := ⟨_, List.getElem?_eq_getElem hlt⟩
        obtain ⟨blk, off, rfl, hblk, c0, c1, c2, c3⟩ := HS.out.fld k f hf
        have d0 := (hbl.cell (p := ⟨blk, off + k * 4, none⟩) hblk).trans c0
        have d1 := (hbl.cell (p := ⟨blk, off + k * 4 + 1, none⟩) hblk).trans c1
        have d2 := (hbl.cell (p := ⟨blk, off + k * 4 + 2, none⟩) hblk).trans c2
        have d3 := (hbl.cell (p := ⟨blk, off + k * 4 + 3, none⟩) hblk).trans c3
        have hfs1 : f.name.size ≤ 1000000000 := And.left (Hsm.out f (List.mem_of_getElem? hf))
        have hfs2 : f.text.size ≤ 1000000000 := And.right (Hsm.out f (List.mem_of_getElem? hf))
        have Hf := Lib.hid hf
        clear c0 c1 c2 c3 hf
        have Hstep : Hid (fldsGo (prevAt xs k) (f :: xs.drop (k + 1)) = R) := by
          show _ = _
          rw [← Hr.out, List.drop_eq_getElem_cons hlt]
          have : xs[k] = f := by simpa [List.getElem?_eq_getElem hlt] using Hf.out
          rw [this]
        clear Hr
        have Hcv : Hid (∀ w', Below w.heap.size w w' → Calls Tryd.prog 38 #[.agg #[.int .i64 f.kind, .string f.text, .int .i64 f.num]] w' fun e w'' => e = .returned (.int .i64 (valueFault f.kind f.text f.num)) ∧ Below w'.heap.size w' w'') := fun w' h => checkValue_any _ _ _ w' hfs2 (Utf8Tabs_below HT.out h)
        have Hb1 : Hid (Below w.heap.size w (wr.alloc (.cells #[.string f.name, .int .i64 f.kind, .string f.text, .int .i64 f.num] 52))) := hbl.alloc hbl.size _
        have hsz := hbl.size
        by_cases h1 : L.isKey f.name = true
        · go_wp2_with fail
          refine (isKey_any f.name _ hfs1).mono ?_
          rintro e _ ⟨rfl, rfl⟩
          rw [h1]
          by_cases h2 : valueFault f.kind f.text f.num = 0
          · rw [h2] at Hcv
            go_wp2_with fail
            refine (Hcv.out _ Hb1.out).mono ?_
            rintro e w1 ⟨rfl, hl_w1⟩
            have hz_w1 := hl_w1.size
            by_cases hk0 : k = 0
            · have hk1 : decide (0 < k) = false := by simp; omega
              have Hk0 := Lib.hid hk0
              clear hk0 d0 d1 d2 d3 Hcv
              go_wp2_with fail
              go_quiet (fail)
              go_wp2_with fail
              go_roundw
              case rel => exact ⟨k + 1, by omega, by go_num, by rw [← Hstep.out, Hk0.out, fldsGo, h1, h2]; simp [prevAt]; rw [← Hk0.out, Hf.out]; rfl, Hb1.out.trans ((hl_w1.mono (by simp; omega)).trans (below_drewN _ _ _))⟩
              case measure => simp [intOf]; omega
            · obtain ⟨g, hg⟩ : ∃ g, xs[k - 1]? = some g := ⟨_, List.getElem?_eq_getElem (by omega)⟩
              obtain ⟨_, _, e, _, p0, _, _, _⟩ := HS.out.fld (k - 1) g hg
              cases e
              obtain ⟨j, rfl⟩ : ∃ j, k = j + 1 := ⟨k - 1, by omega⟩
              rw [Nat.add_sub_cancel] at hg p0
              have Hg := Lib.hid hg
              have q0 : w1.cell? ⟨blk, off + j * 4, none⟩ = some (.string g.name) := ((Hb1.out.trans (hl_w1.mono (by simp; omega))).cell (p := ⟨blk, off + j * 4, none⟩) hblk).trans p0
              have q1 : w1.cell? ⟨wr.heap.size, 0, none⟩ = some (.string f.name) := by rw [hl_w1.cell (p := ⟨wr.heap.size, 0, none⟩) (by simp), World.cell?_alloc_at _ _ _ _ rfl]; rfl
              clear hg p0 hk0 d0 d1 d2 d3
              go_wp2_with fail
              have hk1 : decide ((0 : Int) < ((j + 1 : Nat) : Int)) = true := by simp
              have hk2 : ((j + 1 : Nat) : Int) - 1 = (j : Int) := by omega
              clear Hcv
              go_quiet (fail)
              go_wp2_with fail
              · have hle : leS f.name g.name = true := by
                  have h : Op.bytesLess f.name.toList g.name.toList = true ∨ (f.name.toList == g.name.toList) = true := by assumption
                  unfold leS; rw [Bool.or_eq_true]; exact h
                go_ret
                exact ⟨ret_i (by rw [← Hstep.out, fldsGo, h1, h2]; simp [prevAt, Hg.out, hle]), Hb1.out.trans ((hl_w1.mono (by simp; omega)).trans (below_drewN _ _ _))⟩
              · have hle : Hid (leS f.name g.name = false) := by
                  have h : Op.bytesLess f.name.toList g.name.toList = false ∧ (f.name.toList == g.name.toList) = false := by assumption
                  show leS _ _ = _; unfold leS; rw [h.1, h.2]; rfl
                go_roundw
                case rel => exact ⟨j + 1 + 1, by omega, by go_num, by rw [← Hstep.out, fldsGo, h1, h2]; simp [prevAt, Hg.out, Hf.out, hle.out], Hb1.out.trans ((hl_w1.mono (by simp; omega)).trans (below_drewN _ _ _))⟩
                case measure => simp [intOf]; omega
          · go_wp2_with fail
            refine (Hcv.out _ Hb1.out).mono ?_
            rintro e w1 ⟨rfl, hl_w1⟩
            have hz_w1 := hl_w1.size
            go_wp2_with fail
            go_ret
            exact ⟨ret_i (by rw [← Hstep.out, fldsGo, h1]; simp [h2]), Hb1.out.trans (hl_w1.mono (by simp; omega))⟩
        · have h1 : L.isKey f.name = false := by simpa using h1
          go_wp2_with fail
          refine (isKey_any f.name _ hfs1).mono ?_
          rintro e _ ⟨rfl, rfl⟩
          rw [h1]
          go_wp2_with fail
          go_ret
          exact ⟨ret_i (by rw [← Hstep.out, fldsGo, h1]; simp), Hb1.out⟩
      · go_wp2_with fail
        go_ret
        exact ⟨ret_i (by rw [← Hr.out, List.drop_eq_nil_of_le (by omega)]; rfl), hbl⟩

end Go.Proofs.YtmlpkejeglpciaaDoor
