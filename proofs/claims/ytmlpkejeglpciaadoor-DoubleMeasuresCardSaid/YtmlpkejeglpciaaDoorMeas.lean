/- What person.CheckMeasures and handref2.MeasuresFault return. -/
import Derived.Test.YtmlpkejeglpciaaDoorRep
import Derived.Test.YtmlpkejeglpciaaDoorRefKey
namespace Go.Proofs.YtmlpkejeglpciaaDoor
open Go.RowKit
structure Meas where
  name : ByteArray
  how : Int
  far : Int
  pts : Int
def Meas.cells (f : Meas) : List Value := [.string f.name, .int .i64 f.how, .int .i64 f.far, .int .i64 f.pts]
def rMeas : Rep Meas := .flat 4 Meas.cells (fun _ => rfl)
def measGo : List Meas → Int
  | [] => 0
  | m :: r => if L.isKey m.name = false then 5 else if ¬ (1 ≤ m.how ∧ m.how ≤ 3) then 4 else
    if ¬ ((if m.how = 1 then m.far = 0 else 1 ≤ m.far ∧ m.far ≤ 20) ∧ (-1000 ≤ m.pts ∧ m.pts ≤ 1000)) then 1 else measGo r
def measFault (l : List Meas) : Int := if l.length = 0 then 3 else if 20 < l.length then 2 else measGo l
theorem Sl.meas {N : Nat → Prop} {w : World} {A : Option Addr} {xs : List Meas} (h : Sl rMeas N w A xs) (k : Nat) (f : Meas) (hk : xs[k]? = some f) : ∃ blk off, A = some ⟨blk, off, none⟩ ∧ blk < w.heap.size ∧
    w.cell? ⟨blk, off + k * 4, none⟩ = some (.string f.name) ∧ w.cell? ⟨blk, off + k * 4 + 1, none⟩ = some (.int .i64 f.how) ∧ w.cell? ⟨blk, off + k * 4 + 2, none⟩ = some (.int .i64 f.far) ∧ w.cell? ⟨blk, off + k * 4 + 3, none⟩ = some (.int .i64 f.pts) := by
  obtain ⟨blk, off, l, e, h1, _, h3, h4⟩ := h k f hk
  obtain rfl : l = Meas.cells f := h3
  exact ⟨blk, off, e, h1, h4 0 _ rfl, h4 1 _ rfl, h4 2 _ rfl, h4 3 _ rfl⟩
set_option maxHeartbeats 4000000 in
set_option maxRecDepth 100000 in
theorem checkMeasures_any (N : Nat → Prop) (A : Option Addr) (xs : List Meas) (c : Nat) (w : World) (hS : Sl rMeas N w A xs) (hsm : ∀ f ∈ xs, f.name.size ≤ 1000000000) (hn : xs.length ≤ 1000000000) :
    Calls Tryd.prog 9 #[.slice A xs.length c] w fun e w' => e = .returned (.int .i64 (measFault xs)) ∧ Below w.heap.size w w' := by
  have HS := Lib.hid hS
  have Hsm := Lib.hid hsm
  clear hS hsm
  obtain ⟨R, HR⟩ : ∃ R, Hid (measFault xs = R) := ⟨_, Lib.hid rfl⟩
  rw [HR.out]
  by_cases h0 : xs.length = 0
  · have h0' : ((xs.length : Int) == 0) = true := by simpa using h0
    have HR2 : Hid (3 = R) := by show _ = _; rw [← HR.out, measFault, if_pos h0]
    clear HR
    go_enter Tryd.func9, Tryd.ntmps9
    go_wp2_with fail
    go_ret
    exact ⟨ret_i (by rw [← HR2.out]), Below.refl _ _⟩
  · have h0' : ((xs.length : Int) == 0) = false := by simpa using h0
    by_cases h20 : 20 < xs.length
    · go_enter Tryd.func9, Tryd.ntmps9
      go_wp2_with fail
      go_ret
      exact ⟨ret_i (by rw [← HR.out, measFault, if_neg h0, if_pos h20]), Below.refl _ _⟩
    · have HR2 : Hid (measGo xs = R) := by show _ = _; rw [← HR.out, measFault, if_neg h0, if_neg h20]
      clear HR
      go_enter Tryd.func9, Tryd.ntmps9
      go_wp2_with fail
      go_loopw [17] (fun i wr => ∃ k : Nat, k ≤ xs.length ∧ i = .int .i64 k ∧ measGo (xs.drop k) = R ∧ Below w.heap.size w wr) (fun i _ => xs.length - (intOf i).toNat)
      case atStart => exact ⟨0, Nat.zero_le _, rfl, HR2.out, Below.refl _ _⟩
      case round =>
        clear HR2
        obtain ⟨k, hk, rfl, hr, hbl⟩ := hrel
        have Hr := Lib.hid hr
        clear hr
        by_cases hlt : k < xs.length
        · obtain ⟨f, hf⟩ : ∃ f, xs[k]? = some f := ⟨_, List.getElem?_eq_getElem hlt⟩
          obtain ⟨blk, off, rfl, hblk, c0, c1, c2, c3⟩ := HS.out.meas k f hf
          have d0 := (hbl.cell (p := ⟨blk, off + k * 4, none⟩) hblk).trans c0
          have d1 := (hbl.cell (p := ⟨blk, off + k * 4 + 1, none⟩) hblk).trans c1
          have d2 := (hbl.cell (p := ⟨blk, off + k * 4 + 2, none⟩) hblk).trans c2
          have d3 := (hbl.cell (p := ⟨blk, off + k * 4 + 3, none⟩) hblk).trans c3
          have hfs1 : f.name.size ≤ 1000000000 := Hsm.out f (List.mem_of_getElem? hf)
          have Hstep : Hid (measGo (f :: xs.drop (k + 1)) = R) := by
            show _ = _
            rw [← Hr.out, List.drop_eq_getElem_cons hlt]
            have : xs[k] = f := by simpa [List.getElem?_eq_getElem hlt] using hf
            rw [this]
          clear Hr c0 c1 c2 c3 hf
          have Hb1 : Hid (Below w.heap.size w (wr.alloc (.cells #[.string f.name, .int .i64 f.how, .int .i64 f.far, .int .i64 f.pts] 45))) := hbl.alloc hbl.size _
          have hsz := hbl.size
          obtain ⟨K, HK⟩ : ∃ K, Hid (L.isKey f.name = K) := ⟨_, Lib.hid rfl⟩
          have HKc : Hid (∀ w, Calls Tryd.prog 25 #[.string f.name] w fun e w' => e = .returned (.bool K) ∧ w = w') := fun w => HK.out ▸ isKey_any f.name w hfs1
          obtain ⟨nm, hw, fr, pt⟩ := f
          dsimp only at *
          go_wp2_with (first | (go_at_call 25; refine (HKc.out _).mono ?_; rintro e _ ⟨rfl, rfl⟩) | (go_at_call 26; refine (within_any _ _ _ _).mono ?_; rintro e _ ⟨rfl, rfl⟩))
          all_goals first
            | (go_ret
               refine ⟨ret_i ?_, Hb1.out⟩
               rw [← Hstep.out, measGo, HK.out]
               clear Hstep HS Hsm HKc Hb1
               dsimp only
               first
                 | (simp_all; done)
                 | (simp_all; omega)
                 | (simp_all; intros; omega))
            | (go_roundw
               case rel =>
                 refine ⟨k + 1, by omega, by go_num, ?_, Hb1.out⟩
                 rw [← Hstep.out, measGo, HK.out]
                 clear Hstep HS Hsm HKc Hb1
                 dsimp only
                 first
                   | (simp_all; done)
                   | (simp_all; omega)
                   | (simp_all; intros; omega)
               case measure => simp [intOf]; omega)
        · go_wp2_with fail
          go_ret
          exact ⟨ret_i (by rw [← Hr.out, List.drop_eq_nil_of_le (by omega)]; rfl), hbl⟩
set_option maxHeartbeats 4000000 in
set_option maxRecDepth 100000 in
theorem refMeasures_any (N : Nat → Prop) (A : Option Addr) (xs : List Meas) (c : Nat) (w : World) (hS : Sl rMeas N w A xs) (hsm : ∀ f ∈ xs, f.name.size ≤ 1000000000) (hn : xs.length ≤ 1000000000) :
    Calls Tryd.prog 8 #[.slice A xs.length c] w fun e w' => e = .returned (.int .i64 (measFault xs)) ∧ Below w.heap.size w w' := by
  have HS := Lib.hid hS
  have Hsm := Lib.hid hsm
  clear hS hsm
  obtain ⟨R, HR⟩ : ∃ R, Hid (measFault xs = R) := ⟨_, Lib.hid rfl⟩
  rw [HR.out]
  by_cases h0 : xs.length = 0
  · have h0' : ((xs.length : Int) == 0) = true := by simpa using h0
    have HR2 : Hid (3 = R) := by show _ = _; rw [← HR.out, measFault, if_pos h0]
    clear HR
    go_enter Tryd.func8, Tryd.ntmps8
    go_wp2_with fail
    go_ret
    exact ⟨ret_i (by rw [← HR2.out]), Below.refl _ _⟩
  · have h0' : ((xs.length : Int) == 0) = false := by simpa using h0
    by_cases h20 : 20 < xs.length
    · go_enter Tryd.func8, Tryd.ntmps8
      go_wp2_with fail
      go_ret
      exact ⟨ret_i (by rw [← HR.out, measFault, if_neg h0, if_pos h20]), Below.refl _ _⟩
    · have HR2 : Hid (measGo xs = R) := by show _ = _; rw [← HR.out, measFault, if_neg h0, if_neg h20]
      clear HR
      go_enter Tryd.func8, Tryd.ntmps8
      go_wp2_with fail
      go_loopw [13] (fun i wr => ∃ k : Nat, k ≤ xs.length ∧ i = .int .i64 k ∧ measGo (xs.drop k) = R ∧ Below w.heap.size w wr) (fun i _ => xs.length - (intOf i).toNat)
      case atStart => exact ⟨0, Nat.zero_le _, rfl, HR2.out, Below.refl _ _⟩
      case round =>
        clear HR2
        obtain ⟨k, hk, rfl, hr, hbl⟩ := hrel
        have Hr := Lib.hid hr
        clear hr
        by_cases hlt : k < xs.length
        · obtain ⟨f, hf⟩ : ∃ f, xs[k]? = some f := ⟨_, List.getElem?_eq_getElem hlt⟩
          obtain ⟨blk, off, rfl, hblk, c0, c1, c2, c3⟩ := HS.out.meas k f hf
          have d0 := (hbl.cell (p := ⟨blk, off + k * 4, none⟩) hblk).trans c0
          have d1 := (hbl.cell (p := ⟨blk, off + k * 4 + 1, none⟩) hblk).trans c1
          have d2 := (hbl.cell (p := ⟨blk, off + k * 4 + 2, none⟩) hblk).trans c2
          have d3 := (hbl.cell (p := ⟨blk, off + k * 4 + 3, none⟩) hblk).trans c3
          have hfs1 : f.name.size ≤ 1000000000 := Hsm.out f (List.mem_of_getElem? hf)
          have Hstep : Hid (measGo (f :: xs.drop (k + 1)) = R) := by
            show _ = _
            rw [← Hr.out, List.drop_eq_getElem_cons hlt]
            have : xs[k] = f := by simpa [List.getElem?_eq_getElem hlt] using hf
            rw [this]
          clear Hr c0 c1 c2 c3 hf
          have Hb1 : Hid (Below w.heap.size w (wr.alloc (.cells #[.string f.name, .int .i64 f.how, .int .i64 f.far, .int .i64 f.pts] 45))) := hbl.alloc hbl.size _
          have hsz := hbl.size
          obtain ⟨K, HK⟩ : ∃ K, Hid (L.isKey f.name = K) := ⟨_, Lib.hid rfl⟩
          have HKc : Hid (∀ w, Calls Tryd.prog 23 #[.string f.name] w fun e w' => e = .returned (.bool K) ∧ Below w.heap.size w w') := fun w => HK.out ▸ Key_any f.name w hfs1
          obtain ⟨nm, hw, fr, pt⟩ := f
          dsimp only at *
          go_wp2_with (first | (go_at_call 23; refine (HKc.out _).mono ?_; rintro e wk ⟨rfl, hlk⟩; have q := fun j => hlk.cell (p := ⟨wr.heap.size, j, none⟩) (by simp); have q1 := (q 1).trans (World.cell?_alloc_at _ _ _ _ rfl); have q2 := (q 2).trans (World.cell?_alloc_at _ _ _ _ rfl); have q3 := (q 3).trans (World.cell?_alloc_at _ _ _ _ rfl); clear q) | (go_at_call 24; refine (in_any _ _ _ _).mono ?_; rintro e _ ⟨rfl, rfl⟩))
          all_goals first
            | (go_ret
               refine ⟨ret_i ?_, (Hb1.out.trans (hlk.mono (by simp; omega)))⟩
               rw [← Hstep.out, measGo, HK.out]
               clear Hstep HS Hsm HKc Hb1
               dsimp only
               first
                 | (simp_all; done)
                 | (simp_all; omega)
                 | (simp_all; intros; omega))
            | (go_roundw
               case rel =>
                 refine ⟨k + 1, by omega, by go_num, ?_, (Hb1.out.trans (hlk.mono (by simp; omega)))⟩
                 rw [← Hstep.out, measGo, HK.out]
                 clear Hstep HS Hsm HKc Hb1
                 dsimp only
                 first
                   | (simp_all; done)
                   | (simp_all; omega)
                   | (simp_all; intros; omega)
               case measure => simp [intOf]; omega)
        · go_wp2_with fail
          go_ret
          exact ⟨ret_i (by rw [← Hr.out, List.drop_eq_nil_of_le (by omega)]; rfl), hbl⟩
end Go.Proofs.YtmlpkejeglpciaaDoor
