/- Several texts in one: GenId, Odd, GenZone, GenEvt, CopyEv. -/
import Derived.Test.YtmlpkejeglpciaaGreatDoorPkAM
import Derived.Test.YtmlpkejeglpciaaGreatDoorPkAB
import Derived.Test.YtmlpkejeglpciaaGreatDoorPkAC
import Derived.Test.YtmlpkejeglpciaaGreatDoorPkAA
import Derived.Test.YtmlpkejeglpciaaGreatDoorPkAJ
import Derived.Test.YtmlpkejeglpciaaGreatDoorPkAE
import Derived.OneCell
import Derived.Test.YtmlpkejeglpciaaGreatDoorPkAD
import Derived.Test.YtmlpkejeglpciaaGreatDoorPkAF
import Derived.Test.YtmlpkejeglpciaaGreatDoorPkAG
/- What the generators SpoiledId and Id make. -/
namespace Go.Proofs.YtmlpkejeglpciaaGreatDoor
open Go.RowKit
def Pool (w : World) : Prop := ∀ i, i < 10 → ∃ (k : Int) (t : ByteArray), t.size ≤ 100 ∧ w.cell? ⟨2, i * 2, none⟩ = some (.int .i64 k) ∧ w.cell? ⟨2, i * 2 + 1, none⟩ = some (.string t)
theorem Pool.lt {w : World} (h : Pool w) : 2 < w.heap.size := by
  obtain ⟨k, t, _, h1, _⟩ := h 0 (by omega)
  exact World.block_lt_of_cell? w _ h1
theorem Pool.keep {b : Nat} {w w' : World} (h : Pool w) (k : SK b w w') (hb : 2 ≠ b) : Pool w' := fun i hi => by
  obtain ⟨z, t, h0, h1, h2⟩ := h i hi
  exact ⟨z, t, h0, (World.cell?_of_block (k.block _ h.lt hb)).trans h1, (World.cell?_of_block (k.block _ h.lt hb)).trans h2⟩
def DrawsId (b m : Nat) (w : World) (e : Ending) (w' : World) : Prop := ∃ (k : Int) (t : ByteArray), t.size ≤ 10000 ∧ e = .returned (.agg #[.int .i64 k, .string t]) ∧ SK b w w' ∧ Strm b m w'
set_option maxHeartbeats 4000000 in
set_option maxRecDepth 100000 in
theorem spoiledId_any (b m : Nat) (w : World) (hs : Strm b m w) (hm : m ≤ 10000000000) (hP : Pool w) (hPb : 2 ≠ b) :
    Calls Tryz.prog 167 #[.pointer (some ⟨b, 0, none⟩)] w (DrawsId b (m + 9) w) := by
  have hlt := hs.lt
  have HP := Lib.hid hP
  have hPlt := hP.lt
  clear hP
  have g0 := (G.start hs).alloc (.cells #[.int .i64 0, .string ⟨#[]⟩] 44)
  have bR0 := LV.new w w.heap.size #[.int .i64 0, .string ⟨#[]⟩] 44 rfl
  go_enter Tryz.func167, Tryz.ntmps167
  go_wp2_with fail
  refine (next_any b m _ _ g0.s (by omega) (by omega) (by omega)).mono ?_
  rintro e w1 ⟨i, i_lo, i_hi, rfl, hk_w1, hs_w1⟩
  have hz1 := hk_w1.size
  simp only [World.size_alloc] at hz1
  obtain ⟨j, rfl⟩ := Int.eq_ofNat_of_zero_le i_lo
  have HP1 : Hid (Pool w1) := (HP.out.keep (SK.ofBelow (b := b) ((Below.refl _ _).alloc (Nat.le_refl _) (.cells #[.int .i64 0, .string ⟨#[]⟩] 44))) hPb).keep hk_w1 hPb
  obtain ⟨k, t, t_le, pc0, pc1⟩ := HP1.out j (by omega)
  have g1 := (g0.step hk_w1 hs_w1).alloc (.cells #[.int .i64 k, .string t] 44)
  have bR1 := (LV.keep bR0 hk_w1 (by omega)).alloc (.cells #[.int .i64 k, .string t] 44)
  have bX1 := LV.new w1 w1.heap.size #[.int .i64 k, .string t] 44 rfl
  clear hk_w1 hs_w1 bR0 g0 HP HP1
  go_wp2_with fail
  refine (next_any b _ _ _ g1.s (by omega) (by omega) (by omega)).mono ?_
  rintro e w2 ⟨r, r_lo, r_hi, rfl, hk_w2, hs_w2⟩
  clear pc0 pc1
  have g2 := g1.step hk_w2 hs_w2
  have bX2 := LV.keep bX1 hk_w2 (by omega)
  have bR2 := LV.keep bR1 hk_w2 (by omega)
  clear hk_w2 hs_w2 g1 bX1 bR1
  by_cases h0 : r = 0
  · subst h0
    go_wp2_with fail
    refine (pick_le b _ _ _ 0 5 g2.s (by simp) (by simp) (intsIn_of (by decide)) (by simp) (by simp) (by omega)).mono ?_
    rintro e w3 ⟨k3, k3_lo, k3_hi, rfl, hk_w3, hs_w3⟩
    have g3 := g2.step hk_w3 hs_w3
    have bX3 := LV.keep bX2 hk_w3 (by omega)
    have bR3 := LV.keep bR2 hk_w3 (by omega)
    clear hk_w3 hs_w3 g2 bX2 bR2
    have g4 := g3.set (X := w1.heap.size) (by omega) (by omega) 0 (.int .i64 k3)
    have bX4 := bX3.set 0 (.int .i64 k3) #[.int .i64 k3, .string t] rfl
    have bR4 := bR3.other (Y := w1.heap.size) (by omega) 0 (.int .i64 k3)
    have bX3_c0 := bX3.cell 0 _ rfl
    have bX3_c1 := bX3.cell 1 _ rfl
    have bX3_f0 := bX3.free 0
    have bX3_f1 := bX3.free 1
    clear bX3 bR3 g3
    have gf := (g4.set (X := w.heap.size) (by omega) (Nat.le_refl _) 0 (.int .i64 k3)).set (X := w.heap.size) (by omega) (Nat.le_refl _) 1 (.string t)
    have bX4_c0 := bX4.cell 0 _ rfl
    have bX4_c1 := bX4.cell 1 _ rfl
    have bX4_f0 := bX4.free 0
    have bX4_f1 := bX4.free 1
    have bR4_c0 := bR4.cell 0 _ rfl
    have bR4_c1 := bR4.cell 1 _ rfl
    have bR4_f0 := bR4.free 0
    have bR4_f1 := bR4.free 1
    clear g4 bX4 bR4
    go_wp2_with fail
    exact bodyPost_ret (v := .agg #[.int .i64 k3, .string t]) (by simp [results, Tryz.results167, go_sem, bR4_c0, bR4_c1]) rfl ⟨_, _, (by omega), rfl, gf.k, gf.s.mono (by omega)⟩
  · have h0' : (r == 0) = false := by simpa using h0
    by_cases h1 : r = 1
    · subst h1
      clear h0 h0'
      go_wp2_with fail
      refine (repeat_le ⟨#[97]⟩ 65 1000 _ (by decide) (by decide) (by decide) (by decide)).mono ?_
      rintro e w3 ⟨ra, ra_le, rfl, hl_w3⟩
      have g3 := g2.below hl_w3
      have bX3 := LV.keep bX2 (SK.ofBelow (b := b) hl_w3) (by omega)
      have bR3 := LV.keep bR2 (SK.ofBelow (b := b) hl_w3) (by omega)
      clear hl_w3 bX2 bR2 g2
      go_wp2_with fail
      refine (repeat_le ⟨#[98]⟩ 31 1000 _ (by decide) (by decide) (by decide) (by decide)).mono ?_
      rintro e w4 ⟨rb, rb_le, rfl, hl_w4⟩
      have g4 := g3.below hl_w4
      have bX4 := LV.keep bX3 (SK.ofBelow (b := b) hl_w4) (by omega)
      have bR4 := LV.keep bR3 (SK.ofBelow (b := b) hl_w4) (by omega)
      clear hl_w4 bX3 bR3 g3
      go_wp2_with fail
      refine (repeat_le ⟨#[97]⟩ 64 1000 _ (by decide) (by decide) (by decide) (by decide)).mono ?_
      rintro e w5 ⟨rc, rc_le, rfl, hl_w5⟩
      have g5 := g4.below hl_w5
      have bX5 := LV.keep bX4 (SK.ofBelow (b := b) hl_w5) (by omega)
      have bR5 := LV.keep bR4 (SK.ofBelow (b := b) hl_w5) (by omega)
      clear hl_w5 bX4 bR4 g4
      go_wp2_with fail
      refine (repeat_le ⟨#[98]⟩ 12 1000 _ (by decide) (by decide) (by decide) (by decide)).mono ?_
      rintro e w6 ⟨rd, rd_le, rfl, hl_w6⟩
      have g6 := g5.below hl_w6
      have bX6 := LV.keep bX5 (SK.ofBelow (b := b) hl_w6) (by omega)
      have bR6 := LV.keep bR5 (SK.ofBelow (b := b) hl_w6) (by omega)
      clear hl_w6 bX5 bR5 g5
      have l1 : (⟨#[64, 98, 46, 100, 101]⟩ : ByteArray).size = 5 := rfl
      have l2 : (⟨#[97, 64]⟩ : ByteArray).size = 2 := rfl
      have l3 : (⟨#[46, 100, 101]⟩ : ByteArray).size = 3 := rfl
      have l4 : (⟨#[64]⟩ : ByteArray).size = 1 := rfl
      have L1 := Lib.hid l1
      have L2 := Lib.hid l2
      have L3 := Lib.hid l3
      have L4 := Lib.hid l4
      clear l1 l2 l3 l4
      go_wp2_with fail
      refine (one_le b _ _ _ 5000 g6.s (by simp) (by simp) (by repeat (first | exact strsLe_nil | refine strsLe_cons (by first | decide | (simp only [ByteArray.size_append, L1.out, L2.out, L3.out, L4.out]; omega)) ?_)) (by simp) (by simp) (by omega)).mono ?_
      rintro e w7 ⟨t7, t7_le, rfl, hk_w7, hs_w7⟩
      have g7 := g6.step hk_w7 hs_w7
      have bX7 := LV.keep bX6 hk_w7 (by omega)
      have bR7 := LV.keep bR6 hk_w7 (by omega)
      clear hk_w7 hs_w7 g6 bX6 bR6
      have g8 := g7.set (X := w1.heap.size) (by omega) (by omega) 1 (.string t7)
      have bX8 := bX7.set 1 (.string t7) #[.int .i64 k, .string t7] rfl
      have bR8 := bR7.other (Y := w1.heap.size) (by omega) 1 (.string t7)
      have bX7_c0 := bX7.cell 0 _ rfl
      have bX7_c1 := bX7.cell 1 _ rfl
      have bX7_f0 := bX7.free 0
      have bX7_f1 := bX7.free 1
      clear bX7 bR7 g7
      have gf := (g8.set (X := w.heap.size) (by omega) (Nat.le_refl _) 0 (.int .i64 k)).set (X := w.heap.size) (by omega) (Nat.le_refl _) 1 (.string t7)
      have bX8_c0 := bX8.cell 0 _ rfl
      have bX8_c1 := bX8.cell 1 _ rfl
      have bX8_f0 := bX8.free 0
      have bX8_f1 := bX8.free 1
      have bR8_c0 := bR8.cell 0 _ rfl
      have bR8_c1 := bR8.cell 1 _ rfl
      have bR8_f0 := bR8.free 0
      have bR8_f1 := bR8.free 1
      clear g8 bX8 bR8
      go_wp2_with fail
      exact bodyPost_ret (v := .agg #[.int .i64 k, .string t7]) (by simp [results, Tryz.results167, go_sem, bR8_c0, bR8_c1]) rfl ⟨_, _, (by omega), rfl, gf.k, gf.s.mono (by omega)⟩
    · have h1' : (r == 1) = false := by simpa using h1
      clear h0 h1
      have bX2_c0 := bX2.cell 0 _ rfl
      have bX2_c1 := bX2.cell 1 _ rfl
      have bX2_f0 := bX2.free 0
      have bX2_f1 := bX2.free 1
      go_wp2_with fail
      refine (changed_any b _ t _ _ g2.s (by omega) (by decide) (by omega)).mono ?_
      rintro e w3 ⟨t3, t3_le, rfl, hk_w3, hs_w3⟩
      clear bX2_c0 bX2_c1 bX2_f0 bX2_f1
      have g3 := g2.step hk_w3 hs_w3
      have bX3 := LV.keep bX2 hk_w3 (by omega)
      have bR3 := LV.keep bR2 hk_w3 (by omega)
      clear hk_w3 hs_w3 g2 bX2 bR2
      have g4 := g3.set (X := w1.heap.size) (by omega) (by omega) 1 (.string t3)
      have bX4 := bX3.set 1 (.string t3) #[.int .i64 k, .string t3] rfl
      have bR4 := bR3.other (Y := w1.heap.size) (by omega) 1 (.string t3)
      have e10 : (⟨#[97, 98, 48, 64, 46, 45, 43, 95, 65, 90]⟩ : ByteArray).size = 10 := rfl
      have t4_le : t3.size ≤ 10000 := by rw [e10] at t3_le; omega
      clear e10
      have bX3_c0 := bX3.cell 0 _ rfl
      have bX3_c1 := bX3.cell 1 _ rfl
      have bX3_f0 := bX3.free 0
      have bX3_f1 := bX3.free 1
      clear bX3 bR3 g3 t3_le
      have gf := (g4.set (X := w.heap.size) (by omega) (Nat.le_refl _) 0 (.int .i64 k)).set (X := w.heap.size) (by omega) (Nat.le_refl _) 1 (.string t3)
      have bX4_c0 := bX4.cell 0 _ rfl
      have bX4_c1 := bX4.cell 1 _ rfl
      have bX4_f0 := bX4.free 0
      have bX4_f1 := bX4.free 1
      have bR4_c0 := bR4.cell 0 _ rfl
      have bR4_c1 := bR4.cell 1 _ rfl
      have bR4_f0 := bR4.free 0
      have bR4_f1 := bR4.free 1
      clear g4 bX4 bR4
      go_wp2_with fail
      exact bodyPost_ret (v := .agg #[.int .i64 k, .string t3]) (by simp [results, Tryz.results167, go_sem, bR4_c0, bR4_c1]) rfl ⟨_, _, t4_le, rfl, gf.k, gf.s.mono (by omega)⟩
end Go.Proofs.YtmlpkejeglpciaaGreatDoor

/- What the generator odd makes. -/
namespace Go.Proofs.YtmlpkejeglpciaaGreatDoor
open Go.RowKit
set_option maxHeartbeats 1000000 in
theorem odd_any (b m : Nat) (lo hi : Int) (w : World) (hs : Strm b m w) (h : lo ≤ hi) (hlo : -1000000000000 ≤ lo) (hhi : hi ≤ 1000000000000) (hm : m ≤ 100000000000) :
    Calls Tryz.prog 38 #[.pointer (some ⟨b, 0, none⟩), .int .i64 lo, .int .i64 hi] w (DrawsIn b (m + 2) (-1099511627776) 1099511627776 w) := by
  have g0 := G.start hs
  clear hs
  go_enter Tryz.func38, Tryz.ntmps38
  go_wp2_with fail
  refine (flip_any b m _ _ g0.s (by omega) (by omega) (by omega)).mono ?_
  rintro e w1 ⟨r, rfl, hk_w1, hs_w1⟩
  have g1 := g0.step hk_w1 hs_w1
  clear hk_w1 hs_w1 g0
  cases r
  · go_wp2_with fail
    refine (range_any b (m + 1) _ _ _ g1.s (by omega) (by omega) (by omega) (by omega)).mono ?_
    rintro e w2 ⟨n, n_lo, n_hi, rfl, hk_w2, hs_w2⟩
    have g2 := g1.step hk_w2 hs_w2
    go_wp2_with fail
    go_ret
    exact ⟨n, by omega, by omega, rfl, g2.k, g2.s⟩
  · go_wp2_with fail
    refine (pick_le b _ _ _ (-1099511627776) 1099511627776 g1.s (by simp) (by simp) (by repeat (first | exact intsIn_nil | refine intsIn_cons (by omega) ?_)) (by simp) (by simp) (by omega)).mono ?_
    rintro e w2 ⟨n, n_lo, n_hi, rfl, hk_w2, hs_w2⟩
    have g2 := g1.step hk_w2 hs_w2
    go_wp2_with fail
    go_ret
    exact ⟨n, by omega, by omega, rfl, g2.k, g2.s⟩
end Go.Proofs.YtmlpkejeglpciaaGreatDoor

/- What the generators odd, RightZone and Zone make. -/
namespace Go.Proofs.YtmlpkejeglpciaaGreatDoor
open Go.RowKit
theorem LV.grown {w w' : World} {X : Nat} {cs : Array Value} {T : TypeId} {row : Option Nat} (h : LV w X cs T) (g : w.grownBy w' row) (hne : row ≠ some X) : LV w' X cs T := (g.block X h.lt (fun e => hne e.symm)).trans h
section
variable {α : Type} {r : Rep α} {N : Nat → Prop} {B E : Nat} {w : World} {v : Value} {xs : List α}
theorem Own.base {B' : Nat} (h : Own r N B E w v xs) (hb : B' ≤ B) : Own r N B' E w v xs := by
  obtain ⟨ls, h1, h2, ho⟩ := h
  refine ⟨ls, h1, h2, ho.1, ?_⟩
  rcases ho.2 with h0 | ⟨g, cap, cur, e, hB, hrest⟩
  · exact .inl h0
  · exact .inr ⟨g, cap, cur, e, by omega, hrest⟩
theorem Own.lit {f : α → List Value} (hf : r.Flat f) (w0 : World) (cs : Array Value) (n : Nat) (hb : B ≤ w0.heap.size) (hn : n = xs.length) (hm : n ≤ 1000000) (hcs : cs.toList = (xs.map f).flatten) (hs : cs.size = n * r.size) :
    Own r N B E (w0.alloc (.cells cs E)) (.slice (some ⟨w0.heap.size, 0, none⟩) n n) xs := by
  subst hn
  refine ⟨xs.map f, by simp, fun i x l h1 h2 => (hf _ _ _ _).2 ?_, ?_⟩
  · rw [List.getElem?_map, h1] at h2
    exact (Option.some.inj h2).symm
  · have := World.ownsRow_lit (base := B) (e := E) (size := r.size) w0 cs xs.length hb (by unfold maxLen; omega) hs
    rw [hcs] at this
    exact this
end
section
variable {ops : Array Oper} {rest : List Oper} {o : Oper} {a : Act} {Q : Exit → Act → World → Prop}
end
theorem flatSft : rSft.Flat Sft.cells := fun _ _ _ _ => Iff.rfl
end Go.Proofs.YtmlpkejeglpciaaGreatDoor

/- What the generator Event makes. -/
namespace Go.Proofs.YtmlpkejeglpciaaGreatDoor
open Go.RowKit
def ENames (w : World) : Prop := ∀ k, k < 4 → ∃ s : ByteArray, s.size ≤ 10 ∧ w.cell? ⟨0, k, none⟩ = some (.string s)
theorem ENames.lt {w : World} (h : ENames w) : 0 < w.heap.size := by
  obtain ⟨s, _, h⟩ := h 0 (by omega)
  exact World.block_lt_of_cell? w _ h
theorem ENames.keep {b : Nat} {w w' : World} (h : ENames w) (k : SK b w w') (hb : 0 ≠ b) : ENames w' := fun i hi => by
  obtain ⟨s, hs, hc⟩ := h i hi
  exact ⟨s, hs, (World.cell?_of_block (k.block _ h.lt hb)).trans hc⟩
structure EvSm (x : Evt) : Prop where
  id : x.id.size ≤ 1000
  nm : x.name.size ≤ 1000
  tx : x.text.size ≤ 10000
  fl : x.flds.length ≤ 40
  fs : ∀ f ∈ x.flds, f.tiny
theorem EvSm.ok {x : Evt} (h : EvSm x) : EvtOk x := ⟨Nat.le_trans h.id (by decide), Nat.le_trans h.nm (by decide), Nat.le_trans h.tx (by decide), Nat.le_trans h.fl (by decide), fun f hf => by
  obtain ⟨h1, h2⟩ := h.fs f hf
  exact ⟨by omega, by omega⟩⟩
def DrawsEvt (b m : Nat) (w : World) (e : Ending) (w' : World) : Prop := ∃ (x : Evt) (A : Option Addr) (c : Nat), e = .returned (.agg (evCs x A c)) ∧ EvSm x ∧ St b m w w' [.sl rFld A x.flds]
abbrev ezCs : Array Value := #[.string ⟨#[]⟩, .string ⟨#[]⟩, .int .i64 0, .int .i64 0, .string ⟨#[]⟩, .slice none 0 0]
theorem loadEv {w : World} {X : Nat} {a b c d e f : Value} (h : LV w X #[a, b, c, d, e, f] 47) : (loadVar 47 ⟨X, 0, none⟩).run Tryz.prog w = .ok (.agg #[a, b, c, d, e, f]) w := by
  have c0 := h.all
  go_simp
def evFact (b B : Nat) (id : ByteArray) (at' : Int) (i : Nat) (v : Value) (w : World) : Prop :=
  match i with
  | 2 => IsI 0 3 v
  | 3 => ∃ k : Nat, k < 4 ∧ v = .pointer (some ⟨0, k, none⟩)
  | 4 => IsS 10 v
  | 7 => IsI 0 3 v
  | 8 => ∃ k : Nat, k < 4 ∧ v = .pointer (some ⟨2, k * 2, none⟩)
  | 9 => ∃ (k : Int) (t : ByteArray), v = .agg #[.int .i64 k, .string t] ∧ t.size ≤ 100
  | 11 => ∃ xs : List Fld, Own rFld (Off b) B 123 w v xs ∧ xs.length ≤ 7 ∧ ∀ f ∈ xs, f.tiny
  | 12 => ∃ (nm : ByteArray) (k : Int) (t : ByteArray) (xs : List Fld) (A : Option Addr) (c : Nat), v = .agg (evCs ⟨id, nm, at', k, t, xs⟩ A c) ∧ nm.size ≤ 10 ∧ t.size ≤ 100 ∧ Own rFld (Off b) B 123 w (.slice A xs.length c) xs ∧ xs.length ≤ 7 ∧ ∀ f ∈ xs, f.tiny
  | 13 => IsNew B ezCs 47 v w
  | _ => True
set_option maxHeartbeats 8000000 in
set_option maxRecDepth 100000 in
theorem event_any (b m : Nat) (id : ByteArray) (at' : Int) (w : World) (hs : Strm b m w) (hm : m ≤ 100000000) (hid : id.size ≤ 1000) (hN : Names w) (hNb : 1 ≠ b) (hE : ENames w) (hEb : 0 ≠ b) (hP : Pool w) (hPb : 2 ≠ b) :
    Calls Tryz.prog 115 #[.pointer (some ⟨b, 0, none⟩), .string id, .int .i64 at'] w (DrawsEvt b (m + 1100) w) := by
  have S := (St.start hs).new' ezCs 47
  replace S : St b m w (w.alloc (.cells ezCs 47)) [.loc w.heap.size ezCs 47] := S
  have HN := Lib.hid hN
  have HE := Lib.hid hE
  have HP := Lib.hid hP
  clear hs hN hE hP
  obtain ⟨R, hR⟩ : ∃ R, R = w.heap.size := ⟨_, rfl⟩
  rw [← hR] at S
  go_enter Tryz.func115, Tryz.ntmps115
  go_upto_region 1 with fail
  generalize w.alloc (.cells ezCs 47) = w1 at *
  rw [← hR]
  clear hR
  refine wp_region_mixG 14 (fun _ => True) [.q 0, .q 1, .q 5, .q 6, .q 10, .f [2, 3, 4, 7, 8, 9, 11, 12, 13], .e 14] (by kernel_rfl) (by kernel_rfl) (fun _ _ => trivial) (fun KK hKK wd hd => ?_)
  replace S := S.below (hd.below _)
  have hbd : b < wd.heap.size := Nat.lt_of_lt_of_le S.b0 S.g.size
  clear hd
  refine mpG ?_
  refine free_plan [(2, 10, []), (3, 11, [(2, 10)]), (4, 12, [(3, 11)]), (7, 15, [(2, 10)]), (8, 16, [(7, 15)]), (9, 17, [(8, 16)]), (11, 19, [(7, 15)]), (12, 20, [(4, 12), (9, 17), (11, 19)]), (13, 7, [])] rfl (by kernel_rfl) (fun c w' => G b (m + 100 * c) wd w') (SK b) (evFact b wd.heap.size id at') (G.start S.g.s) (fun _ _ _ => trivial) ?_ (by rfl) ?_ ?_
  · refine all_cons (fun _ _ _ _ h => h) (all_cons (fun _ _ _ _ h => h) (all_cons (fun _ _ _ _ h => h) (all_cons (fun _ _ _ _ h => h) (all_cons (fun _ _ _ _ h => h) (all_cons (fun _ _ _ _ h => h) (all_cons (fun v _ _ k h => ?_) (all_cons (fun v _ _ k h => ?_) (all_cons (fun v _ _ k h => IsNew.keep h k hbd) all_nil))))))))
    · obtain ⟨xs, h1, h2, h3⟩ := h
      exact ⟨xs, h1.stepG k hbd, h2, h3⟩
    · obtain ⟨nm, k', t, xs, A, c, h0, h1, h2, h3, h4, h5⟩ := h
      exact ⟨nm, k', t, xs, A, c, h0, h1, h2, h3.stepG k hbd, h4, h5⟩
  · refine all_cons ?_ (all_cons ?_ (all_cons ?_ (all_cons ?_ (all_cons ?_ (all_cons ?_ (all_cons ?_ (all_cons ?_ (all_cons ?_ all_nil))))))))
    all_goals (intro o ho c ν w2 hc hinv hp; cases ho; simp only [fillD, List.foldl_cons, List.foldl_nil]; simp only [List.length_cons, List.length_nil] at hc)
    · go_wp2_with fail
      refine (next_any b _ _ _ hinv.s (by omega) (by omega) (by omega)).mono ?_
      rintro e w3 ⟨r, r_lo, r_hi, rfl, hk_w3, hs_w3⟩
      go_wp2_with fail
      refine ⟨_, rfl, hk_w3, (hinv.step hk_w3 hs_w3).mono (by omega), ?_⟩
      exact ⟨r, rfl, by omega, by omega⟩
    · obtain ⟨z, e1, z1, z2⟩ := (hp (2, 10) (by simp) : IsI 0 3 (ν 2))
      obtain ⟨q, rfl⟩ := Int.eq_ofNat_of_zero_le z1
      simp only [e1]
      go_wp2_with fail
      first | exact ⟨_, rfl, SK.refl _ _, hinv.mono (by omega), q, by omega, rfl⟩ | exact ⟨SK.refl _ _, hinv.mono (by omega), q, by omega, rfl⟩
    · obtain ⟨q, hq, e1⟩ := (hp (3, 11) (by simp) : ∃ k : Nat, k < 4 ∧ ν 3 = .pointer (some ⟨0, k, none⟩))
      obtain ⟨s, hs, hc⟩ := ((HE.out.keep S.g.k hEb).keep hinv.k hEb) q hq
      simp only [e1]
      go_wp2_with fail
      first | exact ⟨_, rfl, SK.refl _ _, hinv.mono (by omega), s, rfl, hs⟩ | exact ⟨SK.refl _ _, hinv.mono (by omega), s, rfl, hs⟩
    · go_wp2_with fail
      refine (next_any b _ _ _ hinv.s (by omega) (by omega) (by omega)).mono ?_
      rintro e w3 ⟨r, r_lo, r_hi, rfl, hk_w3, hs_w3⟩
      go_wp2_with fail
      refine ⟨_, rfl, hk_w3, (hinv.step hk_w3 hs_w3).mono (by omega), ?_⟩
      exact ⟨r, rfl, by omega, by omega⟩
    · obtain ⟨z, e1, z1, z2⟩ := (hp (7, 15) (by simp) : IsI 0 3 (ν 7))
      obtain ⟨q, rfl⟩ := Int.eq_ofNat_of_zero_le z1
      simp only [e1]
      go_wp2_with fail
      first | exact ⟨_, rfl, SK.refl _ _, hinv.mono (by omega), q, by omega, rfl⟩ | exact ⟨SK.refl _ _, hinv.mono (by omega), q, by omega, rfl⟩
    · obtain ⟨q, hq, e1⟩ := (hp (8, 16) (by simp) : ∃ k : Nat, k < 4 ∧ ν 8 = .pointer (some ⟨2, k * 2, none⟩))
      obtain ⟨k, t, ht, hc0, hc1⟩ := ((HP.out.keep S.g.k hPb).keep hinv.k hPb) q (by omega)
      simp only [e1]
      go_wp2_with fail
      first | exact ⟨_, rfl, SK.refl _ _, hinv.mono (by omega), k, t, rfl, ht⟩ | exact ⟨SK.refl _ _, hinv.mono (by omega), k, t, rfl, ht⟩
    · go_wp2_with fail
      refine (fields_any b _ 2 w2 hinv.s (by omega) ((HN.out.keep S.g.k hNb).keep hinv.k hNb)).mono ?_
      rintro e w3 ⟨v, xs, rfl, ho, hl, ht, hg⟩
      go_wp2_with fail
      exact ⟨_, rfl, hg.k, (hinv.step hg.k hg.s).mono (by omega), xs, ho.base hinv.size, hl, ht⟩
    · obtain ⟨s, e1, h1⟩ := (hp (4, 12) (by simp) : IsS 10 (ν 4))
      obtain ⟨k, t, e2, h2⟩ := (hp (9, 17) (by simp) : ∃ (k : Int) (t : ByteArray), ν 9 = .agg #[.int .i64 k, .string t] ∧ t.size ≤ 100)
      obtain ⟨xs, h3, h4, h5⟩ := (hp (11, 19) (by simp) : ∃ xs : List Fld, Own rFld (Off b) wd.heap.size 123 w2 (ν 11) xs ∧ xs.length ≤ 7 ∧ ∀ f ∈ xs, f.tiny)
      obtain ⟨A, cc, e3⟩ := h3.len
      rw [e3] at h3
      simp only [e1, e2, e3]
      go_wp2_with fail
      first | exact ⟨_, rfl, SK.refl _ _, hinv.mono (by omega), s, k, t, xs, A, cc, rfl, h1, h2, h3, h4, h5⟩ | exact ⟨SK.refl _ _, hinv.mono (by omega), s, k, t, xs, A, cc, rfl, h1, h2, h3, h4, h5⟩
    · go_wp2_with fail
      first | exact ⟨_, rfl, (SK.refl _ _).alloc _, (hinv.alloc _).mono (by omega), w2.heap.size, rfl, LV.new _ _ _ _ rfl, hinv.size⟩ | exact ⟨(SK.refl _ _).alloc _, (hinv.alloc _).mono (by omega), w2.heap.size, rfl, LV.new _ _ _ _ rfl, hinv.size⟩
  · intro ν w2 hinv hf
    obtain ⟨nm, k, t, xs, A, c, e12, hnm, ht, ho, hxl, hxt⟩ := (hf (12, 20, [(4, 12), (9, 17), (11, 19)]) (by simp) : ∃ (nm : ByteArray) (k : Int) (t : ByteArray) (xs : List Fld) (A : Option Addr) (c : Nat), ν 12 = .agg (evCs ⟨id, nm, at', k, t, xs⟩ A c) ∧ nm.size ≤ 10 ∧ t.size ≤ 100 ∧ Own rFld (Off b) wd.heap.size 123 w2 (.slice A xs.length c) xs ∧ xs.length ≤ 7 ∧ ∀ f ∈ xs, f.tiny)
    obtain ⟨X, e13, lvX, hX⟩ := (hf (13, 7, []) (by simp) : IsNew wd.heap.size ezCs 47 (ν 13) w2)
    have o1 : ∀ M, Own rFld M wd.heap.size 123 w2 (.slice A xs.length c) xs := fun M => ho.flatM flatFld
    replace S := S.callN hinv [.loc X ezCs 47, .own rFld wd.heap.size 123 (.slice A xs.length c) xs]
      (all_cons lvX (all_cons (o1 _) all_nil)) (all_cons (fun k e => by cases e; exact hX) (all_cons (fun k e => (ho.lt k e).1) all_nil))
      (List.pairwise_cons.2 ⟨all_cons (fun k e1 e2 => by cases e1; exact (o1 (fun _ => True)).blkTag lvX (by decide) _ e2 rfl) all_nil, List.pairwise_cons.2 ⟨all_nil, List.Pairwise.nil⟩⟩)
    obtain ⟨A2, c2, e2, S2⟩ := S.frz 2 rfl
    cases e2
    clear S
    have S : St b (m + 900) w w2 [.loc R ezCs 47, .loc X ezCs 47, .sl rFld A xs] := S2.mono (by show _ ≤ _; simp)
    have Hxt := Lib.hid hxt
    simp only [fillD, List.map_cons, List.map_nil, List.foldl_cons, List.foldl_nil, e12, e13]
    clear hf hinv lvX e12 e13 ho o1 S2 hxt hX
    generalize ν 2 = q2
    generalize ν 3 = q3
    generalize ν 4 = q4
    generalize ν 7 = q7
    generalize ν 8 = q8
    generalize ν 9 = q9
    generalize ν 11 = q11
    have x0 := (S.lv 1 rfl).all
    refine mixG_l rfl rfl (fun K hK => ?_)
    go_wp2_with fail
    refine ⟨fun h => absurd rfl h, ?_⟩
    refine mixG_nil ?_
    simp only [Exit.then]
    refine hKK _ _ ?_
    have S2 : St b (m + 900) w ((((((w2.setCell ⟨X, 0, none⟩ (.string id)).setCell ⟨X, 1, none⟩ (.string nm)).setCell ⟨X, 2, none⟩ (.int .i64 at')).setCell ⟨X, 3, none⟩ (.int .i64 k)).setCell ⟨X, 4, none⟩ (.string t)).setCell ⟨X, 5, none⟩ (.slice A xs.length c)) [.loc R ezCs 47, .loc X (evCs ⟨id, nm, at', k, t, xs⟩ A c) 47, .sl rFld A xs] :=
      (((((S.set 1 0 (.string id) rfl).set 1 1 (.string nm) rfl).set 1 2 (.int .i64 at') rfl).set 1 3 (.int .i64 k) rfl).set 1 4 (.string t) rfl).set 1 5 (.slice A xs.length c) rfl
    clear x0 S
    generalize (((((w2.setCell ⟨X, 0, none⟩ (.string id)).setCell ⟨X, 1, none⟩ (.string nm)).setCell ⟨X, 2, none⟩ (.int .i64 at')).setCell ⟨X, 3, none⟩ (.int .i64 k)).setCell ⟨X, 4, none⟩ (.string t)).setCell ⟨X, 5, none⟩ (.slice A xs.length c) = w3 at *
    have S := S2
    clear S2
    go_wp2_with fail
    refine (flip_any b _ _ _ S.g.s (by omega) (by omega) (by omega)).mono ?_
    rintro e w4 ⟨r4, rfl, hk_w4, hs_w4⟩
    replace S := S.step hk_w4 hs_w4
    clear hk_w4 hs_w4
    cases r4
    · have y0 := (S.lv 0 rfl).all
      have y1 := (S.lv 1 rfl).all
      have S9 := (((((S.set 0 0 (.string (Evt.id ⟨id, nm, at', k, t, xs⟩)) rfl).set 0 1 (.string (Evt.name ⟨id, nm, at', k, t, xs⟩)) rfl).set 0 2 (.int .i64 (Evt.at' ⟨id, nm, at', k, t, xs⟩)) rfl).set 0 3 (.int .i64 (Evt.kind ⟨id, nm, at', k, t, xs⟩)) rfl).set 0 4 (.string (Evt.text ⟨id, nm, at', k, t, xs⟩)) rfl).set 0 5 (.slice A xs.length c) rfl
      go_wp2_with fail
      exact bodyPost_ret (results_cell1 rfl rfl (loadEv (S9.lv 0 rfl))) rfl ⟨⟨id, nm, at', k, t, xs⟩, A, c, rfl, ⟨hid, (by show nm.size ≤ 1000; omega), (by show t.size ≤ 10000; omega), (by show xs.length ≤ 40; omega), Hxt.out⟩, ((S9.del 1).del 0).mono (by omega)⟩
    · go_wp2_with fail
      refine (next_any b _ _ _ S.g.s (by omega) (by omega) (by omega)).mono ?_
      rintro e w5 ⟨r5, r5_lo, r5_hi, rfl, hk_w5, hs_w5⟩
      replace S := S.step hk_w5 hs_w5
      clear hk_w5 hs_w5
      obtain rfl | rfl | rfl | rfl : r5 = 0 ∨ r5 = 1 ∨ r5 = 2 ∨ r5 = 3 := by omega
      · go_wp2_with fail
        refine (one_le b _ _ _ (10) S.g.s (by first | rfl | simp) (by first | rfl | simp) (strsLe_of (by decide)) (by simp) (by simp) (by omega)).mono ?_
        rintro e w6 ⟨t6, t6_le, rfl, hk_w6, hs_w6⟩
        replace S := S.step hk_w6 hs_w6
        clear hk_w6 hs_w6
        have x0 := (S.lv 1 rfl).all
        have S2 : St b (m + 900 + 1 + 1 + 1) w (w6.setCell ⟨X, 0, none⟩ (.string t6)) [.loc R ezCs 47, .loc X (evCs ⟨t6, nm, at', k, t, xs⟩ A c) 47, .sl rFld A xs] := S.set 1 0 (.string t6) rfl
        go_upto_region 11 with fail
        clear x0 S
        generalize w6.setCell ⟨X, 0, none⟩ (.string t6) = w7 at *
        have S := S2
        clear S2
        have y0 := (S.lv 0 rfl).all
        have y1 := (S.lv 1 rfl).all
        have S9 := (((((S.set 0 0 (.string (Evt.id ⟨t6, nm, at', k, t, xs⟩)) rfl).set 0 1 (.string (Evt.name ⟨t6, nm, at', k, t, xs⟩)) rfl).set 0 2 (.int .i64 (Evt.at' ⟨t6, nm, at', k, t, xs⟩)) rfl).set 0 3 (.int .i64 (Evt.kind ⟨t6, nm, at', k, t, xs⟩)) rfl).set 0 4 (.string (Evt.text ⟨t6, nm, at', k, t, xs⟩)) rfl).set 0 5 (.slice A xs.length c) rfl
        go_wp2_with fail
        exact bodyPost_ret (results_cell1 rfl rfl (loadEv (S9.lv 0 rfl))) rfl ⟨⟨t6, nm, at', k, t, xs⟩, A, c, rfl, ⟨(by show t6.size ≤ 1000; omega), (by show nm.size ≤ 1000; omega), (by show t.size ≤ 10000; omega), (by show xs.length ≤ 40; omega), Hxt.out⟩, ((S9.del 1).del 0).mono (by omega)⟩
      · go_wp2_with fail
        refine (one_le b _ _ _ (10) S.g.s (by first | rfl | simp) (by first | rfl | simp) (strsLe_of (by decide)) (by simp) (by simp) (by omega)).mono ?_
        rintro e w6 ⟨t6, t6_le, rfl, hk_w6, hs_w6⟩
        replace S := S.step hk_w6 hs_w6
        clear hk_w6 hs_w6
        have x0 := (S.lv 1 rfl).all
        have S2 : St b (m + 900 + 1 + 1 + 1) w (w6.setCell ⟨X, 1, none⟩ (.string t6)) [.loc R ezCs 47, .loc X (evCs ⟨id, t6, at', k, t, xs⟩ A c) 47, .sl rFld A xs] := S.set 1 1 (.string t6) rfl
        go_upto_region 11 with fail
        clear x0 S
        generalize w6.setCell ⟨X, 1, none⟩ (.string t6) = w7 at *
        have S := S2
        clear S2
        have y0 := (S.lv 0 rfl).all
        have y1 := (S.lv 1 rfl).all
        have S9 := (((((S.set 0 0 (.string (Evt.id ⟨id, t6, at', k, t, xs⟩)) rfl).set 0 1 (.string (Evt.name ⟨id, t6, at', k, t, xs⟩)) rfl).set 0 2 (.int .i64 (Evt.at' ⟨id, t6, at', k, t, xs⟩)) rfl).set 0 3 (.int .i64 (Evt.kind ⟨id, t6, at', k, t, xs⟩)) rfl).set 0 4 (.string (Evt.text ⟨id, t6, at', k, t, xs⟩)) rfl).set 0 5 (.slice A xs.length c) rfl
        go_wp2_with fail
        exact bodyPost_ret (results_cell1 rfl rfl (loadEv (S9.lv 0 rfl))) rfl ⟨⟨id, t6, at', k, t, xs⟩, A, c, rfl, ⟨hid, (by show t6.size ≤ 1000; omega), (by show t.size ≤ 10000; omega), (by show xs.length ≤ 40; omega), Hxt.out⟩, ((S9.del 1).del 0).mono (by omega)⟩
      · go_wp2_with fail
        refine (odd_any b _ _ _ _ S.g.s (by omega) (by omega) (by omega) (by omega)).mono ?_
        rintro e w6 ⟨t6, t6_lo, t6_hi, rfl, hk_w6, hs_w6⟩
        replace S := S.step hk_w6 hs_w6
        clear hk_w6 hs_w6
        have x0 := (S.lv 1 rfl).all
        have S2 : St b (m + 900 + 1 + 1 + 3) w (w6.setCell ⟨X, 2, none⟩ (.int .i64 t6)) [.loc R ezCs 47, .loc X (evCs ⟨id, nm, t6, k, t, xs⟩ A c) 47, .sl rFld A xs] := (S.set 1 2 (.int .i64 t6) rfl).mono (by omega)
        go_upto_region 11 with fail
        clear x0 S
        generalize w6.setCell ⟨X, 2, none⟩ (.int .i64 t6) = w7 at *
        have S := S2
        clear S2
        have y0 := (S.lv 0 rfl).all
        have y1 := (S.lv 1 rfl).all
        have S9 := (((((S.set 0 0 (.string (Evt.id ⟨id, nm, t6, k, t, xs⟩)) rfl).set 0 1 (.string (Evt.name ⟨id, nm, t6, k, t, xs⟩)) rfl).set 0 2 (.int .i64 (Evt.at' ⟨id, nm, t6, k, t, xs⟩)) rfl).set 0 3 (.int .i64 (Evt.kind ⟨id, nm, t6, k, t, xs⟩)) rfl).set 0 4 (.string (Evt.text ⟨id, nm, t6, k, t, xs⟩)) rfl).set 0 5 (.slice A xs.length c) rfl
        go_wp2_with fail
        exact bodyPost_ret (results_cell1 rfl rfl (loadEv (S9.lv 0 rfl))) rfl ⟨⟨id, nm, t6, k, t, xs⟩, A, c, rfl, ⟨hid, (by show nm.size ≤ 1000; omega), (by show t.size ≤ 10000; omega), (by show xs.length ≤ 40; omega), Hxt.out⟩, ((S9.del 1).del 0).mono (by omega)⟩
      · go_wp2_with fail
        refine (spoiledId_any b _ _ S.g.s (by omega) (HP.out.keep S.g.k hPb) hPb).mono ?_
        rintro e w6 ⟨k6, t6, ht6, rfl, hk6, hs6⟩
        replace S := S.step hk6 hs6
        clear hk6 hs6
        have x0 := (S.lv 1 rfl).all
        have S2 : St b (m + 950) w ((w6.setCell ⟨X, 3, none⟩ (.int .i64 k6)).setCell ⟨X, 4, none⟩ (.string t6)) [.loc R ezCs 47, .loc X (evCs ⟨id, nm, at', k6, t6, xs⟩ A c) 47, .sl rFld A xs] := ((S.set 1 3 (.int .i64 k6) rfl).set 1 4 (.string t6) rfl).mono (by omega)
        go_upto_region 11 with fail
        clear x0 S
        generalize (w6.setCell ⟨X, 3, none⟩ (.int .i64 k6)).setCell ⟨X, 4, none⟩ (.string t6) = w7 at *
        have S := S2
        clear S2
        have y0 := (S.lv 0 rfl).all
        have y1 := (S.lv 1 rfl).all
        have S9 := (((((S.set 0 0 (.string (Evt.id ⟨id, nm, at', k6, t6, xs⟩)) rfl).set 0 1 (.string (Evt.name ⟨id, nm, at', k6, t6, xs⟩)) rfl).set 0 2 (.int .i64 (Evt.at' ⟨id, nm, at', k6, t6, xs⟩)) rfl).set 0 3 (.int .i64 (Evt.kind ⟨id, nm, at', k6, t6, xs⟩)) rfl).set 0 4 (.string (Evt.text ⟨id, nm, at', k6, t6, xs⟩)) rfl).set 0 5 (.slice A xs.length c) rfl
        go_wp2_with fail
        exact bodyPost_ret (results_cell1 rfl rfl (loadEv (S9.lv 0 rfl))) rfl ⟨⟨id, nm, at', k6, t6, xs⟩, A, c, rfl, ⟨hid, (by show nm.size ≤ 1000; omega), ht6, (by show xs.length ≤ 40; omega), Hxt.out⟩, ((S9.del 1).del 0).mono (by omega)⟩
end Go.Proofs.YtmlpkejeglpciaaGreatDoor

/- What event.Copy returns. -/
namespace Go.Proofs.YtmlpkejeglpciaaGreatDoor
open Go Go.RowKit
def GivesEvt (e : Evt) (w : World) (r : Ending) (w' : World) : Prop := ∃ A c, r = .returned (.agg (evCs e A c)) ∧ Mem w w' [.sl rFld A e.flds]
abbrev fillE (w : World) (X : Nat) (e : Evt) (A : Option Addr) (c : Nat) : World := (((((w.setCell ⟨X, 0, none⟩ (.string e.id)).setCell ⟨X, 1, none⟩ (.string e.name)).setCell ⟨X, 2, none⟩ (.int .i64 e.at')).setCell ⟨X, 3, none⟩ (.int .i64 e.kind)).setCell ⟨X, 4, none⟩ (.string e.text)).setCell ⟨X, 5, none⟩ (.slice A e.flds.length c)
set_option maxHeartbeats 4000000 in
set_option maxRecDepth 100000 in
theorem copyEv_any (e : Evt) (A : Option Addr) (c : Nat) (w : World) (hF : Sl rFld (fun _ => False) w A e.flds) (hl : e.flds.length ≤ 1000) :
    Calls Tryz.prog 128 #[.agg (evCs e A c)] w (GivesEvt e w) := by
  have S : Mem w ((w.alloc (.cells (evCs e A c) 47)).alloc (.cells ezCs 47)) [.loc w.heap.size (evCs e A c) 47, .loc (w.heap.size + 1) ezCs 47] := ((Mem.start w).new' _ _).newAt _ _ _ (by simp)
  have Hc := Lib.hid (cloneF_any A e.flds c _ (hF.keepB S.b) hl)
  clear hF hl
  go_enter Tryz.func128, Tryz.ntmps128
  go_upto_region 1 with fail
  obtain ⟨Y, hY⟩ : ∃ Y, Y = w.heap.size + 1 := ⟨_, rfl⟩
  obtain ⟨X, hX⟩ : ∃ X, X = w.heap.size := ⟨_, rfl⟩
  rw [← hY, ← hX] at S ⊢
  clear hY hX
  generalize (w.alloc (.cells (evCs e A c) 47)).alloc (.cells ezCs 47) = w1 at *
  have c0 := (S.lv 0 rfl).all
  go_wp2_with fail
  refine (Hc.out).mono ?_
  rintro r w2 ⟨A2, c2, rfl, M⟩
  replace S := S.join M
  clear Hc M c0
  have c0 := (S.lv 0 rfl).all
  have S3 : Mem w (w2.setCell ⟨X, 5, none⟩ (.slice A2 e.flds.length c2)) [.loc X (evCs e A2 c2) 47, .loc Y ezCs 47, .sl rFld A2 e.flds] := S.set 0 5 (.slice A2 e.flds.length c2) rfl
  go_upto_region 2 with fail
  clear c0 S
  generalize w2.setCell ⟨X, 5, none⟩ (.slice A2 e.flds.length c2) = w3 at *
  have c0 := (S3.lv 0 rfl).all
  have c1 := (S3.lv 1 rfl).all
  have S4 : Mem w (fillE w3 Y e A2 c2) [.loc X (evCs e A2 c2) 47, .loc Y (evCs e A2 c2) 47, .sl rFld A2 e.flds] := (((((S3.set 1 0 (.string e.id) rfl).set 1 1 (.string e.name) rfl).set 1 2 (.int .i64 e.at') rfl).set 1 3 (.int .i64 e.kind) rfl).set 1 4 (.string e.text) rfl).set 1 5 (.slice A2 e.flds.length c2) rfl
  have HS4 := Lib.hid S4
  clear S3 S4
  go_wp2_with fail
  exact bodyPost_ret (results_cell1 rfl rfl (loadEv (HS4.out.lv 1 rfl))) rfl ⟨A2, c2, rfl, (HS4.out.del 1).del 0⟩
end Go.Proofs.YtmlpkejeglpciaaGreatDoor
