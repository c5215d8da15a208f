/- What the generator Fields makes. -/
import Derived.Test.YtmlpkejeglpciaaDoorGenVal
import Derived.Test.YtmlpkejeglpciaaDoorMix
namespace Go.Proofs.YtmlpkejeglpciaaDoor
open Go.RowKit
theorem LV.load3 {w : World} {X : Nat} {a b c : Value} (h : LV w X #[a, b, c] 49) : (Instr.loadAt 49 (.pointer (some ⟨X, 0, none⟩))).run Tryd.prog w = .ok (.agg #[a, b, c]) w := by
  have h_c0 := h.cell 0 _ rfl
  have h_c1 := h.cell 1 _ rfl
  have h_c2 := h.cell 2 _ rfl
  have h_f0 := h.free 0
  have h_f1 := h.free 1
  have h_f2 := h.free 2
  go_simp
/-- what handmake.fieldNames holds -/
def Names (w : World) : Prop := w.cell? ⟨0, 0, none⟩ = some (.string ⟨#[97, 103, 101]⟩) ∧ w.cell? ⟨0, 1, none⟩ = some (.string ⟨#[99, 105, 116, 121]⟩) ∧ w.cell? ⟨0, 2, none⟩ = some (.string ⟨#[106, 111, 105, 110, 101, 100]⟩) ∧
  w.cell? ⟨0, 3, none⟩ = some (.string ⟨#[110, 97, 109, 101]⟩) ∧ w.cell? ⟨0, 4, none⟩ = some (.string ⟨#[112, 108, 97, 110]⟩) ∧ w.cell? ⟨0, 5, none⟩ = some (.string ⟨#[118, 105, 112]⟩)
theorem Names.lt {w : World} (h : Names w) : 0 < w.heap.size := World.block_lt_of_cell? w _ h.1
theorem Names.keep {b : Nat} {w w' : World} (h : Names w) (k : SK b w w') (hb : 0 ≠ b) : Names w' := by
  have e : ∀ j, w'.cell? ⟨0, j, none⟩ = w.cell? ⟨0, j, none⟩ := fun j => World.cell?_of_block (k.block _ h.lt hb)
  obtain ⟨h0, h1, h2, h3, h4, h5⟩ := h
  exact ⟨(e 0).trans h0, (e 1).trans h1, (e 2).trans h2, (e 3).trans h3, (e 4).trans h4, (e 5).trans h5⟩
theorem names_ix (k : Nat) (hk : k < 6) : ∃ s : ByteArray, s.size ≤ 100 ∧ ∀ w, (Instr.index 41 (.agg #[.string ⟨#[97, 103, 101]⟩, .string ⟨#[99, 105, 116, 121]⟩, .string ⟨#[106, 111, 105, 110, 101, 100]⟩, .string ⟨#[110, 97, 109, 101]⟩, .string ⟨#[112, 108, 97, 110]⟩, .string ⟨#[118, 105, 112]⟩]) (.int .i64 k)).run Tryd.prog w = .ok (.string s) w := by
  obtain rfl | rfl | rfl | rfl | rfl | rfl : k = 0 ∨ k = 1 ∨ k = 2 ∨ k = 3 ∨ k = 4 ∨ k = 5 := by omega
  · exact ⟨⟨#[97, 103, 101]⟩, by decide, fun _ => by kernel_rfl⟩
  · exact ⟨⟨#[99, 105, 116, 121]⟩, by decide, fun _ => by kernel_rfl⟩
  · exact ⟨⟨#[106, 111, 105, 110, 101, 100]⟩, by decide, fun _ => by kernel_rfl⟩
  · exact ⟨⟨#[110, 97, 109, 101]⟩, by decide, fun _ => by kernel_rfl⟩
  · exact ⟨⟨#[112, 108, 97, 110]⟩, by decide, fun _ => by kernel_rfl⟩
  · exact ⟨⟨#[118, 105, 112]⟩, by decide, fun _ => by kernel_rfl⟩
theorem tyFld : STy 28 52 rFld.size 48 (.agg #[.string ⟨#[]⟩, .int .i64 0, .string ⟨#[]⟩, .int .i64 0]) := ⟨Tryd.underlying28, by kernel_rfl, rfl, by decide⟩
theorem flatFld : rFld.Flat Fld.cells := fun _ _ _ _ => Iff.rfl
theorem oneFld (f : Fld) : ∀ u ∈ f.cells, u.oneCell' = true := fun u hu => by
  simp only [Fld.cells, List.mem_cons, List.not_mem_nil, or_false] at hu
  rcases hu with rfl | rfl | rfl | rfl <;> rfl
def Fld.tiny (f : Fld) : Prop := f.name.size ≤ 1000 ∧ f.text.size ≤ 1000
/-- fields, at most M, are made -/
def DrawsFlds (b m M : Nat) (w : World) (e : Ending) (w' : World) : Prop := ∃ (v : Value) (xs : List Fld), e = .returned v ∧ Own rFld (Off b) w.heap.size 52 w' v xs ∧ xs.length ≤ M ∧ (∀ f ∈ xs, f.tiny) ∧ G b m w w'
theorem off_ge {b B : Nat} (h : b < B) : ∀ k, B ≤ k → ¬ Off b k := fun k hk e => by unfold Off at e; omega
theorem Own.stepG {α : Type} {r : Rep α} {b B E : Nat} {w w' : World} {v : Value} {xs : List α} (h : Own r (Off b) B E w v xs) (k : SK b w w') (hb : b < B) : Own r (Off b) B E w' v xs := h.keep k.n (off_ge hb)
theorem tiny_snoc {xs : List Fld} {f : Fld} (h : ∀ g ∈ xs, g.tiny) (hf : f.tiny) : ∀ g ∈ xs ++ [f], g.tiny := fun g hg => by
  rcases List.mem_append.1 hg with h' | h'
  · exact h g h'
  · rw [List.mem_singleton.1 h']; exact hf
set_option maxHeartbeats 4000000 in
set_option maxRecDepth 100000 in
theorem fields_any (b m : Nat) (z : Int) (w : World) (hs : Strm b m w) (hm : m ≤ 10000000000) (hN : Names w) :
    Calls Tryd.prog 5 #[.pointer (some ⟨b, 0, none⟩), .int .i64 z] w (DrawsFlds b (m + 100) 7 w) := by
  have hlt := hs.lt
  obtain ⟨n0, n1, n2, n3, n4, n5⟩ := hN
  have Hs := Lib.hid hs
  clear hs
  go_enter Tryd.func5, Tryd.ntmps5
  go_wp2_with fail
  clear n0 n1 n2 n3 n4 n5
  go_loopw [5, 9] (fun v i wr => ∃ (k : Nat) (xs : List Fld), k ≤ 6 ∧ i = .int .i64 k ∧ Own rFld (Off b) w.heap.size 52 wr v xs ∧ xs.length ≤ k ∧ (∀ f ∈ xs, f.tiny) ∧ G b (m + k * 7) w wr) (fun _ i _ => 6 - (intOf i).toNat)
  case atStart => exact ⟨0, [], by omega, rfl, Own.nil _ _ _ _ _, by simp, (fun _ h => by cases h), (G.start Hs.out).mono (by omega)⟩
  case round =>
    obtain ⟨k, xs, hk, rfl, hown, hxl, hti, hg⟩ := hrel
    have Hown := Lib.hid hown
    have Hti := Lib.hid hti
    have hgz := hg.size
    clear hown hti Hs
    obtain ⟨A, c, rfl⟩ := Hown.out.len
    by_cases hlt6 : k < 6
    · obtain ⟨nm, hnm, hix⟩ := names_ix k hlt6
      by_cases hz : (xs.length : Int) < z
      · go_wp2_with fail
        refine (flip_any b (m + k * 7) _ _ hg.s (by omega) (by omega) (by omega)).mono ?_
        rintro e w2 ⟨r2, rfl, hk_w2, hs_w2⟩
        have g2 := hg.step hk_w2 hs_w2
        have Ho2 := Lib.hid (Hown.out.stepG hk_w2 hlt)
        clear hk_w2 hs_w2 Hown hg hix
        cases r2
        · go_wp2_with fail
          go_roundw
          case rel => exact ⟨k + 1, xs, by omega, by go_num, Ho2.out, by omega, Hti.out, g2.mono (by omega)⟩
          case measure => simp [intOf]; omega
        · go_wp2_with fail
          refine (value_any b (m + k * 7 + 1) _ g2.s (by omega)).mono ?_
          rintro e w3 ⟨vk, vt, vn, vt_le, rfl, hk_w3, hs_w3⟩
          have g3 := g2.step hk_w3 hs_w3
          have hz3 := g3.size
          have Ho3 := Lib.hid (Ho2.out.stepG hk_w3 hlt)
          clear hk_w3 hs_w3 Ho2 g2
          go_wp2_with (at_builtin; refine app_flat (w0 := w3) flatFld tyFld rfl _ _ rfl (Off b) w.heap.size _ xs ⟨nm, vk, vt, vn⟩ _ rfl Ho3.out rfl rfl (oneFld _) (by omega) (by omega) (by decide) ?_; intro v' w4 ho4 hl4)
          go_roundw
          case rel => exact ⟨k + 1, xs ++ [⟨nm, vk, vt, vn⟩], by omega, by go_num, ho4, by simp; omega, tiny_snoc Hti.out ⟨by show nm.size ≤ _; omega, vt_le⟩, (g3.belowB hl4 hlt).mono (by omega)⟩
          case measure => simp [intOf]; omega
      · have hz' : decide ((xs.length : Int) < z) = false := by simpa using hz
        go_wp2_with fail
        go_roundw
        case rel => exact ⟨k + 1, xs, by omega, by go_num, Hown.out, by omega, Hti.out, hg.mono (by omega)⟩
        case measure => simp [intOf]; omega
    · go_wp2_with fail
      refine (flip_any b (m + k * 7) _ _ hg.s (by omega) (by omega) (by omega)).mono ?_
      rintro e w2 ⟨r2, rfl, hk_w2, hs_w2⟩
      have g2 := hg.step hk_w2 hs_w2
      have Ho2 := Lib.hid (Hown.out.stepG hk_w2 hlt)
      clear hk_w2 hs_w2 Hown hg
      cases r2
      · go_wp2_with fail
        go_ret
        exact ⟨_, xs, rfl, Ho2.out, by omega, Hti.out, g2.mono (by omega)⟩
      · go_wp2_with fail
        refine (repeat_le ⟨#[122]⟩ 41 1000 _ (by decide) (by decide) (by decide) (by decide)).mono ?_
        rintro e w3 ⟨ra, ra_le, rfl, hl_w3⟩
        have g3 := g2.below hl_w3
        have Ho3 := Lib.hid (Ho2.out.stepG (SK.ofBelow hl_w3) hlt)
        clear hl_w3 g2 Ho2
        go_wp2_with fail
        refine (one_le b _ _ _ 1000 g3.s (by simp) (by simp) (by repeat (first | exact strsLe_nil | refine strsLe_cons (by first | omega | decide) ?_)) (by simp) (by simp) (by omega)).mono ?_
        rintro e w4 ⟨nm, nm_le, rfl, hk_w4, hs_w4⟩
        have g4 := g3.step hk_w4 hs_w4
        have Ho4 := Lib.hid (Ho3.out.stepG hk_w4 hlt)
        clear hk_w4 hs_w4 g3 Ho3
        go_wp2_with fail
        refine (value_any b _ _ g4.s (by omega)).mono ?_
        rintro e w5 ⟨vk, vt, vn, vt_le, rfl, hk_w5, hs_w5⟩
        have g5 := g4.step hk_w5 hs_w5
        have Ho5 := Lib.hid (Ho4.out.stepG hk_w5 hlt)
        have hz5 := g5.size
        clear hk_w5 hs_w5 g4 Ho4
        go_wp2_with (at_builtin; refine app_flat (w0 := w5) flatFld tyFld rfl _ _ rfl (Off b) w.heap.size _ xs ⟨nm, vk, vt, vn⟩ _ rfl Ho5.out rfl rfl (oneFld _) (by omega) (by omega) (by decide) ?_; intro v' w6 ho6 hl6)
        go_ret
        exact ⟨v', xs ++ [⟨nm, vk, vt, vn⟩], rfl, ho6, by simp; omega, tiny_snoc Hti.out ⟨nm_le, vt_le⟩, (g5.belowB hl6 hlt).mono (by omega)⟩
end Go.Proofs.YtmlpkejeglpciaaDoor
