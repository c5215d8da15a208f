/- consents(): package consent answers. -/
import Derived.Test.YtlnklkedpknbpaaGreatDoorSeal
namespace Go.Proofs.YtlnklkedpknbpaaGreatDoor
open Go.RowKit
abbrev euT : PTerm := ⟨⟨#[101, 117]⟩, 1, true, 0, 0⟩
theorem euSl {w : World} {X Y : Nat} (hT : tLV w X euT) (hP : LV w Y #[.string ⟨#[110, 101, 119, 115]⟩, .slice (some ⟨X, 0, none⟩) 1 1] 58) : Sl rPurp (fun _ => False) w (some ⟨Y, 0, none⟩) [⟨⟨#[110, 101, 119, 115]⟩, [euT]⟩] := by
  have hs : Sl rTerm (fun _ => False) w (some ⟨X, 0, none⟩) [euT] := fun i x hx => by
    obtain ⟨rfl, rfl⟩ : i = 0 ∧ x = euT := by
      cases i with
      | zero => exact ⟨rfl, by simpa using hx.symm⟩
      | succ n => simp at hx
    refine ⟨X, 0, _, rfl, hT.lt, id, rfl, fun j u hu => ?_⟩
    have := hT.cell j u (by rw [← hu]; simp [PTerm.cells])
    simpa using this
  intro i x hx
  obtain ⟨rfl, rfl⟩ : i = 0 ∧ x = ⟨⟨#[110, 101, 119, 115]⟩, [euT]⟩ := by
    cases i with
    | zero => exact ⟨rfl, by simpa using hx.symm⟩
    | succ n => simp at hx
  refine ⟨Y, 0, _, rfl, hP.lt, id, ⟨[.string ⟨#[110, 101, 119, 115]⟩], [.slice (some ⟨X, 0, none⟩) 1 1], rfl, rfl, _, _, rfl, hs⟩, fun j u hu => ?_⟩
  have := hP.cell j u (by rw [← hu]; simp)
  simpa using this
set_option maxHeartbeats 4000000 in
set_option maxRecDepth 100000 in
theorem consents_any (w : World) (hM : MaxL w) : Calls Tryz.prog 18 #[] w fun e w' => e = .returned (.bool true) ∧ Below w.heap.size w w' := by
  have lvI := ((LV.new w w.heap.size #[.int .i64 1, .string ⟨#[97, 64, 98, 46, 100, 101]⟩] 29 rfl).alloc (.cells #[.string ⟨#[101, 117]⟩, .int .i64 1, .bool true, .int .i64 0, .int .i64 0] 34)).alloc (.cells #[.string ⟨#[110, 101, 119, 115]⟩, .slice (some ⟨w.heap.size + 1, 0, none⟩) 1 1] 58)
  have lvT : tLV _ (w.heap.size + 1) euT := (LV.new (w.alloc (.cells #[.int .i64 1, .string ⟨#[97, 64, 98, 46, 100, 101]⟩] 29)) (w.heap.size + 1) #[.string ⟨#[101, 117]⟩, .int .i64 1, .bool true, .int .i64 0, .int .i64 0] 34 (by simp)).alloc (.cells #[.string ⟨#[110, 101, 119, 115]⟩, .slice (some ⟨w.heap.size + 1, 0, none⟩) 1 1] 58)
  have lvP := LV.new ((w.alloc (.cells #[.int .i64 1, .string ⟨#[97, 64, 98, 46, 100, 101]⟩] 29)).alloc (.cells #[.string ⟨#[101, 117]⟩, .int .i64 1, .bool true, .int .i64 0, .int .i64 0] 34)) (w.heap.size + 1 + 1) #[.string ⟨#[110, 101, 119, 115]⟩, .slice (some ⟨w.heap.size + 1, 0, none⟩) 1 1] 58 (by simp)
  have hb0 : Below w.heap.size w (((w.alloc (.cells #[.int .i64 1, .string ⟨#[97, 64, 98, 46, 100, 101]⟩] 29)).alloc (.cells #[.string ⟨#[101, 117]⟩, .int .i64 1, .bool true, .int .i64 0, .int .i64 0] 34)).alloc (.cells #[.string ⟨#[110, 101, 119, 115]⟩, .slice (some ⟨w.heap.size + 1, 0, none⟩) 1 1] 58)) := (((Below.refl _ _).alloc (Nat.le_refl _) _).alloc (by simp) _).alloc (by simp; omega) _
  go_enter Tryz.func18, Tryz.ntmps18
  go_upto_region 3 with fail
  generalize ((w.alloc (.cells #[.int .i64 1, .string ⟨#[97, 64, 98, 46, 100, 101]⟩] 29)).alloc (.cells #[.string ⟨#[101, 117]⟩, .int .i64 1, .bool true, .int .i64 0, .int .i64 0] 34)).alloc (.cells #[.string ⟨#[110, 101, 119, 115]⟩, .slice (some ⟨w.heap.size + 1, 0, none⟩) 1 1] 58) = w1 at *
  have Hm := Lib.hid (mayNil_any (fun _ => False) (some ⟨w.heap.size + 1 + 1, 0, none⟩) [⟨⟨#[110, 101, 119, 115]⟩, [euT]⟩] 1 ⟨#[110, 101, 119, 115]⟩ ⟨#[101, 117]⟩ 1 0 1 ⟨#[97, 64, 98, 46, 100, 101]⟩ euT w1 (euSl lvT lvP) ⟨by decide, by decide, by decide, by decide⟩ (by decide) (by decide) (hM.below hb0) (by decide +kernel) (by decide +kernel) (by decide +kernel) (by kernel_rfl) rfl)
  simp only [List.length_singleton] at Hm
  have i0 : w1.cell? ⟨w.heap.size, 0, none⟩ = some (.int .i64 1) := lvI.cell 0 _ rfl
  have i1 : w1.cell? ⟨w.heap.size, 1, none⟩ = some (.string ⟨#[97, 64, 98, 46, 100, 101]⟩) := lvI.cell 1 _ rfl
  clear lvT lvP
  go_wp2_with fail
  ((with_reducible refine (Hm.out).mono ?_); rintro e w2 ⟨rfl, hl2⟩)
  have mI := LV.kb3 lvI hl2 lvI.lt
  have Hb2 : Hid (Below w.heap.size w w2) := hb0.trans (hl2.mono hb0.size)
  clear i0 i1 lvI hl2 hb0 Hm
  have hb3 : Below w2.heap.size w2 (w2.alloc (.cells (aCs true 1 0) 48)) := (Below.refl _ _).alloc (Nat.le_refl _) _
  have nI := LV.kb3 mI hb3 mI.lt
  have nA := LV.new w2 w2.heap.size (aCs true 1 0) 48 rfl
  have Hb3 : Hid (Below w.heap.size w (w2.alloc (.cells (aCs true 1 0) 48))) := Hb2.out.alloc Hb2.out.size _
  clear mI hb3
  obtain ⟨Y, hY⟩ : ∃ Y, Y = w2.heap.size := ⟨_, rfl⟩
  go_upto_region 4 with fail
  rw [← hY] at nA ⊢
  generalize w2.alloc (.cells (aCs true 1 0) 48) = w3 at *
  clear hY
  have i0 : w3.cell? ⟨w.heap.size, 0, none⟩ = some (.int .i64 1) := nI.cell 0 _ rfl
  have i1 : w3.cell? ⟨w.heap.size, 1, none⟩ = some (.string ⟨#[97, 64, 98, 46, 100, 101]⟩) := nI.cell 1 _ rfl
  have Hs := Lib.hid (seal1_any w3 (hM.below Hb3.out))
  clear nI
  go_wp2_with fail
  ((with_reducible refine (Hs.out).mono ?_); rintro e w4 ⟨⟨n, hn, rfl⟩, hl4⟩)
  have oA := LV.kb3 nA hl4 nA.lt
  have Hb4 : Hid (Below w.heap.size w w4) := Hb3.out.trans (hl4.mono Hb3.out.size)
  have a0 : w4.cell? ⟨Y, 0, none⟩ = some (.bool true) := oA.cell 0 _ rfl
  have hn' : decide (0 < n) = true := by simpa using hn
  clear i0 i1 nA oA hl4 Hs
  go_wp2_with fail
  go_ret
  exact ⟨ret_b (by simp), Hb4.out⟩
end Go.Proofs.YtlnklkedpknbpaaGreatDoor
