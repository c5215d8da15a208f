/- What slices.Reverse makes of a short policy. -/
import Derived.Test.YtlnklkedpknbpaaGreatDoorPolMem
import Derived.Test.YtlnklkedpknbpaaGreatDoorMix
import Derived.RegionTactic
import Derived.ChangeAlike
namespace Go.Proofs.YtlnklkedpknbpaaGreatDoor
open Go.RowKit
set_option maxRecDepth 100000 in
theorem rev1_any (A : Option Addr) (cap : Nat) (w : World) : Calls Tryz.prog 61 #[.slice A 1 cap] w fun e w' => e = .returned (.tuple #[]) ∧ w = w' := by
  go_enter Tryz.func61, Tryz.ntmps61
  go_wp2_with fail
  go_loopw [2, 3] (fun i j wr => i = .int .i64 0 ∧ j = .int .i64 0 ∧ w = wr) (fun _ _ _ => 0)
  case atStart => exact ⟨rfl, rfl, rfl⟩
  case round =>
    obtain ⟨rfl, rfl, rfl⟩ := hrel
    go_wp2_with fail
    go_end0
    exact ⟨rfl, rfl⟩
set_option maxHeartbeats 4000000 in
set_option maxRecDepth 100000 in
theorem rev2_any {b m : Nat} {w0 w : World} {cs : List Chunk} {B g cap : Nat} {x y : PQ} (S : St b m w0 w (.own rPQ B 58 (.slice (some ⟨g, 0, none⟩) 2 cap) [x, y] :: cs)) :
    Calls Tryz.prog 61 #[.slice (some ⟨g, 0, none⟩) 2 cap] w fun e w' => e = .returned (.tuple #[]) ∧ St b m w0 w' (.own rPQ B 58 (.slice (some ⟨g, 0, none⟩) 2 cap) [y, x] :: cs) := by
  go_enter Tryz.func61, Tryz.ntmps61
  go_wp2_with fail
  go_loopw [2, 3] (fun i j wr => (i = .int .i64 0 ∧ j = .int .i64 1 ∧ St b m w0 wr (.own rPQ B 58 (.slice (some ⟨g, 0, none⟩) 2 cap) [x, y] :: cs)) ∨ (i = .int .i64 1 ∧ j = .int .i64 0 ∧ St b m w0 wr (.own rPQ B 58 (.slice (some ⟨g, 0, none⟩) 2 cap) [y, x] :: cs))) (fun i _ _ => 1 - (intOf i).toNat)
  case atStart => exact .inl ⟨rfl, rfl, S⟩
  case round =>
    clear S
    rcases hrel with ⟨rfl, rfl, S⟩ | ⟨rfl, rfl, S⟩
    · have a0 := Own.cellP flatPQ (S.ow 0 rfl) rfl 0 x rfl 0 (.string x.nm) rfl
      have a1 := Own.cellP flatPQ (S.ow 0 rfl) rfl 0 x rfl 1 (.slice x.A x.ts.length x.c) rfl
      have b0 := Own.cellP flatPQ (S.ow 0 rfl) rfl 1 y rfl 0 (.string y.nm) rfl
      have b1 := Own.cellP flatPQ (S.ow 0 rfl) rfl 1 y rfl 1 (.slice y.A y.ts.length y.c) rfl
      have c0 : wr.cell? ⟨g, 0, none⟩ = some (.string x.nm) := a0.1
      have c1 : wr.cell? ⟨g, 1, none⟩ = some (.slice x.A x.ts.length x.c) := a1.1
      have c2 : wr.cell? ⟨g, 2, none⟩ = some (.string y.nm) := b0.1
      have c3 : wr.cell? ⟨g, 3, none⟩ = some (.slice y.A y.ts.length y.c) := b1.1
      have f0 : wr.frozen? ⟨g, 0, none⟩ = false := a0.2
      have f1 : wr.frozen? ⟨g, 1, none⟩ = false := a1.2
      have f2 : wr.frozen? ⟨g, 2, none⟩ = false := b0.2
      have f3 : wr.frozen? ⟨g, 3, none⟩ = false := b1.2
      clear a0 a1 b0 b1
      go_wp2_with fail
      have HS := Lib.hid S
      clear S
      go_region
      go_wp2_with fail
      go_roundw
      case rel =>
        have S1 := HS.out.put flatPQ 0 rfl rfl 0 x ⟨y.nm, x.A, x.c, x.ts⟩ rfl 0 (by decide) (.string y.nm) rfl
        have S2 := S1.put flatPQ 0 rfl rfl 0 ⟨y.nm, x.A, x.c, x.ts⟩ y rfl 1 (by decide) (.slice y.A y.ts.length y.c) rfl
        have S3 := S2.put flatPQ 0 rfl rfl 1 y ⟨x.nm, y.A, y.c, y.ts⟩ rfl 0 (by decide) (.string x.nm) rfl
        have S4 : St b m w0 ((((wr.setCell ⟨g, 0, none⟩ (.string y.nm)).setCell ⟨g, 1, none⟩ (.slice y.A y.ts.length y.c)).setCell ⟨g, 2, none⟩ (.string x.nm)).setCell ⟨g, 3, none⟩ (.slice x.A x.ts.length x.c)) (.own rPQ B 58 (.slice (some ⟨g, 0, none⟩) 2 cap) [y, x] :: cs) := S3.put flatPQ 0 rfl rfl 1 ⟨x.nm, y.A, y.c, y.ts⟩ x rfl 1 (by decide) (.slice x.A x.ts.length x.c) rfl
        have hd : Drewn ((((wr.setCell ⟨g, 0, none⟩ (.string y.nm)).setCell ⟨g, 1, none⟩ (.slice y.A y.ts.length y.c)).setCell ⟨g, 2, none⟩ (.string x.nm)).setCell ⟨g, 3, none⟩ (.slice x.A x.ts.length x.c)) _ := rfl
        exact .inr ⟨rfl, rfl, S4.below (hd.below _)⟩
      case measure => simp [intOf]
    · go_wp2_with fail
      go_end0
      exact ⟨rfl, S⟩
set_option maxHeartbeats 4000000 in
set_option maxRecDepth 100000 in
theorem rev3_any {b m : Nat} {w0 w : World} {cs : List Chunk} {B g cap : Nat} {x y z : PQ} (S : St b m w0 w (.own rPQ B 58 (.slice (some ⟨g, 0, none⟩) 3 cap) [x, z, y] :: cs)) :
    Calls Tryz.prog 61 #[.slice (some ⟨g, 0, none⟩) 3 cap] w fun e w' => e = .returned (.tuple #[]) ∧ St b m w0 w' (.own rPQ B 58 (.slice (some ⟨g, 0, none⟩) 3 cap) [y, z, x] :: cs) := by
  go_enter Tryz.func61, Tryz.ntmps61
  go_wp2_with fail
  go_loopw [2, 3] (fun i j wr => (i = .int .i64 0 ∧ j = .int .i64 2 ∧ St b m w0 wr (.own rPQ B 58 (.slice (some ⟨g, 0, none⟩) 3 cap) [x, z, y] :: cs)) ∨ (i = .int .i64 1 ∧ j = .int .i64 1 ∧ St b m w0 wr (.own rPQ B 58 (.slice (some ⟨g, 0, none⟩) 3 cap) [y, z, x] :: cs))) (fun i _ _ => 1 - (intOf i).toNat)
  case atStart => exact .inl ⟨rfl, rfl, S⟩
  case round =>
    clear S
    rcases hrel with ⟨rfl, rfl, S⟩ | ⟨rfl, rfl, S⟩
    · have a0 := Own.cellP flatPQ (S.ow 0 rfl) rfl 0 x rfl 0 (.string x.nm) rfl
      have a1 := Own.cellP flatPQ (S.ow 0 rfl) rfl 0 x rfl 1 (.slice x.A x.ts.length x.c) rfl
      have b0 := Own.cellP flatPQ (S.ow 0 rfl) rfl 2 y rfl 0 (.string y.nm) rfl
      have b1 := Own.cellP flatPQ (S.ow 0 rfl) rfl 2 y rfl 1 (.slice y.A y.ts.length y.c) rfl
      have c0 : wr.cell? ⟨g, 0, none⟩ = some (.string x.nm) := a0.1
      have c1 : wr.cell? ⟨g, 1, none⟩ = some (.slice x.A x.ts.length x.c) := a1.1
      have c2 : wr.cell? ⟨g, 4, none⟩ = some (.string y.nm) := b0.1
      have c3 : wr.cell? ⟨g, 5, none⟩ = some (.slice y.A y.ts.length y.c) := b1.1
      have f0 : wr.frozen? ⟨g, 0, none⟩ = false := a0.2
      have f1 : wr.frozen? ⟨g, 1, none⟩ = false := a1.2
      have f2 : wr.frozen? ⟨g, 4, none⟩ = false := b0.2
      have f3 : wr.frozen? ⟨g, 5, none⟩ = false := b1.2
      clear a0 a1 b0 b1
      go_wp2_with fail
      have HS := Lib.hid S
      clear S
      go_region
      go_wp2_with fail
      go_roundw
      case rel =>
        have S1 := HS.out.put flatPQ 0 rfl rfl 0 x ⟨y.nm, x.A, x.c, x.ts⟩ rfl 0 (by decide) (.string y.nm) rfl
        have S2 := S1.put flatPQ 0 rfl rfl 0 ⟨y.nm, x.A, x.c, x.ts⟩ y rfl 1 (by decide) (.slice y.A y.ts.length y.c) rfl
        have S3 := S2.put flatPQ 0 rfl rfl 2 y ⟨x.nm, y.A, y.c, y.ts⟩ rfl 0 (by decide) (.string x.nm) rfl
        have S4 : St b m w0 ((((wr.setCell ⟨g, 0, none⟩ (.string y.nm)).setCell ⟨g, 1, none⟩ (.slice y.A y.ts.length y.c)).setCell ⟨g, 4, none⟩ (.string x.nm)).setCell ⟨g, 5, none⟩ (.slice x.A x.ts.length x.c)) (.own rPQ B 58 (.slice (some ⟨g, 0, none⟩) 3 cap) [y, z, x] :: cs) := S3.put flatPQ 0 rfl rfl 2 ⟨x.nm, y.A, y.c, y.ts⟩ x rfl 1 (by decide) (.slice x.A x.ts.length x.c) rfl
        have hd : Drewn ((((wr.setCell ⟨g, 0, none⟩ (.string y.nm)).setCell ⟨g, 1, none⟩ (.slice y.A y.ts.length y.c)).setCell ⟨g, 4, none⟩ (.string x.nm)).setCell ⟨g, 5, none⟩ (.slice x.A x.ts.length x.c)) _ := rfl
        exact .inr ⟨rfl, rfl, S4.below (hd.below _)⟩
      case measure => simp [intOf]
    · go_wp2_with fail
      go_end0
      exact ⟨rfl, S⟩
theorem reverse_any {b m : Nat} {w0 w : World} {cs : List Chunk} {B g cap : Nat} {q : List PQ} (h1 : 1 ≤ q.length) (h3 : q.length ≤ 3) (S : St b m w0 w (.own rPQ B 58 (.slice (some ⟨g, 0, none⟩) q.length cap) q :: cs)) :
    Calls Tryz.prog 61 #[.slice (some ⟨g, 0, none⟩) q.length cap] w fun e w' => e = .returned (.tuple #[]) ∧ ∃ q' : List PQ, q'.Perm q ∧ St b m w0 w' (.own rPQ B 58 (.slice (some ⟨g, 0, none⟩) q.length cap) q' :: cs) := by
  match q, h1, h3, S with
  | [x], _, _, S => exact (rev1_any _ cap w).mono fun e w' ⟨h1, h2⟩ => ⟨h1, [x], List.Perm.refl _, h2 ▸ S⟩
  | [x, y], _, _, S => exact (rev2_any S).mono fun e w' ⟨h1, h2⟩ => ⟨h1, [y, x], List.Perm.swap _ _ _, h2⟩
  | [x, z, y], _, _, S => exact (rev3_any S).mono fun e w' ⟨h1, h2⟩ => ⟨h1, [y, z, x], (List.reverse_perm [x, z, y]), h2⟩
end Go.Proofs.YtlnklkedpknbpaaGreatDoor
