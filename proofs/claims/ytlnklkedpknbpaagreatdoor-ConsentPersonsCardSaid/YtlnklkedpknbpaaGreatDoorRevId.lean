/- What slices.Reverse makes of a list of ids. -/
import Derived.Test.YtlnklkedpknbpaaGreatDoorIds
import Derived.Test.YtlnklkedpknbpaaGreatDoorPackA
import Derived.RegionTactic
import Derived.ChangeAlike
namespace Go.Proofs.YtlnklkedpknbpaaGreatDoor
open Go Go.RowKit
set_option maxHeartbeats 4000000 in
set_option maxRecDepth 100000 in
theorem revId_any {b m : Nat} {w0 w : World} {cs : List Chunk} {B g cap : Nat} {xs : List IdV} (h1 : 1 ≤ xs.length) (h3 : xs.length ≤ 1000000) (S : St b m w0 w (.own rId B 29 (.slice (some ⟨g, 0, none⟩) xs.length cap) xs :: cs)) :
    Calls Tryz.prog 32 #[.slice (some ⟨g, 0, none⟩) xs.length cap] w fun e w' => e = .returned (.tuple #[]) ∧ ∃ ys : List IdV, ys.length = xs.length ∧ (∀ y ∈ ys, y ∈ xs) ∧ St b m w0 w' (.own rId B 29 (.slice (some ⟨g, 0, none⟩) xs.length cap) ys :: cs) := by
  obtain ⟨n, hn⟩ : ∃ n, n = xs.length := ⟨_, rfl⟩
  rw [← hn] at h1 h3 S ⊢
  have Hn := Lib.hid hn
  clear hn
  go_enter Tryz.func32, Tryz.ntmps32
  go_wp2_with fail
  go_loopw [2, 3] (fun i j wr => ∃ (k : Nat) (z : Int) (ys : List IdV), k ≤ n ∧ i = .int .i64 k ∧ j = .int .i64 z ∧ Hid (z = (n : Int) - 1 - k) ∧ Hid (ys.length = n) ∧ Hid (∀ y ∈ ys, y ∈ xs) ∧ St b m w0 wr (.own rId B 29 (.slice (some ⟨g, 0, none⟩) n cap) ys :: cs)) (fun i _ _ => n - (intOf i).toNat)
  case atStart => exact ⟨0, (n : Int) - 1, xs, Nat.zero_le _, rfl, by go_num, by show _ = _; omega, Hn.out.symm, fun y h => h, S⟩
  case round =>
    clear S
    obtain ⟨k, z, ys, hk, rfl, rfl, HZ, HYl, S⟩ := hrel
    obtain ⟨HY, S⟩ := S
    have hz := HZ.out
    have hy := HYl.out
    by_cases hlt : (k : Int) < z
    · obtain ⟨q, hq⟩ : ∃ q : Nat, z = (q : Int) := ⟨n - 1 - k, by omega⟩
      subst hq
      obtain ⟨x, hx⟩ : ∃ x, ys[k]? = some x := ⟨_, List.getElem?_eq_getElem (by omega)⟩
      obtain ⟨y, hyq⟩ : ∃ y, ys[q]? = some y := ⟨_, List.getElem?_eq_getElem (by omega)⟩
      have a0 := Own.cellP flatId (S.ow 0 rfl) hy.symm k x hx 0 (.int .i64 x.k) rfl
      have a1 := Own.cellP flatId (S.ow 0 rfl) hy.symm k x hx 1 (.string x.t) rfl
      have b0 := Own.cellP flatId (S.ow 0 rfl) hy.symm q y hyq 0 (.int .i64 y.k) rfl
      have b1 := Own.cellP flatId (S.ow 0 rfl) hy.symm q y hyq 1 (.string y.t) rfl
      have c0 : wr.cell? ⟨g, k * 2, none⟩ = some (.int .i64 x.k) := a0.1
      have c1 : wr.cell? ⟨g, k * 2 + 1, none⟩ = some (.string x.t) := a1.1
      have c2 : wr.cell? ⟨g, q * 2, none⟩ = some (.int .i64 y.k) := b0.1
      have c3 : wr.cell? ⟨g, q * 2 + 1, none⟩ = some (.string y.t) := b1.1
      have f0 : wr.frozen? ⟨g, k * 2, none⟩ = false := a0.2
      have f1 : wr.frozen? ⟨g, k * 2 + 1, none⟩ = false := a1.2
      have f2 : wr.frozen? ⟨g, q * 2, none⟩ = false := b0.2
      have f3 : wr.frozen? ⟨g, q * 2 + 1, none⟩ = false := b1.2
      have hlt2 : (q : Int) < n := by omega
      have hlt3 : (k : Int) < n := by omega
      clear hz hy
      have HS := Lib.hid S
      have Hx := Lib.hid hx
      have Hyq := Lib.hid hyq
      clear a0 a1 b0 b1 S hx hyq
      go_wp2_with fail
      go_region
      go_wp2_with fail
      go_roundw
      case rel =>
        have hkq : k ≠ q := by have h := HZ.out; omega
        have hyl := HYl.out
        have S1 : St b m w0 (wr.setCell ⟨g, k * 2, none⟩ (.int .i64 y.k)) (.own rId B 29 (.slice (some ⟨g, 0, none⟩) n cap) (ys.set k ⟨y.k, x.t⟩) :: cs) := HS.out.put flatId 0 rfl hyl.symm k x ⟨y.k, x.t⟩ Hx.out 0 (by decide) (.int .i64 y.k) rfl
        have S2 : St b m w0 ((wr.setCell ⟨g, k * 2, none⟩ (.int .i64 y.k)).setCell ⟨g, k * 2 + 1, none⟩ (.string y.t)) (.own rId B 29 (.slice (some ⟨g, 0, none⟩) n cap) (ys.set k y) :: cs) := by
          have := S1.put flatId 0 rfl (by rw [List.length_set]; exact hyl.symm) k ⟨y.k, x.t⟩ y (by rw [List.getElem?_set_self (by omega)]) 1 (by decide) (.string y.t) rfl
          rw [List.set_set] at this
          exact this
        have S3 : St b m w0 (((wr.setCell ⟨g, k * 2, none⟩ (.int .i64 y.k)).setCell ⟨g, k * 2 + 1, none⟩ (.string y.t)).setCell ⟨g, q * 2, none⟩ (.int .i64 x.k)) (.own rId B 29 (.slice (some ⟨g, 0, none⟩) n cap) ((ys.set k y).set q ⟨x.k, y.t⟩) :: cs) := S2.put flatId 0 rfl (by rw [List.length_set]; exact hyl.symm) q y ⟨x.k, y.t⟩ (by rw [List.getElem?_set_ne hkq]; exact Hyq.out) 0 (by decide) (.int .i64 x.k) rfl
        have S4 : St b m w0 ((((wr.setCell ⟨g, k * 2, none⟩ (.int .i64 y.k)).setCell ⟨g, k * 2 + 1, none⟩ (.string y.t)).setCell ⟨g, q * 2, none⟩ (.int .i64 x.k)).setCell ⟨g, q * 2 + 1, none⟩ (.string x.t)) (.own rId B 29 (.slice (some ⟨g, 0, none⟩) n cap) ((ys.set k y).set q x) :: cs) := by
          have := S3.put flatId 0 rfl (by rw [List.length_set, List.length_set]; exact hyl.symm) q ⟨x.k, y.t⟩ x (by rw [List.getElem?_set_self (by rw [List.length_set]; omega)]) 1 (by decide) (.string x.t) rfl
          rw [List.set_set] at this
          exact this
        have hd : Drewn ((((wr.setCell ⟨g, k * 2, none⟩ (.int .i64 y.k)).setCell ⟨g, k * 2 + 1, none⟩ (.string y.t)).setCell ⟨g, q * 2, none⟩ (.int .i64 x.k)).setCell ⟨g, q * 2 + 1, none⟩ (.string x.t)) _ := rfl
        refine ⟨k + 1, (q : Int) - 1, (ys.set k y).set q x, by omega, by go_num, rfl, (by show _ = _; have h := HZ.out; omega), (by show _ = _; rw [List.length_set, List.length_set]; exact hyl), fun u hu => ?_, S4.below (hd.below _)⟩
        rcases List.mem_or_eq_of_mem_set hu with hu | rfl
        · rcases List.mem_or_eq_of_mem_set hu with hu | rfl
          · exact HY.out u hu
          · exact HY.out _ (List.mem_of_getElem? Hyq.out)
        · exact HY.out _ (List.mem_of_getElem? Hx.out)
      case measure => simp [intOf]; omega
    · clear hz hy
      go_wp2_with fail
      go_end0
      exact ⟨rfl, ys, HYl.out, HY.out, S⟩
end Go.Proofs.YtlnklkedpknbpaaGreatDoor
