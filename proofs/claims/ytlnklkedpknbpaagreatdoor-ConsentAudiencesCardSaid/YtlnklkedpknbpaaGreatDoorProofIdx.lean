/- What the search of handref2.ProofOf for a statement's number returns. -/
import Derived.Test.YtlnklkedpknbpaaGreatDoorProof
namespace Go.Proofs.YtlnklkedpknbpaaGreatDoor
open Go Go.RowKit
theorem bestR_at {a b bat bno : Int} {xs : List Stm} {j : Nat} {c : Stm} (h : xs[j]? = some c) : bestR a b bat bno (xs.drop j) = if (a ≤ c.at' ∧ c.at' ≤ b) ∧ c.at' < bat then bestR a b c.at' c.no (xs.drop (j + 1)) else bestR a b bat bno (xs.drop (j + 1)) := by
  obtain ⟨hk, rfl⟩ := List.getElem?_eq_some_iff.1 h
  rw [List.drop_eq_getElem_cons hk, bestR]
set_option maxHeartbeats 4000000 in
set_option maxRecDepth 100000 in
theorem isNo_any (s : Stm) (Y : Nat) (m : Bool) (why n : Int) (w : World) (hY : LV w Y (aCs m why n) 48) :
    Calls Tryz.prog 109 #[.agg (stmCs s), .pointer (some ⟨Y, 0, none⟩)] w fun e w' => e = .returned (.bool (decide (s.no = n))) ∧ Below w.heap.size w w' := by
  have c0 := hY.all
  have Hb : Hid (Below w.heap.size w (w.alloc (.cells (stmCs s) 84))) := (Below.refl _ _).alloc (Nat.le_refl _) _
  have hYl := hY.lt
  go_enter Tryz.func109, Tryz.ntmps109
  go_wp2_with fail
  go_ret
  exact ⟨ret_b (by rw [Bool.eq_iff_iff]; simp), Hb.out⟩
set_option maxHeartbeats 4000000 in
set_option maxRecDepth 100000 in
theorem idxNo_any (N : Nat → Prop) (Al : Option Addr) (l : List Stm) (cl : Nat) (Y : Nat) (m : Bool) (why n : Int) (w : World) (hL : Sl rStm N w Al l) (hl : l.length ≤ 1000000) (hY : LV w Y (aCs m why n) 48) (j0 : Nat) (g : Stm) (hj : l[j0]? = some g) (hg : g.no = n) (hb : ∀ i s, i < j0 → l[i]? = some s → s.no ≠ n) :
    Calls Tryz.prog 108 #[.slice Al l.length cl, .func (.func 109) #[] #[.pointer (some ⟨Y, 0, none⟩)]] w fun e w' => e = .returned (.int .i64 j0) ∧ Below w.heap.size w w' := by
  have HL := Lib.hid hL
  have Hj := Lib.hid hj
  have Hg := Lib.hid hg
  have Hbf := Lib.hid hb
  have hYl := hY.lt
  have HI := Lib.hid (fun s w' (h : Below w.heap.size w w') => isNo_any s Y m why n w' (LV.kb3 hY h hYl))
  have hj0 : j0 < l.length := lt_of_get hj
  clear hL hj hg hb hY
  go_enter Tryz.func108, Tryz.ntmps108
  go_wp2_with fail
  go_loopw [8] (fun i wr => ∃ j : Nat, j ≤ j0 ∧ i = .int .i64 j ∧ Below w.heap.size w wr) (fun i _ => l.length - (intOf i).toNat)
  case atStart => exact ⟨0, Nat.zero_le _, rfl, Below.refl _ _⟩
  case round =>
    obtain ⟨j, hjj, rfl, hb⟩ := hrel
    have hlt : j < l.length := by omega
    obtain ⟨s, hf⟩ : ∃ s, l[j]? = some s := ⟨_, List.getElem?_eq_getElem hlt⟩
    obtain ⟨blk, off, rfl, hblk, d0, d1, d2, d3, d4, d5, d6, d7⟩ := (HL.out.keepB hb).stm j s hf
    have Hf := Lib.hid hf
    have HB := Lib.hid hb
    clear hf hb
    go_wp2_with fail
    ((with_reducible refine (HI.out s wr HB.out).mono ?_); rintro e w2 ⟨rfl, hl2⟩)
    have HB2 := Lib.hid (HB.out.trans (hl2.mono HB.out.size))
    clear hl2 HB d0 d1 d2 d3 d4 d5 d6 d7
    by_cases hjl : j < j0
    · have hne : decide (s.no = n) = false := by simpa using Hbf.out j s hjl Hf.out
      rw [hne]
      clear hne
      go_wp2_with fail
      go_roundw
      case rel => exact ⟨j + 1, by omega, by go_num, HB2.out⟩
      case measure => simp [intOf]; omega
    · obtain rfl : j = j0 := by omega
      obtain rfl : s = g := Option.some.inj (Hf.out.symm.trans Hj.out)
      have hne : decide (s.no = n) = true := by simpa using Hg.out
      rw [hne]
      clear hne
      go_wp2_with fail
      go_ret
      exact ⟨rfl, HB2.out⟩
end Go.Proofs.YtlnklkedpknbpaaGreatDoor
