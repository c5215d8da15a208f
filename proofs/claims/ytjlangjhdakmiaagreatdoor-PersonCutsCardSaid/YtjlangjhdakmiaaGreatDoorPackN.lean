/- Several texts in one: SortInt, EqInt, EqIds, PsnSml. -/
import Derived.Test.YtjlangjhdakmiaaGreatDoorPackM
import Derived.Test.YtjlangjhdakmiaaGreatDoorShelf
import Derived.Test.YtjlangjhdakmiaaGreatDoorPackX
/- Numbers in a slice of the call's own: sorted, and made single. -/
namespace Go.Proofs.YtjlangjhdakmiaaGreatDoor
open Go Go.RowKit Go.Sort
def srtI (xs : List Int) : List Int := xs.mergeSort fun x y => decide (x ≤ y)
end Go.Proofs.YtjlangjhdakmiaaGreatDoor

/- slices.Equal of the same numbers. -/
namespace Go.Proofs.YtjlangjhdakmiaaGreatDoor
open Go Go.RowKit
theorem Sl.intAt {N : Nat → Prop} {w : World} {A : Option Addr} {xs : List Int} (h : Sl rInt N w A xs) (h0 : xs ≠ []) : ∃ b o, A = some ⟨b, o, none⟩ ∧ ∀ j, j < xs.length → w.cell? ⟨b, o + j, none⟩ = some (.int .i64 (xs.getD j 0)) := by
  cases xs with
  | nil => exact absurd rfl h0
  | cons x r =>
    obtain ⟨b, o, l, e, _, _, _, _⟩ := h 0 x rfl
    refine ⟨b, o, e, fun j hj => ?_⟩
    obtain ⟨b2, o2, l2, e2, _, _, hr, hc⟩ := h j (x :: r)[j] (List.getElem?_eq_getElem hj)
    rw [e] at e2
    cases e2
    obtain rfl : l2 = [.int .i64 (x :: r)[j]] := hr
    have := hc 0 _ rfl
    rw [show o + j * rInt.size + 0 = o + j by simp [rInt, Rep.flat]] at this
    rw [this, List.getD_eq_getElem?_getD, List.getElem?_eq_getElem hj]
    rfl
end Go.Proofs.YtjlangjhdakmiaaGreatDoor

/- slices.Equal of the same ids, and samePerson of the same person. -/
namespace Go.Proofs.YtjlangjhdakmiaaGreatDoor
open Go Go.RowKit
set_option maxHeartbeats 4000000 in
set_option maxRecDepth 100000 in
theorem eqId_any (N : Nat → Prop) (A A2 : Option Addr) (xs : List IdV) (c c2 : Nat) (w : World) (h1 : Sl rId N w A xs) (h2 : Sl rId N w A2 xs) (hl : xs.length ≤ 1000000000) :
    Calls Tryz.prog 12 #[.slice A xs.length c, .slice A2 xs.length c2] w fun e w' => e = .returned (.bool true) ∧ Below w.heap.size w w' := by
  have H1 := Lib.hid h1
  have H2 := Lib.hid h2
  clear h1 h2
  go_enter Tryz.func12, Tryz.ntmps12
  go_wp2_with fail
  go_loopw [13] (fun i wr => ∃ j : Nat, j ≤ xs.length ∧ i = .int .i64 j ∧ Below w.heap.size w wr) (fun i _ => xs.length - (intOf i).toNat)
  case atStart => exact ⟨0, Nat.zero_le _, rfl, Below.refl _ _⟩
  case round =>
    obtain ⟨j, hj, rfl, hb⟩ := hrel
    by_cases hlt : j < xs.length
    · obtain ⟨e, hf⟩ : ∃ e, xs[j]? = some e := ⟨_, List.getElem?_eq_getElem hlt⟩
      obtain ⟨b1, o1, rfl, _, c0, c1⟩ := (H1.out.keepB hb).idv j e hf
      obtain ⟨b2, o2, rfl, _, d0, d1⟩ := (H2.out.keepB hb).idv j e hf
      clear hf
      go_wp2_with fail
      go_quiet (fail)
      go_wp2_with fail
      go_roundw
      case rel => exact ⟨j + 1, by omega, by go_num, hb.trans (below_drewN _ _ _)⟩
      case measure => simp [intOf]; omega
    · go_wp2_with fail
      go_ret
      exact ⟨rfl, hb⟩
end Go.Proofs.YtjlangjhdakmiaaGreatDoor

/- How long the lists of persons and of joining ids are. -/
namespace Go.Proofs.YtjlangjhdakmiaaGreatDoor
open Go Go.RowKit
theorem srtId_len (l : List IdV) : (srtId l).length ≤ l.length := sub_len ((srtId_up l).nodup) (fun x hx => (srtId_mem l x).1 hx)
theorem psns_small {r : Rul} {ts : List Tch} (h : RtOk r ts) {P : List Psn} (hP : IsPsns r ts P) : P.length ≤ 1000000 ∧ ∀ p ∈ P, p.tch.length ≤ 1000000 ∧ p.ids.length ≤ 1000000 := by
  obtain ⟨c, _, rfl⟩ := hP
  have hb := h.tb
  refine ⟨?_, fun p hp => ?_⟩
  · unfold psns
    rw [List.length_map]
    have := heads_len c ts.length
    omega
  · unfold psns at hp
    obtain ⟨i, _, rfl⟩ := List.mem_map.1 hp
    have h1 := part_len c ts.length i
    have h2 := flat_len (m := 10) (f := idsAt ts) (partAt c ts.length i) (idsAt_len h)
    have h3 := srtId_len ((partAt c ts.length i).flatMap (idsAt ts))
    refine ⟨?_, ?_⟩
    · show ((partAt c ts.length i).map (noAt ts)).length ≤ _
      rw [List.length_map]
      omega
    · show (srtId ((partAt c ts.length i).flatMap (idsAt ts))).length ≤ _
      omega
theorem both_zero {r : Rul} {ts : List Tch} (h : bothF r ts = 0) : rulFault r = 0 ∧ tchsFault ts = 0 := by
  unfold bothF at h
  split at h
  · rename_i h2; exact absurd h h2
  · rename_i h2; exact ⟨by omega, h⟩
end Go.Proofs.YtjlangjhdakmiaaGreatDoor
