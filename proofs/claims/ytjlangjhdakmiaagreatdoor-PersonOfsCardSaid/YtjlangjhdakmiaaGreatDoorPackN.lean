/- Several texts in one: SortInt, EqInt, EqIds, PsnSml. -/
import Derived.Test.YtjlangjhdakmiaaGreatDoorPackM
import Derived.Test.YtjlangjhdakmiaaGreatDoorShelf
import Derived.Test.YtjlangjhdakmiaaGreatDoorPackX
/- Numbers in a slice of the call's own: sorted, and made single. -/
namespace Go.Proofs.YtjlangjhdakmiaaGreatDoor
open Go Go.RowKit Go.Sort
theorem Own.holdsI {M : Nat → Prop} {B E g n cap : Nat} {w : World} {xs : List Int} (h : Own rInt M B E w (.slice (some ⟨g, 0, none⟩) n cap) xs) (hn : n = xs.length) : Holds (Value.int .i64) w g 0 xs.toArray := fun j hj => by
  have hj' : j < xs.length := by simpa using hj
  have := Own.cellP flatInt h hn j xs[j] (List.getElem?_eq_getElem hj') 0 (.int .i64 xs[j]) rfl
  rw [show j * rInt.size + 0 = 0 + j by simp [rInt, Rep.flat]] at this
  rw [getElem!_pos xs.toArray j hj]
  exact this
theorem putRow_int (w : World) (g : Nat) (ts : List Int) : putRow (Value.int .i64) w g 0 ts.toArray = putRowK (fun n : Int => [Value.int .i64 n]) 1 w g 0 ts.toArray := by
  unfold putRowK putRow
  congr 1
  funext cur
  unfold putCells
  congr 1
  funext k v
  rw [size_flatK, Nat.mul_one]
  by_cases h : 0 ≤ k ∧ k < 0 + ts.toArray.size
  · rw [if_pos h, if_pos h, get_flatK _ _ _ _ (by simpa using h.2)]
    simp [Nat.mod_one]
  · rw [if_neg h, if_neg h]
theorem sortWorld_int (w : World) (g m : Nat) (ts : List Int) (os : Array Obj) : grow (putRow (Value.int .i64) (Sort.ahead w m) g 0 ts.toArray) os = sortWorldK (fun n : Int => [Value.int .i64 n]) 1 w g 0 m ts.toArray os := by
  unfold sortWorldK
  rw [putRow_int]
/-- in order -/
def srtI (xs : List Int) : List Int := xs.mergeSort fun x y => decide (x ≤ y)
theorem srtI_len (xs : List Int) : (srtI xs).length = xs.length := List.length_mergeSort xs
set_option maxRecDepth 100000 in
theorem Mem.sortI {w0 w : World} {cs : List Chunk} (S : Mem w0 w cs) (i : Nat) {B E g n cap : Nat} {xs : List Int} (hi : cs[i]? = some (.own rInt B E (.slice (some ⟨g, 0, none⟩) n cap) xs)) (hn : n = xs.length) (hl : xs.length ≤ 1000000) :
    Calls Tryz.prog 86 #[.slice (some ⟨g, 0, none⟩) n cap] w fun e w' => e = .returned (.tuple #[]) ∧ Mem w0 w' (cs.set i (.own rInt B E (.slice (some ⟨g, 0, none⟩) n cap) (srtI xs))) := by
  subst hn
  have hH := (S.ow i hi).holdsI rfl
  have hg := S.lt (List.mem_of_getElem? hi) (k := g) rfl
  refine (Tryz.slices_Sort_int g 0 cap xs w hH hg (by omega)).mono ?_
  rintro e w' ⟨rfl, m, os, rfl⟩
  refine ⟨rfl, ?_⟩
  rw [sortWorld_int]
  exact S.sortedK flatInt (by decide) (fun _ => rfl) i hi (srtI_len xs)
end Go.Proofs.YtjlangjhdakmiaaGreatDoor

/- slices.Equal of the same numbers. -/
namespace Go.Proofs.YtjlangjhdakmiaaGreatDoor
open Go Go.RowKit
theorem Sl.intAt {N : Nat → Prop} {w : World} {A : Option Addr} {xs : List Int} (h : Sl rInt N w A xs) (h0 : xs ≠ []) : ∃ b o, A = some ⟨b, o, none⟩ ∧ ∀ j, j < xs.length → w.cell? ⟨b, o + j, none⟩ = some (.int .i64 (xs.getD j 0)) := by
  cases xs with
  | nil => exact absurd rfl h0
  | cons x r =>
    obtain ⟨b, o, l, e, _, _, _, _⟩ := h 0 x rfl
    refine ⟨b, o, e, fun j hj => ?_⟩
    obtain ⟨b2, o2, l2, e2, _, _, hr, hc⟩ := h j (x :: r)[j] (List.getElem?_eq_getElem hj)
    rw [e] at e2
    cases e2
    obtain rfl : l2 = [.int .i64 (x :: r)[j]] := hr
    have := hc 0 _ rfl
    rw [show o + j * rInt.size + 0 = o + j by simp [rInt, Rep.flat]] at this
    rw [this, List.getD_eq_getElem?_getD, List.getElem?_eq_getElem hj]
    rfl
theorem eqInt_any (N : Nat → Prop) (A A2 : Option Addr) (xs : List Int) (c c2 : Nat) (w : World) (h1 : Sl rInt N w A xs) (h2 : Sl rInt N w A2 xs) (hl : xs.length ≤ 1000000000) :
    Calls Tryz.prog 53 #[.slice A xs.length c, .slice A2 xs.length c2] w fun e w' => e = .returned (.bool true) ∧ Below w.heap.size w w' := by
  by_cases h0 : xs = []
  · subst h0
    refine (Tryz.slices_Equal_int_empty A A2 c 0 c2 w (by decide)).mono ?_
    rintro e w' ⟨rfl, rfl⟩
    exact ⟨rfl, Below.refl _ _⟩
  · obtain ⟨b, o, rfl, hc⟩ := h1.intAt h0
    obtain ⟨b2, o2, rfl, hc2⟩ := h2.intAt h0
    refine (Tryz.slices_Equal_int b o xs.length c b2 o2 xs.length c2 xs xs w (Nat.le_refl _) (Nat.le_refl _) (by omega) (by omega) hc hc2).mono ?_
    rintro e w' ⟨rfl, q, rfl⟩
    exact ⟨by simp, below_drewN _ _ _⟩
end Go.Proofs.YtjlangjhdakmiaaGreatDoor

/- slices.Equal of the same ids, and samePerson of the same person. -/
namespace Go.Proofs.YtjlangjhdakmiaaGreatDoor
open Go Go.RowKit
set_option maxHeartbeats 4000000 in
set_option maxRecDepth 100000 in
theorem eqId_any (N : Nat → Prop) (A A2 : Option Addr) (xs : List IdV) (c c2 : Nat) (w : World) (h1 : Sl rId N w A xs) (h2 : Sl rId N w A2 xs) (hl : xs.length ≤ 1000000000) :
    Calls Tryz.prog 12 #[.slice A xs.length c, .slice A2 xs.length c2] w fun e w' => e = .returned (.bool true) ∧ Below w.heap.size w w' := by
  have H1 := Lib.hid h1
  have H2 := Lib.hid h2
  clear h1 h2
  go_enter Tryz.func12, Tryz.ntmps12
  go_wp2_with fail
  go_loopw [13] (fun i wr => ∃ j : Nat, j ≤ xs.length ∧ i = .int .i64 j ∧ Below w.heap.size w wr) (fun i _ => xs.length - (intOf i).toNat)
  case atStart => exact ⟨0, Nat.zero_le _, rfl, Below.refl _ _⟩
  case round =>
    obtain ⟨j, hj, rfl, hb⟩ := hrel
    by_cases hlt : j < xs.length
    · obtain ⟨e, hf⟩ : ∃ e, xs[j]? = some e := ⟨_, List.getElem?_eq_getElem hlt⟩
      obtain ⟨b1, o1, rfl, _, c0, c1⟩ := (H1.out.keepB hb).idv j e hf
      obtain ⟨b2, o2, rfl, _, d0, d1⟩ := (H2.out.keepB hb).idv j e hf
      clear hf
      go_wp2_with fail
      go_quiet (fail)
      go_wp2_with fail
      go_roundw
      case rel => exact ⟨j + 1, by omega, by go_num, hb.trans (below_drewN _ _ _)⟩
      case measure => simp [intOf]; omega
    · go_wp2_with fail
      go_ret
      exact ⟨rfl, hb⟩
set_option maxHeartbeats 4000000 in
set_option maxRecDepth 100000 in
theorem samePerson_any (N : Nat → Prop) (p : Psn) (A A2 : Option Addr) (a a2 : Nat) (B B2 : Option Addr) (b b2 : Nat) (w : World) (h1 : Sl rInt N w A p.tch) (h2 : Sl rInt N w A2 p.tch) (g1 : Sl rId N w B p.ids) (g2 : Sl rId N w B2 p.ids) (hl : p.tch.length ≤ 1000000) (gl : p.ids.length ≤ 1000000) :
    Calls Tryz.prog 16 #[.agg (psCs p A a B b), .agg (psCs p A2 a2 B2 b2)] w fun e w' => e = .returned (.bool true) ∧ Below w.heap.size w w' := by
  have Hc1 := Lib.hid (fun w' (h : Below w.heap.size w w') => eqInt_any N A A2 p.tch a a2 w' (h1.keepB h) (h2.keepB h) (by omega))
  have Hc2 := Lib.hid (fun w' (h : Below w.heap.size w w') => eqId_any N B B2 p.ids b b2 w' (g1.keepB h) (g2.keepB h) (by omega))
  obtain ⟨X, hX⟩ : ∃ X, X = w.heap.size := ⟨_, rfl⟩
  have S1 := (Mem.start w).newAt (psCs p A a B b) 47 X hX
  have S : Mem w _ [.loc X (psCs p A a B b) 47, .loc (X + 1) (psCs p A2 a2 B2 b2) 47] := S1.newAt (psCs p A2 a2 B2 b2) 47 (X + 1) (by rw [hX, World.size_alloc])
  clear S1 h1 h2 g1 g2
  go_enter Tryz.func16, Tryz.ntmps16
  go_upto_region 1 with fail
  rw [← hX]
  clear hX
  generalize (w.alloc (.cells (psCs p A a B b) 47)).alloc (.cells (psCs p A2 a2 B2 b2) 47) = w2 at *
  have l0 := (S.lv 0 rfl).all
  have l1 := (S.lv 1 rfl).all
  go_wp2_with fail
  ((with_reducible refine (Hc1.out _ S.b).mono ?_); rintro e w3 ⟨rfl, hb3⟩)
  replace S := S.below hb3
  clear l0 l1 hb3
  have l0 := (S.lv 0 rfl).all
  have l1 := (S.lv 1 rfl).all
  go_wp2_with fail
  ((with_reducible refine (Hc2.out _ S.b).mono ?_); rintro e w4 ⟨rfl, hb4⟩)
  replace S := S.below hb4
  go_wp2_with fail
  go_ret
  exact ⟨rfl, S.b⟩
end Go.Proofs.YtjlangjhdakmiaaGreatDoor

/- How long the lists of persons and of joining ids are. -/
namespace Go.Proofs.YtjlangjhdakmiaaGreatDoor
open Go Go.RowKit
theorem srtId_len (l : List IdV) : (srtId l).length ≤ l.length := sub_len ((srtId_up l).nodup) (fun x hx => (srtId_mem l x).1 hx)
theorem psns_small {r : Rul} {ts : List Tch} (h : RtOk r ts) {P : List Psn} (hP : IsPsns r ts P) : P.length ≤ 1000000 ∧ ∀ p ∈ P, p.tch.length ≤ 1000000 ∧ p.ids.length ≤ 1000000 := by
  obtain ⟨c, _, rfl⟩ := hP
  have hb := h.tb
  refine ⟨?_, fun p hp => ?_⟩
  · unfold psns
    rw [List.length_map]
    have := heads_len c ts.length
    omega
  · unfold psns at hp
    obtain ⟨i, _, rfl⟩ := List.mem_map.1 hp
    have h1 := part_len c ts.length i
    have h2 := flat_len (m := 10) (f := idsAt ts) (partAt c ts.length i) (idsAt_len h)
    have h3 := srtId_len ((partAt c ts.length i).flatMap (idsAt ts))
    refine ⟨?_, ?_⟩
    · show ((partAt c ts.length i).map (noAt ts)).length ≤ _
      rw [List.length_map]
      omega
    · show (srtId ((partAt c ts.length i).flatMap (idsAt ts))).length ≤ _
      omega
theorem both_zero {r : Rul} {ts : List Tch} (h : bothF r ts = 0) : rulFault r = 0 ∧ tchsFault ts = 0 := by
  unfold bothF at h
  split at h
  · rename_i h2; exact absurd h h2
  · rename_i h2; exact ⟨by omega, h⟩
theorem psns_rise {r : Rul} {ts : List Tch} {P : List Psn} (hP : IsPsns r ts P) : ∀ p ∈ P, RiseI p.ids := by
  obtain ⟨c, _, rfl⟩ := hP
  intro p hp
  unfold psns at hp
  obtain ⟨i, _, rfl⟩ := List.mem_map.1 hp
  exact srtId_up _
end Go.Proofs.YtjlangjhdakmiaaGreatDoor
