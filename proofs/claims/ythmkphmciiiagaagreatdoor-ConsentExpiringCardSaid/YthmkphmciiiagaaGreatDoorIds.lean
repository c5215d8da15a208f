/- Ids in a list: what consent.checkIds and slices.Contains of ids return. -/
import Derived.Test.YthmkphmciiiagaaGreatDoorMayTop
namespace Go.Proofs.YthmkphmciiiagaaGreatDoor
open Go Go.RowKit
structure IdV where
  k : Int
  t : ByteArray
def IdV.cells (x : IdV) : List Value := [.int .i64 x.k, .string x.t]
def rId : Rep IdV := .flat 2 IdV.cells (fun _ => rfl)
theorem flatId : rId.Flat IdV.cells := fun _ _ _ _ => Iff.rfl
theorem Sl.idv {N : Nat → Prop} {w : World} {A : Option Addr} {xs : List IdV} (h : Sl rId N w A xs) (k : Nat) (x : IdV) (hk : xs[k]? = some x) : ∃ blk off, A = some ⟨blk, off, none⟩ ∧ blk < w.heap.size ∧
    w.cell? ⟨blk, off + k * 2, none⟩ = some (.int .i64 x.k) ∧ w.cell? ⟨blk, off + k * 2 + 1, none⟩ = some (.string x.t) := by
  obtain ⟨blk, off, l, e, h1, _, h3, h4⟩ := h k x hk
  obtain rfl : l = IdV.cells x := h3
  exact ⟨blk, off, e, h1, h4 0 _ rfl, h4 1 _ rfl⟩
/-- the first fault of ids -/
def idsF : List IdV → Int
  | [] => 0
  | x :: r => if L.idFault x.k x.t ≠ 0 then L.idFault x.k x.t else idsF r
def idsErr (n : Int) (xs : List IdV) : Int := if n < xs.length then 2 else idsF xs
theorem idsF_at {xs : List IdV} {k : Nat} {x : IdV} (h : xs[k]? = some x) : idsF (xs.drop k) = if L.idFault x.k x.t ≠ 0 then L.idFault x.k x.t else idsF (xs.drop (k + 1)) := by
  obtain ⟨hk, rfl⟩ := List.getElem?_eq_some_iff.1 h
  rw [List.drop_eq_getElem_cons hk, idsF]
set_option maxHeartbeats 2000000 in
set_option maxRecDepth 100000 in
theorem checkIds_any (N : Nat → Prop) (A : Option Addr) (xs : List IdV) (c : Nat) (n : Int) (w : World) (hS : Sl rId N w A xs) (hl : xs.length ≤ 1000000) (ht : ∀ x ∈ xs, x.t.size ≤ 1000000) (hM : MaxL w) :
    Calls Tryz.prog 132 #[.slice A xs.length c, .int .i64 n] w fun e w' => e = .returned (.int .i64 (idsErr n xs)) ∧ Below w.heap.size w w' := by
  have HS := Lib.hid (fun w' (h : Below w.heap.size w w') => hS.keepB h)
  have HM := Lib.hid (fun w' (h : Below w.heap.size w w') => hM.below h)
  have HT := Lib.hid ht
  obtain ⟨R, HR⟩ : ∃ R, Hid (idsErr n xs = R) := ⟨_, Lib.hid rfl⟩
  rw [HR.out]
  clear hS hM ht
  by_cases hn : n < (xs.length : Int)
  · obtain rfl : 2 = R := by rw [← HR.out, idsErr, if_pos hn]
    go_enter Tryz.func132, Tryz.ntmps132
    go_wp2_with fail
    go_ret
    exact ⟨rfl, Below.refl _ _⟩
  · have HR2 : Hid (idsF xs = R) := by show _ = _; rw [← HR.out, idsErr, if_neg hn]
    clear HR
    go_enter Tryz.func132, Tryz.ntmps132
    go_wp2_with fail
    go_loopw [14] (fun i wr => ∃ k : Nat, k ≤ xs.length ∧ i = .int .i64 k ∧ Hid (idsF xs = idsF (xs.drop k)) ∧ Below w.heap.size w wr) (fun i _ => xs.length - (intOf i).toNat)
    case atStart => exact ⟨0, by omega, rfl, Lib.hid rfl, Below.refl _ _⟩
    case round =>
      obtain ⟨k, hk, rfl, hF, hb⟩ := hrel
      by_cases hlt : k < xs.length
      · obtain ⟨x, hx⟩ : ∃ x, xs[k]? = some x := ⟨_, List.getElem?_eq_getElem hlt⟩
        obtain ⟨blk, off, rfl, hbl, c0, c1⟩ := (HS.out wr hb).idv k x hx
        have Hb1 : Hid (Below w.heap.size w (wr.alloc (.cells #[.int .i64 x.k, .string x.t] 29))) := hb.trans ((Below.refl _ _).alloc hb.size _)
        have Hc := Lib.hid (checkId_any x.k x.t _ (HT.out x (List.mem_of_getElem? hx)) (HM.out _ Hb1.out))
        have HD : Hid (R = if L.idFault x.k x.t ≠ 0 then L.idFault x.k x.t else idsF (xs.drop (k + 1))) := by show _ = _; rw [← HR2.out, hF.out, idsF_at hx]
        generalize L.idFault x.k x.t = F at *
        clear HS HM HT
        go_wp2_with fail
        ((with_reducible refine (Hc.out).mono ?_); rintro e w2 ⟨rfl, hl2⟩)
        have Hb2 : Hid (Below w.heap.size w w2) := Hb1.out.trans (hl2.mono Hb1.out.size)
        by_cases hF0 : F = 0
        · have HE : Hid (idsF xs = idsF (xs.drop (k + 1))) := by show _ = _; rw [HR2.out, HD.out, if_neg (by simpa using hF0)]
          clear HD
          subst hF0
          go_wp2_with fail
          go_roundw
          case rel => exact ⟨k + 1, by omega, by simp, HE, Hb2.out⟩
          case measure => simp [intOf]; omega
        · obtain rfl : R = F := by rw [HD.out, if_pos hF0]
          have hF' : (R != 0) = true := by simpa using hF0
          clear HD
          go_wp2_with fail
          go_ret
          exact ⟨rfl, Hb2.out⟩
      · obtain rfl : k = xs.length := by omega
        obtain rfl : 0 = R := by rw [← HR2.out, hF.out, List.drop_length, idsF]
        go_wp2_with fail
        go_ret
        exact ⟨rfl, hb⟩
instance : DecidableEq IdV := fun a b => if h : a.k = b.k ∧ a.t = b.t then .isTrue (by cases a; cases b; simp_all) else .isFalse (fun e => h (by rw [e]; exact ⟨rfl, rfl⟩))
/-- the place of an id -/
def idIx (y : IdV) : List IdV → Int
  | [] => -1
  | x :: r => if x = y then 0 else if idIx y r < 0 then -1 else idIx y r + 1
theorem idIx_lo (y : IdV) : ∀ xs : List IdV, -1 ≤ idIx y xs
  | [] => by simp [idIx]
  | x :: r => by
    have := idIx_lo y r
    unfold idIx
    split
    · omega
    · split <;> omega
theorem idIx_has (y : IdV) : ∀ xs : List IdV, decide (0 ≤ idIx y xs) = decide (y ∈ xs)
  | [] => by simp [idIx]
  | x :: r => by
    have h := idIx_has y r
    have := idIx_lo y r
    unfold idIx
    split
    · rename_i e; simp [e]
    · rename_i e
      have e2 : ¬ y = x := fun h => e h.symm
      simp only [List.mem_cons, e2, false_or, ← h]
      split
      · rename_i h2; simp; omega
      · rename_i h2; simp; omega
theorem mem_drop {y x : IdV} {xs : List IdV} {k : Nat} (h : xs[k]? = some x) (hxy : ¬ x = y) : y ∈ xs.drop k ↔ y ∈ xs.drop (k + 1) := by
  obtain ⟨hk, rfl⟩ := List.getElem?_eq_some_iff.1 h
  rw [List.drop_eq_getElem_cons hk, List.mem_cons]
  exact ⟨fun h => h.elim (fun e => absurd e.symm hxy) id, Or.inr⟩
theorem idv_eq {x y : IdV} (h1 : x.k = y.k) (h2 : (x.t.toList == y.t.toList) = true) : x = y := by
  obtain ⟨k, t⟩ := x
  obtain ⟨k', t'⟩ := y
  obtain rfl : k = k' := h1
  have h3 : t.toList = t'.toList := by simpa using h2
  rw [ByteArray.toList_eq, ByteArray.toList_eq] at h3
  obtain rfl : t = t' := by
    cases t; cases t'
    simp only [ByteArray.mk.injEq]
    exact Array.toList_inj.1 h3
  rfl
def GivesIx (y : IdV) (xs : List IdV) (w : World) (e : Ending) (w' : World) : Prop := ∃ n : Int, e = .returned (.int .i64 n) ∧ decide (0 ≤ n) = decide (y ∈ xs) ∧ Below w.heap.size w w'
end Go.Proofs.YthmkphmciiiagaaGreatDoor
