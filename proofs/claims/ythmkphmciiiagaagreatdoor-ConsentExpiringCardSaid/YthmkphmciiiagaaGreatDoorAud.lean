/- What consent.checkAll (several ids) and consent.Audience return. -/
import Derived.Test.YthmkphmciiiagaaGreatDoorPackD
namespace Go.Proofs.YthmkphmciiiagaaGreatDoor
open Go Go.RowKit
set_option maxHeartbeats 4000000 in
set_option maxRecDepth 100000 in
theorem checkAllN_any (N : Nat → Prop) (A Al Ai : Option Addr) (p : List Purp) (l : List Stm) (xs : List IdV) (c cl ci : Nat) (pu rg : ByteArray) (ch at' most : Int) (w : World) (hS : Sl rPurp N w A p) (hok : PolOk p) (hL : Sl rStm N w Al l) (hlo : StmOk l) (hI : Sl rId N w Ai xs) (hxl : xs.length ≤ 1000000) (hxt : ∀ y ∈ xs, y.t.size ≤ 1000000) (hrg : rg.size ≤ 1000000000) (hM : MaxL w) :
    Calls Tryz.prog 57 #[.agg (qCs A p.length c pu rg ch at'), .slice Al l.length cl, .int .i64 most, .slice Ai xs.length ci] w fun e w' => e = .returned (.int .i64 (first3 (stmsFault p l) (idsErr most xs) (qErr p pu rg ch at'))) ∧ Below w.heap.size w w' := by
  have S := (Mem.start w).new' (qCs A p.length c pu rg ch at') 96
  have Hc := Lib.hid (fun w' (h : Below w.heap.size w w') => check_any N A Al p l c cl w' (hS.keepB h) hok (hL.keepB h) hlo (hM.below h))
  have Hi := Lib.hid (fun w' (h : Below w.heap.size w w') => checkIds_any N Ai xs ci most w' (hI.keepB h) hxl hxt (hM.below h))
  have Hq := Lib.hid (fun w' (hf : stmsFault p l = 0) (h : Below w.heap.size w w') => qcheck_any N A p c pu rg ch at' w' (hS.keepB h) (policy_good (stms_good hf).1) hrg)
  generalize stmsFault p l = F1 at *
  generalize idsErr most xs = F2 at *
  generalize qErr p pu rg ch at' = F3 at *
  obtain ⟨R, HR⟩ : ∃ R, Hid (first3 F1 F2 F3 = R) := ⟨_, Lib.hid rfl⟩
  rw [HR.out]
  clear hS hM hok hL hlo hI hxt
  go_enter Tryz.func57, Tryz.ntmps57
  go_upto_region 1 with fail
  replace S : Mem w (w.alloc (.cells (qCs A p.length c pu rg ch at') 96)) [.loc w.heap.size (qCs A p.length c pu rg ch at') 96] := S
  generalize w.alloc (.cells (qCs A p.length c pu rg ch at') 96) = w1 at *
  have c0 := (S.lv 0 rfl).all
  go_wp2_with fail
  ((with_reducible refine (Hc.out w1 S.b).mono ?_); rintro e w2 ⟨rfl, hl2⟩)
  replace S := S.below hl2
  clear c0 hl2 Hc
  by_cases h1 : F1 = 0
  · have Hq1 := Lib.hid (fun w' h => Hq.out w' h1 h)
    subst h1
    clear Hq
    go_wp2_with fail
    ((with_reducible refine (Hi.out w2 S.b).mono ?_); rintro e w3 ⟨rfl, hl3⟩)
    replace S := S.below hl3
    clear Hi hl3
    by_cases h2 : F2 = 0
    · subst h2
      have c0 := (S.lv 0 rfl).all
      go_wp2_with fail
      ((with_reducible refine (Hq1.out w3 S.b).mono ?_); rintro e w4 ⟨rfl, hl4⟩)
      replace S := S.below hl4
      go_wp2_with fail
      go_ret
      exact ⟨ret_i HR.out, S.b⟩
    · have h2' : (F2 != 0) = true := by simpa using h2
      obtain rfl : F2 = R := by rw [← HR.out, first3, if_neg (by simp), if_pos h2]
      clear HR h2
      go_wp2_with fail
      go_ret
      exact ⟨rfl, S.b⟩
  · have h1' : (F1 != 0) = true := by simpa using h1
    obtain rfl : F1 = R := by rw [← HR.out, first3, if_pos h1]
    clear HR h1 Hq
    go_wp2_with fail
    go_ret
    exact ⟨rfl, S.b⟩
/-- those that may be written to -/
def mayB (p : List Purp) (l : List Stm) (pu rg : ByteArray) (ch at' : Int) (y : IdV) : Bool := (mayAns p l y.k y.t pu rg ch at').1
def audErr (p : List Purp) (l : List Stm) (xs : List IdV) (pu rg : ByteArray) (ch at' : Int) : Int := first3 (stmsFault p l) (idsErr 2000 xs) (qErr p pu rg ch at')
def audAns (p : List Purp) (l : List Stm) (xs : List IdV) (pu rg : ByteArray) (ch at' : Int) : List IdV := (onceI xs).filter (mayB p l pu rg ch at')
def GivesIds (xs : List IdV) (F : Int) (w : World) (e : Ending) (w' : World) : Prop := ∃ A c, e = .returned (.tuple #[.slice A xs.length c, .int .i64 F]) ∧ Sl rId (Lt w.heap.size) w' A xs ∧ Below w.heap.size w w'
theorem Own.shape {α : Type} {r : Rep α} {N : Nat → Prop} {B E : Nat} {w : World} {v : Value} {xs : List α} (h : Own r N B E w v xs) : (v = .slice none 0 0 ∧ xs = []) ∨ ∃ g cap, v = .slice (some ⟨g, 0, none⟩) xs.length cap := by
  obtain ⟨ls, hl, hr, ho⟩ := h
  rcases ho.2 with ⟨rfl, h0⟩ | ⟨g, cap, cur, rfl, _⟩
  · exact .inl ⟨rfl, List.length_eq_zero_iff.1 h0⟩
  · exact .inr ⟨g, cap, rfl⟩
end Go.Proofs.YthmkphmciiiagaaGreatDoor
