/- What consent.checkAll (several ids) and consent.Audience return. -/
import Derived.Test.YtlnklkedpknbpaaGreatDoorPackD
namespace Go.Proofs.YtlnklkedpknbpaaGreatDoor
open Go Go.RowKit
set_option maxHeartbeats 4000000 in
set_option maxRecDepth 100000 in
theorem checkAllN_any (N : Nat → Prop) (A Al Ai : Option Addr) (p : List Purp) (l : List Stm) (xs : List IdV) (c cl ci : Nat) (pu rg : ByteArray) (ch at' most : Int) (w : World) (hS : Sl rPurp N w A p) (hok : PolOk p) (hL : Sl rStm N w Al l) (hlo : StmOk l) (hI : Sl rId N w Ai xs) (hxl : xs.length ≤ 1000000) (hxt : ∀ y ∈ xs, y.t.size ≤ 1000000) (hrg : rg.size ≤ 1000000000) (hM : MaxL w) :
    Calls Tryz.prog 78 #[.agg (qCs A p.length c pu rg ch at'), .slice Al l.length cl, .int .i64 most, .slice Ai xs.length ci] w fun e w' => e = .returned (.int .i64 (first3 (stmsFault p l) (idsErr most xs) (qErr p pu rg ch at'))) ∧ Below w.heap.size w w' := by
  have S := (Mem.start w).new' (qCs A p.length c pu rg ch at') 118
  have Hc := Lib.hid (fun w' (h : Below w.heap.size w w') => check_any N A Al p l c cl w' (hS.keepB h) hok (hL.keepB h) hlo (hM.below h))
  have Hi := Lib.hid (fun w' (h : Below w.heap.size w w') => checkIds_any N Ai xs ci most w' (hI.keepB h) hxl hxt (hM.below h))
  have Hq := Lib.hid (fun w' (hf : stmsFault p l = 0) (h : Below w.heap.size w w') => qcheck_any N A p c pu rg ch at' w' (hS.keepB h) (policy_good (stms_good hf).1) hrg)
  generalize stmsFault p l = F1 at *
  generalize idsErr most xs = F2 at *
  generalize qErr p pu rg ch at' = F3 at *
  obtain ⟨R, HR⟩ : ∃ R, Hid (first3 F1 F2 F3 = R) := ⟨_, Lib.hid rfl⟩
  rw [HR.out]
  clear hS hM hok hL hlo hI hxt
  go_enter Tryz.func78, Tryz.ntmps78
  go_upto_region 1 with fail
  replace S : Mem w (w.alloc (.cells (qCs A p.length c pu rg ch at') 118)) [.loc w.heap.size (qCs A p.length c pu rg ch at') 118] := S
  generalize w.alloc (.cells (qCs A p.length c pu rg ch at') 118) = w1 at *
  have c0 := (S.lv 0 rfl).all
  go_wp2_with fail
  ((with_reducible refine (Hc.out w1 S.b).mono ?_); rintro e w2 ⟨rfl, hl2⟩)
  replace S := S.below hl2
  clear c0 hl2 Hc
  by_cases h1 : F1 = 0
  · have Hq1 := Lib.hid (fun w' h => Hq.out w' h1 h)
    subst h1
    clear Hq
    go_wp2_with fail
    ((with_reducible refine (Hi.out w2 S.b).mono ?_); rintro e w3 ⟨rfl, hl3⟩)
    replace S := S.below hl3
    clear Hi hl3
    by_cases h2 : F2 = 0
    · subst h2
      have c0 := (S.lv 0 rfl).all
      go_wp2_with fail
      ((with_reducible refine (Hq1.out w3 S.b).mono ?_); rintro e w4 ⟨rfl, hl4⟩)
      replace S := S.below hl4
      go_wp2_with fail
      go_ret
      exact ⟨ret_i HR.out, S.b⟩
    · have h2' : (F2 != 0) = true := by simpa using h2
      obtain rfl : F2 = R := by rw [← HR.out, first3, if_neg (by simp), if_pos h2]
      clear HR h2
      go_wp2_with fail
      go_ret
      exact ⟨rfl, S.b⟩
  · have h1' : (F1 != 0) = true := by simpa using h1
    obtain rfl : F1 = R := by rw [← HR.out, first3, if_pos h1]
    clear HR h1 Hq
    go_wp2_with fail
    go_ret
    exact ⟨rfl, S.b⟩
/-- those that may be written to -/
def mayB (p : List Purp) (l : List Stm) (pu rg : ByteArray) (ch at' : Int) (y : IdV) : Bool := (mayAns p l y.k y.t pu rg ch at').1
def audErr (p : List Purp) (l : List Stm) (xs : List IdV) (pu rg : ByteArray) (ch at' : Int) : Int := first3 (stmsFault p l) (idsErr 2000 xs) (qErr p pu rg ch at')
def audAns (p : List Purp) (l : List Stm) (xs : List IdV) (pu rg : ByteArray) (ch at' : Int) : List IdV := (onceI xs).filter (mayB p l pu rg ch at')
def GivesIds (xs : List IdV) (F : Int) (w : World) (e : Ending) (w' : World) : Prop := ∃ A c, e = .returned (.tuple #[.slice A xs.length c, .int .i64 F]) ∧ Sl rId (Lt w.heap.size) w' A xs ∧ Below w.heap.size w w'
theorem Own.shape {α : Type} {r : Rep α} {N : Nat → Prop} {B E : Nat} {w : World} {v : Value} {xs : List α} (h : Own r N B E w v xs) : (v = .slice none 0 0 ∧ xs = []) ∨ ∃ g cap, v = .slice (some ⟨g, 0, none⟩) xs.length cap := by
  obtain ⟨ls, hl, hr, ho⟩ := h
  rcases ho.2 with ⟨rfl, h0⟩ | ⟨g, cap, cur, rfl, _⟩
  · exact .inl ⟨rfl, List.length_eq_zero_iff.1 h0⟩
  · exact .inr ⟨g, cap, rfl⟩
set_option maxRecDepth 100000 in
theorem idxNil_any (f : Value) (w : World) : Calls Tryz.prog 150 #[.slice none 0 0, f] w fun e w' => e = .returned (.int .i64 (-1)) ∧ w = w' := by
  go_enter Tryz.func150, Tryz.ntmps150
  go_wp2_with fail
  go_loopw [8] (fun i wr => i = .int .i64 0 ∧ w = wr) (fun _ _ => 0)
  case atStart => exact ⟨rfl, rfl⟩
  case round =>
    obtain ⟨rfl, rfl⟩ := hrel
    go_wp2_with fail
    go_ret
    exact ⟨rfl, rfl⟩
set_option maxRecDepth 100000 in
theorem delNil_any (f : Value) (w : World) : Calls Tryz.prog 95 #[.slice none 0 0, f] w fun e w' => e = .returned (.slice none 0 0) ∧ w = w' := by
  have h := Lib.hid (idxNil_any f w)
  go_enter Tryz.func95, Tryz.ntmps95
  go_wp2_with fail
  ((with_reducible refine (h.out).mono ?_); rintro e w2 ⟨rfl, rfl⟩)
  go_wp2_with fail
  go_ret
  exact ⟨rfl, rfl⟩
set_option maxHeartbeats 8000000 in
set_option maxRecDepth 100000 in
theorem audience_any (A Al Ai : Option Addr) (p : List Purp) (l : List Stm) (xs : List IdV) (c cl ci : Nat) (pu rg : ByteArray) (ch at' : Int) (w : World) (hS : Sl rPurp (fun _ => False) w A p) (hok : PolOk p) (hL : Sl rStm (fun _ => False) w Al l) (hlo : StmOk l) (hl : l.length ≤ 19) (hI : Sl rId (fun _ => False) w Ai xs) (hxl : xs.length ≤ 1000) (hxt : ∀ y ∈ xs, y.t.size ≤ 1000000) (hrg : rg.size ≤ 1000000000) (hM : MaxL w) :
    Calls Tryz.prog 39 #[.slice A p.length c, .slice Al l.length cl, .slice Ai xs.length ci, .string pu, .string rg, .int .i64 ch, .int .i64 at'] w (GivesIds (if audErr p l xs pu rg ch at' = 0 then audAns p l xs pu rg ch at' else []) (audErr p l xs pu rg ch at') w) := by
  have Hall := Lib.hid (fun w' (h : Below w.heap.size w w') => checkAllN_any (fun _ => False) A Al Ai p l xs c cl ci pu rg ch at' 2000 w' (hS.keepB h) hok (hL.keepB h) hlo (hI.keepB h) (by omega) hxt hrg (hM.below h))
  have HO := Lib.hid (fun w' (h : Below w.heap.size w w') => once_any (fun _ => False) Ai xs ci w' (hI.keepB h) (by omega))
  have HOl : Hid ((onceI xs).length ≤ 1000) := Nat.le_trans (onceGo_len xs []) (by simpa using hxl)
  have HA := Lib.hid (fun (hF : audErr p l xs pu rg ch at' = 0) (y : IdV) (Q Lb Ab : Nat) w' (h : Below w.heap.size w w') (hQ : LV w' Q (qCs A p.length c pu rg ch at') 118) (hLb : LV w' Lb #[.slice Al l.length cl] 41) (hAb : LV w' Ab #[.int .i64 at'] 3) =>
    aud1_any (fun _ => False) A Al p l c cl pu rg ch at' y Q Lb Ab w' (hS.keepB h) (policy_good (stms_good (first3_zero hF).1).1) (hL.keepB h) (stms_good (first3_zero hF).1).2 hl (qErr_at (first3_zero hF).2.2) hQ hLb hAb)
  obtain ⟨P, hP⟩ : ∃ P : IdV → Bool, P = fun y => !(mayAns p l y.k y.t pu rg ch at').1 := ⟨_, rfl⟩
  have HP : Hid (∀ y : IdV, (!(mayAns p l y.k y.t pu rg ch at').1) = P y) := fun y => by rw [hP]
  obtain ⟨F, HF⟩ : ∃ F, Hid (audErr p l xs pu rg ch at' = F) := ⟨_, Lib.hid rfl⟩
  have Hall2 : Hid (∀ w' (h : Below w.heap.size w w'), Calls Tryz.prog 78 #[.agg (qCs A p.length c pu rg ch at'), .slice Al l.length cl, .int .i64 2000, .slice Ai xs.length ci] w' fun e w'' => e = .returned (.int .i64 F) ∧ Below w'.heap.size w' w'') := fun w' h => HF.out ▸ Hall.out w' h
  have HA2 : Hid (F = 0 → ∀ (y : IdV) (Q Lb Ab : Nat) w' (h : Below w.heap.size w w') (hQ : LV w' Q (qCs A p.length c pu rg ch at') 118) (hLb : LV w' Lb #[.slice Al l.length cl] 41) (hAb : LV w' Ab #[.int .i64 at'] 3), Calls Tryz.prog 97 #[.agg #[.int .i64 y.k, .string y.t], .pointer (some ⟨Q, 0, none⟩), .pointer (some ⟨Lb, 0, none⟩), .pointer (some ⟨Ab, 0, none⟩)] w' fun e w'' => e = .returned (.bool (P y)) ∧ Below w'.heap.size w' w'') := fun h0 y Q Lb Ab w' h hQ hLb hAb => HP.out y ▸ HA.out (HF.out.trans h0) y Q Lb Ab w' h hQ hLb hAb
  have HAns : Hid (audAns p l xs pu rg ch at' = (onceI xs).filter (keepB P)) := by
    show _ = _
    rw [audAns, hP]
    congr 1
    funext y
    simp [keepB, mayB]
  rw [HF.out]
  obtain ⟨Rs, HRs⟩ : ∃ Rs, Hid ((if F = 0 then audAns p l xs pu rg ch at' else []) = Rs) := ⟨_, Lib.hid rfl⟩
  rw [HRs.out]
  rw [HAns.out] at HRs
  clear hS hok hL hlo hI hxt hM Hall HA HF hP HP HAns
  have S := ((((Mem.start w).new' #[.slice Al l.length cl] 41).new' #[.int .i64 at'] 3).new' (qCs A p.length c pu rg ch at') 118)
  replace S : Mem w (((w.alloc (.cells #[.slice Al l.length cl] 41)).alloc (.cells #[.int .i64 at'] 3)).alloc (.cells (qCs A p.length c pu rg ch at') 118)) [.loc w.heap.size #[.slice Al l.length cl] 41, .loc (w.heap.size + 1) #[.int .i64 at'] 3, .loc (w.heap.size + 1 + 1) (qCs A p.length c pu rg ch at') 118] := by simpa using S
  go_enter Tryz.func39, Tryz.ntmps39
  go_upto_region 2 with fail
  generalize (((w.alloc (.cells #[.slice Al l.length cl] 41)).alloc (.cells #[.int .i64 at'] 3)).alloc (.cells (qCs A p.length c pu rg ch at') 118)) = w1 at *
  have c0 := (S.lv 0 rfl).all
  have c2 := (S.lv 2 rfl).all
  go_wp2_with fail
  ((with_reducible refine (Hall2.out w1 S.b).mono ?_); rintro e w2 ⟨rfl, hl2⟩)
  replace S := S.below hl2
  clear hl2 Hall2 c0 c2
  by_cases hF : F = 0
  · have HA3 := Lib.hid (HA2.out hF)
    have HR1 : Hid ((onceI xs).filter (keepB P) = Rs) := by show _ = _; rw [← HRs.out, if_pos hF]
    subst hF
    clear HA2 HRs
    go_wp2_with fail
    ((with_reducible refine (HO.out w2 S.b).mono ?_); rintro e w3 ⟨v, rfl, T⟩)
    have Hsz := Lib.hid S.b.size
    replace S := (S.join T).front (cs := [.loc w.heap.size #[.slice Al l.length cl] 41, .loc (w.heap.size + 1) #[.int .i64 at'] 3, .loc (w.heap.size + 1 + 1) (qCs A p.length c pu rg ch at') 118])
    clear T HO
    generalize onceI xs = ys at *
    have hw2 : w.heap.size ≤ w2.heap.size := Hsz.out
    rcases (S.ow 0 rfl).shape with ⟨rfl, rfl⟩ | ⟨g, cap, rfl⟩
    · obtain rfl : [] = Rs := HR1.out
      go_wp2_with fail
      ((with_reducible refine (delNil_any _ w3).mono ?_); rintro e w4 ⟨rfl, rfl⟩)
      go_wp2_with fail
      exact bodyPost_ret (results_tt rfl rfl rfl) rfl ⟨none, 0, rfl, Sl.nil, S.b⟩
    · have Hd := Lib.hid (delId_any (Q := w.heap.size + 1 + 1) (Lb := w.heap.size) (Ab := w.heap.size + 1) P S rfl (by have := HOl.out; omega) (fun y w' ys' hM => HA3.out y _ _ _ w' hM.b (hM.lv 3 rfl) (hM.lv 1 rfl) (hM.lv 2 rfl)))
      clear HA3
      go_wp2_with fail
      ((with_reducible refine (Hd.out).mono ?_); rintro e w4 ⟨rfl, S4⟩)
      clear Hd
      rw [HR1.out] at S4 ⊢
      obtain ⟨A2, c2, e2, hS⟩ := ((S4.ow 0 rfl).flatM flatId (M' := Lt w.heap.size)).toSlC (fun k h1 h2 => by unfold Lt at h2; omega)
      have He := Lib.hid e2
      have HS2 := Lib.hid hS.2
      clear hS e2
      go_wp2_with fail
      exact bodyPost_ret (results_tt rfl rfl rfl) rfl ⟨A2, c2, congrArg (fun x => Ending.returned (.tuple #[x, .int .i64 0])) He.out, HS2.out, S4.b⟩
  · have hF' : (F != 0) = true := by simpa using hF
    obtain rfl : [] = Rs := by rw [← HRs.out, if_neg hF]
    clear hF HRs HA2
    go_wp2_with fail
    exact bodyPost_ret (results_tt rfl rfl rfl) rfl ⟨none, 0, rfl, Sl.nil, S.b⟩
end Go.Proofs.YtlnklkedpknbpaaGreatDoor
