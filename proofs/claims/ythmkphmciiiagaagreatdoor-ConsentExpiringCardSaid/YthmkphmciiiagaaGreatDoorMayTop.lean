/- What consent.checkAll (one id) and consent.May return, at all statements. -/
import Derived.Test.YthmkphmciiiagaaGreatDoorMayAll
namespace Go.Proofs.YthmkphmciiiagaaGreatDoor
open Go Go.RowKit
def first3 (a b c : Int) : Int := if a ≠ 0 then a else if b ≠ 0 then b else c
set_option maxHeartbeats 4000000 in
set_option maxRecDepth 100000 in
theorem checkAll1_any (N : Nat → Prop) (A Al : Option Addr) (p : List Purp) (l : List Stm) (c cl : Nat) (pu rg : ByteArray) (ch at' : Int) (X : Nat) (k : Int) (t : ByteArray) (w : World) (hS : Sl rPurp N w A p) (hok : PolOk p) (hL : Sl rStm N w Al l) (hlo : StmOk l) (hrg : rg.size ≤ 1000000000) (ht : t.size ≤ 1000000) (hM : MaxL w) (hX : LV w X (idCs k t) 29) :
    Calls Tryz.prog 57 #[.agg (qCs A p.length c pu rg ch at'), .slice Al l.length cl, .int .i64 1, .slice (some ⟨X, 0, none⟩) 1 1] w fun e w' => e = .returned (.int .i64 (first3 (stmsFault p l) (L.idFault k t) (qErr p pu rg ch at'))) ∧ Below w.heap.size w w' := by
  have S := (Mem.start w).new' (qCs A p.length c pu rg ch at') 96
  have Hc := Lib.hid (fun w' (h : Below w.heap.size w w') => check_any N A Al p l c cl w' (hS.keepB h) hok (hL.keepB h) hlo (hM.below h))
  have hXl := hX.lt
  have Hi := Lib.hid (fun w' (h : Below w.heap.size w w') => checkIds1_any X k t w' (LV.kb3 hX h hXl) ht (hM.below h))
  have Hq := Lib.hid (fun w' (hf : stmsFault p l = 0) (h : Below w.heap.size w w') => qcheck_any N A p c pu rg ch at' w' (hS.keepB h) (policy_good (stms_good hf).1) hrg)
  generalize stmsFault p l = F1 at *
  generalize L.idFault k t = F2 at *
  generalize qErr p pu rg ch at' = F3 at *
  obtain ⟨R, HR⟩ : ∃ R, Hid (first3 F1 F2 F3 = R) := ⟨_, Lib.hid rfl⟩
  rw [HR.out]
  clear hS hM hX hok hL hlo
  go_enter Tryz.func57, Tryz.ntmps57
  go_upto_region 1 with fail
  replace S : Mem w (w.alloc (.cells (qCs A p.length c pu rg ch at') 96)) [.loc w.heap.size (qCs A p.length c pu rg ch at') 96] := S
  generalize w.alloc (.cells (qCs A p.length c pu rg ch at') 96) = w1 at *
  have c0 := (S.lv 0 rfl).all
  go_wp2_with fail
  ((with_reducible refine (Hc.out w1 S.b).mono ?_); rintro e w2 ⟨rfl, hl2⟩)
  replace S := S.below hl2
  clear c0 hl2 Hc
  by_cases h1 : F1 = 0
  · have Hq1 := Lib.hid (fun w' h => Hq.out w' h1 h)
    subst h1
    clear Hq
    go_wp2_with fail
    ((with_reducible refine (Hi.out w2 S.b).mono ?_); rintro e w3 ⟨rfl, hl3⟩)
    replace S := S.below hl3
    clear Hi hl3
    by_cases h2 : F2 = 0
    · subst h2
      have c0 := (S.lv 0 rfl).all
      go_wp2_with fail
      ((with_reducible refine (Hq1.out w3 S.b).mono ?_); rintro e w4 ⟨rfl, hl4⟩)
      replace S := S.below hl4
      go_wp2_with fail
      go_ret
      exact ⟨ret_i HR.out, S.b⟩
    · have h2' : (F2 != 0) = true := by simpa using h2
      obtain rfl : F2 = R := by rw [← HR.out, first3, if_neg (by simp), if_pos h2]
      clear HR h2
      go_wp2_with fail
      go_ret
      exact ⟨rfl, S.b⟩
  · have h1' : (F1 != 0) = true := by simpa using h1
    obtain rfl : F1 = R := by rw [← HR.out, first3, if_pos h1]
    clear HR h1 Hq
    go_wp2_with fail
    go_ret
    exact ⟨rfl, S.b⟩
/-- what May says -/
def mayAns (p : List Purp) (l : List Stm) (k : Int) (t pu rg : ByteArray) (ch at' : Int) : Bool × Int × Int := askR (termAt p pu rg ch) k t ch at' pu l
def mayErr (p : List Purp) (l : List Stm) (k : Int) (t pu rg : ByteArray) (ch at' : Int) : Int := first3 (stmsFault p l) (L.idFault k t) (qErr p pu rg ch at')
theorem qErr_at {p : List Purp} {pu rg : ByteArray} {ch at' : Int} (h : qErr p pu rg ch at' = 0) : 0 ≤ at' ∧ at' ≤ 4321439 := by
  unfold qErr at h
  split at h
  · cases h
  · split at h
    · cases h
    · split at h
      · cases h
      · split at h
        · cases h
        · rename_i h4; exact Decidable.not_not.1 h4
theorem termAt_good {p : List Purp} (hg : GoodPol p) {pu rg : ByteArray} {ch : Int} {tm : PTerm} (h : termAt p pu rg ch = some tm) : (0 ≤ tm.days ∧ tm.days ≤ 2000) ∧ (0 ≤ tm.wait ∧ tm.wait ≤ 100000) := by
  unfold termAt at h
  obtain ⟨q, hq, h2⟩ := Option.bind_eq_some_iff.1 h
  have hm := List.mem_of_find?_eq_some h2
  exact ((hg.ps q (purpAt_mem hq)).ts tm hm).rng
/-- the answer of what an id has said -/
def GivesAns (x : Bool × Int × Int) (w : World) (e : Ending) (w' : World) : Prop := e = .returned (aVal x) ∧ Below w.heap.size w w'
theorem answerAt_any {p : List Purp} {l U : List Stm} {k : Int} {t pu rg : ByteArray} {ch at' : Int} (hg : GoodPol p) (hgl : GoodL p l) (hU : IsOf k t ch l U) (hat : 0 ≤ at' ∧ at' ≤ 4321439) (hl : l.length ≤ 1000000) (N : Nat → Prop) (A : Option Addr) (c : Nat) (w : World) (hS : Sl rStm N w A U) (hc : U.length ≤ c ∧ (A = none → c = 0) ∧ ∀ a, A = some a → a.spot = none) :
    Calls Tryz.prog 59 #[.agg (askCs ((termAt p pu rg ch).getD tZero) (termAt p pu rg ch).isSome pu A U.length c), .int .i64 at'] w (GivesAns (mayAns p l k t pu rg ch at') w) := by
  have h := answer_any N (termAt p pu rg ch) pu A U c at' w hS (Nat.le_trans hU.len hl) hU.ord hc (fun s hs => hgl.at' s ((hU.mem s).1 hs).1) (fun t ht => termAt_good hg ht) (by omega)
  have e := ans_is (hU.said at') (fun s hs => (hgl.at' s hs).1) hgl.wh (fun t ht => (termAt_good hg ht).1.1) (tm := termAt p pu rg ch) (pu := pu)
  rw [e] at h
  exact h
theorem first3_zero {a b c : Int} (h : first3 a b c = 0) : a = 0 ∧ b = 0 ∧ c = 0 := by
  unfold first3 at h
  split at h
  · rename_i h1; exact absurd h h1
  · rename_i h1
    split at h
    · rename_i h2; exact absurd h h2
    · rename_i h2
      exact ⟨Decidable.not_not.1 h1, Decidable.not_not.1 h2, h⟩
def mayRes (p : List Purp) (l : List Stm) (k : Int) (t pu rg : ByteArray) (ch at' : Int) : Bool × Int × Int := if mayErr p l k t pu rg ch at' = 0 then mayAns p l k t pu rg ch at' else (false, 0, 0)
set_option maxHeartbeats 4000000 in
set_option maxRecDepth 100000 in
theorem may_any (N : Nat → Prop) (A Al : Option Addr) (p : List Purp) (l : List Stm) (c cl : Nat) (pu rg : ByteArray) (ch at' k : Int) (t : ByteArray) (w : World) (hS : Sl rPurp N w A p) (hok : PolOk p) (hL : Sl rStm N w Al l) (hlo : StmOk l) (hl : l.length ≤ 19) (hrg : rg.size ≤ 1000000000) (ht : t.size ≤ 1000000) (hM : MaxL w) :
    Calls Tryz.prog 64 #[.slice A p.length c, .slice Al l.length cl, .agg #[.int .i64 k, .string t], .string pu, .string rg, .int .i64 ch, .int .i64 at'] w fun e w' => e = .returned (.tuple #[aVal (mayRes p l k t pu rg ch at'), .int .i64 (mayErr p l k t pu rg ch at')]) ∧ Below w.heap.size w w' := by
  have Hall := Lib.hid (fun X w' (h : Below w.heap.size w w') (hX : LV w' X (idCs k t) 29) => checkAll1_any N A Al p l c cl pu rg ch at' X k t w' (hS.keepB h) hok (hL.keepB h) hlo hrg ht (hM.below h) hX)
  have Hgood : Hid (mayErr p l k t pu rg ch at' = 0 → GoodPol p ∧ GoodL p l ∧ (0 ≤ at' ∧ at' ≤ 4321439)) := fun h => by
    obtain ⟨h1, _, h3⟩ := first3_zero h
    obtain ⟨h4, h5⟩ := stms_good h1
    exact ⟨policy_good h4, h5, qErr_at h3⟩
  have Hask := Lib.hid (fun (hg : GoodPol p) (hn : l.Pairwise (fun a b => a.no < b.no)) w' (h : Below w.heap.size w w') => ask_any N A Al p l c cl pu rg ch at' k t w' (hS.keepB h) hg (hL.keepB h) hl hn)
  have Hans := Lib.hid (fun (hg : GoodPol p) (hgl : GoodL p l) (hat : 0 ≤ at' ∧ at' ≤ 4321439) (U : List Stm) (hU : IsOf k t ch l U) (N : Nat → Prop) Au cu w' (hS : Sl rStm N w' Au U) hc => answerAt_any (pu := pu) (rg := rg) hg hgl hU hat (by omega) N Au cu w' hS hc)
  obtain ⟨F, HF⟩ : ∃ F, Hid (mayErr p l k t pu rg ch at' = F) := ⟨_, Lib.hid rfl⟩
  have Hall2 : Hid (∀ X w' (h : Below w.heap.size w w') (hX : LV w' X (idCs k t) 29), Calls Tryz.prog 57 #[.agg (qCs A p.length c pu rg ch at'), .slice Al l.length cl, .int .i64 1, .slice (some ⟨X, 0, none⟩) 1 1] w' fun e w'' => e = .returned (.int .i64 F) ∧ Below w'.heap.size w' w'') := fun X w' h hX => HF.out ▸ Hall.out X w' h hX
  have HR : Hid (mayRes p l k t pu rg ch at' = if F = 0 then mayAns p l k t pu rg ch at' else (false, 0, 0)) := by show _ = _; rw [mayRes, HF.out]
  rw [HF.out] at Hgood ⊢
  generalize mayRes p l k t pu rg ch at' = R at *
  generalize mayAns p l k t pu rg ch at' = ans at *
  generalize (termAt p pu rg ch).getD tZero = tm at *
  generalize (termAt p pu rg ch).isSome = is at *
  clear hS hok hL hlo hM Hall HF
  have S := (((Mem.start w).new' (idCs k t) 29).new' (aCs false 0 0) 105).new' (qCs A p.length c pu rg ch at') 96
  replace S : Mem w (((w.alloc (.cells (idCs k t) 29)).alloc (.cells (aCs false 0 0) 105)).alloc (.cells (qCs A p.length c pu rg ch at') 96)) [.loc w.heap.size (idCs k t) 29, .loc (w.heap.size + 1) (aCs false 0 0) 105, .loc (w.heap.size + 1 + 1) (qCs A p.length c pu rg ch at') 96] := by simpa using S
  go_enter Tryz.func64, Tryz.ntmps64
  go_upto_region 2 with fail
  generalize ((w.alloc (.cells (idCs k t) 29)).alloc (.cells (aCs false 0 0) 105)).alloc (.cells (qCs A p.length c pu rg ch at') 96) = w1 at *
  have c0 := (S.lv 0 rfl).all
  have c2 := (S.lv 2 rfl).all
  have Hc := Lib.hid (Hall2.out w1.heap.size (w1.alloc (.cells (idCs k t) 29)) (S.alloc _).b (LV.new w1 w1.heap.size (idCs k t) 29 rfl))
  replace S := S.alloc (.cells (idCs k t) 29)
  clear Hall2
  go_wp2_with fail
  ((with_reducible refine (Hc.out).mono ?_); rintro e w3 ⟨rfl, hl3⟩)
  replace S := S.below hl3
  clear hl3 Hc c0 c2
  by_cases hF : F = 0
  · obtain ⟨hg, hgl, hat⟩ := Hgood.out hF
    obtain rfl : R = ans := by rw [HR.out, if_pos hF]
    have Ha := Lib.hid (Hask.out hg hgl.no)
    have Hb := Lib.hid (Hans.out hg hgl hat)
    subst hF
    clear hg hgl hat Hask Hans HR Hgood
    have c0 := (S.lv 0 rfl).all
    have c2 := (S.lv 2 rfl).all
    go_wp2_with fail
    ((with_reducible refine (Ha.out w3 S.b).mono ?_); rintro e w4 ⟨Au, U, cu, rfl, hU, hc, hSU, hl4⟩)
    replace S := S.below hl4
    have Hd := Lib.hid (Hb.out U hU _ Au cu w4 hSU hc)
    clear hl4 Ha Hb hU hc hSU c0 c2
    go_wp2_with fail
    ((with_reducible refine (Hd.out).mono ?_); rintro e w5 ⟨rfl, hl5⟩)
    replace S := S.below hl5
    clear hl5 Hd
    have c1 := (S.lv 1 rfl).all
    go_wp2_with fail
    have S2 := S.fillAns 1 rfl R.1 R.2.1 R.2.2
    exact bodyPost_ret (results_cs rfl rfl rfl (loadA (S2.lv 1 rfl))) rfl ⟨rfl, S2.b⟩
  · have hF' : (F != 0) = true := by simpa using hF
    obtain rfl : R = (false, 0, 0) := by rw [HR.out, if_neg hF]
    have c1 := (S.lv 1 rfl).all
    clear HR hF Hask Hans Hgood
    go_wp2_with fail
    have S2 := S.fillAns 1 rfl false 0 0
    exact bodyPost_ret (results_cs rfl rfl rfl (loadA (S2.lv 1 rfl))) rfl ⟨rfl, S2.b⟩
end Go.Proofs.YthmkphmciiiagaaGreatDoor
