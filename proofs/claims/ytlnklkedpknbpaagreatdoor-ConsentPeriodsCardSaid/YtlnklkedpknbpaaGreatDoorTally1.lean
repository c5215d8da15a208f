/- What consent.reachable and consent.checkRegion (several ids) return. -/
import Derived.Test.YtlnklkedpknbpaaGreatDoorAud
import Derived.Test.YtlnklkedpknbpaaGreatDoorChoices
namespace Go.Proofs.YtlnklkedpknbpaaGreatDoor
open Go Go.RowKit
/-- by some channel -/
def reachB (p : List Purp) (l : List Stm) (y : IdV) (pu rg : ByteArray) (at' : Int) : Bool := chans.any (fun ch => (mayAns p l y.k y.t pu rg ch at').1)
theorem may_no {p : List Purp} {l : List Stm} {k : Int} {t pu rg : ByteArray} {ch at' : Int} (h : (termAt p pu rg ch).isSome = false) : (mayAns p l k t pu rg ch at').1 = false := by
  unfold mayAns
  cases hq : termAt p pu rg ch with
  | none => rfl
  | some t => rw [hq] at h; cases h
theorem any_at {f : Int → Bool} {m : Nat} (h : m < 4) : (chans.drop m).any f = (f ((m : Int) + 1) || (chans.drop (m + 1)).any f) := by
  have h1 := chans_at m h
  obtain ⟨hk, e⟩ := List.getElem?_eq_some_iff.1 h1
  rw [List.drop_eq_getElem_cons hk, List.any_cons, e]
set_option maxHeartbeats 8000000 in
set_option maxRecDepth 100000 in
theorem reachable_any (N : Nat → Prop) (A Al : Option Addr) (p : List Purp) (l : List Stm) (c cl : Nat) (y : IdV) (pu rg : ByteArray) (at' : Int) (w : World) (hS : Sl rPurp N w A p) (hg : GoodPol p) (hL : Sl rStm N w Al l) (hgl : GoodL p l) (hl : l.length ≤ 19) (hat : 0 ≤ at' ∧ at' ≤ 4321439) :
    Calls Tryz.prog 98 #[.slice A p.length c, .slice Al l.length cl, .agg #[.int .i64 y.k, .string y.t], .string pu, .string rg, .int .i64 at'] w fun e w' => e = .returned (.bool (reachB p l y pu rg at')) ∧ Below w.heap.size w w' := by
  have Ht := Lib.hid (fun ch w' (h : Below w.heap.size w w') => termOf_any N A p pu rg ch c w' (hS.keepB h) hg)
  have Ha := Lib.hid (fun ch w' (h : Below w.heap.size w w') => ask_any N A Al p l c cl pu rg ch at' y.k y.t w' (hS.keepB h) hg (hL.keepB h) hl hgl.no)
  have Hb := Lib.hid (fun ch (U : List Stm) (hU : IsOf y.k y.t ch l U) (N : Nat → Prop) Au cu w' (hS : Sl rStm N w' Au U) hc => answerAt_any (pu := pu) (rg := rg) hg hgl hU hat (by omega) N Au cu w' hS hc)
  obtain ⟨R, HR⟩ : ∃ R, Hid (reachB p l y pu rg at' = R) := ⟨_, Lib.hid rfl⟩
  rw [HR.out]
  have HR0 : Hid ((chans.drop 0).any (fun ch => (mayAns p l y.k y.t pu rg ch at').1) = R) := HR.out
  clear HR hS hg hL hgl
  have hfm := fieldMay
  have S := (Mem.start w).new' (idCs y.k y.t) 29
  replace S : Mem w (w.alloc (.cells (idCs y.k y.t) 29)) [.loc w.heap.size (idCs y.k y.t) 29] := S
  go_enter Tryz.func98, Tryz.ntmps98
  go_upto_region 1 with fail
  generalize w.alloc (.cells (idCs y.k y.t) 29) = w1 at *
  go_wp2_with fail
  go_loopw [13] (fun i wr => ∃ m : Nat, m ≤ 4 ∧ i = .int .i64 (m + 1) ∧ Hid ((chans.drop m).any (fun ch => (mayAns p l y.k y.t pu rg ch at').1) = R) ∧ Mem w wr [.loc w.heap.size (idCs y.k y.t) 29]) (fun i _ => 5 - (intOf i).toNat)
  case atStart => exact ⟨0, by omega, rfl, HR0, S⟩
  case round =>
    clear S HR0
    obtain ⟨m, hm, rfl, HR, S⟩ := hrel
    by_cases hm4 : m < 4
    · have HR2 : Hid (((mayAns p l y.k y.t pu rg ((m : Int) + 1) at').1 || (chans.drop (m + 1)).any (fun ch => (mayAns p l y.k y.t pu rg ch at').1)) = R) := by show _ = _; rw [← HR.out, any_at hm4]
      have Hno : Hid ((termAt p pu rg ((m : Int) + 1)).isSome = false → (mayAns p l y.k y.t pu rg ((m : Int) + 1) at').1 = false) := fun h => may_no h
      have Ht1 := Lib.hid (fun w' h => Ht.out ((m : Int) + 1) w' h)
      have Ha1 := Lib.hid (fun w' h => Ha.out ((m : Int) + 1) w' h)
      have Hb1 := Lib.hid (fun U hU N Au cu w' hS hc => Hb.out ((m : Int) + 1) U hU N Au cu w' hS hc)
      clear HR
      generalize (termAt p pu rg ((m : Int) + 1)).getD tZero = tm at *
      generalize (termAt p pu rg ((m : Int) + 1)).isSome = is at *
      obtain ⟨an, Han⟩ : ∃ an, Hid (mayAns p l y.k y.t pu rg ((m : Int) + 1) at' = an) := ⟨_, Lib.hid rfl⟩
      rw [Han.out] at HR2 Hno Hb1
      clear Han
      go_upto_region 5 with fail
      obtain ⟨Q, hQ⟩ : ∃ Q, Q = wr.heap.size := ⟨_, rfl⟩
      replace S := S.newAt (qCs A p.length c pu rg (m + 1) at') 118 Q hQ
      rw [← hQ]
      clear hQ
      generalize wr.alloc (.cells (qCs A p.length c pu rg (m + 1) at') 118) = w2 at *
      go_wp2_with fail
      ((with_reducible refine (Ht1.out w2 S.b).mono ?_); rintro e w3 ⟨rfl, hl3⟩)
      replace S := S.below hl3
      clear hl3 Ht1
      go_upto_region 6 with fail
      obtain ⟨T, hT⟩ : ∃ T, T = w3.heap.size := ⟨_, rfl⟩
      replace S := S.newAt (tCs tm) 34 T hT
      rw [← hT]
      clear hT
      generalize w3.alloc (.cells (tCs tm) 34) = w4 at *
      cases is with
      | false =>
        have HR3 : Hid ((chans.drop (m + 1)).any (fun ch => (mayAns p l y.k y.t pu rg ch at').1) = R) := by show _ = _; rw [← HR2.out, Hno.out rfl]; simp
        clear Hno HR2
        go_wp2_with fail
        go_roundw
        case rel => exact ⟨m + 1, by omega, by go_num, HR3, (S.del 2).del 1⟩
        case measure => simp [intOf]; omega
      | true =>
        have c0 := (S.lv 0 rfl).all
        have c1 := (S.lv 1 rfl).all
        clear Hno
        go_wp2_with fail
        ((with_reducible refine (Ha1.out w4 S.b).mono ?_); rintro e w5 ⟨Au, U, cu, rfl, hU, hc, hSU, hl5⟩)
        replace S := S.below hl5
        have Hd := Lib.hid (Hb1.out U hU _ Au cu w5 hSU hc)
        clear hl5 hU hc hSU Ha1 Hb1 c0 c1
        go_wp2_with fail
        ((with_reducible refine (Hd.out).mono ?_); rintro e w6 ⟨rfl, hl6⟩)
        rw [show aVal an = Value.agg #[.bool an.1, .int .i64 an.2.1, .int .i64 an.2.2] from rfl]
        replace S := S.below hl6
        clear hl6 Hd
        cases hm' : an.1 with
        | true =>
          obtain rfl : true = R := by rw [← HR2.out, hm']; rfl
          go_wp2_with fail
          go_ret
          exact ⟨rfl, S.b⟩
        | false =>
          have HR3 : Hid ((chans.drop (m + 1)).any (fun ch => (mayAns p l y.k y.t pu rg ch at').1) = R) := by show _ = _; rw [← HR2.out, hm']; simp
          go_wp2_with fail
          go_roundw
          case rel => exact ⟨m + 1, by omega, by go_num, HR3, (S.del 2).del 1⟩
          case measure => simp [intOf]; omega
    · obtain rfl : false = R := by rw [← HR.out, List.drop_eq_nil_of_le (by simp; omega)]; rfl
      go_wp2_with fail
      go_ret
      exact ⟨rfl, S.b⟩
def regErrN (p : List Purp) (l : List Stm) (xs : List IdV) (rg : ByteArray) (at' : Int) : Int := audErr p l xs (headName p) rg 1 at'
set_option maxHeartbeats 4000000 in
set_option maxRecDepth 100000 in
theorem checkRegionN_any (N : Nat → Prop) (A Al Ai : Option Addr) (p : List Purp) (l : List Stm) (xs : List IdV) (c cl ci : Nat) (rg : ByteArray) (at' : Int) (w : World) (hS : Sl rPurp N w A p) (hok : PolOk p) (hL : Sl rStm N w Al l) (hlo : StmOk l) (hI : Sl rId N w Ai xs) (hxl : xs.length ≤ 1000000) (hxt : ∀ y ∈ xs, y.t.size ≤ 1000000) (hrg : rg.size ≤ 1000000000) (hM : MaxL w) :
    Calls Tryz.prog 83 #[.slice A p.length c, .slice Al l.length cl, .string rg, .int .i64 at', .int .i64 2000, .slice Ai xs.length ci] w fun e w' => e = .returned (.int .i64 (regErrN p l xs rg at')) ∧ Below w.heap.size w w' := by
  have HS := Lib.hid hS
  have Hc := Lib.hid (check_any N A Al p l c cl w hS hok hL hlo hM)
  have Ha := Lib.hid (fun w' (h : Below w.heap.size w w') => checkAllN_any N A Al Ai p l xs c cl ci (headName p) rg 1 at' 2000 w' (hS.keepB h) hok (hL.keepB h) hlo (hI.keepB h) hxl hxt hrg (hM.below h))
  have Hne : Hid (stmsFault p l = 0 → 1 ≤ p.length) := fun h => (policy_good (stms_good h).1).len.1
  obtain ⟨R, HR⟩ : ∃ R, Hid (regErrN p l xs rg at' = R) := ⟨_, Lib.hid rfl⟩
  rw [HR.out]
  rw [show first3 (stmsFault p l) (idsErr 2000 xs) (qErr p (headName p) rg 1 at') = R from HR.out] at Ha
  have HR2 : Hid (stmsFault p l ≠ 0 → stmsFault p l = R) := fun h => by rw [← HR.out, regErrN, audErr, first3, if_pos h]
  generalize stmsFault p l = F at *
  clear hS hM hok hL hlo hI hxt HR
  go_enter Tryz.func83, Tryz.ntmps83
  go_wp2_with fail
  ((with_reducible refine (Hc.out).mono ?_); rintro e w2 ⟨rfl, hl2⟩)
  have Hb := Lib.hid hl2
  clear hl2 Hc
  by_cases hF : F = 0
  · have hne := Hne.out hF
    subst hF
    obtain ⟨u, r, rfl⟩ : ∃ u r, p = u :: r := by
      cases p with
      | nil => simp at hne
      | cons u r => exact ⟨u, r, rfl⟩
    obtain ⟨blk, off, At, ct, rfl, _, d0, _, _⟩ := (HS.out.keepB Hb.out).purp 0 u rfl
    rw [Nat.zero_mul, Nat.add_zero] at d0
    have Hd := Lib.hid (Ha.out w2 Hb.out)
    rw [show headName (u :: r) = u.name from rfl, List.length_cons] at Hd
    clear Ha HR2 Hne HS
    go_wp2_with fail
    ((with_reducible refine (Hd.out).mono ?_); rintro e w3 ⟨rfl, hl3⟩)
    go_wp2_with fail
    go_ret
    exact ⟨rfl, Hb.out.trans (hl3.mono Hb.out.size)⟩
  · have hF' : (F != 0) = true := by simpa using hF
    obtain rfl : F = R := HR2.out hF
    clear HR2 hF Hne Ha
    go_wp2_with fail
    go_ret
    exact ⟨rfl, Hb.out⟩
end Go.Proofs.YtlnklkedpknbpaaGreatDoor
