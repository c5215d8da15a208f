/- What consent.MayOf returns. -/
import Derived.Test.YtlnklkedpknbpaaGreatDoorIds
namespace Go.Proofs.YtlnklkedpknbpaaGreatDoor
open Go Go.RowKit
def mofE (F1 F2 F3 F4 : Int) (B : Bool) : Int := if F1 ≠ 0 then F1 else if F2 ≠ 0 then F2 else if F3 ≠ 0 then F3 else if F4 ≠ 0 then F4 else if B = true then 0 else 8
/-- the answer of all ids: the first other id's that has objected or withdrawn -/
def othR (f : IdV → Bool × Int × Int) (x : IdV) (own : Bool × Int × Int) : List IdV → Bool × Int × Int
  | [] => own
  | y :: r => if y = x then othR f x own r else if (f y).2.1 = 6 ∨ (f y).2.1 = 5 then f y else othR f x own r
def mofAns (f : IdV → Bool × Int × Int) (x : IdV) (xs : List IdV) : Bool × Int × Int := if (f x).1 = true then othR f x (f x) xs else f x
theorem othR_at {f : IdV → Bool × Int × Int} {x y : IdV} {own : Bool × Int × Int} {xs : List IdV} {j : Nat} (h : xs[j]? = some y) : othR f x own (xs.drop j) = if y = x then othR f x own (xs.drop (j + 1)) else if (f y).2.1 = 6 ∨ (f y).2.1 = 5 then f y else othR f x own (xs.drop (j + 1)) := by
  obtain ⟨hk, rfl⟩ := List.getElem?_eq_some_iff.1 h
  rw [List.drop_eq_getElem_cons hk, othR]
theorem idv_ne {x y : IdV} (h : ¬ y = x) : (y.k == x.k) = false ∨ ((y.k == x.k) = true ∧ (y.t.toList == x.t.toList) = false) := by
  by_cases h1 : y.k = x.k
  · refine .inr ⟨by simpa using h1, ?_⟩
    cases h3 : (y.t.toList == x.t.toList) with
    | false => rfl
    | true => exact absurd (idv_eq h1 h3) h
  · exact .inl (by simpa using h1)
set_option maxHeartbeats 4000000 in
set_option maxRecDepth 100000 in
theorem mayOf_any (N : Nat → Prop) (A Al Ai : Option Addr) (p : List Purp) (l : List Stm) (xs : List IdV) (c cl ci : Nat) (pu rg : ByteArray) (ch at' : Int) (x : IdV) (w : World) (hS : Sl rPurp N w A p) (hok : PolOk p) (hL : Sl rStm N w Al l) (hlo : StmOk l) (hl : l.length ≤ 19) (hI : Sl rId N w Ai xs) (hxl : xs.length ≤ 1000000) (hxt : ∀ y ∈ xs, y.t.size ≤ 1000000) (hrg : rg.size ≤ 1000000000) (ht : x.t.size ≤ 1000000) (hM : MaxL w) (E : Int) (hE : mofE (stmsFault p l) (idsErr 100 xs) (L.idFault x.k x.t) (qErr p pu rg ch at') (decide (x ∈ xs)) = E) (R : Bool × Int × Int) (hR : R = if E = 0 then mofAns (fun y => mayAns p l y.k y.t pu rg ch at') x xs else (false, 0, 0)) :
    Calls Tryz.prog 34 #[.slice A p.length c, .slice Al l.length cl, .slice Ai xs.length ci, .agg #[.int .i64 x.k, .string x.t], .string pu, .string rg, .int .i64 ch, .int .i64 at'] w fun e w' => e = .returned (.tuple #[aVal R, .int .i64 E]) ∧ Below w.heap.size w w' := by
  have Hc := Lib.hid (fun w' (h : Below w.heap.size w w') => check_any N A Al p l c cl w' (hS.keepB h) hok (hL.keepB h) hlo (hM.below h))
  have Hi := Lib.hid (fun w' (h : Below w.heap.size w w') => checkIds_any N Ai xs ci 100 w' (hI.keepB h) hxl hxt (hM.below h))
  have Hx := Lib.hid (fun w' (h : Below w.heap.size w w') => checkId_any x.k x.t w' ht (hM.below h))
  have Hq := Lib.hid (fun w' (hf : stmsFault p l = 0) (h : Below w.heap.size w w') => qcheck_any N A p c pu rg ch at' w' (hS.keepB h) (policy_good (stms_good hf).1) hrg)
  have Hn := Lib.hid (fun w' (h : Below w.heap.size w w') => containsId_any N Ai xs ci x w' (hI.keepB h) hxl)
  have HI := Lib.hid (fun w' (h : Below w.heap.size w w') => hI.keepB h)
  have Hask := Lib.hid (fun (hf : stmsFault p l = 0) (y : IdV) w' (h : Below w.heap.size w w') => ask_any N A Al p l c cl pu rg ch at' y.k y.t w' (hS.keepB h) (policy_good (stms_good hf).1) (hL.keepB h) hl (stms_good hf).2.no)
  have Hans := Lib.hid (fun (hf : stmsFault p l = 0) (hq : qErr p pu rg ch at' = 0) (y : IdV) (U : List Stm) (hU : IsOf y.k y.t ch l U) (N : Nat → Prop) Au cu w' (hS : Sl rStm N w' Au U) hc => answerAt_any (pu := pu) (rg := rg) (policy_good (stms_good hf).1) (stms_good hf).2 hU (qErr_at hq) (by omega) N Au cu w' hS hc)
  obtain ⟨f, hf⟩ : ∃ f : IdV → Bool × Int × Int, (fun y => mayAns p l y.k y.t pu rg ch at') = f := ⟨_, rfl⟩
  have Hf : Hid (∀ y : IdV, mayAns p l y.k y.t pu rg ch at' = f y) := fun y => by rw [← hf]
  rw [hf] at hR
  have HE := Lib.hid hE
  have HR := Lib.hid hR
  replace Hans : Hid (∀ (_ : stmsFault p l = 0) (_ : qErr p pu rg ch at' = 0) (y : IdV) (U : List Stm) (_ : IsOf y.k y.t ch l U) (N : Nat → Prop) (Au : Option Addr) (cu : Nat) (w' : World) (_ : Sl rStm N w' Au U) (_ : U.length ≤ cu ∧ (Au = none → cu = 0) ∧ ∀ a, Au = some a → a.spot = none), Calls Tryz.prog 80 #[.agg (askCs ((termAt p pu rg ch).getD tZero) (termAt p pu rg ch).isSome pu Au U.length cu), .int .i64 at'] w' (GivesAns (f y) w')) := fun h1 h2 y U hU N Au cu w' hS hc => Hf.out y ▸ Hans.out h1 h2 y U hU N Au cu w' hS hc
  generalize (termAt p pu rg ch).getD tZero = tm at *
  generalize (termAt p pu rg ch).isSome = is at *
  generalize stmsFault p l = F1 at *
  generalize idsErr 100 xs = F2 at *
  generalize L.idFault x.k x.t = F3 at *
  generalize qErr p pu rg ch at' = F4 at *
  generalize decide (x ∈ xs) = B at *
  clear hS hok hL hlo hI hxt hM hE hR hf Hf
  have S := (((Mem.start w).new' (idCs x.k x.t) 29).new' (aCs false 0 0) 48).new' (qCs A p.length c pu rg ch at') 118
  replace S : Mem w (((w.alloc (.cells (idCs x.k x.t) 29)).alloc (.cells (aCs false 0 0) 48)).alloc (.cells (qCs A p.length c pu rg ch at') 118)) [.loc w.heap.size (idCs x.k x.t) 29, .loc (w.heap.size + 1) (aCs false 0 0) 48, .loc (w.heap.size + 1 + 1) (qCs A p.length c pu rg ch at') 118] := by simpa using S
  go_enter Tryz.func34, Tryz.ntmps34
  go_upto_region 2 with fail
  generalize ((w.alloc (.cells (idCs x.k x.t) 29)).alloc (.cells (aCs false 0 0) 48)).alloc (.cells (qCs A p.length c pu rg ch at') 118) = w1 at *
  go_wp2_with fail
  ((with_reducible refine (Hc.out w1 S.b).mono ?_); rintro e w2 ⟨rfl, hl2⟩)
  replace S := S.below hl2
  clear hl2 Hc
  by_cases h1 : F1 = 0
  · have Hq1 := Lib.hid (fun w' h => Hq.out w' h1 h)
    have Hask1 := Lib.hid (Hask.out h1)
    have Hans1 := Lib.hid (Hans.out h1)
    have HE1 : Hid ((if F2 ≠ 0 then F2 else if F3 ≠ 0 then F3 else if F4 ≠ 0 then F4 else if B = true then 0 else 8) = E) := by show _ = _; rw [← HE.out, mofE, if_neg (show ¬ F1 ≠ 0 from fun h => h h1)]
    clear Hq Hask Hans HE
    subst h1
    go_wp2_with fail
    ((with_reducible refine (Hi.out w2 S.b).mono ?_); rintro e w3 ⟨rfl, hl3⟩)
    replace S := S.below hl3
    clear hl3 Hi
    by_cases h2 : F2 = 0
    · have HE2 : Hid ((if F3 ≠ 0 then F3 else if F4 ≠ 0 then F4 else if B = true then 0 else 8) = E) := by show _ = _; rw [← HE1.out, if_neg (show ¬ F2 ≠ 0 from fun h => h h2)]
      clear HE1
      subst h2
      have c0 := (S.lv 0 rfl).all
      go_wp2_with fail
      ((with_reducible refine (Hx.out w3 S.b).mono ?_); rintro e w4 ⟨rfl, hl4⟩)
      replace S := S.below hl4
      clear hl4 Hx c0
      by_cases h3 : F3 = 0
      · have HE3 : Hid ((if F4 ≠ 0 then F4 else if B = true then 0 else 8) = E) := by show _ = _; rw [← HE2.out, if_neg (show ¬ F3 ≠ 0 from fun h => h h3)]
        clear HE2
        subst h3
        have c2 := (S.lv 2 rfl).all
        go_wp2_with fail
        ((with_reducible refine (Hq1.out w4 S.b).mono ?_); rintro e w5 ⟨rfl, hl5⟩)
        replace S := S.below hl5
        clear hl5 Hq1 c2
        by_cases h4 : F4 = 0
        · have HE4 : Hid ((if B = true then 0 else 8) = E) := by show _ = _; rw [← HE3.out, if_neg (show ¬ F4 ≠ 0 from fun h => h h4)]
          have Hans2 := Lib.hid (Hans1.out h4)
          clear HE3 Hans1
          subst h4
          have c0 := (S.lv 0 rfl).all
          go_wp2_with fail
          ((with_reducible refine (Hn.out w5 S.b).mono ?_); rintro e w6 ⟨rfl, hl6⟩)
          replace S := S.below hl6
          clear hl6 Hn c0
          cases B with
          | false =>
            obtain rfl : 8 = E := HE4.out
            obtain rfl : R = (false, 0, 0) := by rw [HR.out]; rfl
            clear HE4 HR Hask1 Hans2 HI
            have c1 := (S.lv 1 rfl).all
            go_wp2_with fail
            have S2 := S.fillAns 1 rfl false 0 0
            exact bodyPost_ret (results_cs rfl rfl rfl (loadA (S2.lv 1 rfl))) rfl ⟨rfl, S2.b⟩
          | true =>
            obtain rfl : 0 = E := HE4.out
            replace HR : Hid (R = mofAns f x xs) := by show _ = _; rw [HR.out, if_pos rfl]
            clear HE4
            have c0 := (S.lv 0 rfl).all
            have c2 := (S.lv 2 rfl).all
            go_wp2_with fail
            ((with_reducible refine (Hask1.out x w6 S.b).mono ?_); rintro e w7 ⟨Au, U, cu, rfl, hU, hc, hSU, hl7⟩)
            replace S := S.below hl7
            have Hd := Lib.hid (Hans2.out x U hU _ Au cu w7 hSU hc)
            clear hl7 hU hc hSU c0 c2
            go_wp2_with fail
            ((with_reducible refine (Hd.out).mono ?_); rintro e w8 ⟨rfl, hl8⟩)
            replace S := S.below hl8
            clear hl8 Hd
            obtain ⟨⟨m0, y0, n0⟩, Hx0⟩ : ∃ q, Hid (f x = q) := ⟨_, Lib.hid rfl⟩
            rw [Hx0.out]
            go_upto_region 17 with fail
            obtain ⟨Y, hY⟩ : ∃ Y, Y = w8.heap.size := ⟨_, rfl⟩
            replace S := S.newAt (aCs m0 y0 n0) 48 Y hY
            rw [← hY]
            clear hY
            generalize w8.alloc (.cells (aCs m0 y0 n0) 48) = w9 at *
            have c3 := (S.lv 3 rfl).all
            have c1 := (S.lv 1 rfl).all
            cases m0 with
            | false =>
              obtain rfl : R = (false, y0, n0) := by rw [HR.out, mofAns, Hx0.out]; rfl
              clear HR Hask1 Hans2 HI
              go_wp2_with fail
              have S2 := S.fillAns 1 rfl false y0 n0
              exact bodyPost_ret (results_cs rfl rfl rfl (loadA (S2.lv 1 rfl))) rfl ⟨rfl, S2.b⟩
            | true =>
              replace HR : Hid (othR f x (true, y0, n0) xs = R) := by show _ = _; rw [HR.out, mofAns, Hx0.out, if_pos rfl]
              clear Hx0
              go_wp2_with fail
              clear c1 c3
              go_loopw [75] (fun i wr => ∃ j : Nat, j ≤ xs.length ∧ i = .int .i64 j ∧ Hid (othR f x (true, y0, n0) (xs.drop j) = R) ∧ Mem w wr [.loc w.heap.size (idCs x.k x.t) 29, .loc (w.heap.size + 1) (aCs false 0 0) 48, .loc (w.heap.size + 1 + 1) (qCs A p.length c pu rg ch at') 118, .loc Y (aCs true y0 n0) 48]) (fun i _ => xs.length - (intOf i).toNat)
              case atStart => exact ⟨0, Nat.zero_le _, rfl, HR, S⟩
              case round =>
                clear S HR
                obtain ⟨j, hj, rfl, HR, S⟩ := hrel
                by_cases hlt : j < xs.length
                · obtain ⟨y, hy⟩ : ∃ y, xs[j]? = some y := ⟨_, List.getElem?_eq_getElem hlt⟩
                  obtain ⟨blk, off, rfl, hbl, d0, d1⟩ := (HI.out _ S.b).idv j y hy
                  have HR2 : Hid ((if y = x then othR f x (true, y0, n0) (xs.drop (j + 1)) else if (f y).2.1 = 6 ∨ (f y).2.1 = 5 then f y else othR f x (true, y0, n0) (xs.drop (j + 1))) = R) := by show _ = _; rw [← HR.out, othR_at hy]
                  clear HR hy
                  go_upto_region 22 with fail
                  obtain ⟨Z, hZ⟩ : ∃ Z, Z = wr.heap.size := ⟨_, rfl⟩
                  replace S := S.newAt (idCs y.k y.t) 29 Z hZ
                  rw [← hZ]
                  clear hZ d0 d1 hbl
                  generalize wr.alloc (.cells (idCs y.k y.t) 29) = w10 at *
                  have c0 := (S.lv 0 rfl).all
                  have c4 := (S.lv 4 rfl).all
                  by_cases hyx : y = x
                  · have h1 : (y.k == x.k) = true := by rw [hyx]; exact beq_self_eq_true _
                    have h2 : (y.t.toList == x.t.toList) = true := by rw [hyx]; exact beq_self_eq_true _
                    have HR3 : Hid (othR f x (true, y0, n0) (xs.drop (j + 1)) = R) := by show _ = _; rw [← HR2.out, if_pos hyx]
                    clear HR2 hyx
                    go_wp2_with fail
                    go_roundw
                    case rel => exact ⟨j + 1, by omega, by go_num, HR3, S.del 4⟩
                    case measure => simp [intOf]; omega
                  · have HR3 : Hid ((if (f y).2.1 = 6 ∨ (f y).2.1 = 5 then f y else othR f x (true, y0, n0) (xs.drop (j + 1))) = R) := by show _ = _; rw [← HR2.out, if_neg hyx]
                    have hne := idv_ne hyx
                    clear HR2 hyx
                    go_cut [81] (fun s81 wx => s81 = .bool false ∧ w10 = wx)
                    case first =>
                      clear HR3
                      rcases hne with h1 | ⟨h1, h2⟩ <;> (go_wp2_with fail; go_meet; exact ⟨rfl, rfl⟩)
                    case rest =>
                      obtain ⟨rfl, rfl⟩ := hcut
                      clear hne c0
                      have c2 := (S.lv 2 rfl).all
                      go_wp2_with fail
                      ((with_reducible refine (Hask1.out y w10 S.b).mono ?_); rintro e w11 ⟨Au, U, cu, rfl, hU, hc, hSU, hl11⟩)
                      replace S := S.below hl11
                      have Hd := Lib.hid (Hans2.out y U hU _ Au cu w11 hSU hc)
                      clear hl11 hU hc hSU c2 c4
                      go_wp2_with fail
                      ((with_reducible refine (Hd.out).mono ?_); rintro e w12 ⟨rfl, hl12⟩)
                      replace S := S.below hl12
                      clear hl12 Hd
                      obtain ⟨⟨m1, y1, n1⟩, Hy1⟩ : ∃ q, Hid (f y = q) := ⟨_, Lib.hid rfl⟩
                      rw [Hy1.out] at HR3
                      rw [Hy1.out]
                      clear Hy1
                      go_upto_region 24 with fail
                      obtain ⟨V, hV⟩ : ∃ V, V = w12.heap.size := ⟨_, rfl⟩
                      replace S := S.newAt (aCs m1 y1 n1) 48 V hV
                      rw [← hV]
                      clear hV
                      generalize w12.alloc (.cells (aCs m1 y1 n1) 48) = w13 at *
                      have c5 := (S.lv 5 rfl).all
                      have c1 := (S.lv 1 rfl).all
                      by_cases h65 : y1 = 6 ∨ y1 = 5
                      · obtain rfl : (m1, y1, n1) = R := by rw [← HR3.out, if_pos h65]
                        clear HR3
                        rcases h65 with rfl | rfl
                        · go_wp2_with fail
                          have S2 := S.fillAns 1 rfl m1 6 n1
                          exact bodyPost_ret (results_cs rfl rfl rfl (loadA (S2.lv 1 rfl))) rfl ⟨rfl, S2.b⟩
                        · go_wp2_with fail
                          have S2 := S.fillAns 1 rfl m1 5 n1
                          exact bodyPost_ret (results_cs rfl rfl rfl (loadA (S2.lv 1 rfl))) rfl ⟨rfl, S2.b⟩
                      · have HR4 : Hid (othR f x (true, y0, n0) (xs.drop (j + 1)) = R) := by show _ = _; rw [← HR3.out, if_neg h65]
                        have h6 : (y1 == 6) = false := by simp only [not_or] at h65; simpa using h65.1
                        have h5 : (y1 == 5) = false := by simp only [not_or] at h65; simpa using h65.2
                        clear HR3 h65
                        go_wp2_with fail
                        go_roundw
                        case rel => exact ⟨j + 1, by omega, by go_num, HR4, (S.del 5).del 4⟩
                        case measure => simp [intOf]; omega
                · obtain rfl : R = (true, y0, n0) := by rw [← HR.out, List.drop_eq_nil_of_le (by omega), othR]
                  clear HR
                  have c3 := (S.lv 3 rfl).all
                  have c1 := (S.lv 1 rfl).all
                  go_wp2_with fail
                  have S2 := S.fillAns 1 rfl true y0 n0
                  exact bodyPost_ret (results_cs rfl rfl rfl (loadA (S2.lv 1 rfl))) rfl ⟨rfl, S2.b⟩
        · have h4' : (F4 != 0) = true := by simpa using h4
          obtain rfl : F4 = E := by rw [← HE3.out, if_pos (show F4 ≠ 0 from h4)]
          obtain rfl : R = (false, 0, 0) := by rw [HR.out, if_neg h4]
          have c1 := (S.lv 1 rfl).all
          clear HE3 HR h4 Hask1 Hans1 HI Hn
          go_wp2_with fail
          have S2 := S.fillAns 1 rfl false 0 0
          exact bodyPost_ret (results_cs rfl rfl rfl (loadA (S2.lv 1 rfl))) rfl ⟨rfl, S2.b⟩
      · have h3' : (F3 != 0) = true := by simpa using h3
        obtain rfl : F3 = E := by rw [← HE2.out, if_pos (show F3 ≠ 0 from h3)]
        obtain rfl : R = (false, 0, 0) := by rw [HR.out, if_neg h3]
        have c1 := (S.lv 1 rfl).all
        clear HE2 HR h3 Hask1 Hans1 HI Hn Hq1
        go_wp2_with fail
        have S2 := S.fillAns 1 rfl false 0 0
        exact bodyPost_ret (results_cs rfl rfl rfl (loadA (S2.lv 1 rfl))) rfl ⟨rfl, S2.b⟩
    · have h2' : (F2 != 0) = true := by simpa using h2
      obtain rfl : F2 = E := by rw [← HE1.out, if_pos (show F2 ≠ 0 from h2)]
      obtain rfl : R = (false, 0, 0) := by rw [HR.out, if_neg h2]
      have c1 := (S.lv 1 rfl).all
      clear HE1 HR h2 Hask1 Hans1 HI Hn Hq1 Hx
      go_wp2_with fail
      have S2 := S.fillAns 1 rfl false 0 0
      exact bodyPost_ret (results_cs rfl rfl rfl (loadA (S2.lv 1 rfl))) rfl ⟨rfl, S2.b⟩
  · have h1' : (F1 != 0) = true := by simpa using h1
    obtain rfl : F1 = E := by rw [← HE.out, mofE, if_pos (show F1 ≠ 0 from h1)]
    obtain rfl : R = (false, 0, 0) := by rw [HR.out, if_neg h1]
    have c1 := (S.lv 1 rfl).all
    clear HE HR h1 Hask Hans HI Hn Hq Hx Hi
    go_wp2_with fail
    have S2 := S.fillAns 1 rfl false 0 0
    exact bodyPost_ret (results_cs rfl rfl rfl (loadA (S2.lv 1 rfl))) rfl ⟨rfl, S2.b⟩
end Go.Proofs.YtlnklkedpknbpaaGreatDoor
