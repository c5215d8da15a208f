/- What handref2.AskedOf returns. -/
import Derived.Test.YtlnklkedpknbpaaGreatDoorMayOf
import Derived.Test.YtlnklkedpknbpaaGreatDoorAsked
namespace Go.Proofs.YtlnklkedpknbpaaGreatDoor
open Go Go.RowKit
set_option maxHeartbeats 4000000 in
set_option maxRecDepth 100000 in
theorem refAskedOf_any (N : Nat → Prop) (A Al Ai : Option Addr) (p : List Purp) (l : List Stm) (xs : List IdV) (c cl ci : Nat) (pu rg : ByteArray) (ch at' : Int) (x : IdV) (w : World) (hS : Sl rPurp N w A p) (hg : GoodPol p) (hL : Sl rStm N w Al l) (hgl : GoodL p l) (hl : l.length ≤ 100000) (hI : Sl rId N w Ai xs) (hxl : xs.length ≤ 1000000) (hat : 0 ≤ at' ∧ at' ≤ 4321439) :
    Calls Tryz.prog 38 #[.slice A p.length c, .slice Al l.length cl, .slice Ai xs.length ci, .agg (qqCs x.k x.t pu rg ch at')] w (GivesAns (mofAns (fun y => mayAns p l y.k y.t pu rg ch at') x xs) w) := by
  have Hr := Lib.hid (fun (y : IdV) w' (h : Below w.heap.size w w') => refAsked_any N A Al p l c cl y.k y.t pu rg ch at' w' (hS.keepB h) hg (hL.keepB h) hgl hl hat)
  have HI := Lib.hid (fun w' (h : Below w.heap.size w w') => hI.keepB h)
  obtain ⟨f, hf⟩ : ∃ f : IdV → Bool × Int × Int, (fun y => mayAns p l y.k y.t pu rg ch at') = f := ⟨_, rfl⟩
  have Hf : Hid (∀ y : IdV, mayAns p l y.k y.t pu rg ch at' = f y) := fun y => by rw [← hf]
  rw [hf]
  replace Hr : Hid (∀ (y : IdV) (w' : World) (_ : Below w.heap.size w w'), Calls Tryz.prog 26 #[.slice A p.length c, .slice Al l.length cl, .agg (qqCs y.k y.t pu rg ch at')] w' (GivesAns (f y) w')) := fun y w' h => Hf.out y ▸ Hr.out y w' h
  obtain ⟨R, HR⟩ : ∃ R, Hid (mofAns f x xs = R) := ⟨_, Lib.hid rfl⟩
  rw [HR.out]
  clear hS hg hL hgl hI hf Hf
  have S := ((Mem.start w).new' (qqCs x.k x.t pu rg ch at') 31).new' (aCs false 0 0) 48
  replace S : Mem w ((w.alloc (.cells (qqCs x.k x.t pu rg ch at') 31)).alloc (.cells (aCs false 0 0) 48)) [.loc w.heap.size (qqCs x.k x.t pu rg ch at') 31, .loc (w.heap.size + 1) (aCs false 0 0) 48] := by simpa using S
  go_enter Tryz.func38, Tryz.ntmps38
  go_upto_region 1 with fail
  generalize (w.alloc (.cells (qqCs x.k x.t pu rg ch at') 31)).alloc (.cells (aCs false 0 0) 48) = w1 at *
  have c0 := (S.lv 0 rfl).all
  go_wp2_with fail
  ((with_reducible refine (Hr.out x w1 S.b).mono ?_); rintro e w2 ⟨rfl, hl2⟩)
  replace S := S.below hl2
  clear hl2 c0
  obtain ⟨⟨m0, y0, n0⟩, Hx0⟩ : ∃ q, Hid (f x = q) := ⟨_, Lib.hid rfl⟩
  rw [Hx0.out]
  go_upto_region 2 with fail
  obtain ⟨Y, hY⟩ : ∃ Y, Y = w2.heap.size := ⟨_, rfl⟩
  replace S := S.newAt (aCs m0 y0 n0) 48 Y hY
  rw [← hY]
  clear hY
  generalize w2.alloc (.cells (aCs m0 y0 n0) 48) = w3 at *
  replace HR : Hid ((if m0 = true then othR f x (m0, y0, n0) xs else (m0, y0, n0)) = R) := by show _ = _; rw [← HR.out, mofAns, Hx0.out]
  clear Hx0
  go_wp2_with fail
  go_loopw [20] (fun i wr => ∃ j : Nat, j ≤ xs.length ∧ i = .int .i64 j ∧ Hid ((if m0 = true then othR f x (m0, y0, n0) (xs.drop j) else (m0, y0, n0)) = R) ∧ Mem w wr [.loc w.heap.size (qqCs x.k x.t pu rg ch at') 31, .loc (w.heap.size + 1) (aCs false 0 0) 48, .loc Y (aCs m0 y0 n0) 48]) (fun i _ => xs.length - (intOf i).toNat)
  case atStart => exact ⟨0, Nat.zero_le _, rfl, HR, S⟩
  case round =>
    clear S HR
    obtain ⟨j, hj, rfl, HR, S⟩ := hrel
    by_cases hlt : j < xs.length
    · obtain ⟨y, hy⟩ : ∃ y, xs[j]? = some y := ⟨_, List.getElem?_eq_getElem hlt⟩
      obtain ⟨blk, off, rfl, hbl, d0, d1⟩ := (HI.out _ S.b).idv j y hy
      have HR2 : Hid ((if m0 = true then if y = x then othR f x (m0, y0, n0) (xs.drop (j + 1)) else if (f y).2.1 = 6 ∨ (f y).2.1 = 5 then f y else othR f x (m0, y0, n0) (xs.drop (j + 1)) else (m0, y0, n0)) = R) := by show _ = _; rw [← HR.out, othR_at hy]
      clear HR hy
      go_upto_region 5 with fail
      obtain ⟨Z, hZ⟩ : ∃ Z, Z = wr.heap.size := ⟨_, rfl⟩
      replace S := S.newAt (idCs y.k y.t) 29 Z hZ
      rw [← hZ]
      clear hZ d0 d1 hbl
      generalize wr.alloc (.cells (idCs y.k y.t) 29) = w4 at *
      have c0 := (S.lv 0 rfl).all
      go_upto_region 6 with fail
      clear c0
      obtain ⟨Z', hZ⟩ : ∃ Z', Z' = w4.heap.size := ⟨_, rfl⟩
      replace S := S.newAt (qqCs x.k x.t pu rg ch at') 31 Z' hZ
      rw [← hZ]
      clear hZ
      generalize w4.alloc (.cells (qqCs x.k x.t pu rg ch at') 31) = w5 at *
      have c3 := (S.lv 3 rfl).all
      have c4 := (S.lv 4 rfl).all
      go_upto_region 7 with fail
      clear c3 c4
      have S2 := (S.set 4 0 (.int .i64 y.k) rfl).set 4 1 (.string y.t) rfl
      generalize (w5.setCell ⟨Z', 0, none⟩ (.int .i64 y.k)).setCell ⟨Z', 1, none⟩ (.string y.t) = w6 at *
      clear S
      replace S : Mem w w6 [.loc w.heap.size (qqCs x.k x.t pu rg ch at') 31, .loc (w.heap.size + 1) (aCs false 0 0) 48, .loc Y (aCs m0 y0 n0) 48, .loc Z (idCs y.k y.t) 29, .loc Z' (qqCs y.k y.t pu rg ch at') 31] := S2
      clear S2
      have c4 := (S.lv 4 rfl).all
      go_wp2_with fail
      ((with_reducible refine (Hr.out y w6 S.b).mono ?_); rintro e w7 ⟨rfl, hl7⟩)
      replace S := S.below hl7
      clear hl7 c4
      obtain ⟨⟨m1, y1, n1⟩, Hy1⟩ : ∃ q, Hid (f y = q) := ⟨_, Lib.hid rfl⟩
      rw [Hy1.out] at HR2
      rw [Hy1.out]
      clear Hy1
      go_upto_region 8 with fail
      obtain ⟨V, hV⟩ : ∃ V, V = w7.heap.size := ⟨_, rfl⟩
      replace S := S.newAt (aCs m1 y1 n1) 48 V hV
      rw [← hV]
      clear hV
      generalize w7.alloc (.cells (aCs m1 y1 n1) 48) = w8 at *
      have c0 := (S.lv 0 rfl).all
      have c2 := (S.lv 2 rfl).all
      have c3 := (S.lv 3 rfl).all
      have c5 := (S.lv 5 rfl).all
      obtain ⟨B, HB⟩ : ∃ B, Hid (decide (m0 = true ∧ ¬ y = x ∧ (y1 = 6 ∨ y1 = 5)) = B) := ⟨_, Lib.hid rfl⟩
      have HR3 : Hid ((if B = true then (m1, y1, n1) else if m0 = true then othR f x (m0, y0, n0) (xs.drop (j + 1)) else (m0, y0, n0)) = R) := by
        show _ = _
        rw [← HR2.out, ← HB.out]
        cases m0
        · simp
        · by_cases h : y = x
          · simp [h]
          · by_cases h2 : y1 = 6 ∨ y1 = 5 <;> simp [h, h2]
      clear HR2
      go_cut [48] (fun s48 wx => s48 = .bool B ∧ w8 = wx)
      case first =>
        clear HR3
        cases m0 with
        | false =>
          obtain rfl : false = B := by rw [← HB.out]; simp
          clear HB
          go_wp2_with fail
          go_meet
          exact ⟨rfl, rfl⟩
        | true =>
          by_cases hyx : y = x
          · have h1 : (y.k == x.k) = true := by rw [hyx]; exact beq_self_eq_true _
            have h2 : (y.t.toList == x.t.toList) = true := by rw [hyx]; exact beq_self_eq_true _
            obtain rfl : false = B := by rw [← HB.out]; simp [hyx]
            clear HB hyx
            go_wp2_with fail
            go_meet
            exact ⟨rfl, rfl⟩
          · have hne := idv_ne hyx
            by_cases h6 : y1 = 6
            · obtain rfl : true = B := by rw [← HB.out]; simp [hyx, h6]
              subst h6
              clear HB hyx
              rcases hne with h1 | ⟨h1, h2⟩ <;> (go_wp2_with fail; go_meet; exact ⟨rfl, rfl⟩)
            · have h6' : (y1 == 6) = false := by simpa using h6
              by_cases h5 : y1 = 5
              · obtain rfl : true = B := by rw [← HB.out]; simp [hyx, h5]
                subst h5
                clear HB hyx h6 h6'
                rcases hne with h1 | ⟨h1, h2⟩ <;> (go_wp2_with fail; go_meet; exact ⟨rfl, rfl⟩)
              · have h5' : (y1 == 5) = false := by simpa using h5
                obtain rfl : false = B := by rw [← HB.out]; simp [h6, h5]
                clear HB hyx h6 h5
                rcases hne with h1 | ⟨h1, h2⟩ <;> (go_wp2_with fail; go_meet; exact ⟨rfl, rfl⟩)
      case rest =>
        obtain ⟨rfl, rfl⟩ := hcut
        clear HB c0 c2 c3
        have c1 := (S.lv 1 rfl).all
        cases B with
        | true =>
          obtain rfl : (m1, y1, n1) = R := HR3.out
          clear HR3
          go_wp2_with fail
          have S2 := S.fillAns 1 rfl m1 y1 n1
          exact bodyPost_ret (results_cell1 rfl rfl (loadA (S2.lv 1 rfl))) rfl ⟨rfl, S2.b⟩
        | false =>
          have HR4 : Hid ((if m0 = true then othR f x (m0, y0, n0) (xs.drop (j + 1)) else (m0, y0, n0)) = R) := HR3.out
          clear HR3 c1 c5
          go_wp2_with fail
          go_roundw
          case rel => exact ⟨j + 1, by omega, by go_num, HR4, ((S.del 5).del 4).del 3⟩
          case measure => simp [intOf]; omega
    · obtain rfl : R = (m0, y0, n0) := by rw [← HR.out, List.drop_eq_nil_of_le (by omega), othR]; simp
      clear HR
      have c2 := (S.lv 2 rfl).all
      have c1 := (S.lv 1 rfl).all
      go_wp2_with fail
      have S2 := S.fillAns 1 rfl m0 y0 n0
      exact bodyPost_ret (results_cell1 rfl rfl (loadA (S2.lv 1 rfl))) rfl ⟨rfl, S2.b⟩
end Go.Proofs.YtlnklkedpknbpaaGreatDoor
