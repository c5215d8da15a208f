/- What handref2.TallyOf returns. -/
import Derived.Test.YtlnklkedpknbpaaGreatDoorTally
import Derived.Test.YtlnklkedpknbpaaGreatDoorProofRef
namespace Go.Proofs.YtlnklkedpknbpaaGreatDoor
open Go Go.RowKit
theorem cntT_app (p : List Purp) (l : List Stm) (rg : ByteArray) (at' : Int) (ys : List IdV) (y : IdV) (u : Purp) : cntT p l rg at' (ys ++ [y]) u = cntT p l rg at' ys u + if reachB p l y u.name rg at' = true then 1 else 0 := by
  unfold cntT
  rw [List.filter_append, List.length_append]
  by_cases hr : reachB p l y u.name rg at' = true
  · simp [hr]
  · simp [hr]
theorem len_mid {a b : List Int} {v : Int} : (a ++ v :: b).length = a.length + 1 + b.length := by simp; omega
set_option maxHeartbeats 16000000 in
set_option maxRecDepth 100000 in
theorem refTally_any (A Al Ai : Option Addr) (p : List Purp) (l : List Stm) (xs : List IdV) (c cl ci : Nat) (rg : ByteArray) (at' : Int) (w : World) (hS : Sl rPurp (fun _ => False) w A p) (hg : GoodPol p) (hL : Sl rStm (fun _ => False) w Al l) (hgl : GoodL p l) (hl : l.length ≤ 100000) (hI : Sl rId (fun _ => False) w Ai xs) (hxl : xs.length ≤ 1000) (hat : 0 ≤ at' ∧ at' ≤ 4321439) :
    Calls Tryz.prog 45 #[.slice A p.length c, .slice Al l.length cl, .slice Ai xs.length ci, .string rg, .int .i64 at'] w (GivesInts (talAns p l xs rg at') w) := by
  have HS := Lib.hid hS
  have hpl : p.length ≤ 30 := hg.len.2
  have Ha := Lib.hid (fun (y : IdV) (pu : ByteArray) ch w' (h : Below w.heap.size w w') => refAsked_any (fun _ => False) A Al p l c cl y.k y.t pu rg ch at' w' (hS.keepB h) hg (hL.keepB h) hgl hl hat)
  have HI := Lib.hid (fun w' (h : Below w.heap.size w w') => hI.keepB h)
  have hT := Tryz.underlying151
  obtain ⟨R, HR⟩ : ∃ R, Hid (talAns p l xs rg at' = R) := ⟨_, Lib.hid rfl⟩
  rw [HR.out]
  unfold talAns at HR
  obtain ⟨Ys, HYs⟩ : ∃ Ys, Hid (onceI xs = Ys) := ⟨_, Lib.hid rfl⟩
  rw [HYs.out] at HR
  have HY0 : Hid (onceGo [] (xs.drop 0) = Ys) := HYs.out
  have HZ0 : Hid (List.replicate p.length (0 : Int) = p.map (cntT p l rg at' [])) := by
    show _ = _
    refine (List.eq_replicate_iff.2 ⟨by simp, fun x hx => ?_⟩).symm
    obtain ⟨u, _, rfl⟩ := List.mem_map.1 hx
    rfl
  clear hS hg hL hgl hI HYs
  have hfm := fieldMay
  have S0 := Mem.start w
  have hmk := makeI p.length (by omega) w
  go_enter Tryz.func45, Tryz.ntmps45
  go_upto_region 2 with fail
  clear hmk
  obtain ⟨Z, hZ⟩ : ∃ Z, Z = w.heap.size := ⟨_, rfl⟩
  have S := (S0.newAt (Array.replicate p.length (Value.int .i64 0)) 3 Z hZ).asOwn flatInt 0 rfl (List.replicate p.length 0) (by simp) (by simp [rInt, Rep.flat]) (by simp; omega) rfl p.length (by simp)
  replace S : Mem w (w.alloc (.cells (Array.replicate p.length (Value.int .i64 0)) 3)) [.own rInt w.heap.size 3 (.slice (some ⟨Z, 0, none⟩) p.length p.length) (List.replicate p.length 0)] := S
  rw [← hZ]
  clear hZ S0
  generalize w.alloc (.cells (Array.replicate p.length (Value.int .i64 0)) 3) = w1 at *
  have hmm := @run_makeMap Tryz.prog
  go_upto_region 3 with fail
  clear hmm
  obtain ⟨X, hX⟩ : ∃ X, X = w1.heap.size := ⟨_, rfl⟩
  replace S := S.newMapB X hX
  replace S : Mem w (w1.alloc (.map #[] 0)) [.own rInt w.heap.size 3 (.slice (some ⟨Z, 0, none⟩) p.length p.length) (List.replicate p.length 0), .mapB X []] := S
  rw [← hX]
  clear hX
  generalize w1.alloc (.map #[] 0) = w2 at *
  go_wp2_with fail
  go_loopw [25] (fun i wr => ∃ (j : Nat) (acc : List IdV) (out : List Int), j ≤ xs.length ∧ i = .int .i64 j ∧ acc.length ≤ j ∧ Hid (onceGo acc (xs.drop j) = Ys) ∧ Hid (out = p.map (cntT p l rg at' acc)) ∧ Mem w wr [.own rInt w.heap.size 3 (.slice (some ⟨Z, 0, none⟩) p.length p.length) out, .mapB X acc]) (fun i _ => xs.length - (intOf i).toNat)
  case atStart => exact ⟨0, [], _, Nat.zero_le _, rfl, Nat.le_refl _, HY0, HZ0, S⟩
  case round =>
    clear S HY0 HZ0
    obtain ⟨j, acc, out, hj, rfl, hal, HY, HOut, S⟩ := hrel
    by_cases hlt : j < xs.length
    · obtain ⟨x, hf⟩ : ∃ x, xs[j]? = some x := ⟨_, List.getElem?_eq_getElem hlt⟩
      obtain ⟨blk, off, rfl, _, d0, d1⟩ := (HI.out wr S.b).idv j x hf
      have HY2 : Hid ((if x ∈ acc then onceGo acc (xs.drop (j + 1)) else onceGo (acc ++ [x]) (xs.drop (j + 1))) = Ys) := by show _ = _; rw [← HY.out, onceGo_at hf]
      clear hf HY
      go_upto_region 6 with fail
      clear d0 d1
      obtain ⟨Y, hY⟩ : ∃ Y, Y = wr.heap.size := ⟨_, rfl⟩
      replace S := S.newAt (idCs x.k x.t) 29 Y hY
      rw [← hY]
      clear hY
      generalize wr.alloc (.cells (idCs x.k x.t) 29) = w3 at *
      have c2 := (S.lv 2 rfl).all
      by_cases hx : x ∈ acc
      · have HY3 : Hid (onceGo acc (xs.drop (j + 1)) = Ys) := by show _ = _; rw [← HY2.out, if_pos hx]
        have hd : decide (x ∈ acc) = true := decide_eq_true hx
        clear HY2 hx
        go_wp2_with (first | (at_lookup; refine S.lookB 1 rfl hT zeroB rfl _ _ rfl rfl x rfl ?_; rw [hd]) | fail)
        go_roundw
        case rel => exact ⟨j + 1, acc, out, by omega, by go_num, by omega, HY3, HOut, S.del 2⟩
        case measure => simp [intOf]; omega
      · have HY3 : Hid (onceGo (acc ++ [x]) (xs.drop (j + 1)) = Ys) := by show _ = _; rw [← HY2.out, if_neg hx]
        have hd : decide (x ∈ acc) = false := decide_eq_false hx
        have Hx := Lib.hid hx
        clear HY2 hx
        go_upto_region 8 with (first | (at_lookup; refine S.lookB 1 rfl hT zeroB rfl _ _ rfl rfl x rfl ?_; rw [hd]) | (at_mapUpdate; refine S.putB 1 rfl hT rfl _ _ _ rfl rfl x rfl rfl Hx.out ?_; intro w4 S4))
        replace S4 : Mem w w4 [.own rInt w.heap.size 3 (.slice (some ⟨Z, 0, none⟩) p.length p.length) out, .mapB X (acc ++ [x]), .loc Y (idCs x.k x.t) 29] := S4
        have HOut2 : Hid (out = (p.take 0).map (cntT p l rg at' (acc ++ [x])) ++ (p.drop 0).map (cntT p l rg at' acc)) := HOut.out
        clear c2 S HOut hd Hx
        go_wp2_with fail
        go_loopw [36] (fun i wr => ∃ (i' : Nat) (out : List Int), i' ≤ p.length ∧ i = .int .i64 i' ∧ Hid (out = (p.take i').map (cntT p l rg at' (acc ++ [x])) ++ (p.drop i').map (cntT p l rg at' acc)) ∧ Mem w wr [.own rInt w.heap.size 3 (.slice (some ⟨Z, 0, none⟩) p.length p.length) out, .mapB X (acc ++ [x]), .loc Y (idCs x.k x.t) 29]) (fun i _ => p.length - (intOf i).toNat)
        case atStart => exact ⟨0, out, Nat.zero_le _, rfl, HOut2, S4⟩
        case round =>
          clear S4 HOut2
          obtain ⟨i', out, hi, rfl, HOut, S⟩ := hrel
          by_cases hlt2 : i' < p.length
          · obtain ⟨u, hu⟩ : ∃ u, p[i']? = some u := ⟨_, List.getElem?_eq_getElem hlt2⟩
            obtain ⟨b2, o2, At, ct, rfl, hb2, e0, e1, _⟩ := (HS.out.keepB S.b).purp i' u hu
            have Hu := Lib.hid hu
            have HM1 : Hid (((p.take i').map (cntT p l rg at' (acc ++ [x]))).length = i') := by show _ = _; rw [List.length_map, List.length_take]; omega
            have HOut2 : Hid (out = (p.take i').map (cntT p l rg at' (acc ++ [x])) ++ cntT p l rg at' acc u :: (p.drop (i' + 1)).map (cntT p l rg at' acc)) := by
              show _ = _
              obtain ⟨hk, rfl⟩ := List.getElem?_eq_some_iff.1 hu
              rw [HOut.out, List.drop_eq_getElem_cons hk, List.map_cons]
            clear hu HOut
            go_upto_region 11 with fail
            clear e0 e1
            obtain ⟨V, hV⟩ : ∃ V, V = wr.heap.size := ⟨_, rfl⟩
            replace S := S.newAt #[.string u.name, .slice At u.terms.length ct] 58 V hV
            rw [← hV]
            clear hV
            generalize wr.alloc (.cells #[.string u.name, .slice At u.terms.length ct] 58) = w5 at *
            have HRe : Hid ((false || (chans.drop 0).any (fun ch => (mayAns p l x.k x.t u.name rg ch at').1)) = reachB p l x u.name rg at') := rfl
            obtain ⟨re, hre⟩ : ∃ re, reachB p l x u.name rg at' = re := ⟨_, rfl⟩
            have Hre := Lib.hid hre
            rw [hre] at HRe
            clear hre
            go_wp2_with fail
            go_loopw [17, 18] (fun s17 s18 wr => ∃ (m : Nat) (b : Bool), m ≤ 4 ∧ s17 = .bool b ∧ s18 = .int .i64 (m + 1) ∧ Hid ((b || (chans.drop m).any (fun ch => (mayAns p l x.k x.t u.name rg ch at').1)) = re) ∧ Mem w wr [.own rInt w.heap.size 3 (.slice (some ⟨Z, 0, none⟩) p.length p.length) out, .mapB X (acc ++ [x]), .loc Y (idCs x.k x.t) 29, .loc V #[.string u.name, .slice At u.terms.length ct] 58]) (fun _ i _ => 5 - (intOf i).toNat)
            case atStart => exact ⟨0, false, by omega, rfl, rfl, HRe, S⟩
            case round =>
              clear S HRe
              obtain ⟨m, b, hm, rfl, rfl, HRe, S⟩ := hrel
              by_cases hm4 : m < 4
              · have HRe2 : Hid ((b || ((mayAns p l x.k x.t u.name rg ((m : Int) + 1) at').1 || (chans.drop (m + 1)).any (fun ch => (mayAns p l x.k x.t u.name rg ch at').1))) = re) := by show _ = _; rw [← HRe.out, any_at hm4]
                have Ha1 := Lib.hid (fun w' h => Ha.out x u.name ((m : Int) + 1) w' h)
                clear HRe
                generalize mayAns p l x.k x.t u.name rg ((m : Int) + 1) at' = an at *
                cases b with
                | true =>
                  have HRe3 : Hid ((true || (chans.drop (m + 1)).any (fun ch => (mayAns p l x.k x.t u.name rg ch at').1)) = re) := by show _ = _; rw [← HRe2.out]; rfl
                  clear HRe2 Ha1
                  go_wp2_with fail
                  go_roundw
                  case rel => exact ⟨m + 1, true, by omega, rfl, by go_num, HRe3, S⟩
                  case measure => simp [intOf]; omega
                | false =>
                  have HRe3 : Hid ((an.1 || (chans.drop (m + 1)).any (fun ch => (mayAns p l x.k x.t u.name rg ch at').1)) = re) := by show _ = _; rw [← HRe2.out]; simp
                  have c2 := (S.lv 2 rfl).all
                  have c3 := (S.lv 3 rfl).all
                  clear HRe2
                  go_wp2_with fail
                  ((with_reducible refine (Ha1.out wr S.b).mono ?_); rintro e w6 ⟨rfl, hl6⟩)
                  rw [show aVal an = Value.agg #[.bool an.1, .int .i64 an.2.1, .int .i64 an.2.2] from rfl]
                  replace S := S.below hl6
                  clear hl6 Ha1 c2 c3
                  go_wp2_with fail
                  go_roundw
                  case rel => exact ⟨m + 1, an.1, by omega, rfl, by go_num, HRe3, S⟩
                  case measure => simp [intOf]; omega
              · obtain rfl : b = re := by rw [← HRe.out, List.drop_eq_nil_of_le (by simp; omega)]; simp
                clear HRe
                have hca := cntT_app p l rg at' acc x u
                rw [Hre.out] at hca
                have HC := Lib.hid hca
                have hcl := cntT_le p l rg at' acc u
                have HOl2 : Hid (p.length = out.length) := by show _ = _; rw [HOut2.out, len_mid, HM1.out, List.length_map, List.length_drop]; omega
                clear hca
                cases b with
                | false =>
                  have HOut3 : Hid (out = (p.take (i' + 1)).map (cntT p l rg at' (acc ++ [x])) ++ (p.drop (i' + 1)).map (cntT p l rg at' acc)) := by
                    show _ = _
                    rw [take_snoc Hu.out, List.map_append, List.append_assoc, HOut2.out, List.map_cons, HC.out]
                    simp
                  clear HC HOut2
                  go_wp2_with fail
                  go_roundw
                  case rel => exact ⟨i' + 1, out, by omega, by go_num, HOut3, S.del 3⟩
                  case measure => simp [intOf]; omega
                | true =>
                  have hg : out[i']? = some (cntT p l rg at' acc u) := by rw [HOut2.out]; exact get_mid HM1.out
                  obtain ⟨f0, f1⟩ := (S.ow 0 rfl).intAt HOl2.out i' _ hg
                  have S2 := S.putI 0 rfl HOl2.out i' _ (cntT p l rg at' acc u + 1) hg
                  have HOut3 : Hid (out.set i' (cntT p l rg at' acc u + 1) = (p.take (i' + 1)).map (cntT p l rg at' (acc ++ [x])) ++ (p.drop (i' + 1)).map (cntT p l rg at' acc)) := by
                    show _ = _
                    rw [take_snoc Hu.out, List.map_append, List.append_assoc, HOut2.out, put_mid HM1.out, List.map_cons, HC.out]
                    simp
                  have hw1 : IntKind.i64.wrap (cntT p l rg at' acc u + 1) = cntT p l rg at' acc u + 1 := IntWalk.i64_in _ (by omega)
                  clear HC HOut2 hg
                  generalize cntT p l rg at' acc u = n0 at *
                  go_wp2_with fail
                  go_roundw
                  case rel => exact ⟨i' + 1, _, by omega, by go_num, HOut3, S2.del 3⟩
                  case measure => simp [intOf]; omega
          · have HOut2 : Hid (out = p.map (cntT p l rg at' (acc ++ [x]))) := by
              show _ = _
              rw [HOut.out, List.take_of_length_le (by omega), List.drop_eq_nil_of_le (by omega)]
              simp
            clear HOut
            go_wp2_with fail
            go_roundw
            case rel => exact ⟨j + 1, acc ++ [x], out, by omega, by go_num, by simp; omega, HY3, HOut2, S.del 2⟩
            case measure => simp [intOf]; omega
    · obtain rfl : acc = Ys := by rw [← HY.out, List.drop_eq_nil_of_le (by omega)]; rfl
      obtain rfl : out = R := by rw [HOut.out, ← HR.out]
      obtain ⟨A2, c2, e2, hS⟩ := ((S.ow 0 rfl).flatM flatInt (M' := Lt w.heap.size)).toSlC (fun k h1 h2 => by unfold Lt at h2; omega)
      have He := Lib.hid e2
      have HS2 := Lib.hid hS.2
      clear hS e2
      go_wp2_with fail
      go_ret
      exact ⟨A2, c2, congrArg Ending.returned He.out, HS2.out, S.b⟩
end Go.Proofs.YtlnklkedpknbpaaGreatDoor
