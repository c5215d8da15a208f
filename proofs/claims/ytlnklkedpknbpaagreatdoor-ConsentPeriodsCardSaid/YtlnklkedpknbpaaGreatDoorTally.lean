/- What consent.Tally returns. -/
import Derived.Test.YtlnklkedpknbpaaGreatDoorTally1
import Derived.Test.YtlnklkedpknbpaaGreatDoorSortInt
import Derived.Test.YtlnklkedpknbpaaGreatDoorProof
namespace Go.Proofs.YtlnklkedpknbpaaGreatDoor
open Go Go.RowKit
/-- how many of some ids may be written to -/
def cntT (p : List Purp) (l : List Stm) (rg : ByteArray) (at' : Int) (ys : List IdV) (u : Purp) : Int := ((ys.filter (fun y => reachB p l y u.name rg at')).length : Nat)
def talAns (p : List Purp) (l : List Stm) (xs : List IdV) (rg : ByteArray) (at' : Int) : List Int := p.map (cntT p l rg at' (onceI xs))
theorem madeI (n : Nat) : madeCells (Value.int .i64 0).cells ((n : Int).toNat * rInt.size) = (List.replicate n (Value.int .i64 0)).toArray := by
  rw [Int.toNat_natCast, show n * rInt.size = n by simp [rInt, Rep.flat]]
  apply Array.ext
  · simp [madeCells]
  · intro i h1 h2
    simp [madeCells, Value.cells, Nat.mod_one]
theorem makeI (n : Nat) (hn : n ≤ 1000000) (w : World) : (Instr.makeSlice 22 (.int .i64 n) (.int .i64 n)).run Tryz.prog w = .ok (.slice (some ⟨w.heap.size, 0, none⟩) n n) (w.alloc (.cells (Array.replicate n (Value.int .i64 0)) 3)) := by
  obtain ⟨i, hi, hz0, hz1, hz2⟩ := info_parts tyIntP.info
  have h := run_makeSlice (P := Tryz.prog) w 22 3 i _ tyIntP.under hi hz0 .i64 .i64 n n (by omega) (by omega) (by rw [hz1, Int.toNat_natCast, show n * rInt.size = n by simp [rInt, Rep.flat]]; omega) (by rw [hz2]; omega) (by omega)
  rw [hz1, madeI n, Int.toNat_natCast, List.toArray_replicate] at h
  exact h
theorem put_mid {a b : List Int} {v v' : Int} {j : Nat} (h : a.length = j) : (a ++ v :: b).set j v' = a ++ v' :: b := by
  subst h
  rw [List.set_append_right _ _ (Nat.le_refl _), Nat.sub_self, List.set_cons_zero]
theorem get_mid {a b : List Int} {v : Int} {j : Nat} (h : a.length = j) : (a ++ v :: b)[j]? = some v := by
  subst h
  rw [List.getElem?_append_right (Nat.le_refl _), Nat.sub_self]; rfl
theorem cntT_snoc {p : List Purp} {l : List Stm} {rg : ByteArray} {at' : Int} {ys : List IdV} {t : Nat} {y : IdV} {u : Purp} (h : ys[t]? = some y) : cntT p l rg at' (ys.take (t + 1)) u = cntT p l rg at' (ys.take t) u + if reachB p l y u.name rg at' = true then 1 else 0 := by
  unfold cntT
  rw [take_snoc h, List.filter_append, List.length_append]
  by_cases hr : reachB p l y u.name rg at' = true
  · simp [hr]
  · simp [hr]
/-- a number of a slice of the call's own is written -/
theorem Mem.putI {w0 w : World} {cs : List Chunk} (S : Mem w0 w cs) (i : Nat) {B E g n cap : Nat} {xs : List Int} (hi : cs[i]? = some (.own rInt B E (.slice (some ⟨g, 0, none⟩) n cap) xs)) (hn : n = xs.length) (k : Nat) (x x' : Int) (hx : xs[k]? = some x) : Mem w0 (w.setCell ⟨g, k, none⟩ (.int .i64 x')) (cs.set i (.own rInt B E (.slice (some ⟨g, 0, none⟩) n cap) (xs.set k x'))) := by
  have := S.put flatInt i hi hn k x x' hx 0 (by decide) (.int .i64 x') rfl
  rw [show k * rInt.size + 0 = k by simp [rInt, Rep.flat]] at this
  exact this
theorem Own.intAt {M : Nat → Prop} {B E g n cap : Nat} {w : World} {xs : List Int} (h : Own rInt M B E w (.slice (some ⟨g, 0, none⟩) n cap) xs) (hn : n = xs.length) (k : Nat) (x : Int) (hk : xs[k]? = some x) : w.cell? ⟨g, k, none⟩ = some (.int .i64 x) ∧ w.frozen? ⟨g, k, none⟩ = false := by
  have := h.cellP flatInt hn k x hk 0 _ rfl
  rw [show k * rInt.size + 0 = k by simp [rInt, Rep.flat]] at this
  exact this
theorem cntT_le (p : List Purp) (l : List Stm) (rg : ByteArray) (at' : Int) (ys : List IdV) (u : Purp) : 0 ≤ cntT p l rg at' ys u ∧ cntT p l rg at' ys u ≤ ys.length := by
  unfold cntT
  have := List.length_filter_le (fun y => reachB p l y u.name rg at') ys
  omega
set_option maxHeartbeats 16000000 in
set_option maxRecDepth 100000 in
theorem tally_any (A Al Ai : Option Addr) (p : List Purp) (l : List Stm) (xs : List IdV) (c cl ci : Nat) (rg : ByteArray) (at' : Int) (w : World) (hS : Sl rPurp (fun _ => False) w A p) (hok : PolOk p) (hL : Sl rStm (fun _ => False) w Al l) (hlo : StmOk l) (hl : l.length ≤ 19) (hI : Sl rId (fun _ => False) w Ai xs) (hxl : xs.length ≤ 1000) (hxt : ∀ y ∈ xs, y.t.size ≤ 1000000) (hrg : rg.size ≤ 1000000000) (hM : MaxL w) :
    Calls Tryz.prog 40 #[.slice A p.length c, .slice Al l.length cl, .slice Ai xs.length ci, .string rg, .int .i64 at'] w (GivesNos (if regErrN p l xs rg at' = 0 then talAns p l xs rg at' else []) (regErrN p l xs rg at') w) := by
  have HS := Lib.hid hS
  have Hall := Lib.hid (fun w' (h : Below w.heap.size w w') => checkRegionN_any (fun _ => False) A Al Ai p l xs c cl ci rg at' w' (hS.keepB h) hok (hL.keepB h) hlo (hI.keepB h) (by omega) hxt hrg (hM.below h))
  have HO := Lib.hid (fun w' (h : Below w.heap.size w w') => once_any (fun _ => False) Ai xs ci w' (hI.keepB h) (by omega))
  have HOl : Hid ((onceI xs).length ≤ 1000) := Nat.le_trans (onceGo_len xs []) (by simpa using hxl)
  have HRe := Lib.hid (fun (hF : regErrN p l xs rg at' = 0) (y : IdV) (pu : ByteArray) w' (h : Below w.heap.size w w') => reachable_any (fun _ => False) A Al p l c cl y pu rg at' w' (hS.keepB h) (policy_good (stms_good (first3_zero hF).1).1) (hL.keepB h) (stms_good (first3_zero hF).1).2 hl (qErr_at (first3_zero hF).2.2))
  have Hpl : Hid (regErrN p l xs rg at' = 0 → p.length ≤ 30) := fun hF => (policy_good (stms_good (first3_zero hF).1).1).len.2
  obtain ⟨F, HF⟩ : ∃ F, Hid (regErrN p l xs rg at' = F) := ⟨_, Lib.hid rfl⟩
  rw [HF.out] at Hall HRe Hpl ⊢
  obtain ⟨Rs, HRs⟩ : ∃ Rs, Hid ((if F = 0 then talAns p l xs rg at' else []) = Rs) := ⟨_, Lib.hid rfl⟩
  rw [HRs.out]
  clear hS hok hL hlo hI hxt hM HF
  go_enter Tryz.func40, Tryz.ntmps40
  go_wp2_with fail
  ((with_reducible refine (Hall.out w (Below.refl _ _)).mono ?_); rintro e w2 ⟨rfl, hl2⟩)
  have S := (Mem.start w).below hl2
  clear hl2 Hall
  by_cases hF : F = 0
  · have HR1 : Hid (talAns p l xs rg at' = Rs) := by show _ = _; rw [← HRs.out, if_pos hF]
    have HRe1 := Lib.hid (HRe.out hF)
    have hpl := Hpl.out hF
    subst hF
    clear HRs HRe Hpl
    unfold talAns at HR1
    go_wp2_with fail
    ((with_reducible refine (HO.out w2 S.b).mono ?_); rintro e w3 ⟨v, rfl, T⟩)
    have HB2 := Lib.hid S.b.size
    replace S := S.join T
    replace S : Mem w w3 [.own rId w2.heap.size 29 v (onceI xs)] := S
    clear T HO
    generalize onceI xs = ys at *
    obtain ⟨Ay, cy, rfl, S⟩ := S.frz 0 rfl
    replace S : Mem w w3 [.sl rId Ay ys] := S
    have hyl : ys.length ≤ 1000 := HOl.out
    have hmk := makeI p.length (by omega) w3
    go_upto_region 6 with fail
    clear hmk
    obtain ⟨Z, hZ⟩ : ∃ Z, Z = w3.heap.size := ⟨_, rfl⟩
    replace S := (S.newAt (Array.replicate p.length (Value.int .i64 0)) 3 Z hZ).asOwn flatInt 1 rfl (List.replicate p.length 0) (by simp) (by simp [rInt, Rep.flat]) (by simp; omega) rfl p.length (by simp)
    replace S : Mem w (w3.alloc (.cells (Array.replicate p.length (Value.int .i64 0)) 3)) [.sl rId Ay ys, .own rInt w.heap.size 3 (.slice (some ⟨Z, 0, none⟩) p.length p.length) (List.replicate p.length 0)] := S
    rw [← hZ]
    clear hZ
    generalize w3.alloc (.cells (Array.replicate p.length (Value.int .i64 0)) 3) = w4 at *
    go_wp2_with fail
    go_loopw [34] (fun i wr => ∃ (j : Nat) (out : List Int), j ≤ p.length ∧ i = .int .i64 j ∧ Hid (out = (p.take j).map (cntT p l rg at' ys) ++ List.replicate (p.length - j) 0) ∧ Mem w wr [.sl rId Ay ys, .own rInt w.heap.size 3 (.slice (some ⟨Z, 0, none⟩) p.length p.length) out]) (fun i _ => p.length - (intOf i).toNat)
    case atStart => exact ⟨0, _, Nat.zero_le _, rfl, Lib.hid rfl, S⟩
    case round =>
      clear S
      obtain ⟨j, out, hj, rfl, HOut, S⟩ := hrel
      by_cases hlt : j < p.length
      · obtain ⟨u, hf⟩ : ∃ u, p[j]? = some u := ⟨_, List.getElem?_eq_getElem hlt⟩
        obtain ⟨blk, off, At, ct, rfl, hblk, d0, d1, _⟩ := (HS.out.keepB S.b).purp j u hf
        have Hf := Lib.hid hf
        have HM1 : Hid (((p.take j).map (cntT p l rg at' ys)).length = j) := by show _ = _; rw [List.length_map, List.length_take]; omega
        have HOut2 : Hid (out = (p.take j).map (cntT p l rg at' ys) ++ cntT p l rg at' (ys.take 0) u :: List.replicate (p.length - (j + 1)) 0) := by
          show _ = _
          rw [HOut.out, show p.length - j = (p.length - (j + 1)) + 1 by omega, List.replicate_succ]
          rfl
        clear hf HOut
        go_upto_region 9 with fail
        clear d0 d1
        obtain ⟨Y, hY⟩ : ∃ Y, Y = wr.heap.size := ⟨_, rfl⟩
        replace S := S.newAt #[.string u.name, .slice At u.terms.length ct] 58 Y hY
        rw [← hY]
        clear hY
        generalize wr.alloc (.cells #[.string u.name, .slice At u.terms.length ct] 58) = w5 at *
        go_wp2_with fail
        go_loopw [41] (fun i wr => ∃ (t : Nat) (out : List Int), t ≤ ys.length ∧ i = .int .i64 t ∧ Hid (out = (p.take j).map (cntT p l rg at' ys) ++ cntT p l rg at' (ys.take t) u :: List.replicate (p.length - (j + 1)) 0) ∧ Mem w wr [.sl rId Ay ys, .own rInt w.heap.size 3 (.slice (some ⟨Z, 0, none⟩) p.length p.length) out, .loc Y #[.string u.name, .slice At u.terms.length ct] 58]) (fun i _ => ys.length - (intOf i).toNat)
        case atStart => exact ⟨0, out, Nat.zero_le _, rfl, HOut2, S⟩
        case round =>
          clear S HOut2
          obtain ⟨t, out, ht, rfl, HOut, S⟩ := hrel
          by_cases hlt2 : t < ys.length
          · obtain ⟨y, hy⟩ : ∃ y, ys[t]? = some y := ⟨_, List.getElem?_eq_getElem hlt2⟩
            obtain ⟨b2, o2, rfl, hb2, e0, e1⟩ := (S.slc 0 rfl).idv t y hy
            have HC := Lib.hid (cntT_snoc (p := p) (l := l) (rg := rg) (at' := at') (u := u) hy)
            have hcl := cntT_le p l rg at' (ys.take t) u
            rw [List.length_take] at hcl
            clear hy
            go_upto_region 12 with fail
            clear e0 e1
            obtain ⟨X, hX⟩ : ∃ X, X = wr.heap.size := ⟨_, rfl⟩
            replace S := S.newAt (idCs y.k y.t) 29 X hX
            rw [← hX]
            clear hX
            generalize wr.alloc (.cells (idCs y.k y.t) 29) = w6 at *
            have c2 := (S.lv 2 rfl).all
            have c3 := (S.lv 3 rfl).all
            go_wp2_with fail
            ((with_reducible refine (HRe1.out y u.name w6 S.b).mono ?_); rintro e w7 ⟨rfl, hl7⟩)
            replace S := S.below hl7
            clear hl7 c2 c3
            have HOl2 : Hid (p.length = out.length) := by show _ = _; rw [HOut.out, List.length_append, HM1.out, List.length_cons, List.length_replicate]; omega
            cases hr : reachB p l y u.name rg at' with
            | false =>
              have HOut2 : Hid (out = (p.take j).map (cntT p l rg at' ys) ++ cntT p l rg at' (ys.take (t + 1)) u :: List.replicate (p.length - (j + 1)) 0) := by show _ = _; rw [HC.out, hr, HOut.out]; simp
              clear hr HC HOut
              go_wp2_with fail
              go_roundw
              case rel => exact ⟨t + 1, out, by omega, by go_num, HOut2, S.del 3⟩
              case measure => simp [intOf]; omega
            | true =>
              have hg : out[j]? = some (cntT p l rg at' (ys.take t) u) := by rw [HOut.out]; exact get_mid HM1.out
              obtain ⟨f0, f1⟩ := (S.ow 1 rfl).intAt HOl2.out j _ hg
              have S2 := S.putI 1 rfl HOl2.out j _ (cntT p l rg at' (ys.take t) u + 1) hg
              have HOut2 : Hid (out.set j (cntT p l rg at' (ys.take t) u + 1) = (p.take j).map (cntT p l rg at' ys) ++ cntT p l rg at' (ys.take (t + 1)) u :: List.replicate (p.length - (j + 1)) 0) := by
                show _ = _
                rw [HC.out, hr, if_pos rfl, HOut.out, put_mid HM1.out]
              have hw1 : IntKind.i64.wrap (cntT p l rg at' (ys.take t) u + 1) = cntT p l rg at' (ys.take t) u + 1 := IntWalk.i64_in _ (by omega)
              clear hr HC HOut hg
              generalize cntT p l rg at' (ys.take t) u = n0 at *
              go_wp2_with fail
              go_roundw
              case rel => exact ⟨t + 1, _, by omega, by go_num, HOut2, S2.del 3⟩
              case measure => simp [intOf]; omega
          · have HOut2 : Hid (out = (p.take (j + 1)).map (cntT p l rg at' ys) ++ List.replicate (p.length - (j + 1)) 0) := by
              show _ = _
              rw [HOut.out, List.take_of_length_le (by omega : ys.length ≤ t), take_snoc Hf.out, List.map_append, List.append_assoc]
              rfl
            go_wp2_with fail
            go_roundw
            case rel => exact ⟨j + 1, out, by omega, by go_num, HOut2, S.del 2⟩
            case measure => simp [intOf]; omega
      · obtain rfl : out = Rs := by
          rw [HOut.out, ← HR1.out, List.take_of_length_le (by omega), show p.length - j = 0 by omega]
          simp
        obtain ⟨A2, c2, e2, hS⟩ := ((S.ow 1 rfl).flatM flatInt (M' := Lt w.heap.size)).toSlC (fun k h1 h2 => by unfold Lt at h2; omega)
        have He := Lib.hid e2
        have HS2 := Lib.hid hS.2
        clear hS e2
        go_wp2_with fail
        exact bodyPost_ret (results_tt rfl rfl rfl) rfl ⟨A2, c2, congrArg (fun x => Ending.returned (.tuple #[x, .int .i64 0])) He.out, HS2.out, S.b⟩
  · have hF' : (F != 0) = true := by simpa using hF
    obtain rfl : [] = Rs := by rw [← HRs.out, if_neg hF]
    clear hF HRs HRe Hpl
    go_wp2_with fail
    exact bodyPost_ret (results_tt rfl rfl rfl) rfl ⟨none, 0, rfl, Sl.nil, S.b⟩
end Go.Proofs.YtlnklkedpknbpaaGreatDoor
