/- What handref2's said, latest and QuestionFault return. -/
import Derived.Test.YthmkphmciiiagaaGreatDoorMayTop
import Derived.Test.YthmkphmciiiagaaGreatDoorPackC
import Derived.Test.YthmkphmciiiagaaGreatDoorStmRef
namespace Go.Proofs.YthmkphmciiiagaaGreatDoor
open Go Go.RowKit
theorem tyStmS : STy 27 38 rStm.size 88 (.agg #[.int .i64 0, .int .i64 0, .int .i64 0, .string ⟨#[]⟩, .string ⟨#[]⟩, .string ⟨#[]⟩, .int .i64 0, .int .i64 0]) := ⟨Tryz.underlying27, by kernel_rfl, rfl, by decide⟩
/-- a question -/
abbrev qqCs (k : Int) (t pu rg : ByteArray) (ch at' : Int) : Array Value := #[.int .i64 k, .string t, .string pu, .string rg, .int .i64 ch, .int .i64 at']
def GivesSl (U : List Stm) (w : World) (e : Ending) (w' : World) : Prop := ∃ A c, e = .returned (.slice A U.length c) ∧ Sl rStm (Lt w.heap.size) w' A U ∧ Below w.heap.size w w'
set_option maxHeartbeats 4000000 in
set_option maxRecDepth 100000 in
theorem refSaid_any (N : Nat → Prop) (Al : Option Addr) (l : List Stm) (cl : Nat) (k : Int) (t pq rg : ByteArray) (ch at' what : Int) (pu : ByteArray) (w : World) (hL : Sl rStm N w Al l) (hl : l.length ≤ 1000000) :
    Calls Tryz.prog 142 #[.slice Al l.length cl, .agg (qqCs k t pq rg ch at'), .int .i64 what, .string pu] w (GivesSl (saidR k t ch at' what pu l) w) := by
  have HL := Lib.hid hL
  have S := ((Mem.start w).new' (qqCs k t pq rg ch at') 31).nil rStm w.heap.size 38
  obtain ⟨R, HR⟩ : ∃ R, Hid (saidR k t ch at' what pu l = R) := ⟨_, Lib.hid rfl⟩
  rw [HR.out]
  clear hL
  go_enter Tryz.func142, Tryz.ntmps142
  go_wp2_with fail
  generalize w.alloc (.cells (qqCs k t pq rg ch at') 31) = w1 at *
  go_loopw [9, 14] (fun v i wr => ∃ (j : Nat) (U : List Stm), j ≤ l.length ∧ i = .int .i64 j ∧ Hid (saidR k t ch at' what pu (l.take j) = U) ∧ Mem w wr [.own rStm w.heap.size 38 v U, .loc w.heap.size (qqCs k t pq rg ch at') 31]) (fun _ i _ => l.length - (intOf i).toNat)
  case atStart => exact ⟨0, [], Nat.zero_le _, rfl, Lib.hid rfl, S.swap⟩
  case round =>
    clear S
    obtain ⟨j, U, hj, rfl, HU, S⟩ := hrel
    have hUl : U.length ≤ 1000000 := by rw [← HU.out]; exact Nat.le_trans (List.length_filter_le ..) (by rw [List.length_take]; omega)
    obtain ⟨Au, cu, rfl⟩ := (S.ow 0 rfl).len
    by_cases hlt : j < l.length
    · obtain ⟨s, hf⟩ : ∃ s, l[j]? = some s := ⟨_, List.getElem?_eq_getElem hlt⟩
      obtain ⟨blk, off, rfl, hblk, d0, d1, d2, d3, d4, d5, d6, d7⟩ := (HL.out.keepB S.b).stm j s hf
      have Hf := Lib.hid hf
      clear hf
      go_upto_region 5 with fail
      clear d0 d1 d2 d3 d4 d5 d6 d7
      obtain ⟨Y, hY⟩ : ∃ Y, Y = wr.heap.size := ⟨_, rfl⟩
      replace S := (S.newAt (stmCs s) 38 Y hY).front
      rw [← hY]
      clear hY
      generalize wr.alloc (.cells (stmCs s) 38) = w2 at *
      have c0 := (S.lv 0 rfl).all
      have c2 := (S.lv 2 rfl).all
      obtain ⟨B, HB⟩ : ∃ B, Hid ((ofB k t ch s && decide (s.at' ≤ at') && decide (s.what = what) && puB pu s) = B) := ⟨_, Lib.hid rfl⟩
      have HU2 : Hid (saidR k t ch at' what pu (l.take (j + 1)) = if B = true then U ++ [s] else U) := by
        show _ = _
        have := HU.out
        unfold saidR at this ⊢
        rw [take_snoc Hf.out, List.filter_append, this, List.filter_cons, List.filter_nil, HB.out]
        cases B <;> simp
      go_cut [48] (fun s48 wx => s48 = .bool B ∧ w2 = wx)
      case first =>
        clear HU HU2 HL Hf HR
        go_wp2_with fail
        all_goals (go_meet; exact ⟨by rw [← HB.out]; clear HB c0 c2; unfold ofB puB; first | rfl | (simp [*]; done) | (simp [*]; rfl) | (simp [*]; intros; omega), rfl⟩)
      case rest =>
        obtain ⟨rfl, rfl⟩ := hcut
        clear HB
        cases B
        · go_wp2_with fail
          go_roundw
          case rel => exact ⟨j + 1, U, by omega, by go_num, HU2, S.del 0⟩
          case measure => simp [intOf]; omega
        · have hsz := S.b.size
          go_wp2_with (at_builtin; refine S.app 1 rfl tyStmS rfl _ _ rfl s 1 rfl rfl rfl (oneStmS s) hsz (by omega) (by decide) ?_; intro v' w10 S6)
          go_roundw
          case rel => exact ⟨j + 1, U ++ [s], by omega, by go_num, HU2, S6.del 0⟩
          case measure => simp [intOf]; omega
    · obtain rfl : U = R := by rw [← HU.out, ← HR.out, List.take_of_length_le (by omega)]
      obtain ⟨A2, c2, e2, hS⟩ := ((S.ow 0 rfl).flatM flatStm (M' := Lt w.heap.size)).toSlC (fun k h1 h2 => by unfold Lt at h2; omega)
      have HS := Lib.hid hS
      have He := Lib.hid e2
      clear hS e2
      go_wp2_with fail
      go_ret
      exact ⟨A2, c2, congrArg Ending.returned He.out, HS.out.2, S.b⟩
set_option maxHeartbeats 4000000 in
set_option maxRecDepth 100000 in
theorem latest_any (N : Nat → Prop) (A : Option Addr) (U : List Stm) (c : Nat) (w : World) (hS : Sl rStm N w A U) (hl : U.length ≤ 1000000) :
    Calls Tryz.prog 141 #[.slice A U.length c] w fun e w' => e = .returned (.tuple #[.int .i64 (lat U).1, .int .i64 (lat U).2]) ∧ Below w.heap.size w w' := by
  have HL := Lib.hid hS
  have S := Mem.start w
  clear hS
  obtain ⟨R, HR⟩ : ∃ R, Hid (latGo (-1) 0 U = R) := ⟨_, Lib.hid rfl⟩
  rw [show lat U = R from HR.out]
  go_enter Tryz.func141, Tryz.ntmps141
  go_wp2_with fail
  go_loopw [4, 5, 10] (fun a b i wr => ∃ (j : Nat) (la no : Int), j ≤ U.length ∧ i = .int .i64 j ∧ a = .int .i64 la ∧ b = .int .i64 no ∧ Hid (latGo la no (U.drop j) = R) ∧ Mem w wr []) (fun _ _ i _ => U.length - (intOf i).toNat)
  case atStart => exact ⟨0, -1, 0, Nat.zero_le _, rfl, rfl, rfl, HR, S⟩
  case round =>
    clear S HR
    obtain ⟨j, la, no, hj, rfl, rfl, rfl, HR, S⟩ := hrel
    by_cases hlt : j < U.length
    · obtain ⟨s, hf⟩ : ∃ s, U[j]? = some s := ⟨_, List.getElem?_eq_getElem hlt⟩
      obtain ⟨blk, off, rfl, hblk, d0, d1, d2, d3, d4, d5, d6, d7⟩ := (HL.out.keepB S.b).stm j s hf
      have Hf := Lib.hid hf
      clear hf
      go_upto_region 5 with fail
      clear d0 d1 d2 d3 d4 d5 d6 d7
      obtain ⟨Y, hY⟩ : ∃ Y, Y = wr.heap.size := ⟨_, rfl⟩
      replace S := (S.newAt (stmCs s) 38 Y hY).front
      rw [← hY]
      clear hY
      generalize wr.alloc (.cells (stmCs s) 38) = w2 at *
      have HR2 : Hid ((if la < s.at' ∨ (s.at' = la ∧ s.no < no) then latGo s.at' s.no (U.drop (j + 1)) else latGo la no (U.drop (j + 1))) = R) := by show _ = _; rw [← HR.out, drop_at3 Hf.out, latGo]
      have c0 := (S.lv 0 rfl).all
      obtain ⟨B, HB⟩ : ∃ B, Hid (decide (la < s.at' ∨ (s.at' = la ∧ s.no < no)) = B) := ⟨_, Lib.hid rfl⟩
      have HR3 : Hid ((if B = true then latGo s.at' s.no (U.drop (j + 1)) else latGo la no (U.drop (j + 1))) = R) := by show _ = _; rw [← HR2.out, ← HB.out]; simp only [decide_eq_true_eq]
      clear HR HR2
      go_cut [29] (fun s29 wx => s29 = .bool B ∧ w2 = wx)
      case first =>
        clear HR3 HL Hf
        by_cases h1 : la < s.at'
        · obtain rfl : true = B := by rw [← HB.out]; simp [h1]
          go_wp2_with fail
          go_meet
          exact ⟨rfl, rfl⟩
        · by_cases h2 : s.at' = la
          · have HB2 : Hid (decide (s.no < no) = B) := by show _ = _; rw [← HB.out]; simp [h2]
            have h2' : (s.at' == la) = true := by simpa using h2
            clear HB h2
            go_wp2_with fail
            go_meet
            exact ⟨by rw [← HB2.out], rfl⟩
          · have h2' : (s.at' == la) = false := by simpa using h2
            obtain rfl : false = B := by rw [← HB.out]; simp [h1, h2]
            clear HB h2
            go_wp2_with fail
            go_meet
            exact ⟨by first | rfl | (simp; omega), rfl⟩
      case rest =>
        obtain ⟨rfl, rfl⟩ := hcut
        clear HB
        cases B
        · go_wp2_with fail
          go_roundw
          case rel => exact ⟨j + 1, la, no, by omega, by go_num, rfl, rfl, HR3, S.del 0⟩
          case measure => simp [intOf]; omega
        · go_wp2_with fail
          go_quiet (fail)
          go_wp2_with fail
          go_roundw
          case rel => exact ⟨j + 1, s.at', s.no, by omega, by go_num, rfl, rfl, HR3, (S.del 0).below (below_drewN _ _ _)⟩
          case measure => simp [intOf]; omega
    · go_wp2_with fail
      refine bodyPost_ret (results_tt rfl rfl rfl) rfl ⟨?_, S.b⟩
      rw [← HR.out, List.drop_eq_nil_of_le (by omega)]
      rfl
set_option maxHeartbeats 4000000 in
set_option maxRecDepth 100000 in
theorem questionFault_any (N : Nat → Prop) (A : Option Addr) (p : List Purp) (c : Nat) (k : Int) (t pu rg : ByteArray) (ch at' : Int) (w : World) (hS : Sl rPurp N w A p) (hl : p.length ≤ 1000000) (hrg : rg.size ≤ 1000000000) :
    Calls Tryz.prog 63 #[.slice A p.length c, .agg (qqCs k t pu rg ch at')] w fun e w' => e = .returned (.int .i64 (qErr p pu rg ch at')) ∧ Below w.heap.size w w' := by
  have S := (Mem.start w).new' (qqCs k t pu rg ch at') 31
  have Hp := Lib.hid (fun w' (h : Below w.heap.size w w') => hasPurpose_any N A p pu c w' (hS.keepB h) hl)
  obtain ⟨H, HH⟩ : ∃ H, Hid (hasP p pu = H) := ⟨_, Lib.hid rfl⟩
  obtain ⟨K, HK⟩ : ∃ K, Hid (L.isKey rg = K) := ⟨_, Lib.hid rfl⟩
  obtain ⟨C, HC⟩ : ∃ C, Hid (isCh ch = C) := ⟨_, Lib.hid rfl⟩
  obtain ⟨D, HD⟩ : ∃ D, Hid (decide (0 ≤ at' ∧ at' ≤ 4321439) = D) := ⟨_, Lib.hid rfl⟩
  have HR : Hid (qErr p pu rg ch at' = if H = false then 8 else if K = false then 5 else if C = false then 4 else if D = false then 1 else 0) := by
    show _ = _
    rw [qErr, HH.out, HK.out, HC.out, ← HD.out]
    simp
  generalize qErr p pu rg ch at' = R at *
  have C1 : Hid (∀ w, Calls Tryz.prog 95 #[.string rg] w fun e w' => e = .returned (.bool K) ∧ Below w.heap.size w w') := fun w => HK.out ▸ Key_any rg w hrg
  have C2 : Hid (∀ w, Calls Tryz.prog 74 #[.int .i64 ch, .int .i64 1, .int .i64 4] w fun e w' => e = .returned (.bool C) ∧ w = w') := fun w => HC.out ▸ in_any ch 1 4 w
  have C3 : Hid (∀ w, Calls Tryz.prog 74 #[.int .i64 at', .int .i64 0, .int .i64 4321439] w fun e w' => e = .returned (.bool D) ∧ w = w') := fun w => HD.out ▸ in_any at' 0 4321439 w
  rw [HH.out] at Hp
  clear HH HK HC HD hS
  go_enter Tryz.func63, Tryz.ntmps63
  go_upto_region 1 with fail
  replace S : Mem w (w.alloc (.cells (qqCs k t pu rg ch at') 31)) [.loc w.heap.size (qqCs k t pu rg ch at') 31] := S
  generalize w.alloc (.cells (qqCs k t pu rg ch at') 31) = w1 at *
  have c0 := (S.lv 0 rfl).all
  go_wp2_with fail
  ((with_reducible refine (Hp.out w1 S.b).mono ?_); rintro e w2 ⟨rfl, hl2⟩)
  replace S := S.below hl2
  clear c0 hl2 Hp
  have c0 := (S.lv 0 rfl).all
  cases H
  · go_wp2_with fail
    go_ret
    exact ⟨ret_i (by rw [HR.out]; rfl), S.b⟩
  · go_wp2_with fail
    ((with_reducible refine (C1.out w2).mono ?_); rintro e w3 ⟨rfl, hl3⟩)
    replace S := S.below hl3
    clear c0 hl3 C1
    have c0 := (S.lv 0 rfl).all
    cases K
    · go_wp2_with fail
      go_ret
      exact ⟨ret_i (by rw [HR.out]; rfl), S.b⟩
    · go_wp2_with fail
      ((with_reducible refine (C2.out _).mono ?_); rintro e _ ⟨rfl, rfl⟩)
      cases C
      · go_wp2_with fail
        go_ret
        exact ⟨ret_i (by rw [HR.out]; rfl), S.b⟩
      · go_wp2_with fail
        ((with_reducible refine (C3.out _).mono ?_); rintro e _ ⟨rfl, rfl⟩)
        cases D
        · go_wp2_with fail
          go_ret
          exact ⟨ret_i (by rw [HR.out]; rfl), S.b⟩
        · go_wp2_with fail
          go_ret
          exact ⟨ret_i (by rw [HR.out]; rfl), S.b⟩
end Go.Proofs.YthmkphmciiiagaaGreatDoor
