/- What the steps of consent's answer return: objected, grants, confirmation, stateOf, rank. -/
import Derived.Test.YtlnklkedpknbpaaGreatDoorSaid
namespace Go.Proofs.YtlnklkedpknbpaaGreatDoor
open Go Go.RowKit
theorem results_tt {P : Program} {fn : Func} {s t : Tmp} {v u : Value} {w : World} {tmps : Array Value} (h : fn.results = #[.tmp s, .tmp t]) (hs : tmps.getD s undef = v) (ht : tmps.getD t undef = u) : (results fn tmps).run P w = .ok (.tuple #[v, u]) w := by
  have hs' : tmps[s]?.getD undef = v := by simpa using hs
  have ht' : tmps[t]?.getD undef = u := by simpa using ht
  simp [results, h, hs', ht']
set_option maxHeartbeats 4000000 in
set_option maxRecDepth 100000 in
theorem objected_any (N : Nat → Prop) (A : Option Addr) (U : List Stm) (c : Nat) (w : World) (hS : Sl rStm N w A U) (hl : U.length ≤ 1000000) :
    Calls Tryz.prog 134 #[.slice A U.length c] w fun e w' => e = .returned (.tuple #[.int .i64 (objGo 0 (-1) false U).1, .bool (objGo 0 (-1) false U).2]) ∧ Below w.heap.size w w' := by
  have HL := Lib.hid hS
  have S := Mem.start w
  clear hS
  obtain ⟨R, HR⟩ : ∃ R, Hid (objGo 0 (-1) false U = R) := ⟨_, Lib.hid rfl⟩
  rw [HR.out]
  go_enter Tryz.func134, Tryz.ntmps134
  go_wp2_with fail
  go_loopw [4, 5, 6, 11] (fun a b d i wr => ∃ (j : Nat) (no last : Int) (is : Bool), j ≤ U.length ∧ i = .int .i64 j ∧ a = .int .i64 no ∧ b = .int .i64 last ∧ d = .bool is ∧ Hid (objGo no last is (U.drop j) = R) ∧ Mem w wr []) (fun _ _ _ i _ => U.length - (intOf i).toNat)
  case atStart => exact ⟨0, 0, -1, false, Nat.zero_le _, rfl, rfl, rfl, rfl, HR, S⟩
  case round =>
    clear S HR
    obtain ⟨j, no, last, is, hj, rfl, rfl, rfl, rfl, HR, S⟩ := hrel
    by_cases hlt : j < U.length
    · obtain ⟨s, hf⟩ : ∃ s, U[j]? = some s := ⟨_, List.getElem?_eq_getElem hlt⟩
      obtain ⟨blk, off, rfl, hblk, d0, d1, d2, d3, d4, d5, d6, d7⟩ := (HL.out.keepB S.b).stm j s hf
      have Hf := Lib.hid hf
      clear hf
      go_upto_region 5 with fail
      clear d0 d1 d2 d3 d4 d5 d6 d7
      obtain ⟨Y, hY⟩ : ∃ Y, Y = wr.heap.size := ⟨_, rfl⟩
      replace S := (S.newAt (stmCs s) 84 Y hY).front
      rw [← hY]
      clear hY
      generalize wr.alloc (.cells (stmCs s) 84) = w2 at *
      have HR2 : Hid (objGo no last is (s :: U.drop (j + 1)) = R) := by show _ = _; rw [← HR.out, drop_at3 Hf.out]
      have c0 := (S.lv 0 rfl).all
      obtain ⟨W, HW⟩ : ∃ W, Hid (whole s.what = W) := ⟨_, Lib.hid rfl⟩
      have C6 : Hid (∀ w, Calls Tryz.prog 77 #[.int .i64 s.what] w fun e w' => e = .returned (.bool W) ∧ w = w') := fun w => HW.out ▸ ofChannel_any s.what w
      cases W
      · have HR3 : Hid (objGo no last is (U.drop (j + 1)) = R) := by show _ = _; rw [← HR2.out, objGo, if_pos HW.out]
        go_wp2_with fail
        ((with_reducible refine (C6.out _).mono ?_); rintro e _ ⟨rfl, rfl⟩)
        go_wp2_with fail
        go_roundw
        case rel => exact ⟨j + 1, no, last, is, by omega, by go_num, rfl, rfl, rfl, HR3, by first | exact S.del 0 | exact (S.del 0).below (below_drewN _ _ _)⟩
        case measure => simp [intOf]; omega
      · by_cases hla : last < s.at'
        · by_cases h4' : s.what = 4
          · have HR3 : Hid (objGo s.no s.at' true (U.drop (j + 1)) = R) := by show _ = _; rw [← HR2.out, objGo, if_neg (by simp [HW.out]), if_pos hla, if_pos h4']
            have h4 : (s.what == 4) = true := by simpa using h4'
            clear h4' HR HR2 HW
            go_wp2_with fail
            ((with_reducible refine (C6.out _).mono ?_); rintro e _ ⟨rfl, rfl⟩)
            go_wp2_with fail
            go_quiet (fail)
            go_wp2_with fail
            go_roundw
            case rel => exact ⟨j + 1, s.no, s.at', true, by omega, by go_num, rfl, rfl, rfl, HR3, by first | exact S.del 0 | exact (S.del 0).below (below_drewN _ _ _)⟩
            case measure => simp [intOf]; omega
          · have HR3 : Hid (objGo 0 s.at' false (U.drop (j + 1)) = R) := by show _ = _; rw [← HR2.out, objGo, if_neg (by simp [HW.out]), if_pos hla, if_neg h4']
            have h4 : (s.what == 4) = false := by simpa using h4'
            clear h4' HR HR2 HW
            go_wp2_with fail
            ((with_reducible refine (C6.out _).mono ?_); rintro e _ ⟨rfl, rfl⟩)
            go_wp2_with fail
            go_quiet (fail)
            go_wp2_with fail
            go_roundw
            case rel => exact ⟨j + 1, 0, s.at', false, by omega, by go_num, rfl, rfl, rfl, HR3, by first | exact S.del 0 | exact (S.del 0).below (below_drewN _ _ _)⟩
            case measure => simp [intOf]; omega
        · by_cases h4' : s.what = 4 ∧ is = false
          · have HR3 : Hid (objGo s.no last true (U.drop (j + 1)) = R) := by show _ = _; rw [← HR2.out, objGo, if_neg (by simp [HW.out]), if_neg hla, if_pos h4']
            have h4 : (s.what == 4) = true := by simpa using h4'.1
            obtain ⟨h9, rfl⟩ := h4'
            clear h9 HR HR2 HW
            go_wp2_with fail
            ((with_reducible refine (C6.out _).mono ?_); rintro e _ ⟨rfl, rfl⟩)
            go_wp2_with fail
            go_roundw
            case rel => exact ⟨j + 1, s.no, last, true, by omega, by go_num, rfl, rfl, rfl, HR3, by first | exact S.del 0 | exact (S.del 0).below (below_drewN _ _ _)⟩
            case measure => simp [intOf]; omega
          · have HR3 : Hid (objGo no last is (U.drop (j + 1)) = R) := by show _ = _; rw [← HR2.out, objGo, if_neg (by simp [HW.out]), if_neg hla, if_neg h4']
            by_cases h4 : (s.what == 4) = true
            · obtain rfl : true = is := by
                cases is with
                | true => rfl
                | false => exact absurd ⟨by simpa using h4, rfl⟩ h4'
              clear h4' HR HR2 HW
              go_wp2_with fail
              ((with_reducible refine (C6.out _).mono ?_); rintro e _ ⟨rfl, rfl⟩)
              go_wp2_with fail
              go_roundw
              case rel => exact ⟨j + 1, no, last, true, by omega, by go_num, rfl, rfl, rfl, HR3, by first | exact S.del 0 | exact (S.del 0).below (below_drewN _ _ _)⟩
              case measure => simp [intOf]; omega
            · replace h4 : (s.what == 4) = false := by simpa using h4
              clear h4' HR HR2 HW
              go_wp2_with fail
              ((with_reducible refine (C6.out _).mono ?_); rintro e _ ⟨rfl, rfl⟩)
              go_wp2_with fail
              go_roundw
              case rel => exact ⟨j + 1, no, last, is, by omega, by go_num, rfl, rfl, rfl, HR3, by first | exact S.del 0 | exact (S.del 0).below (below_drewN _ _ _)⟩
              case measure => simp [intOf]; omega
    · go_wp2_with fail
      refine bodyPost_ret (results_tt rfl rfl rfl) rfl ⟨?_, S.b⟩
      rw [← HR.out, List.drop_eq_nil_of_le (by omega)]
      rfl
end Go.Proofs.YtlnklkedpknbpaaGreatDoor
