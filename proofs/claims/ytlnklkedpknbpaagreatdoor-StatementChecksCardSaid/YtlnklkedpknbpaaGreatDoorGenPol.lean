/- What the generator RightPolicy makes. -/
import Derived.Test.YtlnklkedpknbpaaGreatDoorPolMem
import Derived.Test.YtlnklkedpknbpaaGreatDoorFacts
import Derived.Deep.DeepCutAuto
namespace Go.Proofs.YtlnklkedpknbpaaGreatDoor
open Go.RowKit
def DrawsPol (b m : Nat) (w : World) (e : Ending) (w' : World) : Prop := ∃ (v : Value) (q : List PQ), e = .returned v ∧ 1 ≤ q.length ∧ QOk 9 q ∧ St b m w w' (polC w.heap.size v q)
abbrev names3 : Array Value := #[.string ⟨#[98, 105, 108, 108]⟩, .string ⟨#[110, 101, 119, 115]⟩, .string ⟨#[115, 97, 108, 101]⟩]
abbrev regs2 : Array Value := #[.string ⟨#[101, 117]⟩, .string ⟨#[117, 115]⟩]
theorem names3_at (k : Nat) (h : k < 3) : ∃ s : ByteArray, names3[k]? = some (.string s) ∧ s.size ≤ 10 := by
  obtain rfl | rfl | rfl : k = 0 ∨ k = 1 ∨ k = 2 := by omega
  all_goals exact ⟨_, rfl, by decide⟩
theorem regs2_at (k : Nat) (h : k < 2) : ∃ s : ByteArray, regs2[k]? = some (.string s) ∧ s.size ≤ 10 := by
  obtain rfl | rfl : k = 0 ∨ k = 1 := by omega
  all_goals exact ⟨_, rfl, by decide⟩
set_option maxHeartbeats 8000000 in
set_option maxRecDepth 100000 in
theorem rightPolicy_any (b m : Nat) (w : World) (hs : Strm b m w) (hm : m ≤ 100000000) :
    Calls Tryz.prog 57 #[.pointer (some ⟨b, 0, none⟩)] w (DrawsPol b (m + 110) w) := by
  have S := ((St.start hs).new' names3 9).nil rPQ w.heap.size 58
  clear hs
  go_enter Tryz.func57, Tryz.ntmps57
  go_wp2_with fail
  replace S : St b m w (w.alloc (.cells names3 9)) (.loc w.heap.size names3 9 :: polC w.heap.size (.slice none 0 0) []) := S
  go_loopw [3, 13] (fun s3 i wr => ∃ (k : Nat) (A : Option Addr) (cv : Nat) (q : List PQ), k ≤ 3 ∧ i = .int .i64 k ∧ s3 = .slice A q.length cv ∧ q.length ≤ k ∧ QOk 9 q ∧ St b (m + 34 * k) w wr (.loc w.heap.size names3 9 :: polC w.heap.size (.slice A q.length cv) q)) (fun _ i _ => 3 - (intOf i).toNat)
  case atStart => exact ⟨0, none, 0, [], by omega, rfl, rfl, by simp, ⟨by simp, by simp, by simp, by simp⟩, S.mono (by omega)⟩
  case round =>
    clear S
    obtain ⟨k, A, cv, q, hk, rfl, rfl, hq, hok, S⟩ := hrel
    have HQ := Lib.hid hok
    have Hql := Lib.hid hq
    have hql3 : q.length ≤ 3 := hok.len
    clear hok hq
    by_cases hk3 : k < 3
    · obtain ⟨nk, hnk, hnl⟩ := names3_at k hk3
      have n0 : wr.cell? ⟨w.heap.size, k, none⟩ = some (.string nk) := (S.lv 0 rfl).cell k _ hnk
      have Hnk := Lib.hid hnk
      clear hnk
      go_wp2_with fail
      ((with_reducible refine (flip_any b _ _ _ S.g.s (by omega) (by omega) (by omega)).mono ?_); rintro e w1 ⟨r1, rfl, hk_w1, hs_w1⟩)
      replace S := S.step hk_w1 hs_w1
      clear hk_w1 hs_w1
      clear n0
      cases r1
      · go_upto_region 7 with fail
        obtain ⟨P, hP⟩ : ∃ P, P = w1.heap.size := ⟨_, rfl⟩
        replace S := (S.newAt #[.string nk, .slice none 0 0] 58 P hP).front
        rw [← hP]
        clear hP
        generalize w1.alloc (.cells #[.string nk, .slice none 0 0] 58) = w2 at *
        obtain ⟨RB, hRB⟩ : ∃ RB, RB = w2.heap.size := ⟨_, rfl⟩
        replace S := ((S.newAt regs2 9 RB hRB).front.nil rTerm w.heap.size 34).front
        go_wp2_with fail
        rw [← hRB]
        clear hRB
        generalize w2.alloc (.cells regs2 9) = w3 at *
        go_loopw [23] (fun i wr => ∃ (j : Nat) (At : Option Addr) (ct : Nat) (ts : List PTerm), j ≤ 2 ∧ i = .int .i64 j ∧ ts.length ≤ 4 * j ∧ (∀ t ∈ ts, t.region.size ≤ 10) ∧ St b (m + 34 * k + 1 + 16 * j) w wr (.own rTerm w.heap.size 34 (.slice At ts.length ct) ts :: .loc RB regs2 9 :: .loc P #[.string nk, .slice At ts.length ct] 58 :: .loc w.heap.size names3 9 :: polC w.heap.size (.slice A q.length cv) q)) (fun i _ => 2 - (intOf i).toNat)
        case atStart => exact ⟨0, none, 0, [], by omega, rfl, by simp, by simp, S.mono (by omega)⟩
        case round =>
          clear S
          obtain ⟨j, At, ct, ts, hj, rfl, htl, htr, S⟩ := hrel
          have Htr := Lib.hid htr
          clear htr
          by_cases hj2 : j < 2
          · obtain ⟨rg, hrg, hrl⟩ := regs2_at j hj2
            have n0 : wr.cell? ⟨RB, j, none⟩ = some (.string rg) := (S.lv 1 rfl).cell j _ hrg
            clear hrg
            go_wp2_with fail
            clear n0
            have e24 : decide ((j : Int) < 2) = true := decide_eq_true (by omega)
            simp only [e24]
            clear e24
            go_loopw [9] (fun i wr => ∃ (c : Nat) (At : Option Addr) (ct : Nat) (ts : List PTerm), c ≤ 4 ∧ i = .int .i64 (c + 1) ∧ ts.length ≤ 4 * j + c ∧ (∀ t ∈ ts, t.region.size ≤ 10) ∧ St b (m + 34 * k + 1 + 16 * j + 4 * c) w wr (.own rTerm w.heap.size 34 (.slice At ts.length ct) ts :: .loc RB regs2 9 :: .loc P #[.string nk, .slice At ts.length ct] 58 :: .loc w.heap.size names3 9 :: polC w.heap.size (.slice A q.length cv) q)) (fun i _ => 5 - (intOf i).toNat)
            case atStart => exact ⟨0, At, ct, ts, by omega, rfl, by omega, Htr.out, S.mono (by omega)⟩
            case round =>
              clear S Htr htl
              obtain ⟨c, At, ct, ts, hc, rfl, htl, htr, S⟩ := hrel
              have Htr := Lib.hid htr
              have Htl := Lib.hid htl
              have htl9 : ts.length ≤ 8 := by omega
              clear htr htl
              by_cases hc4 : c < 4
              · go_wp2_with fail
                ((with_reducible refine (flip_any b _ _ _ S.g.s (by omega) (by omega) (by omega)).mono ?_); rintro e w5 ⟨r5, rfl, hk_w5, hs_w5⟩)
                replace S := S.step hk_w5 hs_w5
                clear hk_w5 hs_w5
                cases r5
                · go_wp2_with fail
                  ((with_reducible refine (flip_any b _ _ _ S.g.s (by omega) (by omega) (by omega)).mono ?_); rintro e w6 ⟨fr, rfl, hk_w6, hs_w6⟩)
                  replace S := S.step hk_w6 hs_w6
                  clear hk_w6 hs_w6
                  go_upto_region 15 with fail
                  obtain ⟨T, hT⟩ : ∃ T, T = w6.heap.size := ⟨_, rfl⟩
                  replace S := (S.newAt #[.string rg, .int .i64 (c + 1), .bool fr, .int .i64 0, .int .i64 0] 34 T hT).front
                  rw [← hT]
                  clear hT
                  generalize w6.alloc (.cells #[.string rg, .int .i64 (c + 1), .bool fr, .int .i64 0, .int .i64 0] 34) = w7 at *
                  have x2 : w7.cell? ⟨T, 2, none⟩ = some (.bool fr) := (S.lv 0 rfl).cell 2 _ rfl
                  go_upto_if 40 with fail
                  clear x2
                  have HS := Lib.hid S
                  clear S
                  go_cut [9] (fun s9 wx => s9 = .int .i64 (c + 1) ∧ ∃ dy wt : Int, St b (m + 34 * k + 1 + 16 * j + 4 * c + 4) w wx (.loc T #[.string rg, .int .i64 (c + 1), .bool fr, .int .i64 dy, .int .i64 wt] 34 :: .own rTerm w.heap.size 34 (.slice At ts.length ct) ts :: .loc RB regs2 9 :: .loc P #[.string nk, .slice At ts.length ct] 58 :: .loc w.heap.size names3 9 :: polC w.heap.size (.slice A q.length cv) q))
                  case first =>
                    have S := HS.out
                    clear HS
                    cases fr
                    · go_wp2_with fail
                      ((with_reducible refine (pick_le b _ _ _ (0) (100) S.g.s (by first | rfl | simp) (by first | rfl | simp) (intsIn_of (by decide)) (by simp) (by simp) (by omega)).mono ?_); rintro e w8 ⟨dy, dy_lo, dy_hi, rfl, hk_w8, hs_w8⟩)
                      replace S := S.step hk_w8 hs_w8
                      clear hk_w8 hs_w8
                      go_wp2_with fail
                      ((with_reducible refine (pick_le b _ _ _ (0) (100) S.g.s (by first | rfl | simp) (by first | rfl | simp) (intsIn_of (by decide)) (by simp) (by simp) (by omega)).mono ?_); rintro e w9 ⟨wt, wt_lo, wt_hi, rfl, hk_w9, hs_w9⟩)
                      replace S := S.step hk_w9 hs_w9
                      clear hk_w9 hs_w9
                      have x3 : w9.cell? ⟨T, 3, none⟩ = some (.int .i64 0) := (S.lv 0 rfl).cell 3 _ rfl
                      have x4 : w9.cell? ⟨T, 4, none⟩ = some (.int .i64 0) := (S.lv 0 rfl).cell 4 _ rfl
                      have f3 := (S.lv 0 rfl).free 3
                      have f4 := (S.lv 0 rfl).free 4
                      go_wp2_with fail
                      go_meet
                      exact ⟨rfl, dy, wt, ((S.set 0 3 (.int .i64 dy) rfl).set 0 4 (.int .i64 wt) rfl).mono (by omega)⟩
                    · go_wp2_with fail
                      go_meet
                      exact ⟨rfl, 0, 0, S.mono (by omega)⟩
                  case rest =>
                    clear HS
                    obtain ⟨rfl, dy, wt, S⟩ := hcut
                    have hsz := S.g.size
                    have y1 : wc.cell? ⟨P, 1, none⟩ = some (.slice At ts.length ct) := (S.lv 3 rfl).cell 1 _ rfl
                    have x0 : wc.cell? ⟨T, 0, none⟩ = some (.string rg) := (S.lv 0 rfl).cell 0 _ rfl
                    have x1 : wc.cell? ⟨T, 1, none⟩ = some (.int .i64 (c + 1)) := (S.lv 0 rfl).cell 1 _ rfl
                    have x2 : wc.cell? ⟨T, 2, none⟩ = some (.bool fr) := (S.lv 0 rfl).cell 2 _ rfl
                    have x3 : wc.cell? ⟨T, 3, none⟩ = some (.int .i64 dy) := (S.lv 0 rfl).cell 3 _ rfl
                    have x4 : wc.cell? ⟨T, 4, none⟩ = some (.int .i64 wt) := (S.lv 0 rfl).cell 4 _ rfl
                    have hlt := Htl.out
                    go_wp2_with (at_builtin; refine S.app 1 rfl tyTerm rfl _ _ rfl ⟨rg, c + 1, fr, dy, wt⟩ 1 rfl rfl rfl (oneTerm ⟨rg, c + 1, fr, dy, wt⟩) hsz (by omega) (by decide) ?_; intro v' w10 S6; obtain ⟨A6, c6, rfl⟩ := (S6.ow 1 rfl).len; have hCb := (S6.lv 3 rfl).cell 1 (.slice At ts.length ct) rfl; have hCf := (S6.lv 3 rfl).free 1)
                    go_roundw
                    case rel =>
                      have S7 : St b (m + 34 * k + 1 + 16 * j + 4 * c + 4) w (w10.setCell ⟨P, 1, none⟩ (.slice A6 (ts ++ [(⟨rg, c + 1, fr, dy, wt⟩ : PTerm)]).length c6)) (.own rTerm w.heap.size 34 (.slice A6 (ts ++ [(⟨rg, c + 1, fr, dy, wt⟩ : PTerm)]).length c6) (ts ++ [(⟨rg, c + 1, fr, dy, wt⟩ : PTerm)]) :: .loc RB regs2 9 :: .loc P #[.string nk, .slice A6 (ts ++ [(⟨rg, c + 1, fr, dy, wt⟩ : PTerm)]).length c6] 58 :: .loc w.heap.size names3 9 :: polC w.heap.size (.slice A q.length cv) q) := (S6.set 3 1 (.slice A6 (ts ++ [(⟨rg, c + 1, fr, dy, wt⟩ : PTerm)]).length c6) rfl).del 0
                      exact ⟨c + 1, A6, c6, ts ++ [⟨rg, c + 1, fr, dy, wt⟩], by omega, by go_num, by simp; omega, (fun t ht => by
                        rcases List.mem_append.1 ht with ht | ht
                        · exact Htr.out t ht
                        · rw [List.mem_singleton.1 ht]; exact hrl), by rw [show ts.length + 1 = (ts ++ [(⟨rg, c + 1, fr, dy, wt⟩ : PTerm)]).length by simp]; exact S7.mono (show m + 34 * k + 1 + 16 * j + 4 * c + 4 ≤ m + 34 * k + 1 + 16 * j + 4 * (c + 1) by omega)⟩
                    case measure => simp [intOf]; omega
                · go_wp2_with fail
                  go_roundw
                  case rel =>
                    exact ⟨c + 1, At, ct, ts, by omega, by go_num, by have := Htl.out; omega, Htr.out, S.mono (by omega)⟩
                  case measure => simp [intOf]; omega
              · have hlt := Htl.out
                go_wp2_with fail
                go_roundw
                case rel => exact ⟨j + 1, At, ct, ts, by omega, by go_num, by omega, Htr.out, S.mono (by omega)⟩
                case measure => simp [intOf]; omega
          · have hsz := S.g.size
            have y0 : wr.cell? ⟨P, 0, none⟩ = some (.string nk) := (S.lv 2 rfl).cell 0 _ rfl
            have y1 : wr.cell? ⟨P, 1, none⟩ = some (.slice At ts.length ct) := (S.lv 2 rfl).cell 1 _ rfl
            go_wp2_with (at_builtin; refine S.app 4 rfl tyPurp rfl _ _ rfl ⟨nk, At, ct, ts⟩ 1 rfl rfl rfl (onePQ ⟨nk, At, ct, ts⟩) hsz (by omega) (by decide) ?_; intro v' w10 S6; obtain ⟨A6, c6, rfl⟩ := (S6.ow 4 rfl).len)
            go_roundw
            case rel =>
              have hn := Hql.out
              have S7 : St b (m + 34 * k + 1 + 16 * j) w w10 (.loc w.heap.size names3 9 :: polC w.heap.size (.slice A6 (q ++ [(⟨nk, At, ct, ts⟩ : PQ)]).length c6) (q ++ [(⟨nk, At, ct, ts⟩ : PQ)])) := by
                have S8 := ((S6.del 1).del 1).back
                unfold polC
                rw [List.map_append]
                exact S8
              refine ⟨k + 1, A6, c6, q ++ [(⟨nk, At, ct, ts⟩ : PQ)], by omega, by go_num, by simp, by simp; omega, ⟨by simp; omega, fun e he => ?_, fun e he => ?_, fun e he => ?_⟩, S7.mono (by omega)⟩
              · rcases List.mem_append.1 he with he | he
                · exact HQ.out.nm e he
                · rw [List.mem_singleton.1 he]; exact hnl
              · rcases List.mem_append.1 he with he | he
                · exact HQ.out.tl e he
                · rw [List.mem_singleton.1 he]; show ts.length ≤ 9; omega
              · rcases List.mem_append.1 he with he | he
                · exact HQ.out.rg e he
                · rw [List.mem_singleton.1 he]; exact Htr.out
            case measure => simp [intOf]; omega
      · go_wp2_with fail
        go_roundw
        case rel => exact ⟨k + 1, A, cv, q, by omega, by go_num, rfl, by have := Hql.out; omega, HQ.out, S.mono (by omega)⟩
        case measure => simp [intOf]; omega
    · have hn := Hql.out
      by_cases h0 : q.length = 0
      · obtain rfl : q = [] := List.length_eq_zero_iff.1 h0
        go_wp2_with fail
        go_ret
        have hsz := S.g.size
        have S2 := S.call ⟨(SK.refl b wr).alloc (.cells #[.string ⟨#[101, 117]⟩, .int .i64 1, .bool false, .int .i64 0, .int .i64 0] 34), S.g.s.alloc _⟩ (.own rTerm w.heap.size 34 (.slice (some ⟨wr.heap.size, 0, none⟩) 1 1) [⟨⟨#[101, 117]⟩, 1, false, 0, 0⟩]) (Own.ofLV flatTerm (xs := [⟨⟨#[101, 117]⟩, 1, false, 0, 0⟩]) (LV.new wr wr.heap.size _ _ rfl) hsz rfl rfl (by decide)) (fun k e => by cases e; exact Nat.le_refl _)
        have S3 := S2.call ⟨(SK.refl b _).alloc (.cells #[.string ⟨#[110, 101, 119, 115]⟩, .slice (some ⟨wr.heap.size, 0, none⟩) 1 1] 58), S2.g.s.alloc _⟩ (.own rPQ w.heap.size 58 (.slice (some ⟨wr.heap.size + 1, 0, none⟩) 1 1) [⟨⟨#[110, 101, 119, 115]⟩, some ⟨wr.heap.size, 0, none⟩, 1, [⟨⟨#[101, 117]⟩, 1, false, 0, 0⟩]⟩]) (Own.ofLV flatPQ (xs := [⟨⟨#[110, 101, 119, 115]⟩, some ⟨wr.heap.size, 0, none⟩, 1, [⟨⟨#[101, 117]⟩, 1, false, 0, 0⟩]⟩]) (LV.new _ (wr.heap.size + 1) _ _ (by simp)) (by omega) rfl rfl (by simp)) (fun k e => by cases e; simp)
        exact ⟨_, [⟨⟨#[110, 101, 119, 115]⟩, some ⟨wr.heap.size, 0, none⟩, 1, [⟨⟨#[101, 117]⟩, 1, false, 0, 0⟩]⟩], rfl, by simp, ⟨by simp, by simp; decide, by simp, by simp; decide⟩, (((S3.del 0).del 0).swap).mono (by omega)⟩
      · have h0' : ((q.length : Int) == 0) = false := by simpa using h0
        go_wp2_with fail
        go_ret
        exact ⟨_, q, rfl, by omega, HQ.out, (S.del 0).mono (by omega)⟩
end Go.Proofs.YtlnklkedpknbpaaGreatDoor
