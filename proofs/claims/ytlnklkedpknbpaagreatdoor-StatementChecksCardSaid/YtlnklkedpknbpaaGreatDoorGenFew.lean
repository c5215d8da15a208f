/- What the generators few and Question make. -/
import Derived.Test.YtlnklkedpknbpaaGreatDoorGenId
import Derived.Test.YtlnklkedpknbpaaGreatDoorPolMem
import Derived.Test.YtlnklkedpknbpaaGreatDoorFacts
import Derived.Test.YtlnklkedpknbpaaGreatDoorOdd
import Derived.Deep.DeepCutAuto
namespace Go.Proofs.YtlnklkedpknbpaaGreatDoor
open Go.RowKit
theorem loadId {w : World} {X : Nat} {a0 a1 : Value} (h : LV w X #[a0, a1] 29) : (loadVar 29 ⟨X, 0, none⟩).run Tryz.prog w = .ok (.agg #[a0, a1]) w := by
  have c0 := h.cell 0 _ rfl
  have c1 := h.cell 1 _ rfl
  go_simp
theorem loadQ {w : World} {X : Nat} {a0 a1 a2 a3 a4 a5 : Value} (h : LV w X #[a0, a1, a2, a3, a4, a5] 31) : (loadVar 31 ⟨X, 0, none⟩).run Tryz.prog w = .ok (.agg #[a0, a1, a2, a3, a4, a5]) w := by
  have c0 := h.cell 0 _ rfl
  have c1 := h.cell 1 _ rfl
  have c2 := h.cell 2 _ rfl
  have c3 := h.cell 3 _ rfl
  have c4 := h.cell 4 _ rfl
  have c5 := h.cell 5 _ rfl
  go_simp
set_option maxHeartbeats 4000000 in
set_option maxRecDepth 100000 in
theorem few_any (b m : Nat) (w : World) (hs : Strm b m w) (hm : m ≤ 10000000000) (hP : Pool w) (hPb : 0 ≠ b) :
    Calls Tryz.prog 62 #[.pointer (some ⟨b, 0, none⟩)] w (DrawsId b (m + 1) w) := by
  have S := (St.start hs).new' #[.int .i64 0, .string ⟨#[]⟩] 29
  have HP := Lib.hid hP
  clear hs hP
  go_enter Tryz.func62, Tryz.ntmps62
  go_wp2_with fail
  ((with_reducible refine (pick_le b _ _ _ (0) (8) S.g.s (by first | rfl | simp) (by first | rfl | simp) (intsIn_of (by decide)) (by simp) (by simp) (by omega)).mono ?_); rintro e w1 ⟨n, n_lo, n_hi, rfl, hk_w1, hs_w1⟩)
  replace S := S.step hk_w1 hs_w1
  clear hk_w1 hs_w1
  obtain ⟨i, rfl⟩ := Int.eq_ofNat_of_zero_le n_lo
  obtain ⟨k, t, ht, h0, h1⟩ := (HP.out.keep S.g.k hPb) i (by omega)
  have x0 : w1.cell? ⟨w.heap.size, 0, none⟩ = some (.int .i64 0) := (S.lv 0 rfl).cell 0 _ rfl
  have x1 : w1.cell? ⟨w.heap.size, 1, none⟩ = some (.string ⟨#[]⟩) := (S.lv 0 rfl).cell 1 _ rfl
  have f0 := (S.lv 0 rfl).free 0
  have f1 := (S.lv 0 rfl).free 1
  go_wp2_with fail
  have S2 := (S.set 0 0 (.int .i64 k) rfl).set 0 1 (.string t) rfl
  exact bodyPost_ret (results_cell1 rfl rfl (loadId (S2.lv 0 rfl))) rfl ⟨k, t, by omega, rfl, S2.g.k, S2.g.s⟩
/-- a question -/
abbrev qVal (k : Int) (t pu rg : ByteArray) (ch at' : Int) : Value := .agg #[.int .i64 k, .string t, .string pu, .string rg, .int .i64 ch, .int .i64 at']
def DrawsQ (b m : Nat) (w : World) (e : Ending) (w' : World) : Prop := ∃ (k : Int) (t pu rg : ByteArray) (ch at' : Int), t.size ≤ 10000 ∧ pu.size ≤ 10000 ∧ rg.size ≤ 10000 ∧ e = .returned (qVal k t pu rg ch at') ∧ SK b w w' ∧ Strm b m w'
set_option maxHeartbeats 4000000 in
set_option maxRecDepth 100000 in
theorem question_any (b m : Nat) (A : Option Addr) (xs : List Purp) (c : Nat) (w : World) (hs : Strm b m w) (hm : m ≤ 1000000000) (hP : Pool w) (hPb : 0 ≠ b) (hS : Sl rPurp (Off b) w A xs) (hsm : ∀ p ∈ xs, p.name.size ≤ 1000) (hl : xs.length ≤ 1000) :
    Calls Tryz.prog 13 #[.pointer (some ⟨b, 0, none⟩), .slice A xs.length c] w (DrawsQ b (m + 20) w) := by
  have S := (St.start hs).new' #[.int .i64 0, .string ⟨#[]⟩, .string ⟨#[]⟩, .string ⟨#[]⟩, .int .i64 0, .int .i64 0] 31
  have HP := Lib.hid hP
  have HS := Lib.hid hS
  have Hsm := Lib.hid hsm
  clear hs hP hS hsm
  go_enter Tryz.func13, Tryz.ntmps13
  go_wp2_with fail
  ((with_reducible refine (few_any b _ _ S.g.s (by omega) (HP.out.keep S.g.k hPb) hPb).mono ?_); rintro e w1 ⟨k, t, ht, rfl, hk1, hs1⟩)
  replace S := S.step hk1 hs1
  clear hk1 hs1
  go_wp2_with fail
  ((with_reducible refine (one_le b _ _ _ (10) S.g.s (by first | rfl | simp) (by first | rfl | simp) (strsLe_of (by decide)) (by simp) (by simp) (by omega)).mono ?_); rintro e w2 ⟨rg, rg_le, rfl, hk_w2, hs_w2⟩)
  replace S := S.step hk_w2 hs_w2
  clear hk_w2 hs_w2
  go_wp2_with fail
  ((with_reducible refine (pick_le b _ _ _ (1) (4) S.g.s (by first | rfl | simp) (by first | rfl | simp) (intsIn_of (by decide)) (by simp) (by simp) (by omega)).mono ?_); rintro e w3 ⟨ch, ch_lo, ch_hi, rfl, hk_w3, hs_w3⟩)
  replace S := S.step hk_w3 hs_w3
  clear hk_w3 hs_w3
  go_wp2_with fail
  ((with_reducible refine (next_any b _ _ _ S.g.s (by omega) (by omega) (by omega)).mono ?_); rintro e w4 ⟨rn, rn_lo, rn_hi, rfl, hk_w4, hs_w4⟩)
  replace S := S.step hk_w4 hs_w4
  clear hk_w4 hs_w4
  go_wp2_with fail
  ((with_reducible refine (pick_le b _ _ _ 0 5000 S.g.s (by first | rfl | simp) (by first | rfl | simp) (by repeat (first | exact intsIn_nil | refine intsIn_cons (by omega) ?_)) (by simp) (by simp) (by omega)).mono ?_); rintro e w5 ⟨at', at_lo, at_hi, rfl, hk_w5, hs_w5⟩)
  replace S := S.step hk_w5 hs_w5
  clear hk_w5 hs_w5
  go_upto_region 2 with fail
  obtain ⟨Q, hQ⟩ : ∃ Q, Q = w5.heap.size := ⟨_, rfl⟩
  replace S := S.newAt #[.int .i64 k, .string t, .string ⟨#[110, 101, 119, 115]⟩, .string rg, .int .i64 ch, .int .i64 at'] 31 Q hQ
  rw [← hQ]
  clear hQ
  generalize w5.alloc (.cells #[.int .i64 k, .string t, .string ⟨#[110, 101, 119, 115]⟩, .string rg, .int .i64 ch, .int .i64 at'] 31) = w6 at *
  go_upto_if 22 with fail
  have HS0 := Lib.hid S
  clear S
  go_cut [4] (fun s4 wx => s4 = .pointer (some ⟨w.heap.size, 0, none⟩) ∧ ∃ pu : ByteArray, pu.size ≤ 1000 ∧ St b (m + 6) w wx [.loc w.heap.size #[.int .i64 0, .string ⟨#[]⟩, .string ⟨#[]⟩, .string ⟨#[]⟩, .int .i64 0, .int .i64 0] 31, .loc Q #[.int .i64 k, .string t, .string pu, .string rg, .int .i64 ch, .int .i64 at'] 31])
  case first =>
    have S := HS0.out
    clear HS0
    by_cases h0 : 0 < xs.length
    · go_wp2_with fail
      ((with_reducible refine (next_any b _ _ _ S.g.s (by omega) (by omega) (by omega)).mono ?_); rintro e w7 ⟨ri, ri_lo, ri_hi, rfl, hk_w7, hs_w7⟩)
      replace S := S.step hk_w7 hs_w7
      clear hk_w7 hs_w7
      obtain ⟨j, rfl⟩ := Int.eq_ofNat_of_zero_le (by omega : 0 ≤ ri)
      have hj : j < xs.length := by omega
      obtain ⟨p, hp⟩ : ∃ p, xs[j]? = some p := ⟨_, List.getElem?_eq_getElem hj⟩
      obtain ⟨blk, off, At, ct, rfl, _, d0, _, _⟩ := (HS.out.keep S.g.k.n).purp j p hp
      have hps := Hsm.out p (List.mem_of_getElem? hp)
      have x2 : w7.cell? ⟨Q, 2, none⟩ = some (.string ⟨#[110, 101, 119, 115]⟩) := (S.lv 1 rfl).cell 2 _ rfl
      have f2 := (S.lv 1 rfl).free 2
      clear hp
      go_wp2_with fail
      go_meet
      exact ⟨rfl, p.name, hps, (S.set 1 2 (.string p.name) rfl).mono (by omega)⟩
    · go_wp2_with fail
      go_meet
      exact ⟨rfl, _, by decide, S.mono (by omega)⟩
  case rest =>
    clear HS0 HS Hsm
    obtain ⟨rfl, pu, hpu, S⟩ := hcut
    go_wp2_with fail
    ((with_reducible refine (flip_any b _ _ _ S.g.s (by omega) (by omega) (by omega)).mono ?_); rintro e w7 ⟨r7, rfl, hk_w7, hs_w7⟩)
    replace S := S.step hk_w7 hs_w7
    clear hk_w7 hs_w7
    go_upto_if 33 with fail
    have HS0 := Lib.hid S
    clear S
    go_cut [4] (fun s4 wx => s4 = .pointer (some ⟨w.heap.size, 0, none⟩) ∧ ∃ (k : Int) (t pu rg : ByteArray) (ch at' : Int), t.size ≤ 10000 ∧ pu.size ≤ 10000 ∧ rg.size ≤ 10000 ∧ St b (m + 20) w wx [.loc w.heap.size #[.int .i64 0, .string ⟨#[]⟩, .string ⟨#[]⟩, .string ⟨#[]⟩, .int .i64 0, .int .i64 0] 31, .loc Q #[.int .i64 k, .string t, .string pu, .string rg, .int .i64 ch, .int .i64 at'] 31])
    case first =>
      have S := HS0.out
      clear HS0
      cases r7
      · go_wp2_with fail
        go_meet
        exact ⟨rfl, k, t, pu, rg, ch, at', ht, by omega, by omega, S.mono (by omega)⟩
      · go_wp2_with fail
        ((with_reducible refine (next_any b _ _ _ S.g.s (by omega) (by omega) (by omega)).mono ?_); rintro e w8 ⟨r8, r8_lo, r8_hi, rfl, hk_w8, hs_w8⟩)
        replace S := S.step hk_w8 hs_w8
        clear hk_w8 hs_w8
        have hr8 : r8 = 0 ∨ r8 = 1 ∨ r8 = 2 ∨ r8 = 3 ∨ r8 = 4 := by omega
        clear r8_lo r8_hi
        rcases hr8 with h8 | h8 | h8 | h8 | h8
        all_goals subst h8
        · go_wp2_with fail
          ((with_reducible refine (spoiledId_any b _ _ S.g.s (by omega) (HP.out.keep S.g.k hPb) hPb).mono ?_); rintro e w9 ⟨k', t', ht', rfl, hk9, hs9⟩)
          replace S := S.step hk9 hs9
          clear hk9 hs9
          have x0 : w9.cell? ⟨Q, 0, none⟩ = some (.int .i64 k) := (S.lv 1 rfl).cell 0 _ rfl
          have x1 : w9.cell? ⟨Q, 1, none⟩ = some (.string t) := (S.lv 1 rfl).cell 1 _ rfl
          have f0 := (S.lv 1 rfl).free 0
          have f1 := (S.lv 1 rfl).free 1
          go_wp2_with fail
          go_meet
          exact ⟨rfl, k', t', pu, rg, ch, at', ht', by omega, by omega, ((S.set 1 0 (.int .i64 k') rfl).set 1 1 (.string t') rfl).mono (by omega)⟩
        · go_wp2_with fail
          ((with_reducible refine (one_le b _ _ _ (10) S.g.s (by first | rfl | simp) (by first | rfl | simp) (strsLe_of (by decide)) (by simp) (by simp) (by omega)).mono ?_); rintro e w9 ⟨pu', pu'_le, rfl, hk_w9, hs_w9⟩)
          replace S := S.step hk_w9 hs_w9
          clear hk_w9 hs_w9
          have x0 : w9.cell? ⟨Q, 2, none⟩ = some (.string pu) := (S.lv 1 rfl).cell 2 _ rfl
          have f0 := (S.lv 1 rfl).free 2
          go_wp2_with fail
          go_meet
          exact ⟨rfl, k, t, pu', rg, ch, at', ht, by omega, by omega, (S.set 1 2 (.string pu') rfl).mono (by omega)⟩
        · go_wp2_with fail
          ((with_reducible refine (one_le b _ _ _ (10) S.g.s (by first | rfl | simp) (by first | rfl | simp) (strsLe_of (by decide)) (by simp) (by simp) (by omega)).mono ?_); rintro e w9 ⟨rg', rg'_le, rfl, hk_w9, hs_w9⟩)
          replace S := S.step hk_w9 hs_w9
          clear hk_w9 hs_w9
          have x0 : w9.cell? ⟨Q, 3, none⟩ = some (.string rg) := (S.lv 1 rfl).cell 3 _ rfl
          have f0 := (S.lv 1 rfl).free 3
          go_wp2_with fail
          go_meet
          exact ⟨rfl, k, t, pu, rg', ch, at', ht, by omega, by omega, (S.set 1 3 (.string rg') rfl).mono (by omega)⟩
        · go_wp2_with fail
          ((with_reducible refine (odd_any b _ _ _ _ S.g.s (by omega) (by omega) (by omega) (by omega)).mono ?_); rintro e w9 ⟨c9, c9_lo, c9_hi, rfl, hk_w9, hs_w9⟩)
          replace S := S.step hk_w9 hs_w9
          clear hk_w9 hs_w9
          have x0 : w9.cell? ⟨Q, 4, none⟩ = some (.int .i64 ch) := (S.lv 1 rfl).cell 4 _ rfl
          have f0 := (S.lv 1 rfl).free 4
          go_wp2_with fail
          go_meet
          exact ⟨rfl, k, t, pu, rg, c9, at', ht, by omega, by omega, (S.set 1 4 (.int .i64 c9) rfl).mono (by omega)⟩
        · go_wp2_with fail
          ((with_reducible refine (odd_any b _ _ _ _ S.g.s (by omega) (by omega) (by omega) (by omega)).mono ?_); rintro e w9 ⟨c9, c9_lo, c9_hi, rfl, hk_w9, hs_w9⟩)
          replace S := S.step hk_w9 hs_w9
          clear hk_w9 hs_w9
          have x0 : w9.cell? ⟨Q, 5, none⟩ = some (.int .i64 at') := (S.lv 1 rfl).cell 5 _ rfl
          have f0 := (S.lv 1 rfl).free 5
          go_wp2_with fail
          go_meet
          exact ⟨rfl, k, t, pu, rg, ch, c9, ht, by omega, by omega, (S.set 1 5 (.int .i64 c9) rfl).mono (by omega)⟩
    case rest =>
      clear HS0
      obtain ⟨rfl, k, t, pu, rg, ch, at', ht, hpu, hrg, S⟩ := hcut
      have lR := S.lv 0 rfl
      have lQ := S.lv 1 rfl
      have x0 : wc.cell? ⟨w.heap.size, 0, none⟩ = some (.int .i64 0) := lR.cell 0 _ rfl
      have x1 : wc.cell? ⟨w.heap.size, 1, none⟩ = some (.string ⟨#[]⟩) := lR.cell 1 _ rfl
      have x2 : wc.cell? ⟨w.heap.size, 2, none⟩ = some (.string ⟨#[]⟩) := lR.cell 2 _ rfl
      have x3 : wc.cell? ⟨w.heap.size, 3, none⟩ = some (.string ⟨#[]⟩) := lR.cell 3 _ rfl
      have x4 : wc.cell? ⟨w.heap.size, 4, none⟩ = some (.int .i64 0) := lR.cell 4 _ rfl
      have x5 : wc.cell? ⟨w.heap.size, 5, none⟩ = some (.int .i64 0) := lR.cell 5 _ rfl
      have f0 := lR.free 0
      have f1 := lR.free 1
      have f2 := lR.free 2
      have f3 := lR.free 3
      have f4 := lR.free 4
      have f5 := lR.free 5
      have y0 : wc.cell? ⟨Q, 0, none⟩ = some (.int .i64 k) := lQ.cell 0 _ rfl
      have y1 : wc.cell? ⟨Q, 1, none⟩ = some (.string t) := lQ.cell 1 _ rfl
      have y2 : wc.cell? ⟨Q, 2, none⟩ = some (.string pu) := lQ.cell 2 _ rfl
      have y3 : wc.cell? ⟨Q, 3, none⟩ = some (.string rg) := lQ.cell 3 _ rfl
      have y4 : wc.cell? ⟨Q, 4, none⟩ = some (.int .i64 ch) := lQ.cell 4 _ rfl
      have y5 : wc.cell? ⟨Q, 5, none⟩ = some (.int .i64 at') := lQ.cell 5 _ rfl
      clear lR lQ
      go_wp2_with fail
      have S2 := (((((S.set 0 0 (.int .i64 k) rfl).set 0 1 (.string t) rfl).set 0 2 (.string pu) rfl).set 0 3 (.string rg) rfl).set 0 4 (.int .i64 ch) rfl).set 0 5 (.int .i64 at') rfl
      exact bodyPost_ret (results_cell1 rfl rfl (loadQ (S2.lv 0 rfl))) rfl ⟨k, t, pu, rg, ch, at', ht, hpu, hrg, rfl, S2.g.k, S2.g.s⟩
end Go.Proofs.YtlnklkedpknbpaaGreatDoor
