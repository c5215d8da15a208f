/- Several texts in one: DelS, CloneS, GenStm2, GenAsked2, ChgNo, AskP, ChgRef, LawChg. -/
import Derived.Test.YthmkphmciiiagaaGreatDoorPackH
import Derived.Test.YthmkphmciiiagaaGreatDoorPackD
import Derived.Lib.SliceRun
import Derived.Test.YthmkphmciiiagaaGreatDoorPackA
import Derived.Test.YthmkphmciiiagaaGreatDoorChgLaw
import Derived.Test.YthmkphmciiiagaaGreatDoorWanted
import Derived.Test.YthmkphmciiiagaaGreatDoorProof
import Derived.Test.YthmkphmciiiagaaGreatDoorAsked
import Derived.Test.YthmkphmciiiagaaGreatDoorLawAsk
/- What slices.Clone and slices.DeleteFunc make of statements, with the condition of handref2.AskOf. -/
namespace Go.Proofs.YthmkphmciiiagaaGreatDoor
open Go Go.RowKit
theorem Own.stmAt {M : Nat → Prop} {B E g n cap : Nat} {w : World} {xs : List Stm} (h : Own rStm M B E w (.slice (some ⟨g, 0, none⟩) n cap) xs) (hn : n = xs.length) (k : Nat) (x : Stm) (hk : xs[k]? = some x) :
    (w.cell? ⟨g, k * 8, none⟩ = some (.int .i64 x.no) ∧ w.cell? ⟨g, k * 8 + 1, none⟩ = some (.int .i64 x.at') ∧ w.cell? ⟨g, k * 8 + 2, none⟩ = some (.int .i64 x.kind) ∧ w.cell? ⟨g, k * 8 + 3, none⟩ = some (.string x.text) ∧ w.cell? ⟨g, k * 8 + 4, none⟩ = some (.string x.purpose) ∧ w.cell? ⟨g, k * 8 + 5, none⟩ = some (.string x.region) ∧ w.cell? ⟨g, k * 8 + 6, none⟩ = some (.int .i64 x.channel) ∧ w.cell? ⟨g, k * 8 + 7, none⟩ = some (.int .i64 x.what)) ∧ (w.frozen? ⟨g, k * 8, none⟩ = false ∧ w.frozen? ⟨g, k * 8 + 1, none⟩ = false ∧ w.frozen? ⟨g, k * 8 + 2, none⟩ = false ∧ w.frozen? ⟨g, k * 8 + 3, none⟩ = false ∧ w.frozen? ⟨g, k * 8 + 4, none⟩ = false ∧ w.frozen? ⟨g, k * 8 + 5, none⟩ = false ∧ w.frozen? ⟨g, k * 8 + 6, none⟩ = false ∧ w.frozen? ⟨g, k * 8 + 7, none⟩ = false) :=
  ⟨⟨(h.cellP flatStm hn k x hk 0 _ rfl).1, (h.cellP flatStm hn k x hk 1 _ rfl).1, (h.cellP flatStm hn k x hk 2 _ rfl).1, (h.cellP flatStm hn k x hk 3 _ rfl).1, (h.cellP flatStm hn k x hk 4 _ rfl).1, (h.cellP flatStm hn k x hk 5 _ rfl).1, (h.cellP flatStm hn k x hk 6 _ rfl).1, (h.cellP flatStm hn k x hk 7 _ rfl).1⟩, (h.cellP flatStm hn k x hk 0 _ rfl).2, (h.cellP flatStm hn k x hk 1 _ rfl).2, (h.cellP flatStm hn k x hk 2 _ rfl).2, (h.cellP flatStm hn k x hk 3 _ rfl).2, (h.cellP flatStm hn k x hk 4 _ rfl).2, (h.cellP flatStm hn k x hk 5 _ rfl).2, (h.cellP flatStm hn k x hk 6 _ rfl).2, (h.cellP flatStm hn k x hk 7 _ rfl).2⟩
abbrev objB (s : Stm) : Bool := decide (s.what = 4)
def GivesSix (P : Stm → Bool) (xs : List Stm) (w0 : World) (cs : List Chunk) (e : Ending) (w' : World) : Prop :=
  ∃ i : Int, e = .returned (.int .i64 i) ∧ Mem w0 w' cs ∧ ((i = -1 ∧ ∀ y ∈ xs, P y = false) ∨ ∃ (j : Nat) (y : Stm), i = j ∧ xs[j]? = some y ∧ P y = true ∧ ∀ z ∈ xs.take j, P z = false)
theorem zeroStm (w : World) : (zeroValue 38).run Tryz.prog w = .ok (.agg #[.int .i64 0, .int .i64 0, .int .i64 0, .string ⟨#[]⟩, .string ⟨#[]⟩, .string ⟨#[]⟩, .int .i64 0, .int .i64 0]) w := by kernel_rfl
theorem oneZS (j : Nat) (h : j < rStm.size) : (((Value.agg #[.int .i64 0, .int .i64 0, .int .i64 0, .string ⟨#[]⟩, .string ⟨#[]⟩, .string ⟨#[]⟩, .int .i64 0, .int .i64 0]).cells)[j]!).oneCell' = true := by
  obtain rfl | rfl | rfl | rfl | rfl | rfl | rfl | rfl : j = 0 ∨ j = 1 ∨ j = 2 ∨ j = 3 ∨ j = 4 ∨ j = 5 ∨ j = 6 ∨ j = 7 := by
    have : j < 8 := h
    omega
  all_goals rfl
def keepS (P : Stm → Bool) (x : Stm) : Bool := !P x
/-- the front that is settled, and the rest as it was -/
structure SelAt (P : Stm → Bool) (xs ys : List Stm) (i j : Nat) : Prop where
  len : ys.length = xs.length
  front : ys.take i = (xs.take j).filter (keepS P)
  rest : ys.drop j = xs.drop j
  le : i ≤ j
theorem SelAt.get {P : Stm → Bool} {xs ys : List Stm} {i j : Nat} (h : SelAt P xs ys i j) {x : Stm} (hx : ys[j]? = some x) : xs[j]? = some x := by
  have h1 := congrArg (fun l : List Stm => l[0]?) h.rest
  simp only [List.getElem?_drop, Nat.add_zero] at h1
  rw [← h1]; exact hx
theorem SelAt.skip {P : Stm → Bool} {xs ys : List Stm} {i j : Nat} (h : SelAt P xs ys i j) {x : Stm} (hx : ys[j]? = some x) (hp : P x = true) : SelAt P xs ys i (j + 1) := by
  refine ⟨h.len, ?_, ?_, Nat.le_succ_of_le h.le⟩
  · rw [take_snoc (h.get hx), List.filter_append, h.front]
    simp [keepS, hp]
  · have h1 := congrArg (List.drop 1) h.rest
    rw [List.drop_drop, List.drop_drop] at h1
    exact h1
theorem SelAt.put {P : Stm → Bool} {xs ys : List Stm} {i j : Nat} (h : SelAt P xs ys i j) (hij : i < j) {x : Stm} (hx : ys[j]? = some x) (hp : P x = false) : SelAt P xs (ys.set i x) (i + 1) (j + 1) := by
  have hi : i < ys.length := by have := lt_of_get hx; omega
  refine ⟨by rw [List.length_set, h.len], ?_, ?_, by omega⟩
  · rw [take_snoc (h.get hx), List.filter_append, ← h.front, List.take_set, take_snoc (x := ys[i]) (List.getElem?_eq_getElem hi)]
    have hl : (ys.take i).length = i := by rw [List.length_take]; omega
    rw [List.set_append_right _ _ (by omega), hl, Nat.sub_self]
    simp [keepS, hp]
  · rw [List.drop_set_of_lt (by omega)]
    have h1 := congrArg (List.drop 1) h.rest
    rw [List.drop_drop, List.drop_drop] at h1
    exact h1
def GivesSel (P : Stm → Bool) (xs : List Stm) (B g cap : Nat) (w0 : World) (cs : List Chunk) (e : Ending) (w' : World) : Prop :=
  e = .returned (.slice (some ⟨g, 0, none⟩) (xs.filter (keepS P)).length cap) ∧ Mem w0 w' (.own rStm B 38 (.slice (some ⟨g, 0, none⟩) (xs.filter (keepS P)).length cap) (xs.filter (keepS P)) :: cs)
end Go.Proofs.YthmkphmciiiagaaGreatDoor

/- What slices.Clone makes of statements. -/
namespace Go.Proofs.YthmkphmciiiagaaGreatDoor
open Go Go.RowKit
set_option maxHeartbeats 4000000 in
set_option maxRecDepth 100000 in
theorem cloneS_any (A : Option Addr) (l : List Stm) (c : Nat) (w : World) (hL : Sl rStm (fun _ => False) w A l) (hl : l.length ≤ 1000) (hc : A = none → c = 0) :
    Calls Tryz.prog 30 #[.slice A l.length c] w fun e w' => ∃ v, e = .returned v ∧ Mem w w' [.own rStm w.heap.size 38 v l] := by
  have he : ∀ (a : Option Addr) (n c : Nat) (w : World), (binOp .eql 27 (.slice a n c) (.slice none 0 0)).run Tryz.prog w = .ok (.bool a.isNone) w := fun a n c w => Lib.run_eql_slice_nil w _ _ a n c 0 0 tyStmS.under
  cases A with
  | none =>
    obtain rfl := sl_none hL
    obtain rfl := hc rfl
    go_enter Tryz.func30, Tryz.ntmps30
    go_wp2_with fail
    go_ret
    exact ⟨_, rfl, (Mem.start w).nil rStm w.heap.size 38⟩
  | some ad =>
    have S := (Mem.start w).newAt #[] 38 w.heap.size rfl
    have S1 : Mem w (w.alloc (.cells #[] 38)) [.own rStm w.heap.size 38 (.slice (some ⟨w.heap.size, 0, none⟩) 0 0) []] := S.room (r := rStm) 0 rfl rfl (by decide) rfl
    have Hc := Lib.hid (cells_sl (hL.keepB S1.b))
    have hsz := S1.b.size
    have HS := Lib.hid S1
    have Hl := Lib.hid hl
    clear S S1 hL hl hc
    go_enter Tryz.func30, Tryz.ntmps30
    go_wp2_with (at_builtin; refine HS.out.appN flatStm 0 rfl tyStmS rfl _ _ rfl l l.length c rfl rfl ad rfl Hc.out (fun y _ => oneStmS y) (fun _ => rfl) hsz (by simp only [List.length_nil]; have := Hl.out; omega) (by decide) ?_; intro v5 w5 S5)
    go_ret
    exact ⟨_, rfl, S5⟩
end Go.Proofs.YthmkphmciiiagaaGreatDoor

/- What the generators RightStatements and Statements make, with a word on the numbers: all but one are small. -/
namespace Go.Proofs.YthmkphmciiiagaaGreatDoor
open Go.RowKit
structure StmSn (s : Stm) : Prop where
  sm : StmSm s
  no : s.no ≤ 1000
/-- all numbers but one are small -/
def FewNo (l : List Stm) : Prop := ∃ k : Nat, ∀ i s, l[i]? = some s → i ≠ k → s.no ≤ 1000
theorem fewNo_all {l : List Stm} (h : ∀ s ∈ l, StmSn s) : FewNo l := ⟨0, fun _ s hs _ => (h s (List.mem_of_getElem? hs)).no⟩
theorem fewNo_set {l : List Stm} (h : ∀ s ∈ l, StmSn s) (k : Nat) (y : Stm) : FewNo (l.set k y) := ⟨k, fun i s hs hi => by
  rw [List.getElem?_set_ne (Ne.symm hi)] at hs
  exact (h s (List.mem_of_getElem? hs)).no⟩
theorem fewNo_app {l : List Stm} (h : ∀ s ∈ l, StmSn s) (y : Stm) (hy : StmSn y) : FewNo (l ++ [y]) := fewNo_all fun s hs => by
  rcases List.mem_append.1 hs with hs | hs
  · exact h s hs
  · rw [List.mem_singleton.1 hs]; exact hy
def DrawsStmsN (b m n : Nat) (w : World) (e : Ending) (w' : World) : Prop := ∃ (v : Value) (l : List Stm), e = .returned v ∧ l.length ≤ n ∧ (∀ s ∈ l, StmSn s) ∧ St b m w w' [.own rStm w.heap.size 38 v l]
def DrawsStms2 (b m n : Nat) (w : World) (e : Ending) (w' : World) : Prop := ∃ (v : Value) (l : List Stm), e = .returned v ∧ l.length ≤ n ∧ (∀ s ∈ l, StmSm s) ∧ FewNo l ∧ St b m w w' [.own rStm w.heap.size 38 v l]
set_option maxHeartbeats 8000000 in
set_option maxRecDepth 100000 in
theorem rightStms_any2 (b m n : Nat) (A : Option Addr) (xs : List Purp) (c : Nat) (w : World) (hs : Strm b m w) (hm : m ≤ 1000000000) (hn : n ≤ 100) (hP : Pool w) (hPb : 0 ≠ b) (hS : Sl rPurp (Off b) w A xs) (hsm : ∀ p ∈ xs, p.name.size ≤ 1000) (hl : xs.length ≤ 1000) :
    Calls Tryz.prog 31 #[.pointer (some ⟨b, 0, none⟩), .slice A xs.length c, .int .i64 n] w (DrawsStmsN b (m + 8 * n) n w) := by
  have S := (St.start hs).nil rStm w.heap.size 38
  have HP := Lib.hid hP
  have HS := Lib.hid hS
  have Hsm := Lib.hid hsm
  clear hs hP hS hsm
  go_enter Tryz.func31, Tryz.ntmps31
  go_wp2_with fail
  go_loopw [7, 8, 11] (fun s7 s8 i wr => ∃ (k : Nat) (At : Option Addr) (ca : Nat) (no : Int) (l : List Stm), k ≤ n ∧ i = .int .i64 k ∧ s8 = .int .i64 no ∧ 0 ≤ no ∧ no ≤ 2 * k ∧ s7 = .slice At l.length ca ∧ l.length ≤ k ∧ (∀ s ∈ l, StmSn s) ∧ St b (m + 8 * k) w wr [.own rStm w.heap.size 38 (.slice At l.length ca) l]) (fun _ _ i _ => n - (intOf i).toNat)
  case atStart => exact ⟨0, none, 0, 0, [], by omega, rfl, rfl, by omega, by omega, rfl, by simp, by simp, S.mono (by omega)⟩
  case round =>
    clear S
    obtain ⟨k, At, ca, no, l, hk, rfl, rfl, hno, hno2, rfl, hlk, hls, S⟩ := hrel
    have Hlk := Lib.hid hlk
    have Hls := Lib.hid hls
    clear hlk hls
    by_cases hkn : k < n
    · go_wp2_with fail
      ((with_reducible refine (pick_le b _ _ _ (1) (2) S.g.s (by first | rfl | simp) (by first | rfl | simp) (intsIn_of (by decide)) (by simp) (by simp) (by omega)).mono ?_); rintro e w1 ⟨d, d_lo, d_hi, rfl, hk_w1, hs_w1⟩)
      replace S := S.step hk_w1 hs_w1
      clear hk_w1 hs_w1
      have hwr : IntKind.i64.wrap (no + d) = no + d := IntWalk.i64_in _ (by omega)
      obtain ⟨no', hno'⟩ : ∃ no', no + d = no' := ⟨_, rfl⟩
      rw [hno'] at hwr
      go_wp2_with fail
      ((with_reducible refine (next_any b _ _ _ S.g.s (by omega) (by omega) (by omega)).mono ?_); rintro e w2 ⟨rn, rn_lo, rn_hi, rfl, hk_w2, hs_w2⟩)
      replace S := S.step hk_w2 hs_w2
      clear hk_w2 hs_w2
      go_wp2_with fail
      ((with_reducible refine (pick_le b _ _ _ 0 4000 S.g.s (by first | rfl | simp) (by first | rfl | simp) (by repeat (first | exact intsIn_nil | refine intsIn_cons (by omega) ?_)) (by simp) (by simp) (by omega)).mono ?_); rintro e w3 ⟨at', at_lo, at_hi, rfl, hk_w3, hs_w3⟩)
      replace S := S.step hk_w3 hs_w3
      clear hk_w3 hs_w3
      go_wp2_with fail
      ((with_reducible refine (few_any b _ _ S.g.s (by omega) (HP.out.keep S.g.k hPb) hPb).mono ?_); rintro e w4 ⟨ki, t, ht, rfl, hk4, hs4⟩)
      replace S := S.step hk4 hs4
      clear hk4 hs4
      go_wp2_with fail
      ((with_reducible refine (pick_le b _ _ _ (1) (4) S.g.s (by first | rfl | simp) (by first | rfl | simp) (intsIn_of (by decide)) (by simp) (by simp) (by omega)).mono ?_); rintro e w5 ⟨ch, ch_lo, ch_hi, rfl, hk_w5, hs_w5⟩)
      replace S := S.step hk_w5 hs_w5
      clear hk_w5 hs_w5
      go_wp2_with fail
      ((with_reducible refine (pick_le b _ _ _ (1) (5) S.g.s (by first | rfl | simp) (by first | rfl | simp) (intsIn_of (by decide)) (by simp) (by simp) (by omega)).mono ?_); rintro e w6 ⟨wh, wh_lo, wh_hi, rfl, hk_w6, hs_w6⟩)
      replace S := S.step hk_w6 hs_w6
      clear hk_w6 hs_w6
      go_wp2_with fail
      ((with_reducible refine (one_le b _ _ _ (10) S.g.s (by first | rfl | simp) (by first | rfl | simp) (strsLe_of (by decide)) (by simp) (by simp) (by omega)).mono ?_); rintro e w7 ⟨rg, rg_le, rfl, hk_w7, hs_w7⟩)
      replace S := S.step hk_w7 hs_w7
      clear hk_w7 hs_w7
      go_upto_region 7 with fail
      obtain ⟨X, hX⟩ : ∃ X, X = w7.heap.size := ⟨_, rfl⟩
      replace S := (S.newAt #[.int .i64 no', .int .i64 at', .int .i64 ki, .string t, .string ⟨#[]⟩, .string rg, .int .i64 ch, .int .i64 wh] 38 X hX).front
      rw [← hX]
      clear hX
      generalize w7.alloc (.cells #[.int .i64 no', .int .i64 at', .int .i64 ki, .string t, .string ⟨#[]⟩, .string rg, .int .i64 ch, .int .i64 wh] 38) = w8 at *
      have x7 : w8.cell? ⟨X, 7, none⟩ = some (.int .i64 wh) := (S.lv 0 rfl).cell 7 _ rfl
      obtain ⟨B, HB⟩ : ∃ B, Hid (decide (wh ≤ 3 ∧ 0 < xs.length) = B) := ⟨_, Lib.hid rfl⟩
      go_cut [43] (fun s43 wx => s43 = .bool B ∧ w8 = wx)
      case first =>
        by_cases h3 : wh ≤ 3
        · by_cases h0 : 0 < xs.length
          · obtain rfl : true = B := by rw [← HB.out]; simp [h3, h0]
            go_wp2_with fail
            go_meet
            exact ⟨rfl, rfl⟩
          · obtain rfl : false = B := by rw [← HB.out]; simp [h0]
            go_wp2_with fail
            go_meet
            exact ⟨rfl, rfl⟩
        · obtain rfl : false = B := by rw [← HB.out]; simp [h3]
          go_wp2_with fail
          go_meet
          exact ⟨rfl, rfl⟩
      case rest =>
        obtain ⟨rfl, rfl⟩ := hcut
        clear x7
        go_upto_if 43 with fail
        have HS0 := Lib.hid S
        clear S
        go_cut [9] (fun s9 wx => s9 = .pointer (some ⟨X, 0, none⟩) ∧ ∃ pu : ByteArray, pu.size ≤ 1000 ∧ St b (m + 8 * k + 8) w wx [.loc X #[.int .i64 no', .int .i64 at', .int .i64 ki, .string t, .string pu, .string rg, .int .i64 ch, .int .i64 wh] 38, .own rStm w.heap.size 38 (.slice At l.length ca) l])
        case first =>
          have S := HS0.out
          clear HS0
          cases B
          · go_wp2_with fail
            go_meet
            exact ⟨rfl, _, by decide, S.mono (by omega)⟩
          · have h0 : 0 < xs.length := (of_decide_eq_true HB.out).2
            go_wp2_with fail
            ((with_reducible refine (next_any b _ _ _ S.g.s (by omega) (by omega) (by omega)).mono ?_); rintro e w9 ⟨ri, ri_lo, ri_hi, rfl, hk_w9, hs_w9⟩)
            replace S := S.step hk_w9 hs_w9
            clear hk_w9 hs_w9
            obtain ⟨j, rfl⟩ := Int.eq_ofNat_of_zero_le (by omega : 0 ≤ ri)
            have hj : j < xs.length := by omega
            obtain ⟨p, hp⟩ : ∃ p, xs[j]? = some p := ⟨_, List.getElem?_eq_getElem hj⟩
            obtain ⟨blk, off, Ap, cp, rfl, _, d0, _, _⟩ := (HS.out.keep S.g.k.n).purp j p hp
            have hps := Hsm.out p (List.mem_of_getElem? hp)
            have x4 : w9.cell? ⟨X, 4, none⟩ = some (.string ⟨#[]⟩) := (S.lv 0 rfl).cell 4 _ rfl
            have f4 := (S.lv 0 rfl).free 4
            clear hp
            go_wp2_with fail
            go_meet
            exact ⟨rfl, p.name, hps, (S.set 0 4 (.string p.name) rfl).mono (by omega)⟩
        case rest =>
          clear HS0
          obtain ⟨rfl, pu, hpu, S⟩ := hcut
          have hsz := S.g.size
          have x0 : wc.cell? ⟨X, 0, none⟩ = some (.int .i64 no') := (S.lv 0 rfl).cell 0 _ rfl
          have x1 : wc.cell? ⟨X, 1, none⟩ = some (.int .i64 at') := (S.lv 0 rfl).cell 1 _ rfl
          have x2 : wc.cell? ⟨X, 2, none⟩ = some (.int .i64 ki) := (S.lv 0 rfl).cell 2 _ rfl
          have x3 : wc.cell? ⟨X, 3, none⟩ = some (.string t) := (S.lv 0 rfl).cell 3 _ rfl
          have x4 : wc.cell? ⟨X, 4, none⟩ = some (.string pu) := (S.lv 0 rfl).cell 4 _ rfl
          have x5 : wc.cell? ⟨X, 5, none⟩ = some (.string rg) := (S.lv 0 rfl).cell 5 _ rfl
          have x6 : wc.cell? ⟨X, 6, none⟩ = some (.int .i64 ch) := (S.lv 0 rfl).cell 6 _ rfl
          have x7 : wc.cell? ⟨X, 7, none⟩ = some (.int .i64 wh) := (S.lv 0 rfl).cell 7 _ rfl
          have hlt := Hlk.out
          go_wp2_with (at_builtin; refine S.app 1 rfl tyStm rfl _ _ rfl ⟨no', at', ki, t, pu, rg, ch, wh⟩ 1 rfl rfl rfl (oneStm ⟨no', at', ki, t, pu, rg, ch, wh⟩) hsz (by omega) (by decide) ?_; intro v' w10 S6; obtain ⟨A6, c6, rfl⟩ := (S6.ow 1 rfl).len)
          go_roundw
          case rel =>
            refine ⟨k + 1, A6, c6, no', l ++ [⟨no', at', ki, t, pu, rg, ch, wh⟩], by omega, by go_num, rfl, by omega, by omega, by simp, by simp; omega, (fun s hs => ?_), (S6.del 0).mono (by omega)⟩
            rcases List.mem_append.1 hs with hs | hs
            · exact Hls.out s hs
            · rw [List.mem_singleton.1 hs]; exact ⟨⟨ht, hpu, rg_le⟩, by show no' ≤ 1000; omega⟩
          case measure => simp [intOf]; omega
    · have hlt := Hlk.out
      go_wp2_with fail
      go_ret
      exact ⟨_, l, rfl, by omega, Hls.out, S.mono (by omega)⟩
set_option maxHeartbeats 8000000 in
set_option maxRecDepth 100000 in
theorem stms_any2 (b m n : Nat) (A : Option Addr) (xs : List Purp) (c : Nat) (w : World) (hs : Strm b m w) (hm : m ≤ 100000000) (hn : n ≤ 100) (hP : Pool w) (hPb : 0 ≠ b) (hS : Sl rPurp (Off b) w A xs) (hsm : ∀ p ∈ xs, p.name.size ≤ 1000) (hl : xs.length ≤ 1000) :
    Calls Tryz.prog 29 #[.pointer (some ⟨b, 0, none⟩), .slice A xs.length c, .int .i64 n] w (DrawsStms2 b (m + 8 * n + 20) (n + 1) w) := by
  have S0 := St.start hs
  have HP := Lib.hid hP
  have Hr := Lib.hid (rightStms_any2 b m n A xs c w hs (by omega) hn hP hPb hS hsm hl)
  clear hs hP hS hsm
  go_enter Tryz.func29, Tryz.ntmps29
  go_wp2_with fail
  ((with_reducible refine (Hr.out).mono ?_); rintro e w1 ⟨v, l, rfl, hln, hls, S⟩)
  clear S0 Hr
  have HQ := Lib.hid hls
  clear hls
  by_cases h0 : 0 < l.length
  · obtain ⟨g, cap, rfl, hcap⟩ := (S.ow 0 rfl).form h0
    go_wp2_with fail
    ((with_reducible refine (flip_any b _ _ _ S.g.s (by omega) (by omega) (by omega)).mono ?_); rintro e w2 ⟨r2, rfl, hk_w2, hs_w2⟩)
    replace S := S.step hk_w2 hs_w2
    clear hk_w2 hs_w2
    cases r2
    · go_wp2_with fail
      go_ret
      exact ⟨_, l, rfl, by omega, fun s hs => (HQ.out s hs).sm, fewNo_all HQ.out, S.mono (by omega)⟩
    · go_wp2_with fail
      ((with_reducible refine (next_any b _ _ _ S.g.s (by omega) (by omega) (by omega)).mono ?_); rintro e w3 ⟨kk, kk_lo, kk_hi, rfl, hk_w3, hs_w3⟩)
      replace S := S.step hk_w3 hs_w3
      clear hk_w3 hs_w3
      obtain ⟨k, rfl⟩ := Int.eq_ofNat_of_zero_le (by omega : 0 ≤ kk)
      have hk : k < l.length := by omega
      obtain ⟨x, hx⟩ : ∃ x, l[k]? = some x := ⟨_, List.getElem?_eq_getElem hk⟩
      have Hx := Lib.hid hx
      have Hsx := Lib.hid (HQ.out x (List.mem_of_getElem? hx)).sm
      clear hx
      go_wp2_with fail
      ((with_reducible refine (next_any b _ _ _ S.g.s (by omega) (by omega) (by omega)).mono ?_); rintro e w4 ⟨r4, r4_lo, r4_hi, rfl, hk_w4, hs_w4⟩)
      replace S := S.step hk_w4 hs_w4
      clear hk_w4 hs_w4
      have hr4 : r4 = 0 ∨ r4 = 1 ∨ r4 = 2 ∨ r4 = 3 ∨ r4 = 4 ∨ r4 = 5 := by omega
      clear r4_lo r4_hi
      rcases hr4 with h4 | h4 | h4 | h4 | h4 | h4
      all_goals subst h4
      · go_wp2_with fail
        ((with_reducible refine (odd_any b _ _ _ _ S.g.s (by omega) (by omega) (by omega) (by omega)).mono ?_); rintro e w5 ⟨no', no_lo, no_hi, rfl, hk_w5, hs_w5⟩)
        replace S := S.step hk_w5 hs_w5
        clear hk_w5 hs_w5
        go_wp2_with fail
        ((with_reducible refine (odd_any b _ _ _ _ S.g.s (by omega) (by omega) (by omega) (by omega)).mono ?_); rintro e w6 ⟨at', at_lo, at_hi, rfl, hk_w6, hs_w6⟩)
        replace S := S.step hk_w6 hs_w6
        clear hk_w6 hs_w6
        have c0' := Own.cellP flatStm (S.ow 0 rfl) rfl k x Hx.out 0 (.int .i64 x.no) rfl
        have c0 : w6.cell? ⟨g, k * 8, none⟩ = some (.int .i64 x.no) := c0'.1
        have fc0 : w6.frozen? ⟨g, k * 8, none⟩ = false := c0'.2
        clear c0'
        have c1' := Own.cellP flatStm (S.ow 0 rfl) rfl k x Hx.out 1 (.int .i64 x.at') rfl
        have c1 : w6.cell? ⟨g, k * 8 + 1, none⟩ = some (.int .i64 x.at') := c1'.1
        have fc1 : w6.frozen? ⟨g, k * 8 + 1, none⟩ = false := c1'.2
        clear c1'
        go_wp2_with fail
        go_ret
        have S5 := S.put flatStm 0 rfl rfl k x { x with no := no' } Hx.out 0 (by decide) (.int .i64 no') rfl
        have S6 := S5.put flatStm 0 rfl (by simp) k { x with no := no' } { x with no := no', at' := at' } (by rw [List.getElem?_set]; simp [hk]) 1 (by decide) (.int .i64 at') rfl
        simp only [List.set_set] at S6
        refine ⟨_, _, rfl, by simp; omega, fun e he => ?_, fewNo_set HQ.out _ _, S6.mono (by omega)⟩
        rcases mem_set2 he with rfl | he
        · exact ⟨Hsx.out.tx, Hsx.out.pu, Hsx.out.rg⟩
        · exact (HQ.out e he).sm
      · go_wp2_with fail
        ((with_reducible refine (spoiledId_any b _ _ S.g.s (by omega) (HP.out.keep S.g.k hPb) hPb).mono ?_); rintro e w5 ⟨k', t', ht', rfl, hk5, hs5⟩)
        replace S := S.step hk5 hs5
        clear hk5 hs5
        have c2' := Own.cellP flatStm (S.ow 0 rfl) rfl k x Hx.out 2 (.int .i64 x.kind) rfl
        have c2 : w5.cell? ⟨g, k * 8 + 2, none⟩ = some (.int .i64 x.kind) := c2'.1
        have fc2 : w5.frozen? ⟨g, k * 8 + 2, none⟩ = false := c2'.2
        clear c2'
        have c3' := Own.cellP flatStm (S.ow 0 rfl) rfl k x Hx.out 3 (.string x.text) rfl
        have c3 : w5.cell? ⟨g, k * 8 + 3, none⟩ = some (.string x.text) := c3'.1
        have fc3 : w5.frozen? ⟨g, k * 8 + 3, none⟩ = false := c3'.2
        clear c3'
        go_wp2_with fail
        go_ret
        have S5 := S.put flatStm 0 rfl rfl k x { x with kind := k' } Hx.out 2 (by decide) (.int .i64 k') rfl
        have S6 := S5.put flatStm 0 rfl (by simp) k { x with kind := k' } { x with kind := k', text := t' } (by rw [List.getElem?_set]; simp [hk]) 3 (by decide) (.string t') rfl
        simp only [List.set_set] at S6
        refine ⟨_, _, rfl, by simp; omega, fun e he => ?_, fewNo_set HQ.out _ _, S6.mono (by omega)⟩
        rcases mem_set2 he with rfl | he
        · exact ⟨ht', Hsx.out.pu, Hsx.out.rg⟩
        · exact (HQ.out e he).sm
      · go_wp2_with fail
        ((with_reducible refine (odd_any b _ _ _ _ S.g.s (by omega) (by omega) (by omega) (by omega)).mono ?_); rintro e w5 ⟨ch', ch_lo, ch_hi, rfl, hk_w5, hs_w5⟩)
        replace S := S.step hk_w5 hs_w5
        clear hk_w5 hs_w5
        go_wp2_with fail
        ((with_reducible refine (odd_any b _ _ _ _ S.g.s (by omega) (by omega) (by omega) (by omega)).mono ?_); rintro e w6 ⟨wh', wh_lo, wh_hi, rfl, hk_w6, hs_w6⟩)
        replace S := S.step hk_w6 hs_w6
        clear hk_w6 hs_w6
        have c0' := Own.cellP flatStm (S.ow 0 rfl) rfl k x Hx.out 6 (.int .i64 x.channel) rfl
        have c0 : w6.cell? ⟨g, k * 8 + 6, none⟩ = some (.int .i64 x.channel) := c0'.1
        have fc0 : w6.frozen? ⟨g, k * 8 + 6, none⟩ = false := c0'.2
        clear c0'
        have c1' := Own.cellP flatStm (S.ow 0 rfl) rfl k x Hx.out 7 (.int .i64 x.what) rfl
        have c1 : w6.cell? ⟨g, k * 8 + 7, none⟩ = some (.int .i64 x.what) := c1'.1
        have fc1 : w6.frozen? ⟨g, k * 8 + 7, none⟩ = false := c1'.2
        clear c1'
        go_wp2_with fail
        go_ret
        have S5 := S.put flatStm 0 rfl rfl k x { x with channel := ch' } Hx.out 6 (by decide) (.int .i64 ch') rfl
        have S6 := S5.put flatStm 0 rfl (by simp) k { x with channel := ch' } { x with channel := ch', what := wh' } (by rw [List.getElem?_set]; simp [hk]) 7 (by decide) (.int .i64 wh') rfl
        simp only [List.set_set] at S6
        refine ⟨_, _, rfl, by simp; omega, fun e he => ?_, fewNo_set HQ.out _ _, S6.mono (by omega)⟩
        rcases mem_set2 he with rfl | he
        · exact ⟨Hsx.out.tx, Hsx.out.pu, Hsx.out.rg⟩
        · exact (HQ.out e he).sm
      · go_wp2_with fail
        ((with_reducible refine (one_le b _ _ _ (10) S.g.s (by first | rfl | simp) (by first | rfl | simp) (strsLe_of (by decide)) (by simp) (by simp) (by omega)).mono ?_); rintro e w5 ⟨nm, nm_le, rfl, hk_w5, hs_w5⟩)
        replace S := S.step hk_w5 hs_w5
        clear hk_w5 hs_w5
        have c0' := Own.cellP flatStm (S.ow 0 rfl) rfl k x Hx.out 4 (.string x.purpose) rfl
        have c0 : w5.cell? ⟨g, k * 8 + 4, none⟩ = some (.string x.purpose) := c0'.1
        have fc0 : w5.frozen? ⟨g, k * 8 + 4, none⟩ = false := c0'.2
        clear c0'
        go_wp2_with fail
        go_ret
        have S6 := S.put flatStm 0 rfl rfl k x { x with purpose := nm } Hx.out 4 (by decide) (.string nm) rfl
        refine ⟨_, _, rfl, by simp; omega, fun e he => ?_, fewNo_set HQ.out _ _, S6.mono (by omega)⟩
        rcases mem_set2 he with rfl | he
        · exact ⟨Hsx.out.tx, Nat.le_trans nm_le (by decide), Hsx.out.rg⟩
        · exact (HQ.out e he).sm
      · go_wp2_with fail
        ((with_reducible refine (one_le b _ _ _ (10) S.g.s (by first | rfl | simp) (by first | rfl | simp) (strsLe_of (by decide)) (by simp) (by simp) (by omega)).mono ?_); rintro e w5 ⟨nm, nm_le, rfl, hk_w5, hs_w5⟩)
        replace S := S.step hk_w5 hs_w5
        clear hk_w5 hs_w5
        have c0' := Own.cellP flatStm (S.ow 0 rfl) rfl k x Hx.out 5 (.string x.region) rfl
        have c0 : w5.cell? ⟨g, k * 8 + 5, none⟩ = some (.string x.region) := c0'.1
        have fc0 : w5.frozen? ⟨g, k * 8 + 5, none⟩ = false := c0'.2
        clear c0'
        go_wp2_with fail
        go_ret
        have S6 := S.put flatStm 0 rfl rfl k x { x with region := nm } Hx.out 5 (by decide) (.string nm) rfl
        refine ⟨_, _, rfl, by simp; omega, fun e he => ?_, fewNo_set HQ.out _ _, S6.mono (by omega)⟩
        rcases mem_set2 he with rfl | he
        · exact ⟨Hsx.out.tx, Hsx.out.pu, nm_le⟩
        · exact (HQ.out e he).sm
      · obtain ⟨y, hy⟩ : ∃ y, l[0]? = some y := ⟨_, List.getElem?_eq_getElem h0⟩
        have Hsy := Lib.hid (HQ.out y (List.mem_of_getElem? hy))
        clear Hx Hsx
        obtain ⟨k, hk0⟩ : ∃ k, k = 0 := ⟨0, rfl⟩
        have cellY : ∀ (j : Nat) (u : Value), (Stm.cells y)[j]? = some u → w4.cell? ⟨g, 0 * rStm.size + j, none⟩ = some u := fun j u hu => (Own.cellP flatStm (S.ow 0 rfl) rfl 0 y hy j u hu).1
        have c0 : w4.cell? ⟨g, 0, none⟩ = some (.int .i64 y.no) := cellY 0 _ rfl
        have c1 : w4.cell? ⟨g, 1, none⟩ = some (.int .i64 y.at') := cellY 1 _ rfl
        have c2 : w4.cell? ⟨g, 2, none⟩ = some (.int .i64 y.kind) := cellY 2 _ rfl
        have c3 : w4.cell? ⟨g, 3, none⟩ = some (.string y.text) := cellY 3 _ rfl
        have c4 : w4.cell? ⟨g, 4, none⟩ = some (.string y.purpose) := cellY 4 _ rfl
        have c5 : w4.cell? ⟨g, 5, none⟩ = some (.string y.region) := cellY 5 _ rfl
        have c6 : w4.cell? ⟨g, 6, none⟩ = some (.int .i64 y.channel) := cellY 6 _ rfl
        have c7 : w4.cell? ⟨g, 7, none⟩ = some (.int .i64 y.what) := cellY 7 _ rfl
        have hsz := S.g.size
        have Hy := Lib.hid hy
        clear cellY hy
        go_wp2_with (at_builtin; refine S.app 0 rfl tyStm rfl _ _ rfl y 1 rfl rfl rfl (oneStm y) hsz (by omega) (by decide) ?_; intro v' w10 S6; obtain ⟨A6, c6, rfl⟩ := (S6.ow 0 rfl).len)
        go_ret
        refine ⟨_, l ++ [y], by simp, by simp; omega, fun e he => ?_, fewNo_app HQ.out y Hsy.out, S6.mono (by omega)⟩
        rcases List.mem_append.1 he with he | he
        · exact (HQ.out e he).sm
        · rw [List.mem_singleton.1 he]; exact Hsy.out.sm
  · obtain rfl : l = [] := List.length_eq_zero_iff.1 (by omega)
    obtain ⟨A2, c2, rfl⟩ := (S.ow 0 rfl).len
    go_wp2_with fail
    go_ret
    exact ⟨_, [], rfl, by simp, by simp, fewNo_all HQ.out, S.mono (by omega)⟩
end Go.Proofs.YthmkphmciiiagaaGreatDoor

/- What handlaw2.asked makes, with a word on the statements' numbers: all but one are small. -/
namespace Go.Proofs.YthmkphmciiiagaaGreatDoor
open Go Go.RowKit
def DrawsAsked2 (b m : Nat) (w : World) (e : Ending) (w' : World) : Prop :=
  ∃ (B B2 A c : _) (q : List PQ) (v2 : Value) (l : List Stm) (k : Int) (t pu rg : ByteArray) (ch at' : Int),
    e = .returned (.tuple #[.slice A q.length c, v2, qVal k t pu rg ch at', .int .i64 (stmsFault (q.map PQ.purp) l)]) ∧ QOk 10 q ∧ l.length ≤ 14 ∧ (∀ s ∈ l, StmSm s) ∧ QSm t pu rg ∧ w.heap.size ≤ B ∧ w.heap.size ≤ B2 ∧ FewNo l ∧
    St b m w w' (.own rStm B2 38 v2 l :: polC B (.slice A q.length c) q)
end Go.Proofs.YthmkphmciiiagaaGreatDoor

/- The number of the last statement is laid anew: what was right stays right. -/
namespace Go.Proofs.YthmkphmciiiagaaGreatDoor
open Go Go.RowKit
theorem stmsGo_cons {p : List Purp} {prev : Option Stm} {x : Stm} {r : List Stm} (h : stmsGo p prev (x :: r) = 0) : stmF p prev x = 0 ∧ stmsGo p (some x) r = 0 := by
  rw [stmsGo] at h
  split at h
  · rename_i h1; exact absurd h h1
  · rename_i h1; exact ⟨Decidable.not_not.1 h1, h⟩
end Go.Proofs.YthmkphmciiiagaaGreatDoor

/- What consent.Ask returns. -/
namespace Go.Proofs.YthmkphmciiiagaaGreatDoor
open Go Go.RowKit
/-- what the operations of the drawn region lay -/
def askFact (B : Nat) (Al : Option Addr) (cl : Nat) (A7 : Option Addr) (c7 : Nat) (l ys : List Stm) (o : Option PTerm) (k : Int) (t : ByteArray) (ch : Int) (pu : ByteArray) (a2 : Ans) (i : Nat) (v : Value) (w : World) : Prop :=
  match i with
  | 3 => ∃ blk, v = .slice (some ⟨blk, 0, none⟩) 2 2 ∧ LV w blk #[.slice Al l.length cl, .slice A7 ys.length c7] 27 ∧ B ≤ blk
  | 4 => ∃ A2 c2, v = .slice A2 (l ++ ys).length c2 ∧ Sl rStm (fun _ => False) w A2 (l ++ ys)
  | 6 => ∃ Au U cu, v = .agg (askCs (o.getD tZero) o.isSome pu Au U.length cu) ∧ IsOf k t ch (l ++ ys) U ∧ (U.length ≤ cu ∧ (Au = none → cu = 0) ∧ ∀ a, Au = some a → a.spot = none) ∧ Sl rStm (fun _ => False) w Au U
  | 8 => v = aVal a2
  | 9 => ∃ blk, v = .pointer (some ⟨blk, 0, none⟩) ∧ LV w blk (aCs false 0 0) 105 ∧ B ≤ blk
  | _ => True
def GivesChg2 (x : List Stm × Int) (w : World) (e : Ending) (w' : World) : Prop := GivesChg x.1 x.2 w e w'
end Go.Proofs.YthmkphmciiiagaaGreatDoor

/- What handref2.AskOf returns. -/
namespace Go.Proofs.YthmkphmciiiagaaGreatDoor
open Go Go.RowKit
theorem GoodL.filter {p : List Purp} {l : List Stm} (h : GoodL p l) (q : Stm → Bool) : GoodL p (l.filter q) :=
  ⟨h.no.filter _, fun s hs => h.at' s (List.mem_filter.1 hs).1, fun s hs => h.wh s (List.mem_filter.1 hs).1, fun s hs => h.pos s (List.mem_filter.1 hs).1, fun s hs => h.id s (List.mem_filter.1 hs).1⟩
/-- what the operations of the drawn region lay -/
def chgFact (B : Nat) (Al : Option Addr) (cl : Nat) (A7 : Option Addr) (c7 : Nat) (l ys : List Stm) (a2 : Ans) (i : Nat) (v : Value) (w : World) : Prop :=
  match i with
  | 3 => ∃ blk, v = .slice (some ⟨blk, 0, none⟩) 2 2 ∧ LV w blk #[.slice Al l.length cl, .slice A7 ys.length c7] 27 ∧ B ≤ blk
  | 4 => ∃ A2 c2, v = .slice A2 (l ++ ys).length c2 ∧ Sl rStm (fun _ => False) w A2 (l ++ ys)
  | 6 => v = aVal a2
  | 7 => ∃ blk, v = .pointer (some ⟨blk, 0, none⟩) ∧ LV w blk (aCs false 0 0) 105 ∧ B ≤ blk
  | _ => True
end Go.Proofs.YthmkphmciiiagaaGreatDoor

/- The law ConsentChanges walked: it returns true, and nothing that was there has turned. -/
namespace Go.Proofs.YthmkphmciiiagaaGreatDoor
open Go Go.RowKit
set_option maxHeartbeats 4000000 in
set_option maxRecDepth 100000 in
theorem eqStm_any (N : Nat → Prop) (A A2 : Option Addr) (xs : List Stm) (c c2 : Nat) (w : World) (h1 : Sl rStm N w A xs) (h2 : Sl rStm N w A2 xs) (hl : xs.length ≤ 1000000000) :
    Calls Tryz.prog 16 #[.slice A xs.length c, .slice A2 xs.length c2] w fun e w' => e = .returned (.bool true) ∧ Below w.heap.size w w' := by
  have H1 := Lib.hid h1
  have H2 := Lib.hid h2
  clear h1 h2
  go_enter Tryz.func16, Tryz.ntmps16
  go_wp2_with fail
  go_loopw [13] (fun i wr => ∃ j : Nat, j ≤ xs.length ∧ i = .int .i64 j ∧ Below w.heap.size w wr) (fun i _ => xs.length - (intOf i).toNat)
  case atStart => exact ⟨0, Nat.zero_le _, rfl, Below.refl _ _⟩
  case round =>
    obtain ⟨j, hj, rfl, hb⟩ := hrel
    by_cases hlt : j < xs.length
    · obtain ⟨e, hf⟩ : ∃ e, xs[j]? = some e := ⟨_, List.getElem?_eq_getElem hlt⟩
      obtain ⟨b1, o1, rfl, _, d0, d1, d2, d3, d4, d5, d6, d7⟩ := (H1.out.keepB hb).stm j e hf
      obtain ⟨b2, o2, rfl, _, f0, f1, f2, f3, f4, f5, f6, f7⟩ := (H2.out.keepB hb).stm j e hf
      clear hf
      go_wp2_with fail
      go_quiet (fail)
      go_wp2_with fail
      go_roundw
      case rel => exact ⟨j + 1, by omega, by go_num, hb.trans (below_drewN _ _ _)⟩
      case measure => simp [intOf]; omega
    · go_wp2_with fail
      go_ret
      exact ⟨rfl, hb⟩
end Go.Proofs.YthmkphmciiiagaaGreatDoor
