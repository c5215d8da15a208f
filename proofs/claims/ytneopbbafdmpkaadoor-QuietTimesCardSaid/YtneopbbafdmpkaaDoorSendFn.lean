/- What slices.IndexFunc and ContainsFunc return, with the tests of package send and of the reference. -/
import Derived.Test.YtneopbbafdmpkaaDoorSendLaw
namespace Go.Proofs.YtneopbbafdmpkaaDoor
open Go.RowKit
theorem swithin_any (n a b : Int) (w : World) : Calls Tryd.prog 28 #[.int .i64 n, .int .i64 a, .int .i64 b] w fun e w' => e = .returned (.bool (decide (a ≤ n ∧ n ≤ b))) ∧ w = w' := by
  by_cases h1 : a ≤ n <;> by_cases h2 : n ≤ b
  all_goals
    simp only [h1, h2, and_true, and_false, decide_true, decide_false]
    go_enter Tryd.func28, Tryd.ntmps28
    go_wp2
    go_ret
    exact ⟨rfl, rfl⟩
theorem isChannel_any (n : Int) (w : World) : Calls Tryd.prog 30 #[.int .i64 n] w fun e w' => e = .returned (.bool (isCh n)) ∧ w = w' := by
  obtain ⟨R, HR⟩ : ∃ R, Hid (isCh n = R) := ⟨_, Lib.hid rfl⟩
  rw [HR.out]
  have Hc : Hid (∀ w, Calls Tryd.prog 28 #[.int .i64 n, .int .i64 1, .int .i64 4] w fun e w' => e = .returned (.bool R) ∧ w = w') := fun w => by rw [← HR.out]; exact swithin_any n 1 4 w
  go_enter Tryd.func30, Tryd.ntmps30
  go_wp2_with fail
  ((with_reducible refine (Hc.out _).mono ?_); rintro e _ ⟨rfl, rfl⟩)
  go_wp2_with fail
  go_ret
  exact ⟨rfl, rfl⟩
theorem warm1_any (n : Int) (w : World) : Calls Tryd.prog 61 #[.int .i64 n] w fun e w' => e = .returned (.bool (!(decide (0 ≤ n ∧ n ≤ 1000000)))) ∧ w = w' := by
  have Hc := Lib.hid (fun w => swithin_any n 0 1000000 w)
  generalize decide (0 ≤ n ∧ n ≤ 1000000) = R at *
  go_enter Tryd.func61, Tryd.ntmps61
  go_wp2_with fail
  ((with_reducible refine (Hc.out _).mono ?_); rintro e _ ⟨rfl, rfl⟩)
  go_wp2_with fail
  go_ret
  exact ⟨rfl, rfl⟩
theorem delay1_any (n : Int) (w : World) : Calls Tryd.prog 45 #[.int .i64 n] w fun e w' => e = .returned (.bool (!(decide (1 ≤ n ∧ n ≤ 100000)))) ∧ w = w' := by
  have Hc := Lib.hid (fun w => swithin_any n 1 100000 w)
  generalize decide (1 ≤ n ∧ n ≤ 100000) = R at *
  go_enter Tryd.func45, Tryd.ntmps45
  go_wp2_with fail
  ((with_reducible refine (Hc.out _).mono ?_); rintro e _ ⟨rfl, rfl⟩)
  go_wp2_with fail
  go_ret
  exact ⟨rfl, rfl⟩
set_option maxHeartbeats 4000000 in
set_option maxRecDepth 100000 in
theorem warms_any (lo hi : Int) (N : Nat → Prop) (A : Option Addr) (xs : List Int) (c : Nat) (w : World) (hS : Sl rInt N w A xs) (hl : xs.length ≤ 1000000)
    (hp : ∀ w' n, Calls Tryd.prog 61 #[.int .i64 n] w' fun e w'' => e = .returned (.bool (!(decide (lo ≤ n ∧ n ≤ hi)))) ∧ w' = w'') :
    Calls Tryd.prog 44 #[.slice A xs.length c, .func (.func 61) #[] #[]] w fun e w' => e = .returned (.bool (xs.any (fun n => !(decide (lo ≤ n ∧ n ≤ hi))))) ∧ Below w.heap.size w w' := by
  have HS := Lib.hid hS
  have HP := Lib.hid hp
  clear hS hp
  have Hi : Hid (Calls Tryd.prog 62 #[.slice A xs.length c, .func (.func 61) #[] #[]] w fun e w' => e = .returned (.int .i64 (idxGo (fun n => !(decide (lo ≤ n ∧ n ≤ hi))) 0 xs)) ∧ w = w') := by
    show Calls _ _ _ _ _
    obtain ⟨p, hp⟩ : ∃ p : Int → Bool, p = fun n => !(decide (lo ≤ n ∧ n ≤ hi)) := ⟨_, rfl⟩
    have HP2 : Hid (∀ w' n, Calls Tryd.prog 61 #[.int .i64 n] w' fun e w'' => e = .returned (.bool (p n)) ∧ w' = w'') := by rw [hp]; exact HP.out
    rw [← hp]
    clear hp HP
    obtain ⟨R, HR⟩ : ∃ R, Hid (idxGo p 0 xs = R) := ⟨_, Lib.hid rfl⟩
    rw [HR.out]
    go_enter Tryd.func62, Tryd.ntmps62
    go_wp2_with fail
    go_loopw [8] (fun i wr => ∃ k : Nat, k ≤ xs.length ∧ i = .int .i64 k ∧ idxGo p k (xs.drop k) = R ∧ w = wr) (fun i _ => xs.length - (intOf i).toNat)
    case atStart => exact ⟨0, Nat.zero_le _, rfl, HR.out, rfl⟩
    case round =>
      clear HR
      obtain ⟨k, hk, rfl, hr, rfl⟩ := hrel
      have Hr := Lib.hid hr
      clear hr
      by_cases hlt : k < xs.length
      · obtain ⟨q, hq⟩ : ∃ q, xs[k]? = some q := ⟨_, List.getElem?_eq_getElem (by omega)⟩
        obtain ⟨blk, off, rfl, hblk, d0⟩ := HS.out.int k q hq
        have Hs : Hid ((if p q = true then (k : Int) else idxGo p (k + 1) (xs.drop (k + 1))) = R) := by
          show _ = _
          rw [← Hr.out, drop_at3 hq]
          rfl
        clear Hr hq
        go_wp2_with fail
        ((with_reducible refine (HP2.out _ _).mono ?_); rintro e _ ⟨rfl, rfl⟩)
        by_cases hpq : p q = true
        · rw [hpq]
          have Hn : Hid ((k : Int) = R) := by show _ = _; rw [← Hs.out, if_pos hpq]
          clear Hs
          go_wp2_with fail
          go_ret
          exact ⟨ret_i Hn.out, rfl⟩
        · have hpq' : p q = false := by simpa using hpq
          rw [hpq']
          have Hn : Hid (idxGo p (k + 1) (xs.drop (k + 1)) = R) := by show _ = _; rw [← Hs.out, if_neg hpq]
          clear Hs
          go_wp2_with fail
          go_roundw
          case rel => exact ⟨k + 1, by omega, by go_num, Hn.out, by first | rfl | trivial⟩
          case measure => simp [intOf]; omega
      · have Hn : Hid (-1 = R) := by show _ = _; rw [← Hr.out, List.drop_eq_nil_of_le (by omega)]; rfl
        clear Hr
        go_wp2_with fail
        go_ret
        exact ⟨ret_i Hn.out, rfl⟩
  rw [← idxGo_any (fun n => !(decide (lo ≤ n ∧ n ≤ hi))) xs 0]
  generalize idxGo (fun n => !(decide (lo ≤ n ∧ n ≤ hi))) 0 xs = ix at *
  go_enter Tryd.func44, Tryd.ntmps44
  go_wp2_with fail
  ((with_reducible refine (Hi.out).mono ?_); rintro e _ ⟨rfl, rfl⟩)
  go_wp2_with fail
  go_ret
  exact ⟨by first | rfl | simp, Below.refl _ _⟩
set_option maxHeartbeats 4000000 in
set_option maxRecDepth 100000 in
theorem delays_any (lo hi : Int) (N : Nat → Prop) (A : Option Addr) (xs : List Int) (c : Nat) (w : World) (hS : Sl rInt N w A xs) (hl : xs.length ≤ 1000000)
    (hp : ∀ w' n, Calls Tryd.prog 45 #[.int .i64 n] w' fun e w'' => e = .returned (.bool (!(decide (lo ≤ n ∧ n ≤ hi)))) ∧ w' = w'') :
    Calls Tryd.prog 44 #[.slice A xs.length c, .func (.func 45) #[] #[]] w fun e w' => e = .returned (.bool (xs.any (fun n => !(decide (lo ≤ n ∧ n ≤ hi))))) ∧ Below w.heap.size w w' := by
  have HS := Lib.hid hS
  have HP := Lib.hid hp
  clear hS hp
  have Hi : Hid (Calls Tryd.prog 62 #[.slice A xs.length c, .func (.func 45) #[] #[]] w fun e w' => e = .returned (.int .i64 (idxGo (fun n => !(decide (lo ≤ n ∧ n ≤ hi))) 0 xs)) ∧ w = w') := by
    show Calls _ _ _ _ _
    obtain ⟨p, hp⟩ : ∃ p : Int → Bool, p = fun n => !(decide (lo ≤ n ∧ n ≤ hi)) := ⟨_, rfl⟩
    have HP2 : Hid (∀ w' n, Calls Tryd.prog 45 #[.int .i64 n] w' fun e w'' => e = .returned (.bool (p n)) ∧ w' = w'') := by rw [hp]; exact HP.out
    rw [← hp]
    clear hp HP
    obtain ⟨R, HR⟩ : ∃ R, Hid (idxGo p 0 xs = R) := ⟨_, Lib.hid rfl⟩
    rw [HR.out]
    go_enter Tryd.func62, Tryd.ntmps62
    go_wp2_with fail
    go_loopw [8] (fun i wr => ∃ k : Nat, k ≤ xs.length ∧ i = .int .i64 k ∧ idxGo p k (xs.drop k) = R ∧ w = wr) (fun i _ => xs.length - (intOf i).toNat)
    case atStart => exact ⟨0, Nat.zero_le _, rfl, HR.out, rfl⟩
    case round =>
      clear HR
      obtain ⟨k, hk, rfl, hr, rfl⟩ := hrel
      have Hr := Lib.hid hr
      clear hr
      by_cases hlt : k < xs.length
      · obtain ⟨q, hq⟩ : ∃ q, xs[k]? = some q := ⟨_, List.getElem?_eq_getElem (by omega)⟩
        obtain ⟨blk, off, rfl, hblk, d0⟩ := HS.out.int k q hq
        have Hs : Hid ((if p q = true then (k : Int) else idxGo p (k + 1) (xs.drop (k + 1))) = R) := by
          show _ = _
          rw [← Hr.out, drop_at3 hq]
          rfl
        clear Hr hq
        go_wp2_with fail
        ((with_reducible refine (HP2.out _ _).mono ?_); rintro e _ ⟨rfl, rfl⟩)
        by_cases hpq : p q = true
        · rw [hpq]
          have Hn : Hid ((k : Int) = R) := by show _ = _; rw [← Hs.out, if_pos hpq]
          clear Hs
          go_wp2_with fail
          go_ret
          exact ⟨ret_i Hn.out, rfl⟩
        · have hpq' : p q = false := by simpa using hpq
          rw [hpq']
          have Hn : Hid (idxGo p (k + 1) (xs.drop (k + 1)) = R) := by show _ = _; rw [← Hs.out, if_neg hpq]
          clear Hs
          go_wp2_with fail
          go_roundw
          case rel => exact ⟨k + 1, by omega, by go_num, Hn.out, by first | rfl | trivial⟩
          case measure => simp [intOf]; omega
      · have Hn : Hid (-1 = R) := by show _ = _; rw [← Hr.out, List.drop_eq_nil_of_le (by omega)]; rfl
        clear Hr
        go_wp2_with fail
        go_ret
        exact ⟨ret_i Hn.out, rfl⟩
  rw [← idxGo_any (fun n => !(decide (lo ≤ n ∧ n ≤ hi))) xs 0]
  generalize idxGo (fun n => !(decide (lo ≤ n ∧ n ≤ hi))) 0 xs = ix at *
  go_enter Tryd.func44, Tryd.ntmps44
  go_wp2_with fail
  ((with_reducible refine (Hi.out).mono ?_); rintro e _ ⟨rfl, rfl⟩)
  go_wp2_with fail
  go_ret
  exact ⟨by first | rfl | simp, Below.refl _ _⟩
set_option maxHeartbeats 4000000 in
set_option maxRecDepth 100000 in
theorem indexPools_any (X : Nat) (p : SPool → Bool) (N : Nat → Prop) (A : Option Addr) (xs : List SPool) (n c : Nat) (w : World) (hS : Sl rPool N w A xs) (hn : n ≤ xs.length) (hl : xs.length ≤ 1000000)
    (hp : ∀ w' q Aw nw cw, Below w.heap.size w w' → q ∈ xs → Calls Tryd.prog 60 #[.agg #[.string q.name, .int .i64 q.channel, .int .i64 q.per, .int .i64 q.first, .slice Aw nw cw], .pointer (some ⟨X, 0, none⟩)] w' fun e w'' => e = .returned (.bool (p q)) ∧ Below w'.heap.size w' w'') :
    Calls Tryd.prog 13 #[.slice A n c, .func (.func 60) #[] #[.pointer (some ⟨X, 0, none⟩)]] w fun e w' => e = .returned (.int .i64 (idxGo p 0 (xs.take n))) ∧ Below w.heap.size w w' := by
  have HS := Lib.hid hS
  have HP := Lib.hid hp
  clear hS hp
  obtain ⟨R, HR⟩ : ∃ R, Hid (idxGo p 0 (xs.take n) = R) := ⟨_, Lib.hid rfl⟩
  rw [HR.out]
  go_enter Tryd.func13, Tryd.ntmps13
  go_wp2_with fail
  go_loopw [8] (fun i wr => ∃ k : Nat, k ≤ n ∧ i = .int .i64 k ∧ idxGo p k ((xs.take n).drop k) = R ∧ Below w.heap.size w wr) (fun i _ => n - (intOf i).toNat)
  case atStart => exact ⟨0, Nat.zero_le _, rfl, HR.out, Below.refl _ _⟩
  case round =>
    clear HR
    obtain ⟨k, hk, rfl, hr, hbl⟩ := hrel
    have Hr := Lib.hid hr
    clear hr
    by_cases hlt : k < n
    · obtain ⟨q, hq⟩ : ∃ q, xs[k]? = some q := ⟨_, List.getElem?_eq_getElem (by omega)⟩
      obtain ⟨blk, off, Aw, cw, rfl, hblk, d0, d1, d2, d3, d4, _⟩ := (HS.out.keepB hbl).pool k q hq
      have Hs : Hid ((if p q = true then (k : Int) else idxGo p (k + 1) ((xs.take n).drop (k + 1))) = R) := by
        show _ = _
        have hd : (xs.take n).drop k = q :: (xs.take n).drop (k + 1) := drop_at3 (by rw [List.getElem?_take, if_pos hlt]; exact hq)
        rw [← Hr.out, hd]
        rfl
      have Hc := Lib.hid (HP.out wr q Aw q.warm.length cw hbl (List.mem_of_getElem? hq))
      clear Hr hq
      go_wp2_with fail
      ((with_reducible refine (Hc.out).mono ?_); rintro e w1 ⟨rfl, hl1⟩)
      have Hb1 := Lib.hid (hbl.trans (hl1.mono hbl.size))
      clear d0 d1 d2 d3 d4 hl1 Hc
      by_cases hpq : p q = true
      · rw [hpq]
        have Hn : Hid ((k : Int) = R) := by show _ = _; rw [← Hs.out, if_pos hpq]
        clear Hs
        go_wp2_with fail
        go_ret
        exact ⟨ret_i Hn.out, Hb1.out⟩
      · have hpq' : p q = false := by simpa using hpq
        rw [hpq']
        have Hn : Hid (idxGo p (k + 1) ((xs.take n).drop (k + 1)) = R) := by show _ = _; rw [← Hs.out, if_neg hpq]
        clear Hs
        go_wp2_with fail
        go_roundw
        case rel => exact ⟨k + 1, by omega, by go_num, Hn.out, Hb1.out⟩
        case measure => simp [intOf]; omega
    · have Hn : Hid (-1 = R) := by show _ = _; rw [← Hr.out, List.drop_eq_nil_of_le (by simp; omega)]; rfl
      clear Hr
      go_wp2_with fail
      go_ret
      exact ⟨ret_i Hn.out, hbl⟩
theorem contPools_any (X : Nat) (p : SPool → Bool) (N : Nat → Prop) (A : Option Addr) (xs : List SPool) (n c : Nat) (w : World) (hS : Sl rPool N w A xs) (hn : n ≤ xs.length) (hl : xs.length ≤ 1000000)
    (hp : ∀ w' q Aw nw cw, Below w.heap.size w w' → q ∈ xs → Calls Tryd.prog 60 #[.agg #[.string q.name, .int .i64 q.channel, .int .i64 q.per, .int .i64 q.first, .slice Aw nw cw], .pointer (some ⟨X, 0, none⟩)] w' fun e w'' => e = .returned (.bool (p q)) ∧ Below w'.heap.size w' w'') :
    Calls Tryd.prog 48 #[.slice A n c, .func (.func 60) #[] #[.pointer (some ⟨X, 0, none⟩)]] w fun e w' => e = .returned (.bool ((xs.take n).any p)) ∧ Below w.heap.size w w' := by
  have Hi := Lib.hid (indexPools_any X p N A xs n c w hS hn hl hp)
  rw [← idxGo_any p (xs.take n) 0]
  generalize idxGo p 0 (xs.take n) = ix at *
  clear hS hp
  go_enter Tryd.func48, Tryd.ntmps48
  go_wp2_with fail
  ((with_reducible refine (Hi.out).mono ?_); rintro e w1 ⟨rfl, hl_w1⟩)
  have hz_w1 := hl_w1.size
  go_wp2_with fail
  go_ret
  exact ⟨by first | rfl | simp, hl_w1⟩
set_option maxHeartbeats 4000000 in
set_option maxRecDepth 100000 in
theorem indexRef_any (X : Nat) (p : SPool → Bool) (N : Nat → Prop) (A : Option Addr) (xs : List SPool) (n c : Nat) (w : World) (hS : Sl rPool N w A xs) (hn : n ≤ xs.length) (hl : xs.length ≤ 1000000)
    (hp : ∀ w' q Aw nw cw, Below w.heap.size w w' → q ∈ xs → Calls Tryd.prog 49 #[.agg #[.string q.name, .int .i64 q.channel, .int .i64 q.per, .int .i64 q.first, .slice Aw nw cw], .pointer (some ⟨X, 0, none⟩)] w' fun e w'' => e = .returned (.bool (p q)) ∧ Below w'.heap.size w' w'') :
    Calls Tryd.prog 13 #[.slice A n c, .func (.func 49) #[] #[.pointer (some ⟨X, 0, none⟩)]] w fun e w' => e = .returned (.int .i64 (idxGo p 0 (xs.take n))) ∧ Below w.heap.size w w' := by
  have HS := Lib.hid hS
  have HP := Lib.hid hp
  clear hS hp
  obtain ⟨R, HR⟩ : ∃ R, Hid (idxGo p 0 (xs.take n) = R) := ⟨_, Lib.hid rfl⟩
  rw [HR.out]
  go_enter Tryd.func13, Tryd.ntmps13
  go_wp2_with fail
  go_loopw [8] (fun i wr => ∃ k : Nat, k ≤ n ∧ i = .int .i64 k ∧ idxGo p k ((xs.take n).drop k) = R ∧ Below w.heap.size w wr) (fun i _ => n - (intOf i).toNat)
  case atStart => exact ⟨0, Nat.zero_le _, rfl, HR.out, Below.refl _ _⟩
  case round =>
    clear HR
    obtain ⟨k, hk, rfl, hr, hbl⟩ := hrel
    have Hr := Lib.hid hr
    clear hr
    by_cases hlt : k < n
    · obtain ⟨q, hq⟩ : ∃ q, xs[k]? = some q := ⟨_, List.getElem?_eq_getElem (by omega)⟩
      obtain ⟨blk, off, Aw, cw, rfl, hblk, d0, d1, d2, d3, d4, _⟩ := (HS.out.keepB hbl).pool k q hq
      have Hs : Hid ((if p q = true then (k : Int) else idxGo p (k + 1) ((xs.take n).drop (k + 1))) = R) := by
        show _ = _
        have hd : (xs.take n).drop k = q :: (xs.take n).drop (k + 1) := drop_at3 (by rw [List.getElem?_take, if_pos hlt]; exact hq)
        rw [← Hr.out, hd]
        rfl
      have Hc := Lib.hid (HP.out wr q Aw q.warm.length cw hbl (List.mem_of_getElem? hq))
      clear Hr hq
      go_wp2_with fail
      ((with_reducible refine (Hc.out).mono ?_); rintro e w1 ⟨rfl, hl1⟩)
      have Hb1 := Lib.hid (hbl.trans (hl1.mono hbl.size))
      clear d0 d1 d2 d3 d4 hl1 Hc
      by_cases hpq : p q = true
      · rw [hpq]
        have Hn : Hid ((k : Int) = R) := by show _ = _; rw [← Hs.out, if_pos hpq]
        clear Hs
        go_wp2_with fail
        go_ret
        exact ⟨ret_i Hn.out, Hb1.out⟩
      · have hpq' : p q = false := by simpa using hpq
        rw [hpq']
        have Hn : Hid (idxGo p (k + 1) ((xs.take n).drop (k + 1)) = R) := by show _ = _; rw [← Hs.out, if_neg hpq]
        clear Hs
        go_wp2_with fail
        go_roundw
        case rel => exact ⟨k + 1, by omega, by go_num, Hn.out, Hb1.out⟩
        case measure => simp [intOf]; omega
    · have Hn : Hid (-1 = R) := by show _ = _; rw [← Hr.out, List.drop_eq_nil_of_le (by simp; omega)]; rfl
      clear Hr
      go_wp2_with fail
      go_ret
      exact ⟨ret_i Hn.out, hbl⟩
theorem contRef_any (X : Nat) (p : SPool → Bool) (N : Nat → Prop) (A : Option Addr) (xs : List SPool) (n c : Nat) (w : World) (hS : Sl rPool N w A xs) (hn : n ≤ xs.length) (hl : xs.length ≤ 1000000)
    (hp : ∀ w' q Aw nw cw, Below w.heap.size w w' → q ∈ xs → Calls Tryd.prog 49 #[.agg #[.string q.name, .int .i64 q.channel, .int .i64 q.per, .int .i64 q.first, .slice Aw nw cw], .pointer (some ⟨X, 0, none⟩)] w' fun e w'' => e = .returned (.bool (p q)) ∧ Below w'.heap.size w' w'') :
    Calls Tryd.prog 48 #[.slice A n c, .func (.func 49) #[] #[.pointer (some ⟨X, 0, none⟩)]] w fun e w' => e = .returned (.bool ((xs.take n).any p)) ∧ Below w.heap.size w w' := by
  have Hi := Lib.hid (indexRef_any X p N A xs n c w hS hn hl hp)
  rw [← idxGo_any p (xs.take n) 0]
  generalize idxGo p 0 (xs.take n) = ix at *
  clear hS hp
  go_enter Tryd.func48, Tryd.ntmps48
  go_wp2_with fail
  ((with_reducible refine (Hi.out).mono ?_); rintro e w1 ⟨rfl, hl_w1⟩)
  have hz_w1 := hl_w1.size
  go_wp2_with fail
  go_ret
  exact ⟨by first | rfl | simp, hl_w1⟩
set_option maxHeartbeats 4000000 in
set_option maxRecDepth 100000 in
theorem indexRoom_any (X : Nat) (p : SPool → Bool) (N : Nat → Prop) (A : Option Addr) (xs : List SPool) (n c : Nat) (w : World) (hS : Sl rPool N w A xs) (hn : n ≤ xs.length) (hl : xs.length ≤ 1000000)
    (hp : ∀ w' q Aw nw cw, Below w.heap.size w w' → q ∈ xs → Calls Tryd.prog 27 #[.agg #[.string q.name, .int .i64 q.channel, .int .i64 q.per, .int .i64 q.first, .slice Aw nw cw], .pointer (some ⟨X, 0, none⟩)] w' fun e w'' => e = .returned (.bool (p q)) ∧ Below w'.heap.size w' w'') :
    Calls Tryd.prog 13 #[.slice A n c, .func (.func 27) #[] #[.pointer (some ⟨X, 0, none⟩)]] w fun e w' => e = .returned (.int .i64 (idxGo p 0 (xs.take n))) ∧ Below w.heap.size w w' := by
  have HS := Lib.hid hS
  have HP := Lib.hid hp
  clear hS hp
  obtain ⟨R, HR⟩ : ∃ R, Hid (idxGo p 0 (xs.take n) = R) := ⟨_, Lib.hid rfl⟩
  rw [HR.out]
  go_enter Tryd.func13, Tryd.ntmps13
  go_wp2_with fail
  go_loopw [8] (fun i wr => ∃ k : Nat, k ≤ n ∧ i = .int .i64 k ∧ idxGo p k ((xs.take n).drop k) = R ∧ Below w.heap.size w wr) (fun i _ => n - (intOf i).toNat)
  case atStart => exact ⟨0, Nat.zero_le _, rfl, HR.out, Below.refl _ _⟩
  case round =>
    clear HR
    obtain ⟨k, hk, rfl, hr, hbl⟩ := hrel
    have Hr := Lib.hid hr
    clear hr
    by_cases hlt : k < n
    · obtain ⟨q, hq⟩ : ∃ q, xs[k]? = some q := ⟨_, List.getElem?_eq_getElem (by omega)⟩
      obtain ⟨blk, off, Aw, cw, rfl, hblk, d0, d1, d2, d3, d4, _⟩ := (HS.out.keepB hbl).pool k q hq
      have Hs : Hid ((if p q = true then (k : Int) else idxGo p (k + 1) ((xs.take n).drop (k + 1))) = R) := by
        show _ = _
        have hd : (xs.take n).drop k = q :: (xs.take n).drop (k + 1) := drop_at3 (by rw [List.getElem?_take, if_pos hlt]; exact hq)
        rw [← Hr.out, hd]
        rfl
      have Hc := Lib.hid (HP.out wr q Aw q.warm.length cw hbl (List.mem_of_getElem? hq))
      clear Hr hq
      go_wp2_with fail
      ((with_reducible refine (Hc.out).mono ?_); rintro e w1 ⟨rfl, hl1⟩)
      have Hb1 := Lib.hid (hbl.trans (hl1.mono hbl.size))
      clear d0 d1 d2 d3 d4 hl1 Hc
      by_cases hpq : p q = true
      · rw [hpq]
        have Hn : Hid ((k : Int) = R) := by show _ = _; rw [← Hs.out, if_pos hpq]
        clear Hs
        go_wp2_with fail
        go_ret
        exact ⟨ret_i Hn.out, Hb1.out⟩
      · have hpq' : p q = false := by simpa using hpq
        rw [hpq']
        have Hn : Hid (idxGo p (k + 1) ((xs.take n).drop (k + 1)) = R) := by show _ = _; rw [← Hs.out, if_neg hpq]
        clear Hs
        go_wp2_with fail
        go_roundw
        case rel => exact ⟨k + 1, by omega, by go_num, Hn.out, Hb1.out⟩
        case measure => simp [intOf]; omega
    · have Hn : Hid (-1 = R) := by show _ = _; rw [← Hr.out, List.drop_eq_nil_of_le (by simp; omega)]; rfl
      clear Hr
      go_wp2_with fail
      go_ret
      exact ⟨ret_i Hn.out, hbl⟩
set_option maxHeartbeats 4000000 in
set_option maxRecDepth 100000 in
theorem indexLaw_any (X : Nat) (p : SPool → Bool) (N : Nat → Prop) (A : Option Addr) (xs : List SPool) (n c : Nat) (w : World) (hS : Sl rPool N w A xs) (hn : n ≤ xs.length) (hl : xs.length ≤ 1000000)
    (hp : ∀ w' q Aw nw cw, Below w.heap.size w w' → q ∈ xs → Calls Tryd.prog 14 #[.agg #[.string q.name, .int .i64 q.channel, .int .i64 q.per, .int .i64 q.first, .slice Aw nw cw], .pointer (some ⟨X, 0, none⟩)] w' fun e w'' => e = .returned (.bool (p q)) ∧ Below w'.heap.size w' w'') :
    Calls Tryd.prog 13 #[.slice A n c, .func (.func 14) #[] #[.pointer (some ⟨X, 0, none⟩)]] w fun e w' => e = .returned (.int .i64 (idxGo p 0 (xs.take n))) ∧ Below w.heap.size w w' := by
  have HS := Lib.hid hS
  have HP := Lib.hid hp
  clear hS hp
  obtain ⟨R, HR⟩ : ∃ R, Hid (idxGo p 0 (xs.take n) = R) := ⟨_, Lib.hid rfl⟩
  rw [HR.out]
  go_enter Tryd.func13, Tryd.ntmps13
  go_wp2_with fail
  go_loopw [8] (fun i wr => ∃ k : Nat, k ≤ n ∧ i = .int .i64 k ∧ idxGo p k ((xs.take n).drop k) = R ∧ Below w.heap.size w wr) (fun i _ => n - (intOf i).toNat)
  case atStart => exact ⟨0, Nat.zero_le _, rfl, HR.out, Below.refl _ _⟩
  case round =>
    clear HR
    obtain ⟨k, hk, rfl, hr, hbl⟩ := hrel
    have Hr := Lib.hid hr
    clear hr
    by_cases hlt : k < n
    · obtain ⟨q, hq⟩ : ∃ q, xs[k]? = some q := ⟨_, List.getElem?_eq_getElem (by omega)⟩
      obtain ⟨blk, off, Aw, cw, rfl, hblk, d0, d1, d2, d3, d4, _⟩ := (HS.out.keepB hbl).pool k q hq
      have Hs : Hid ((if p q = true then (k : Int) else idxGo p (k + 1) ((xs.take n).drop (k + 1))) = R) := by
        show _ = _
        have hd : (xs.take n).drop k = q :: (xs.take n).drop (k + 1) := drop_at3 (by rw [List.getElem?_take, if_pos hlt]; exact hq)
        rw [← Hr.out, hd]
        rfl
      have Hc := Lib.hid (HP.out wr q Aw q.warm.length cw hbl (List.mem_of_getElem? hq))
      clear Hr hq
      go_wp2_with fail
      ((with_reducible refine (Hc.out).mono ?_); rintro e w1 ⟨rfl, hl1⟩)
      have Hb1 := Lib.hid (hbl.trans (hl1.mono hbl.size))
      clear d0 d1 d2 d3 d4 hl1 Hc
      by_cases hpq : p q = true
      · rw [hpq]
        have Hn : Hid ((k : Int) = R) := by show _ = _; rw [← Hs.out, if_pos hpq]
        clear Hs
        go_wp2_with fail
        go_ret
        exact ⟨ret_i Hn.out, Hb1.out⟩
      · have hpq' : p q = false := by simpa using hpq
        rw [hpq']
        have Hn : Hid (idxGo p (k + 1) ((xs.take n).drop (k + 1)) = R) := by show _ = _; rw [← Hs.out, if_neg hpq]
        clear Hs
        go_wp2_with fail
        go_roundw
        case rel => exact ⟨k + 1, by omega, by go_num, Hn.out, Hb1.out⟩
        case measure => simp [intOf]; omega
    · have Hn : Hid (-1 = R) := by show _ = _; rw [← Hr.out, List.drop_eq_nil_of_le (by simp; omega)]; rfl
      clear Hr
      go_wp2_with fail
      go_ret
      exact ⟨ret_i Hn.out, hbl⟩
theorem same1_any (X : Nat) (nm : ByteArray) (cs : Array Value) (q : SPool) (A : Option Addr) (n c : Nat) (w : World) (hX : LV w X cs 36) (h0 : cs[0]? = some (.string nm)) : Calls Tryd.prog 60 #[.agg #[.string q.name, .int .i64 q.channel, .int .i64 q.per, .int .i64 q.first, .slice A n c], .pointer (some ⟨X, 0, none⟩)] w fun e w' => e = .returned (.bool (q.name.toList == nm.toList)) ∧ Below w.heap.size w w' := by
  have c0 : w.cell? ⟨X, 0, none⟩ = some (.string nm) := hX.cell 0 _ h0
  have hlt := hX.lt
  have c1 : (w.alloc (.cells #[.string q.name, .int .i64 q.channel, .int .i64 q.per, .int .i64 q.first, .slice A n c] 36)).cell? ⟨X, 0, none⟩ = some (.string nm) := by rw [World.cell?_alloc_past _ _ _ hlt]; exact c0
  go_enter Tryd.func60, Tryd.ntmps60
  go_wp2_with fail
  go_ret
  exact ⟨rfl, (Below.refl _ _).alloc (Nat.le_refl _) _⟩
theorem same2_any (X : Nat) (nm : ByteArray) (cs : Array Value) (q : SPool) (A : Option Addr) (n c : Nat) (w : World) (hX : LV w X cs 36) (h0 : cs[0]? = some (.string nm)) : Calls Tryd.prog 49 #[.agg #[.string q.name, .int .i64 q.channel, .int .i64 q.per, .int .i64 q.first, .slice A n c], .pointer (some ⟨X, 0, none⟩)] w fun e w' => e = .returned (.bool (q.name.toList == nm.toList)) ∧ Below w.heap.size w w' := by
  have c0 : w.cell? ⟨X, 0, none⟩ = some (.string nm) := hX.cell 0 _ h0
  have hlt := hX.lt
  have c1 : (w.alloc (.cells #[.string q.name, .int .i64 q.channel, .int .i64 q.per, .int .i64 q.first, .slice A n c] 36)).cell? ⟨X, 0, none⟩ = some (.string nm) := by rw [World.cell?_alloc_past _ _ _ hlt]; exact c0
  go_enter Tryd.func49, Tryd.ntmps49
  go_wp2_with fail
  go_ret
  exact ⟨rfl, (Below.refl _ _).alloc (Nat.le_refl _) _⟩
end Go.Proofs.YtneopbbafdmpkaaDoor
