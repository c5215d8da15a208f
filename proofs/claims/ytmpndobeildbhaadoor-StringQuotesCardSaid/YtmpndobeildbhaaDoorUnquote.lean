/- What person.escaped and person.Unquote return. -/
import Derived.Test.YtmpndobeildbhaaDoorQuoted
namespace Go.Proofs.YtmpndobeildbhaaDoor
open Go.RowKit

theorem drop_bytes (s : ByteArray) (i : Nat) (h : i < s.size) : s.data.toList.drop i = s[i] :: s.data.toList.drop (i + 1) := by
  have h' : i < s.data.toList.length := h
  exact List.drop_eq_getElem_cons (l := s.data.toList) (i := i) h'
theorem bytes1 (s : ByteArray) (h : 0 < s.size) : s.data.toList = s[0] :: s.data.toList.drop 1 := by
  have := drop_bytes s 0 h
  rwa [List.drop_zero] at this
theorem drop_none (s : ByteArray) (i : Nat) (h : s.size ≤ i) : s.data.toList.drop i = [] := List.drop_eq_nil_of_le h
theorem extract_list (s : ByteArray) (i : Nat) : (s.extract i s.size).data.toList = s.data.toList.drop i := by
  rw [ByteArray.data_extract, Array.toList_extract, List.extract_eq_take_drop]
  exact List.take_of_length_le (by rw [List.length_drop]; exact Nat.le_refl _)
theorem bytes3 (s : ByteArray) (h : 3 ≤ s.size) : s.data.toList = s[0] :: s[1] :: s[2] :: s.data.toList.drop 3 := by
  exact (bytes1 s (by omega)).trans (by rw [drop_bytes s 1 (by omega), drop_bytes s 2 (by omega)])
theorem bytes_short (s : ByteArray) (h0 : 0 < s.size) (h : s.size < 3) : s.data.toList = [s[0]] ∨ ∃ y, s.data.toList = [s[0], y] := by
  have e := bytes1 s h0
  rcases Nat.lt_or_ge 1 s.size with h1 | h1
  · refine .inr ⟨s[1], ?_⟩
    exact e.trans (by rw [drop_bytes s 1 h1, drop_none s 2 (by omega)])
  · refine .inl ?_
    exact e.trans (by rw [drop_none s 1 h1])

theorem hv_rng (c : UInt8) : -1 ≤ Q.hv c ∧ Q.hv c < 16 := by
  have : ∀ m : Fin 256, -1 ≤ Q.hv (UInt8.ofNat m.val) ∧ Q.hv (UInt8.ofNat m.val) < 16 := by decide +kernel
  have h2 := this ⟨c.toNat, c.toNat_lt⟩
  simpa using h2
theorem idx_hex (c : UInt8) (w : World) : Calls Tryd.prog 23 #[.string ⟨#[48, 49, 50, 51, 52, 53, 54, 55, 56, 57, 97, 98, 99, 100, 101, 102]⟩, .int .u8 c.toNat] w fun e w' => e = .returned (.int .i64 (Q.hv c)) ∧ w = w' :=
  (Tryd.strings_IndexByte _ _ _).mono fun e w' ⟨h1, h2⟩ => ⟨by rw [h1]; simp [Q.hv, Q.hexs], h2.symm⟩

/-- what is returned for a byte and a number -/
def escV (p : UInt8 × Nat) : Value := .tuple #[.int .u8 p.1.toNat, .int .i64 p.2]

set_option maxRecDepth 100000 in
theorem escaped_any (s : ByteArray) (w : World) (hs : s.size ≤ 1000000000) :
    Calls Tryd.prog 18 #[.string s] w fun e w' => e = .returned (escV (Q.esc s.data.toList)) ∧ Below w.heap.size w w' := by
  rcases Nat.eq_zero_or_pos s.size with h0 | h0
  · have h1 := (str_nil h0).1
    have h2 := (str_nil h0).2
    have Hv : Hid (escV (Q.esc s.data.toList) = .tuple #[.int .u8 0, .int .i64 0]) := by
      have : s.data.toList = [] := List.length_eq_zero_iff.1 h0
      show _ = _
      rw [this]; rfl
    clear h0
    go_enter Tryd.func18, Tryd.ntmps18
    go_wp2
    go_ret2
    exact ⟨by rw [Hv.out]; rfl, Below.refl _ _⟩
  have h1 := (str_ne h0).1
  have h2 := (str_ne h0).2
  have Hl := Lib.hid (bytes1 s h0)
  have hc := s[0].toNat_lt
  by_cases hA : s[0].toNat = 34 ∨ s[0].toNat = 92
  · have Hv : Hid (escV (Q.esc s.data.toList) = .tuple #[.int .u8 s[0].toNat, .int .i64 1]) := by show _ = _; rw [Hl.out]; simp only [Q.esc]; rw [if_pos hA]; rfl
    rcases hA with hA | hA
    · have e1 : ((s[0].toNat : Int) == 34) = true := by simp [hA]
      clear hA
      go_enter Tryd.func18, Tryd.ntmps18
      go_wp2
      go_ret2
      exact ⟨by rw [Hv.out]; rfl, Below.refl _ _⟩
    · have e1 : ((s[0].toNat : Int) == 34) = false := by simp [hA]
      have e2 : ((s[0].toNat : Int) == 92) = true := by simp [hA]
      clear hA
      go_enter Tryd.func18, Tryd.ntmps18
      go_wp2
      go_ret2
      exact ⟨by rw [Hv.out]; rfl, Below.refl _ _⟩
  have e1 : ((s[0].toNat : Int) == 34) = false := by simp; omega
  have e2 : ((s[0].toNat : Int) == 92) = false := by simp; omega
  by_cases hB : s[0].toNat = 110
  · have Hv : Hid (escV (Q.esc s.data.toList) = .tuple #[.int .u8 10, .int .i64 1]) := by show _ = _; rw [Hl.out]; simp only [Q.esc]; rw [if_neg hA, if_pos hB]; rfl
    have e3 : ((s[0].toNat : Int) == 110) = true := by simp [hB]
    clear hA hB
    go_enter Tryd.func18, Tryd.ntmps18
    go_wp2
    go_ret2
    exact ⟨by rw [Hv.out]; rfl, Below.refl _ _⟩
  have e3 : ((s[0].toNat : Int) == 110) = false := by simp; omega
  by_cases hC : s[0].toNat = 120
  · have e4 : ((s[0].toNat : Int) == 120) = true := by simp [hC]
    by_cases h3 : s.size < 3
    · have Hv : Hid (escV (Q.esc s.data.toList) = .tuple #[.int .u8 0, .int .i64 0]) := by
        show _ = _
        rcases bytes_short s h0 h3 with h | ⟨y, h⟩ <;> (rw [h]; simp only [Q.esc]; rw [if_neg hA, if_neg hB, if_pos hC]; rfl)
      clear hA hB hC
      go_enter Tryd.func18, Tryd.ntmps18
      go_wp2
      go_ret2
      exact ⟨by rw [Hv.out]; rfl, Below.refl _ _⟩
    have Hv : Hid (escV (Q.esc s.data.toList) = escV (if Q.hv s[1] < 0 ∨ Q.hv s[2] < 0 then (0, 0) else if Q.hidI ((16 : Int) * Q.hv s[1] + Q.hv s[2]) then (UInt8.ofNat ((16 : Int) * Q.hv s[1] + Q.hv s[2]).toNat, 3) else (0, 0))) := by
      show _ = _; rw [bytes3 s (by omega)]; simp only [Q.esc]; rw [if_neg hA, if_neg hB, if_pos hC]
    clear hA hB hC
    have hx := hv_rng s[1]
    have hy := hv_rng s[2]
    obtain ⟨x, Hx⟩ : ∃ x, Hid (Q.hv s[1] = x) := ⟨_, Lib.hid rfl⟩
    obtain ⟨y, Hy⟩ : ∃ y, Hid (Q.hv s[2] = y) := ⟨_, Lib.hid rfl⟩
    rw [Hx.out, Hy.out] at Hv
    rw [Hx.out] at hx
    rw [Hy.out] at hy
    have Hcx : Hid (∀ w', Calls Tryd.prog 23 #[.string ⟨#[48, 49, 50, 51, 52, 53, 54, 55, 56, 57, 97, 98, 99, 100, 101, 102]⟩, .int .u8 s[1].toNat] w' fun e w'' => e = .returned (.int .i64 x) ∧ w' = w'') := fun w' => by have := idx_hex s[1] w'; rw [Hx.out] at this; exact this
    have Hcy : Hid (∀ w', Calls Tryd.prog 23 #[.string ⟨#[48, 49, 50, 51, 52, 53, 54, 55, 56, 57, 97, 98, 99, 100, 101, 102]⟩, .int .u8 s[2].toNat] w' fun e w'' => e = .returned (.int .i64 y) ∧ w' = w'') := fun w' => by have := idx_hex s[2] w'; rw [Hy.out] at this; exact this
    have hs1 : 1 < s.size := by omega
    have hs2 : 2 < s.size := by omega
    go_enter Tryd.func18, Tryd.ntmps18
    go_wp2_with fail
    refine wp_region_mix (fun _ => True) [(true, 0), (true, 1), (true, 2), (true, 3), (true, 4), (true, 5), (true, 6), (true, 7)] (by kernel_rfl) (by kernel_rfl) (fun _ _ => trivial) (fun KK hKK wd hd_wd => ?_)
    have hbl := hd_wd.below w.heap.size
    repeat (refine mix_p rfl (fun K hK => ?_); go_simp; (try go_bits); (try simp (disch := omega) only [if_pos, if_neg, dif_pos, dif_neg]); (try go_simp); (refine hK _ ?_; clear hK K))
    refine mix_c (.int .i64 x) rfl rfl (by intro w; kernel_rfl) (fun w' _ => Hcx.out w') ?_
    repeat (refine mix_p rfl (fun K hK => ?_); go_simp; (try go_bits); (try simp (disch := omega) only [if_pos, if_neg, dif_pos, dif_neg]); (try go_simp); (refine hK _ ?_; clear hK K))
    refine mix_c (.int .i64 y) rfl rfl (by intro w; kernel_rfl) (fun w' _ => Hcy.out w') ?_
    repeat (refine mix_p rfl (fun K hK => ?_); go_simp; (try go_bits); (try simp (disch := omega) only [if_pos, if_neg, dif_pos, dif_neg]); (try go_simp); (refine hK _ ?_; clear hK K))
    refine mix_nil ?_
    simp only [Exit.then]
    refine hKK _ _ ?_
    by_cases hx0 : x < 0
    · rw [if_pos (by omega)] at Hv
      go_wp2_with fail
      go_ret2
      exact ⟨by rw [Hv.out]; rfl, hbl⟩
    by_cases hy0 : y < 0
    · rw [if_pos (by omega)] at Hv
      go_wp2_with fail
      go_ret2
      exact ⟨by rw [Hv.out]; rfl, hbl⟩
    rw [if_neg (by omega)] at Hv
    by_cases hh : Q.hidI (16 * x + y)
    · rw [if_pos hh] at Hv
      go_wp2_with fail
      ((with_reducible refine (hidden_yes _ _ (by unfold Q.hidI at hh; exact hh)).mono ?_); rintro e wx ⟨rfl, rfl⟩)
      go_wp2_with fail
      go_ret2
      refine ⟨?_, hbl⟩
      rw [Hv.out]
      have e5 : ((UInt8.ofNat (16 * x + y).toNat).toNat : Int) = 16 * x + y := by
        rw [UInt8.toNat_ofNat_of_lt' (by show _ < 256; omega)]; omega
      simp only [escV, e5]
      rfl
    · rw [if_neg hh] at Hv
      go_wp2_with fail
      ((with_reducible refine (hidden_no _ _ (by unfold Q.hidI at hh; exact hh)).mono ?_); rintro e wx ⟨rfl, rfl⟩)
      go_wp2_with fail
      go_ret2
      exact ⟨by rw [Hv.out]; rfl, hbl⟩
  · have e4 : ((s[0].toNat : Int) == 120) = false := by simp; omega
    have Hv : Hid (escV (Q.esc s.data.toList) = .tuple #[.int .u8 0, .int .i64 0]) := by show _ = _; rw [Hl.out]; simp only [Q.esc]; rw [if_neg hA, if_neg hB, if_neg hC]; rfl
    clear hA hB hC
    go_enter Tryd.func18, Tryd.ntmps18
    go_wp2
    go_ret2
    exact ⟨by rw [Hv.out]; rfl, Below.refl _ _⟩

theorem esc_le (r : List UInt8) : (Q.esc r).2 ≤ r.length := by
  cases r with
  | nil => simp [Q.esc]
  | cons c r =>
    simp only [Q.esc]
    split
    · simp
    · split
      · simp
      · split
        · match r with
          | [] => simp
          | [_] => simp
          | x :: y :: r => simp only; split
                           · simp
                           · split <;> simp
        · simp

/-- what Unquote returns -/
def unqV : Option (List UInt8 × Nat) → Value
  | none => .tuple #[.string ⟨#[]⟩, .int .i64 0, .int .i64 9]
  | some p => .tuple #[.string ⟨p.1.toArray⟩, .int .i64 p.2, .int .i64 0]

/-- where the loop stands -/
def URel (B : Nat) (step : List UInt8 → Option (UInt8 × Nat)) (l : List UInt8) (w : World) (i : Nat) (v : Value) (wr : World) : Prop :=
  ∃ acc f, OwnB B v acc wr ∧ Below B w wr ∧ acc.length ≤ i ∧ l.length < f + i ∧ Q.run step l f i acc = Q.run step l l.length 1 []

set_option maxHeartbeats 1000000 in
set_option maxRecDepth 100000 in
theorem unquote_any (s : ByteArray) (w : World) (hs : s.size ≤ 1000000000) :
    Calls Tryd.prog 9 #[.string s] w fun e w' => e = .returned (unqV (Q.unq Q.stepP s.data.toList)) ∧ Below w.heap.size w w' := by
  have Hsl : Hid (s.data.toList.length = s.size) := rfl
  rcases Nat.eq_zero_or_pos s.size with h0 | h0
  · have h1 := (str_nil h0).1
    have h2 := (str_nil h0).2
    have Hv : Hid (unqV (Q.unq Q.stepP s.data.toList) = .tuple #[.string ⟨#[]⟩, .int .i64 0, .int .i64 9]) := by
      have : s.data.toList = [] := List.length_eq_zero_iff.1 h0
      show _ = _
      rw [this]; rfl
    clear h0
    go_enter Tryd.func9, Tryd.ntmps9
    go_wp2
    go_ret3
    exact ⟨by rw [Hv.out]; rfl, Below.refl _ _⟩
  have h1 := (str_ne h0).1
  have h2 := (str_ne h0).2
  have Hl := Lib.hid (bytes1 s h0)
  by_cases hq : s[0].toNat = 34
  · have e1 : ((s[0].toNat : Int) != 34) = false := by simp [hq]
    obtain ⟨R, HR⟩ : ∃ R, Hid (Q.run Q.stepP s.data.toList s.data.toList.length 1 [] = R) := ⟨_, Lib.hid rfl⟩
    have Hv : Hid (Q.unq Q.stepP s.data.toList = R) := by
      show _ = _
      rw [← HR.out]
      unfold Q.unq
      split
      · rename_i he; rw [he] at Hl; cases Hl.out
      · rename_i c r he
        have : c = s[0] := by have h := Hl.out; rw [he] at h; exact (List.cons.inj h).1
        rw [if_pos (by rw [this]; exact hq)]
    rw [Hv.out]
    clear hq
    have Hr0 : URel w.heap.size Q.stepP s.data.toList w 1 (.slice none 0 0) w := ⟨[], s.data.toList.length, OwnB.nil _ _, Below.refl _ _, by simp, by omega, rfl⟩
    go_enter Tryd.func9, Tryd.ntmps9
    go_wp2_with fail
    go_loopw [5, 6] (fun v i wr => ∃ k : Nat, 1 ≤ k ∧ k ≤ s.size ∧ i = .int .i64 k ∧ URel w.heap.size Q.stepP s.data.toList w k v wr) (fun _ i _ => s.size - (intOf i).toNat)
    case atStart => exact ⟨1, Nat.le_refl _, h0, rfl, Hr0⟩
    case round =>
      obtain ⟨k, hk1, hk, rfl, acc, f, hown, hbl, hacc, hf, hrun⟩ := hrel
      clear Hr0
      have hsz : w.heap.size ≤ wr.heap.size := hbl.size
      rw [Hsl.out] at hf
      rw [HR.out] at hrun
      obtain ⟨g, rfl⟩ : ∃ g, f = g + 1 := ⟨f - 1, by omega⟩
      have Hrun := Lib.hid hrun
      have Hown := Lib.hid hown
      clear hrun hown
      by_cases hlt : k < s.size
      · have Hd := Lib.hid (drop_bytes s k hlt)
        have c1 : (s[k].toNat : Int) < 256 := by have := s[k].toNat_lt; omega
        by_cases hA : s[k].toNat = 34
        · have e2 : ((s[k].toNat : Int) == 34) = true := by simp [hA]
          have HR2 : Hid (R = some (acc, k + 1)) := by
            show _ = _
            rw [← Hrun.out]; unfold Q.run; rw [Hd.out]; simp [hA]
          clear hA
          have hcv := Hown.out.conv
          go_wp2_with fail
          go_ret3
          exact ⟨by rw [HR2.out]; rfl, hbl⟩
        have e2 : ((s[k].toNat : Int) == 34) = false := by simp; omega
        by_cases hB : s[k].toNat = 92
        · have e3 : ((s[k].toNat : Int) == 92) = true := by simp [hB]
          have hz : (s.extract (k + 1) s.size).size ≤ 1000000000 := by rw [ByteArray.size_extract]; omega
          have hle := esc_le (s.data.toList.drop (k + 1))
          rw [List.length_drop, Hsl.out] at hle
          obtain ⟨E, HE⟩ : ∃ E, Hid (Q.esc (s.data.toList.drop (k + 1)) = E) := ⟨_, Lib.hid rfl⟩
          rw [HE.out] at hle
          obtain ⟨x, n⟩ := E
          have hle' : n ≤ s.size - (k + 1) := hle
          clear hle
          have Hstep : Hid (Q.run Q.stepP s.data.toList (g + 1) k acc = if n = 0 then none else Q.run Q.stepP s.data.toList g (k + (1 + n)) (acc ++ [x])) := by
            show _ = _
            conv => lhs; unfold Q.run
            rw [Hd.out]
            simp only [Q.stepP]
            rw [if_neg hA, if_pos hB, HE.out]
            by_cases h : n = 0 <;> simp [h]
          clear hA hB
          have Hesc : Hid (∀ w', Calls Tryd.prog 18 #[.string (s.extract (k + 1) s.size)] w' fun e w'' => e = .returned (.tuple #[.int .u8 x.toNat, .int .i64 n]) ∧ Below w'.heap.size w' w'') := fun w' =>
            (escaped_any _ w' hz).mono fun e w'' ⟨h1, h2⟩ => ⟨by rw [h1, extract_list, HE.out]; rfl, h2⟩
          clear hz
          go_wp2_with fail
          ((with_reducible refine (Hesc.out _).mono ?_); rintro e w1 ⟨rfl, hl1⟩)
          have hz1 := hl1.size
          by_cases hn : n = 0
          · have e4 : ((n : Int) == 0) = true := by simp [hn]
            have HR2 : Hid (R = none) := by
              show _ = _
              rw [← Hrun.out, Hstep.out, if_pos hn]
            clear hn
            go_wp2_with fail
            go_ret3
            exact ⟨by rw [HR2.out]; rfl, hbl.trans (hl1.mono (by omega))⟩
          · have e4 : ((n : Int) == 0) = false := by simp; omega
            have HR2 := Hstep.out
            rw [if_neg hn, Hrun.out] at HR2
            have HR3 := Lib.hid HR2.symm
            have hn1 : 1 ≤ n := by omega
            clear HR2 hn Hstep Hrun
            go_wp2_with (at_builtin; refine app_bytes (w0 := w1) rfl _ _ rfl w.heap.size _ _ [x] _ _ rfl (Hown.out.kept hl1) rfl rfl (by simp [Lib.byteCells]) (by omega) (by simp only [List.length_cons, List.length_nil]; omega) ?_; intro v' w2 hb2 hg2 hl2; clear hg2)
            go_roundw
            case rel => exact ⟨k + (1 + n), by omega, by omega, by go_num, acc ++ [x], g, hb2, (hbl.trans (hl1.mono (by omega))).trans hl2, by simp; omega, by rw [Hsl.out]; omega, by rw [HR3.out, HR.out]⟩
            case measure => simp [intOf]; omega
        have e3 : ((s[k].toNat : Int) == 92) = false := by simp; omega
        by_cases hC : Q.hidI s[k].toNat ∨ s[k].toNat = 10
        · have HR2 : Hid (R = none) := by
            show _ = _
            rw [← Hrun.out]; unfold Q.run; rw [Hd.out]
            simp only [Q.stepP]
            rw [if_neg hA, if_neg hB, if_pos hC]
          clear hA hB
          by_cases hh : Q.hidI s[k].toNat
          · clear hC
            go_wp2_with fail
            ((with_reducible refine (hidden_yes _ _ (by unfold Q.hidI at hh; exact hh)).mono ?_); rintro e wx ⟨rfl, rfl⟩)
            go_wp2_with fail
            go_ret3
            exact ⟨by rw [HR2.out]; rfl, hbl⟩
          · have e4 : ((s[k].toNat : Int) == 10) = true := by have := hC.resolve_left hh; simp; omega
            clear hC
            go_wp2_with fail
            ((with_reducible refine (hidden_no _ _ (by unfold Q.hidI at hh; exact hh)).mono ?_); rintro e wx ⟨rfl, rfl⟩)
            go_wp2_with fail
            go_ret3
            exact ⟨by rw [HR2.out]; rfl, hbl⟩
        · have HR3 : Hid (Q.run Q.stepP s.data.toList g (k + 1) (acc ++ [s[k]]) = R) := by
            show _ = _
            rw [← Hrun.out]
            conv => rhs; unfold Q.run
            rw [Hd.out]
            simp only [Q.stepP]
            rw [if_neg hA, if_neg hB, if_neg hC]
          have e4 : ((s[k].toNat : Int) == 10) = false := by simp; omega
          have hh : ¬ Q.hidI s[k].toNat := fun h => hC (.inl h)
          clear hA hB hC
          go_wp2_with fail
          ((with_reducible refine (hidden_no _ _ (by unfold Q.hidI at hh; exact hh)).mono ?_); rintro e wx ⟨rfl, rfl⟩)
          clear hh
          go_wp2_with (at_builtin; refine app_bytes rfl _ _ rfl w.heap.size _ _ [s[k]] _ _ rfl Hown.out rfl rfl (by simp [Lib.byteCells]) hsz (by simp only [List.length_cons, List.length_nil]; omega) ?_; intro v' w2 hb2 hg2 hl2; clear hg2)
          go_roundw
          case rel => exact ⟨k + 1, by omega, by omega, by go_num, acc ++ [s[k]], g, hb2, hbl.trans hl2, by simp; omega, by rw [Hsl.out]; omega, by rw [HR3.out, HR.out]⟩
          case measure => simp [intOf]; omega
      · have HR2 : Hid (R = none) := by
          show _ = _
          rw [← Hrun.out]; unfold Q.run; rw [drop_none s k (by omega)]
        go_wp2_with fail
        go_ret3
        exact ⟨by rw [HR2.out]; rfl, hbl⟩
  · have e1 : ((s[0].toNat : Int) != 34) = true := by simp; omega
    have Hv : Hid (unqV (Q.unq Q.stepP s.data.toList) = .tuple #[.string ⟨#[]⟩, .int .i64 0, .int .i64 9]) := by
      show _ = _
      rw [Hl.out]
      simp only [Q.unq]
      rw [if_neg hq]
      rfl
    clear hq
    go_enter Tryd.func9, Tryd.ntmps9
    go_wp2
    go_ret3
    exact ⟨by rw [Hv.out]; rfl, Below.refl _ _⟩
end Go.Proofs.YtmpndobeildbhaaDoor
