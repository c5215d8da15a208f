/- What handref2.points and handref2.Far return. -/
import Derived.Test.YtmlpkejeglpciaaDoorPoints
import Derived.Test.YtmlpkejeglpciaaDoorLevLaw
import Derived.Test.YtmlpkejeglpciaaDoorMix
namespace Go.Proofs.YtmlpkejeglpciaaDoor
open Go.RowKit

/-- a slice of ints is made -/
def GivesI64 (l : List Int) (w : World) (e : Ending) (w' : World) : Prop := ∃ v, e = .returned v ∧ w'.ownsRow w.heap.size 3 1 v l.length (l.map (Value.int .i64)) ∧ Below w.heap.size w w'

set_option maxHeartbeats 1000000 in
set_option maxRecDepth 100000 in
theorem refpoints_any (s : ByteArray) (w : World) (hs : s.size ≤ 1000000) (hT : Tabs w) :
    Calls Tryd.prog 46 #[.string s] w (GivesI64 (pts s.size s) w) := by
  have HT := Lib.hid hT
  clear hT
  go_enter Tryd.func46, Tryd.ntmps46
  go_wp2_with fail
  go_loopw [0, 3] (fun r v wr => ∃ (acc : List Int) (f : Nat) (rest : ByteArray), r = .string rest ∧ rest.size ≤ f ∧ acc.length + rest.size ≤ s.size ∧ acc ++ pts f rest = pts s.size s ∧ wr.ownsRow w.heap.size 3 1 v acc.length (acc.map (Value.int .i64)) ∧ Below w.heap.size w wr) (fun r _ _ => match r with | .string t => t.size | _ => 0)
  case atStart => exact ⟨[], s.size, s, rfl, Nat.le_refl _, by simp, rfl, World.ownsRow_nil _ _ _ _, Below.refl _ _⟩
  case round =>
    obtain ⟨acc, f, rest, rfl, hf, hlen, hacc, hown, hbl⟩ := hrel
    have Hacc := Lib.hid hacc
    have Hown := Lib.hid hown
    clear hacc hown
    have hsz := hbl.size
    rcases Nat.eq_zero_or_pos rest.size with h0 | h0
    · have n1 := (str_nil h0).1
      have n2 := (str_nil h0).2
      have Hv : Hid (acc = pts s.size s) := by show _ = _; rw [← Hacc.out, pts_nil _ _ h0, List.append_nil]
      clear h0
      go_wp2_with fail
      go_ret
      exact ⟨u3, rfl, by rw [← Hv.out]; exact Hown.out, hbl⟩
    · have n1 := (str_ne h0).1
      have n2 := (str_ne h0).2
      have hd := dec_rng rest h0
      obtain ⟨g, rfl⟩ : ∃ g, f = g + 1 := ⟨f - 1, by omega⟩
      have Hp := Lib.hid (pts_cons g rest h0)
      have Hdec : Hid (∀ w', Tabs w' → Calls Tryd.prog 64 #[.string rest] w' fun e w'' => e = .returned (.tuple #[.int .i32 (Lib.decodeGo rest).1, .int .i64 (Lib.decodeGo rest).2]) ∧ Below w'.heap.size w' w'') := fun w' h => Tryd.utf8_DecodeRuneInString rest w' h
      obtain ⟨d, Hd⟩ : ∃ d, Hid (Lib.decodeGo rest = d) := ⟨_, Lib.hid rfl⟩
      rw [Hd.out] at hd Hp Hdec
      obtain ⟨r, n⟩ := d
      obtain ⟨hn1, hn2, hr⟩ : 1 ≤ n ∧ n ≤ rest.size ∧ r ≤ 1114111 := hd
      clear Hd
      have Hz : Hid ((rest.extract n rest.size).size = rest.size - n) := by show _ = _; rw [ByteArray.size_extract]; omega
      go_wp2_with fail
      refine (Hdec.out _ (Utf8Tabs_below HT.out (hbl.mono (Nat.le_refl _)))).mono ?_
      rintro e w1 ⟨rfl, hl1⟩
      have hz1 := hl1.size
      clear Hdec
      by_cases hbad : r = 65533 ∧ n = 1
      · have Hx : Hid (pts (g + 1) rest = (-1 - (rest[0].toNat : Int)) :: pts g (rest.extract n rest.size)) := by show _ = _; rw [Hp.out, if_pos hbad]
        have e1 : ((r : Int) == 65533) = true := by simp [hbad.1]
        have e2 : ((n : Int) == 1) = true := by simp [hbad.2]
        have hc := rest[0].toNat_lt
        clear hbad Hp
        go_wp2_with (at_builtin; refine app_lit (w0 := w1) tyInts rfl _ _ rfl w.heap.size _ _ _ _ _ rfl (own_keep Hown.out hl1) rfl rfl (by simp [Value.oneCell']) (by omega) (by omega) (by decide) ?_; intro v' w2 hb2 hg2 hl2 hn2'; clear hg2 hn2')
        go_roundw
        case rel => exact ⟨acc ++ [-1 - (rest[0].toNat : Int)], g, rest.extract n rest.size, rfl, by rw [Hz.out]; omega, by rw [Hz.out, List.length_append]; simp; omega, by rw [← Hacc.out, Hx.out]; simp, by simpa using hb2, (hbl.trans (hl1.mono (by omega))).trans hl2⟩
        case measure => simp [Hz.out]; omega
      · have Hx : Hid (pts (g + 1) rest = (r : Int) :: pts g (rest.extract n rest.size)) := by show _ = _; rw [Hp.out, if_neg hbad]
        clear Hp
        by_cases h1 : r = 65533
        · have e1 : ((r : Int) == 65533) = true := by simp [h1]
          have e2 : ((n : Int) == 1) = false := by simp; omega
          clear hbad h1
          go_wp2_with (at_builtin; refine app_lit (w0 := w1) tyInts rfl _ _ rfl w.heap.size _ _ _ _ _ rfl (own_keep Hown.out hl1) rfl rfl (by simp [Value.oneCell']) (by omega) (by omega) (by decide) ?_; intro v' w2 hb2 hg2 hl2 hn2'; clear hg2 hn2')
          go_roundw
          case rel => exact ⟨acc ++ [(r : Int)], g, rest.extract n rest.size, rfl, by rw [Hz.out]; omega, by rw [Hz.out, List.length_append]; simp; omega, by rw [← Hacc.out, Hx.out]; simp, by simpa using hb2, (hbl.trans (hl1.mono (by omega))).trans hl2⟩
          case measure => simp [Hz.out]; omega
        · have e1 : ((r : Int) == 65533) = false := by simp; omega
          clear hbad h1
          go_wp2_with (at_builtin; refine app_lit (w0 := w1) tyInts rfl _ _ rfl w.heap.size _ _ _ _ _ rfl (own_keep Hown.out hl1) rfl rfl (by simp [Value.oneCell']) (by omega) (by omega) (by decide) ?_; intro v' w2 hb2 hg2 hl2 hn2'; clear hg2 hn2')
          go_roundw
          case rel => exact ⟨acc ++ [(r : Int)], g, rest.extract n rest.size, rfl, by rw [Hz.out]; omega, by rw [Hz.out, List.length_append]; simp; omega, by rw [← Hacc.out, Hx.out]; simp, by simpa using hb2, (hbl.trans (hl1.mono (by omega))).trans hl2⟩
          case measure => simp [Hz.out]; omega


/-- the row of n numbers is in block blk -/
def RowAt (B blk n : Nat) (g : Nat → Nat) (w : World) : Prop := w.ownsRow B 3 1 (.slice (some ⟨blk, 0, none⟩) n n) n (rowOf n g)
theorem RowAt.cell {B blk n : Nat} {g : Nat → Nat} {w : World} (h : RowAt B blk n g w) (j : Nat) (hj : j < n) : w.cell? ⟨blk, j, none⟩ = some (.int .i64 (g j)) := by
  have := World.ownsRow.cellAt h j (by omega)
  rw [this, rowOf_get n g j hj]
theorem RowAt.free {B blk n : Nat} {g : Nat → Nat} {w : World} (h : RowAt B blk n g w) (j : Nat) : w.frozen? ⟨blk, j, none⟩ = false := World.ownsRow.frozenAt h j
theorem RowAt.lt {B blk n : Nat} {g : Nat → Nat} {w : World} (h : RowAt B blk n g w) : B ≤ blk ∧ blk < w.heap.size := World.ownsRow.lt h blk rfl
theorem RowAt.put {B blk n : Nat} {g : Nat → Nat} {w : World} (h : RowAt B blk n g w) (j u : Nat) : RowAt B blk n (fun t => if t = j then u else g t) (w.setCell ⟨blk, j, none⟩ (.int .i64 u)) := by
  have := (World.ownsRow.stored h j (.int .i64 u)).1
  unfold RowAt
  rw [← rowOf_set]
  exact this
theorem RowAt.other {B blk n : Nat} {g : Nat → Nat} {w : World} (h : RowAt B blk n g w) (c j : Nat) (u : Value) (hc : c ≠ blk) : RowAt B blk n g (w.setCell ⟨c, j, none⟩ u) :=
  World.ownsRow.kept (row := some c) h ⟨rfl, rfl, rfl, by simp [World.setCell], fun k _ hk => Below.heap_setCell _ _ _ _ (fun e => hk (by simp [e]))⟩ (.inr (by simp [Value.ownBlock]; omega))
theorem RowAt.keep {B blk n : Nat} {g : Nat → Nat} {w w' : World} (h : RowAt B blk n g w) (hk : Below w.heap.size w w') : RowAt B blk n g w' := own_keep h hk

theorem lev_end (a b : List Int) (t : Nat) (_ht : t ≤ b.length) : D.lev (a.drop a.length) (b.drop t) = b.length - t := by
  rw [List.drop_length, D.lev_nil, List.length_drop]
theorem lev_col (a b : List Int) (i : Nat) : D.lev (a.drop i) (b.drop b.length) = a.length - i := by
  rw [List.drop_length, D.lev_nil', List.length_drop]
theorem lev_at (a b : List Int) (i k : Nat) (x y : Int) (hx : a[i]? = some x) (hy : b[k]? = some y) :
    D.lev (a.drop i) (b.drop k) = if x = y then D.lev (a.drop (i + 1)) (b.drop (k + 1)) else 1 + min (min (D.lev (a.drop (i + 1)) (b.drop (k + 1))) (D.lev (a.drop (i + 1)) (b.drop k))) (D.lev (a.drop i) (b.drop (k + 1))) := by
  obtain ⟨hi, ex⟩ := List.getElem?_eq_some_iff.1 hx
  obtain ⟨hk, ey⟩ := List.getElem?_eq_some_iff.1 hy
  have e1 : a.drop i = x :: a.drop (i + 1) := by rw [List.drop_eq_getElem_cons hi, ex]
  have e2 : b.drop k = y :: b.drop (k + 1) := by rw [List.drop_eq_getElem_cons hk, ey]
  rw [e1, e2, D.lev_cons, ← e1, ← e2]
theorem lev_small (a b : List Int) : D.lev a b ≤ a.length + b.length := by
  have h := D.pre_le a b a.length b.length
  rwa [D.pre_eq] at h

set_option maxHeartbeats 4000000 in
set_option maxRecDepth 100000 in
theorem refFar_any (a b : ByteArray) (w : World) (ha : a.size ≤ 200) (hb : b.size ≤ 200) (hT : Tabs w) :
    Calls Tryd.prog 51 #[.string a, .string b] w fun e w' => e = .returned (.int .i64 (far a b)) ∧ Below w.heap.size w w' := by
  have HT := Lib.hid hT
  clear hT
  have hna := pts_len a.size a (Nat.le_refl _)
  have hnb := pts_len b.size b (Nat.le_refl _)
  have Hpa : Hid (∀ w', Tabs w' → Calls Tryd.prog 46 #[.string a] w' (GivesI64 (pts a.size a) w')) := fun w' h => refpoints_any a w' (by omega) h
  have Hpb : Hid (∀ w', Tabs w' → Calls Tryd.prog 46 #[.string b] w' (GivesI64 (pts b.size b) w')) := fun w' h => refpoints_any b w' (by omega) h
  have Hfar : Hid (far a b = D.lev (pts a.size a) (pts b.size b)) := by show _ = _; unfold far; rw [D.pre_eq]
  rw [Hfar.out]
  clear Hfar
  generalize pts a.size a = xs at *
  generalize pts b.size b = ys at *
  go_enter Tryd.func51, Tryd.ntmps51
  go_wp2_with fail
  refine (Hpa.out _ HT.out).mono ?_
  rintro e w1 ⟨va, rfl, hoa, hl1⟩
  have hz1 := hl1.size
  have Hoa := Lib.hid hoa
  clear hoa
  go_wp2_with fail
  refine (Hpb.out _ (Utf8Tabs_below HT.out hl1)).mono ?_
  rintro e w2 ⟨vb, rfl, hob, hl2⟩
  have hz2 := hl2.size
  have Hb2 : Hid (Below w.heap.size w w2) := hl1.trans (hl2.mono (by omega))
  have Hra := Lib.hid ((Rd.ofOwn Hoa.out).keep hl2)
  have Hrb := Lib.hid (Rd.ofOwn hob)
  clear hob Hoa hl1 hl2 Hpa Hpb HT
  obtain ⟨aa, ca, rfl⟩ : ∃ x c, va = .slice x xs.length c := by
    rcases Hra.out.2 with ⟨x, c, rfl, h0⟩ | ⟨blk, off, cap, rfl, _⟩
    · exact ⟨x, c, by rw [h0]⟩
    · exact ⟨_, cap, rfl⟩
  obtain ⟨ab, cb, rfl⟩ : ∃ x c, vb = .slice x ys.length c := by
    rcases Hrb.out.2 with ⟨x, c, rfl, h0⟩ | ⟨blk, off, cap, rfl, _⟩
    · exact ⟨x, c, by rw [h0]⟩
    · exact ⟨_, cap, rfl⟩
  have Ha : Hid (∀ i, i < xs.length → ∃ blk off x, aa = some ⟨blk, off, none⟩ ∧ blk < w2.heap.size ∧ xs[i]? = some x ∧ w2.cell? ⟨blk, off + i, none⟩ = some (.int .i64 x)) := by
    intro i hi
    rcases Hra.out.2 with ⟨x, c, he, h0⟩ | ⟨blk, off, cap, he, hk, hc⟩
    · omega
    · cases he
      exact ⟨blk, off, _, rfl, hk, List.getElem?_eq_getElem hi, hc i _ (by simp [hi])⟩
  have Hb : Hid (∀ i, i < ys.length → ∃ blk off x, ab = some ⟨blk, off, none⟩ ∧ blk < w2.heap.size ∧ ys[i]? = some x ∧ w2.cell? ⟨blk, off + i, none⟩ = some (.int .i64 x)) := by
    intro i hi
    rcases Hrb.out.2 with ⟨x, c, he, h0⟩ | ⟨blk, off, cap, he, hk, hc⟩
    · omega
    · cases he
      exact ⟨blk, off, _, rfl, hk, List.getElem?_eq_getElem hi, hc i _ (by simp [hi])⟩
  clear Hra Hrb
  go_wp2_with (at_make; refine make_n (w0 := w2) tyInts rfl _ _ rfl w2.heap.size (ys.length + 1) _ _ rfl rfl (by omega) (by omega) (Nat.le_refl _) (by omega) (by decide) ?_; intro w3 hown3 hg3 hl3; rw [rowOf_made] at hown3; clear hg3)
  have Hr3 := Lib.hid (show RowAt w2.heap.size w2.heap.size (ys.length + 1) (fun _ => 0) w3 from hown3)
  clear hown3
  go_loopw [22] (fun i wr => ∃ k g, k ≤ ys.length + 1 ∧ i = .int .i64 k ∧ RowAt w2.heap.size w2.heap.size (ys.length + 1) g wr ∧ (∀ t, t < k → g t = ys.length - t) ∧ Below w2.heap.size w2 wr) (fun i _ => ys.length + 1 - (intOf i).toNat)
  case atStart => exact ⟨0, fun _ => 0, by omega, rfl, Hr3.out, fun t ht => absurd ht (by omega), hl3⟩
  case round =>
    obtain ⟨k, g, hk, rfl, hrow, hg, hbl⟩ := hrel
    clear Hr3 hl3
    have Hrow := Lib.hid hrow
    have Hg := Lib.hid hg
    clear hrow hg
    by_cases hlt : k < ys.length + 1
    · have c1 := Hrow.out.cell k hlt
      have f1 := Hrow.out.free k
      have Hput := Lib.hid (Hrow.out.put k (ys.length - k))
      have hblp := hbl.setCell (p := ⟨w2.heap.size, k, none⟩) (Nat.le_refl _) (.int .i64 ((ys.length - k : Nat) : Int))
      go_wp2_with fail
      rw [show ((ys.length : Int) - k) = ((ys.length - k : Nat) : Int) from by omega]
      go_roundw
      case rel =>
        refine ⟨k + 1, _, by omega, by go_num, Hput.out, fun t ht => ?_, hblp⟩
        by_cases h : t = k
        · rw [if_pos h, h]
        · rw [if_neg h]; exact Hg.out t (by omega)
      case measure => simp [intOf]; omega
    · have Hp0 : Hid (∀ t, t ≤ ys.length → g t = D.lev (xs.drop (xs.length - 0)) (ys.drop t)) := fun t ht => by rw [Hg.out t (by omega), Nat.sub_zero, lev_end xs ys t ht]
      clear Hg
      go_wp2_with fail
      obtain ⟨wo, hwo⟩ : ∃ wo : World, wo = wr := ⟨_, rfl⟩
      subst hwo
      go_loopw [7, 9] (fun v i wr => ∃ c blk g, c ≤ xs.length ∧ i = .int .i64 ((xs.length : Int) - 1 - c) ∧ v = .slice (some ⟨blk, 0, none⟩) (ys.length + 1) (ys.length + 1) ∧ RowAt w2.heap.size blk (ys.length + 1) g wr ∧ (∀ t, t ≤ ys.length → g t = D.lev (xs.drop (xs.length - c)) (ys.drop t)) ∧ Below w2.heap.size w2 wr) (fun _ i _ => (intOf i + 1).toNat)
      case atStart => exact ⟨0, _, g, by omega, by simp, rfl, Hrow.out, Hp0.out, hbl⟩
      case round =>
        clear Hp0 Hrow hbl hlt hk
        obtain ⟨c, blk, g2, hc, rfl, rfl, hrow, hg, hbl⟩ := hrel
        have Hrow := Lib.hid hrow
        have Hg := Lib.hid hg
        have hblt := hrow.lt
        clear hrow hg
        by_cases hlt : c < xs.length
        · obtain ⟨i, hi⟩ : ∃ i : Nat, xs.length - 1 - c = i := ⟨_, rfl⟩
          have e1 : ((xs.length : Int) - 1 - c) = (i : Int) := by omega
          have hil : i < xs.length := by omega
          have Hc : Hid (xs.length - c = i + 1) := by show _ = _; omega
          have Hc2 : Hid (xs.length - (c + 1) = i) := by show _ = _; omega
          rw [Hc.out] at Hg
          obtain ⟨ablk, aoff, x, rfl, hablk, hx, hca⟩ := Ha.out i hil
          have Hx := Lib.hid hx
          have Hca := Lib.hid hca
          clear hx hca hi
          simp only [e1]
          have He1 := Lib.hid e1
          clear e1
          go_wp2_with (at_make; refine make_n (w0 := wr) tyInts rfl _ _ rfl w2.heap.size (ys.length + 1) _ _ rfl rfl (by omega) (by omega) (by omega) (by omega) (by decide) ?_; intro w4 hown4 hg4 hl4; rw [rowOf_made] at hown4; clear hg4; have Hr4 := Lib.hid (show RowAt w2.heap.size wr.heap.size (ys.length + 1) (fun _ => 0) w4 from hown4); clear hown4; have cm := Hr4.out.cell ys.length (by omega); have fm := Hr4.out.free ys.length)
          have Hrow4 := Lib.hid (Hrow.out.keep hl4)
          have hbl4 := hbl.trans (hl4.mono (by omega))
          have Hput4 := Lib.hid (Hr4.out.put ys.length (xs.length - i))
          have Hoth4 := Lib.hid (Hrow4.out.other wr.heap.size ys.length (.int .i64 ((xs.length - i : Nat) : Int)) (by omega))
          have hblp := hbl4.setCell (p := ⟨wr.heap.size, ys.length, none⟩) (by show w2.heap.size ≤ wr.heap.size; omega) (.int .i64 ((xs.length - i : Nat) : Int))
          rw [show ((xs.length : Int) - i) = ((xs.length - i : Nat) : Int) from by omega]
          clear Hr4 Hrow4 cm fm hbl4 Hrow hbl hl4
          generalize w4.setCell ⟨wr.heap.size, ys.length, none⟩ (.int .i64 ((xs.length - i : Nat) : Int)) = w5 at *
          have Hblk : Hid (blk ≠ wr.heap.size) := by show _ ≠ _; omega
          have hnb2 : w2.heap.size ≤ wr.heap.size := by omega
          obtain ⟨nb, Hnb⟩ : ∃ nb, Hid (wr.heap.size = nb) := ⟨_, Lib.hid rfl⟩
          rw [Hnb.out] at Hput4 Hblk hnb2 ⊢
          clear hblt
          go_loopw [11] (fun j wi => ∃ d g3, d ≤ ys.length ∧ j = .int .i64 ((ys.length : Int) - 1 - d) ∧ RowAt w2.heap.size nb (ys.length + 1) g3 wi ∧ RowAt w2.heap.size blk (ys.length + 1) g2 wi ∧ (∀ t, t ≤ ys.length → ys.length - d ≤ t → g3 t = D.lev (xs.drop i) (ys.drop t)) ∧ Below w2.heap.size w2 wi) (fun j _ => (intOf j + 1).toNat)
          case atStart =>
            refine ⟨0, _, by omega, by simp, Hput4.out, Hoth4.out, fun t ht1 ht2 => ?_, hblp⟩
            rw [if_pos (by omega), show t = ys.length from by omega, lev_col]
          case round =>
            clear Hput4 Hoth4 hblp
            obtain ⟨d, g3, hd, rfl, hrow, hold, hg, hbi⟩ := hrel
            have Hrow := Lib.hid hrow
            have Hold := Lib.hid hold
            have Hg3 := Lib.hid hg
            clear hrow hold hg
            by_cases hdl : d < ys.length
            · obtain ⟨k2, hk2⟩ : ∃ k : Nat, ys.length - 1 - d = k := ⟨_, rfl⟩
              have e2 : ((ys.length : Int) - 1 - d) = (k2 : Int) := by omega
              have hkl : k2 < ys.length := by omega
              have Hd : Hid (ys.length - d = k2 + 1) := by show _ = _; omega
              have Hd2 : Hid (ys.length - (d + 1) = k2) := by show _ = _; omega
              have Hd3 : Hid ((ys.length : Int) - 1 - ((d + 1 : Nat) : Int) = (k2 : Int) - 1) := by show _ = _; omega
              rw [Hd.out] at Hg3
              obtain ⟨bblk, boff, y, rfl, hbblk, hy, hcb⟩ := Hb.out k2 hkl
              have Hy := Lib.hid hy
              have hcx : wr.cell? ⟨ablk, aoff + i, none⟩ = some (.int .i64 x) := by rw [hbi.cell (p := ⟨ablk, aoff + i, none⟩) hablk]; exact Hca.out
              have hcy : wr.cell? ⟨bblk, boff + k2, none⟩ = some (.int .i64 y) := by rw [hbi.cell (p := ⟨bblk, boff + k2, none⟩) hbblk]; exact hcb
              have cn := Hrow.out.cell k2 (by omega)
              have fn := Hrow.out.free k2
              have cn1 := Hrow.out.cell (k2 + 1) (by omega)
              rw [Hg3.out (k2 + 1) (by omega) (Nat.le_refl _)] at cn1
              have cl := Hold.out.cell k2 (by omega)
              have cl1 := Hold.out.cell (k2 + 1) (by omega)
              rw [Hg.out k2 (by omega)] at cl
              rw [Hg.out (k2 + 1) (by omega)] at cl1
              have Hlev := Lib.hid (lev_at xs ys i k2 x y Hx.out Hy.out)
              have l1 := lev_small (xs.drop (i + 1)) (ys.drop (k2 + 1))
              have l2 := lev_small (xs.drop (i + 1)) (ys.drop k2)
              have l3 := lev_small (xs.drop i) (ys.drop (k2 + 1))
              have hdx : (xs.drop i).length ≤ 200 := by rw [List.length_drop]; omega
              have hdx1 : (xs.drop (i + 1)).length ≤ 200 := by rw [List.length_drop]; omega
              have hdy : (ys.drop k2).length ≤ 200 := by rw [List.length_drop]; omega
              have hdy1 : (ys.drop (k2 + 1)).length ≤ 200 := by rw [List.length_drop]; omega
              have Hput : Hid (∀ wx, Below wr.heap.size wr wx → RowAt w2.heap.size nb (ys.length + 1) (fun t => if t = k2 then D.lev (xs.drop i) (ys.drop k2) else g3 t) (wx.setCell ⟨nb, k2, none⟩ (.int .i64 ((D.lev (xs.drop i) (ys.drop k2) : Nat) : Int)))) := fun wx h => (Hrow.out.keep h).put k2 _
              have Hoth : Hid (∀ wx, Below wr.heap.size wr wx → RowAt w2.heap.size blk (ys.length + 1) g2 (wx.setCell ⟨nb, k2, none⟩ (.int .i64 ((D.lev (xs.drop i) (ys.drop k2) : Nat) : Int)))) := fun wx h => (Hold.out.keep h).other nb k2 _ Hblk.out.symm
              have hzi := hbi.size
              have Hblp : Hid (∀ wx, Below wr.heap.size wr wx → Below w2.heap.size w2 (wx.setCell ⟨nb, k2, none⟩ (.int .i64 ((D.lev (xs.drop i) (ys.drop k2) : Nat) : Int)))) := fun wx h => (hbi.trans (h.mono hzi)).setCell (p := ⟨nb, k2, none⟩) hnb2 _
              have Hend : Hid (∀ t, t ≤ ys.length → ys.length - (d + 1) ≤ t → (fun t => if t = k2 then D.lev (xs.drop i) (ys.drop k2) else g3 t) t = D.lev (xs.drop i) (ys.drop t)) := fun t h1 h2 => by
                show (if t = k2 then _ else _) = _
                by_cases h : t = k2
                · rw [if_pos h, h]
                · rw [if_neg h]; exact Hg3.out t h1 (by rw [Hd2.out] at h2; omega)
              generalize D.lev (xs.drop (i + 1)) (ys.drop (k2 + 1)) = p1 at *
              generalize D.lev (xs.drop (i + 1)) (ys.drop k2) = p2 at *
              obtain ⟨p3, Hp3⟩ : ∃ p, Hid (D.lev (xs.drop i) (ys.drop (k2 + 1)) = p) := ⟨_, Lib.hid rfl⟩
              rw [Hp3.out] at cn1 l3 Hlev
              clear hk2 hcb hy Hd
              simp only [e2]
              clear e2
              by_cases hxy : x = y
              · rw [if_pos hxy] at Hlev
                rw [Hlev.out] at Hput Hoth Hblp
                have e3 : (x == y) = true := by simp [hxy]
                clear hxy
                go_wp2_with fail
                refine wp_region_quiet_lit (by kernel_rfl) (by kernel_rfl) ?_
                repeat (refine wpQuiet_step (fun K hK => ?_); go_simp; (try go_bits); (try simp (disch := omega) only [if_pos]); (try simp (disch := omega) only [if_neg]); (try go_simp); (refine hK _ ?_; clear hK K))
                refine wpQuiet_nil ?_
                intro _ hw'
                obtain ⟨nq, hw''⟩ := hw'
                subst hw''
                go_wp2_with fail
                go_roundw
                case rel => exact ⟨d + 1, _, by omega, by rw [Hd3.out], Hput.out _ (below_drewN _ _ _), Hoth.out _ (below_drewN _ _ _), by rw [← Hlev.out]; exact Hend.out, Hblp.out _ (below_drewN _ _ _)⟩
                case measure => simp [intOf] <;> omega
              · rw [if_neg hxy] at Hlev
                have e3 : (x == y) = false := by simpa using hxy
                clear hxy
                go_wp2_with fail
                refine wp_region_quiet_lit (by kernel_rfl) (by kernel_rfl) ?_
                repeat (refine wpQuiet_step (fun K hK => ?_); go_simp; (try go_bits); (try simp (disch := omega) only [if_pos]); (try simp (disch := omega) only [if_neg]); (try go_simp); (refine hK _ ?_; clear hK K))
                refine wpQuiet_nil ?_
                intro _ hw'
                obtain ⟨nq, hw''⟩ := hw'
                subst hw''
                go_wp2_with fail
                have Hq0 := Lib.hid (below_drewN wr.heap.size wr nq)
                generalize wr.drewN nq = wq at *
                have hkq := Hq0.out
                have ql1 : wq.cell? ⟨blk, k2 + 1, none⟩ = some (.int .i64 p1) := by rw [hkq.cell (p := ⟨blk, k2 + 1, none⟩) Hold.out.lt.2]; exact cl1
                have ql : wq.cell? ⟨blk, k2, none⟩ = some (.int .i64 p2) := by rw [hkq.cell (p := ⟨blk, k2, none⟩) Hold.out.lt.2]; exact cl
                have qn1 : wq.cell? ⟨nb, k2 + 1, none⟩ = some (.int .i64 p3) := by rw [hkq.cell (p := ⟨nb, k2 + 1, none⟩) Hrow.out.lt.2]; exact cn1
                have qn : wq.cell? ⟨nb, k2, none⟩ = some (.int .i64 (g3 k2)) := by rw [hkq.cell (p := ⟨nb, k2, none⟩) Hrow.out.lt.2]; exact cn
                have qf : wq.frozen? ⟨nb, k2, none⟩ = false := by rw [hkq.frozen (p := ⟨nb, k2, none⟩) Hrow.out.lt.2]; exact fn
                clear hkq cl cl1 cn cn1 fn hcx hcy
                refine wp_region_mix (fun w' => w'.cell? ⟨blk, k2 + 1, none⟩ = some (.int .i64 p1) ∧ w'.cell? ⟨blk, k2, none⟩ = some (.int .i64 p2) ∧ w'.cell? ⟨nb, k2 + 1, none⟩ = some (.int .i64 p3)) [(true, 0), (true, 1), (true, 2), (true, 3), (true, 4), (true, 5), (true, 6), (true, 7), (true, 8), (true, 9), (true, 10), (true, 11), (true, 12), (true, 13), (true, 14), (true, 15), (true, 16), (true, 17), (true, 18), (false, 19)] (by kernel_rfl) (by kernel_rfl) (fun w' hd => ⟨by rw [hd.cell]; exact ql1, by rw [hd.cell]; exact ql, by rw [hd.cell]; exact qn1⟩) (fun KK hKK wd hd => ?_)
                have dn : wd.cell? ⟨nb, k2, none⟩ = some (.int .i64 (g3 k2)) := by rw [hd.cell]; exact qn
                have df : wd.frozen? ⟨nb, k2, none⟩ = false := by rw [hd.frozen]; exact qf
                have HC : Hid (wd.cell? ⟨blk, k2 + 1, none⟩ = some (.int .i64 p1) ∧ wd.cell? ⟨blk, k2, none⟩ = some (.int .i64 p2) ∧ wd.cell? ⟨nb, k2 + 1, none⟩ = some (.int .i64 p3)) := ⟨by rw [hd.cell]; exact ql1, by rw [hd.cell]; exact ql, by rw [hd.cell]; exact qn1⟩
                have Hbd : Hid (Below wr.heap.size wr wd) := Hq0.out.trans (hd.below _)
                clear ql1 ql qn1 qn qf
                refine mpR ?_
                refine mix_load (.int .i64 p1) rfl rfl rfl rfl Tryd.isAgg3 (fun w' h => h.1) ?_
                refine mpR ?_
                refine mix_load (.int .i64 p2) rfl rfl rfl rfl Tryd.isAgg3 (fun w' h => h.2.1) ?_
                refine mpR ?_
                refine mix_load (.int .i64 p3) rfl rfl rfl rfl Tryd.isAgg3 (fun w' h => h.2.2) ?_
                refine mpR ?_
                refine mix_l rfl (fun K hK => ?_) HC.out
                go_wp2_with fail
                rw [show (1 + min (p1 : Int) (min (p2 : Int) (p3 : Int))) = ((D.lev (xs.drop i) (ys.drop k2) : Nat) : Int) from by rw [Hlev.out]; omega]
                refine ⟨⟨?_, ?_, ?_⟩, ?_⟩
                · rw [World.cell?_of_block (a := ⟨blk, k2 + 1, none⟩) (Below.heap_setCell wd ⟨nb, k2, none⟩ _ blk Hblk.out)]; exact HC.out.1
                · rw [World.cell?_of_block (a := ⟨blk, k2, none⟩) (Below.heap_setCell wd ⟨nb, k2, none⟩ _ blk Hblk.out)]; exact HC.out.2.1
                · have hgk := Hg3.out (k2 + 1) (by omega) (Nat.le_refl _)
                  rw [(Hput.out wd Hbd.out).cell (k2 + 1) (by omega), if_neg (by omega), hgk, Hp3.out]
                · refine mix_nil ?_
                  simp only [Exit.then]
                  refine hKK _ _ ?_
                  go_wp2_with fail
                  go_roundw
                  case rel => exact ⟨d + 1, _, by omega, by rw [Hd3.out], Hput.out _ Hbd.out, Hoth.out _ Hbd.out, Hend.out, Hblp.out _ Hbd.out⟩
                  case measure => simp [intOf] <;> omega
            · have hde : d = ys.length := by omega
              have e2 : ¬ (0 : Int) ≤ (ys.length : Int) - 1 - d := by omega
              have Hfin : Hid (∀ t, t ≤ ys.length → g3 t = D.lev (xs.drop (xs.length - (c + 1))) (ys.drop t)) := fun t ht => by rw [Hc2.out]; exact Hg3.out t ht (by omega)
              clear hde
              go_wp2_with fail
              go_roundw
              case rel => exact ⟨c + 1, nb, g3, by omega, by have := He1.out; congr 1; omega, rfl, Hrow.out, Hfin.out, hbi⟩
              case measure => simp [intOf] <;> omega
        · have hca : c = xs.length := by omega
          have c0 := Hrow.out.cell 0 (by omega)
          rw [Hg.out 0 (by omega), hca, Nat.sub_self, List.drop_zero, List.drop_zero] at c0
          have e1 : ¬ (0 : Int) ≤ (xs.length : Int) - 1 - c := by omega
          clear hca
          go_wp2_with fail
          go_ret
          exact ⟨rfl, Hb2.out.trans (hbl.mono (by omega))⟩
end Go.Proofs.YtmlpkejeglpciaaDoor
