/- What person.points, person.Distance and handlaw2.people return. -/
import Derived.Test.YtmlpkejeglpciaaDoorDist
import Derived.Test.YtmlpkejeglpciaaDoorQuote
import Derived.Test.YtmlpkejeglpciaaDoorShelf
import Derived.Lib.TrimU
import Derived.Shelf.Unicode.DecodeLastEight
namespace Go.Proofs.YtmlpkejeglpciaaDoor
open Go.RowKit

/-- the code points of a string; a byte that is none is below 0 -/
def pts : Nat → ByteArray → List Int
  | 0, _ => []
  | f + 1, s => if s.size = 0 then [] else
    (if (Lib.decodeGo s).1 = 65533 ∧ (Lib.decodeGo s).2 = 1 then -1 - ((s[0]?.map UInt8.toNat).getD 0 : Int) else (Lib.decodeGo s).1) :: pts f (s.extract (Lib.decodeGo s).2 s.size)

theorem pts_nil (f : Nat) (s : ByteArray) (h : s.size = 0) : pts f s = [] := by cases f <;> simp [pts, h]
theorem pts_cons (f : Nat) (s : ByteArray) (h : 0 < s.size) : pts (f + 1) s = (if (Lib.decodeGo s).1 = 65533 ∧ (Lib.decodeGo s).2 = 1 then -1 - (s[0].toNat : Int) else (Lib.decodeGo s).1) :: pts f (s.extract (Lib.decodeGo s).2 s.size) := by
  have e : s[0]? = some s[0] := getElem?_pos s 0 h
  rw [pts, if_neg (by omega), e]
  rfl
theorem dec_rng (s : ByteArray) (h : 0 < s.size) : 1 ≤ (Lib.decodeGo s).2 ∧ (Lib.decodeGo s).2 ≤ s.size ∧ (Lib.decodeGo s).1 ≤ 1114111 := by
  refine ⟨?_, Lib.decodeGo_le_size s, ?_⟩
  · unfold Lib.decodeGo; rw [if_neg (by omega)]; exact Lib.width_pos s 0
  · unfold Lib.decodeGo; rw [if_neg (by omega)]; exact Lib.rune_le s 0
theorem pts_len : ∀ (f : Nat) (s : ByteArray), s.size ≤ f → (pts f s).length ≤ s.size
  | 0, s, _ => by simp [pts]
  | f + 1, s, h => by
    by_cases h0 : s.size = 0
    · rw [pts_nil _ _ h0]; simp
    · have hr := dec_rng s (by omega)
      have hz : (s.extract (Lib.decodeGo s).2 s.size).size = s.size - (Lib.decodeGo s).2 := by rw [ByteArray.size_extract]; omega
      have := pts_len f (s.extract (Lib.decodeGo s).2 s.size) (by omega)
      rw [pts_cons _ _ (by omega), List.length_cons]
      omega

/-- a slice of int32s is made -/
def GivesI32 (l : List Int) (w : World) (e : Ending) (w' : World) : Prop := ∃ v, e = .returned v ∧ w'.ownsRow w.heap.size 21 1 v l.length (l.map (Value.int .i32)) ∧ Below w.heap.size w w'
theorem tyI32 : STy 85 21 1 4 (.int .i32 0) := ⟨Tryd.underlying85, by kernel_rfl, rfl, by decide⟩

abbrev Tabs (w : World) : Prop := Lib.Utf8Tabs 2 3 w

set_option maxHeartbeats 1000000 in
set_option maxRecDepth 100000 in
theorem points_any (s : ByteArray) (w : World) (hs : s.size ≤ 1000000) (hT : Tabs w) :
    Calls Tryd.prog 48 #[.string s] w (GivesI32 (pts s.size s) w) := by
  have HT := Lib.hid hT
  clear hT
  go_enter Tryd.func48, Tryd.ntmps48
  go_wp2_with fail
  go_loopw [0, 3] (fun r v wr => ∃ (acc : List Int) (f : Nat) (rest : ByteArray), r = .string rest ∧ rest.size ≤ f ∧ acc.length + rest.size ≤ s.size ∧ acc ++ pts f rest = pts s.size s ∧ wr.ownsRow w.heap.size 21 1 v acc.length (acc.map (Value.int .i32)) ∧ Below w.heap.size w wr) (fun r _ _ => match r with | .string t => t.size | _ => 0)
  case atStart => exact ⟨[], s.size, s, rfl, Nat.le_refl _, by simp, rfl, World.ownsRow_nil _ _ _ _, Below.refl _ _⟩
  case round =>
    obtain ⟨acc, f, rest, rfl, hf, hlen, hacc, hown, hbl⟩ := hrel
    have Hacc := Lib.hid hacc
    have Hown := Lib.hid hown
    clear hacc hown
    have hsz := hbl.size
    rcases Nat.eq_zero_or_pos rest.size with h0 | h0
    · have n1 := (str_nil h0).1
      have n2 := (str_nil h0).2
      have Hv : Hid (acc = pts s.size s) := by show _ = _; rw [← Hacc.out, pts_nil _ _ h0, List.append_nil]
      clear h0
      go_wp2_with fail
      go_ret
      exact ⟨u3, rfl, by rw [← Hv.out]; exact Hown.out, hbl⟩
    · have n1 := (str_ne h0).1
      have n2 := (str_ne h0).2
      have hd := dec_rng rest h0
      obtain ⟨g, rfl⟩ : ∃ g, f = g + 1 := ⟨f - 1, by omega⟩
      have Hp := Lib.hid (pts_cons g rest h0)
      have Hdec : Hid (∀ w', Tabs w' → Calls Tryd.prog 64 #[.string rest] w' fun e w'' => e = .returned (.tuple #[.int .i32 (Lib.decodeGo rest).1, .int .i64 (Lib.decodeGo rest).2]) ∧ Below w'.heap.size w' w'') := fun w' h => Tryd.utf8_DecodeRuneInString rest w' h
      obtain ⟨d, Hd⟩ : ∃ d, Hid (Lib.decodeGo rest = d) := ⟨_, Lib.hid rfl⟩
      rw [Hd.out] at hd Hp Hdec
      obtain ⟨r, n⟩ := d
      obtain ⟨hn1, hn2, hr⟩ : 1 ≤ n ∧ n ≤ rest.size ∧ r ≤ 1114111 := hd
      clear Hd
      have Hz : Hid ((rest.extract n rest.size).size = rest.size - n) := by show _ = _; rw [ByteArray.size_extract]; omega
      go_wp2_with fail
      refine (Hdec.out _ (Utf8Tabs_below HT.out (hbl.mono (Nat.le_refl _)))).mono ?_
      rintro e w1 ⟨rfl, hl1⟩
      have hz1 := hl1.size
      clear Hdec
      by_cases hbad : r = 65533 ∧ n = 1
      · have Hx : Hid (pts (g + 1) rest = (-1 - (rest[0].toNat : Int)) :: pts g (rest.extract n rest.size)) := by show _ = _; rw [Hp.out, if_pos hbad]
        have e1 : ((r : Int) == 65533) = true := by simp [hbad.1]
        have e2 : ((n : Int) == 1) = true := by simp [hbad.2]
        have hc := rest[0].toNat_lt
        clear hbad Hp
        go_wp2_with (at_builtin; refine app_lit (w0 := w1) tyI32 rfl _ _ rfl w.heap.size _ _ _ _ _ rfl (own_keep Hown.out hl1) rfl rfl (by simp [Value.oneCell']) (by omega) (by omega) (by decide) ?_; intro v' w2 hb2 hg2 hl2 hn2'; clear hg2 hn2')
        go_roundw
        case rel => exact ⟨acc ++ [-1 - (rest[0].toNat : Int)], g, rest.extract n rest.size, rfl, by rw [Hz.out]; omega, by rw [Hz.out, List.length_append]; simp; omega, by rw [← Hacc.out, Hx.out]; simp, by simpa using hb2, (hbl.trans (hl1.mono (by omega))).trans hl2⟩
        case measure => simp [Hz.out]; omega
      · have Hx : Hid (pts (g + 1) rest = (r : Int) :: pts g (rest.extract n rest.size)) := by show _ = _; rw [Hp.out, if_neg hbad]
        clear Hp
        by_cases h1 : r = 65533
        · have e1 : ((r : Int) == 65533) = true := by simp [h1]
          have e2 : ((n : Int) == 1) = false := by simp; omega
          clear hbad h1
          go_wp2_with (at_builtin; refine app_lit (w0 := w1) tyI32 rfl _ _ rfl w.heap.size _ _ _ _ _ rfl (own_keep Hown.out hl1) rfl rfl (by simp [Value.oneCell']) (by omega) (by omega) (by decide) ?_; intro v' w2 hb2 hg2 hl2 hn2'; clear hg2 hn2')
          go_roundw
          case rel => exact ⟨acc ++ [(r : Int)], g, rest.extract n rest.size, rfl, by rw [Hz.out]; omega, by rw [Hz.out, List.length_append]; simp; omega, by rw [← Hacc.out, Hx.out]; simp, by simpa using hb2, (hbl.trans (hl1.mono (by omega))).trans hl2⟩
          case measure => simp [Hz.out]; omega
        · have e1 : ((r : Int) == 65533) = false := by simp; omega
          clear hbad h1
          go_wp2_with (at_builtin; refine app_lit (w0 := w1) tyI32 rfl _ _ rfl w.heap.size _ _ _ _ _ rfl (own_keep Hown.out hl1) rfl rfl (by simp [Value.oneCell']) (by omega) (by omega) (by decide) ?_; intro v' w2 hb2 hg2 hl2 hn2'; clear hg2 hn2')
          go_roundw
          case rel => exact ⟨acc ++ [(r : Int)], g, rest.extract n rest.size, rfl, by rw [Hz.out]; omega, by rw [Hz.out, List.length_append]; simp; omega, by rw [← Hacc.out, Hx.out]; simp, by simpa using hb2, (hbl.trans (hl1.mono (by omega))).trans hl2⟩
          case measure => simp [Hz.out]; omega

/-- the edit distance of two strings -/
def far (a b : ByteArray) : Nat := D.pre (pts a.size a) (pts b.size b) (pts a.size a).length (pts b.size b).length

theorem distance_large (a b : ByteArray) (w : World) (h : 200 < a.size ∨ 200 < b.size) :
    Calls Tryd.prog 28 #[.string a, .string b] w fun e w' => e = .returned (.tuple #[.int .i64 0, .int .i64 2]) ∧ w = w' := by
  by_cases ha : 200 < a.size
  · clear h
    go_enter Tryd.func28, Tryd.ntmps28
    go_wp2_with fail
    go_ret2
    exact ⟨rfl, rfl⟩
  · have hb : 200 < b.size := by omega
    clear h
    go_enter Tryd.func28, Tryd.ntmps28
    go_wp2_with fail
    go_ret2
    exact ⟨rfl, rfl⟩
theorem distance_any (a b : ByteArray) (w : World) (ha : a.size ≤ 200) (hb : b.size ≤ 200) (hT : Tabs w) :
    Calls Tryd.prog 28 #[.string a, .string b] w fun e w' => e = .returned (.tuple #[.int .i64 (far a b), .int .i64 0]) ∧ Below w.heap.size w w' := by
  have HT := Lib.hid hT
  clear hT
  go_enter Tryd.func28, Tryd.ntmps28
  go_wp2_with fail
  refine (points_any a _ (by omega) HT.out).mono ?_
  rintro e w1 ⟨va, rfl, hoa, hl1⟩
  have hz1 := hl1.size
  have Hoa := Lib.hid hoa
  clear hoa
  go_wp2_with fail
  refine (points_any b _ (by omega) (Utf8Tabs_below HT.out hl1)).mono ?_
  rintro e w2 ⟨vb, rfl, hob, hl2⟩
  have hz2 := hl2.size
  have Hob := Lib.hid hob
  clear hob
  go_wp2_with fail
  refine (dist_any va vb (pts a.size a) (pts b.size b) _ ((Rd.ofOwn Hoa.out).keep hl2) (Rd.ofOwn Hob.out) (by have := pts_len a.size a (Nat.le_refl _); omega) (by have := pts_len b.size b (Nat.le_refl _); omega)).mono ?_
  rintro e w3 ⟨rfl, hl3⟩
  go_wp2_with fail
  go_ret2
  exact ⟨rfl, (hl1.trans (hl2.mono (by omega))).trans (hl3.mono (by omega))⟩
end Go.Proofs.YtmlpkejeglpciaaDoor
