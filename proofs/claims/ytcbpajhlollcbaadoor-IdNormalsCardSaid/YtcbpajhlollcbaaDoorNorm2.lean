/- What without, mail, phone of package person and without of handref2 return. -/
import Derived.Test.YtcbpajhlollcbaaDoorNorm
import Derived.Test.YtcbpajhlollcbaaDoorRefKey
import Derived.Test.YtcbpajhlollcbaaDoorSlices
import Derived.Test.YtcbpajhlollcbaaDoorIdFault
namespace Go.Proofs.YtcbpajhlollcbaaDoor
open Go.RowKit
theorem spans_le (p : Nat → Bool) (s : ByteArray) : ∀ (f pos : Nat) (st : Option Nat) (acc : List (Nat × Nat)), (Lib.spansFromP p s f pos st acc).1.length ≤ acc.length + f
  | 0, pos, st, acc => by simp [Lib.spansFromP]
  | f + 1, pos, st, acc => by
    unfold Lib.spansFromP
    split
    · split
      · cases st with
        | none => have := spans_le p s f (pos + (Utf8.decode s pos).2) none acc; dsimp only; omega
        | some a => have := spans_le p s f (pos + (Utf8.decode s pos).2) none (acc ++ [(a, pos)]); simp only [List.length_append, List.length_cons, List.length_nil] at this; dsimp only; omega
      · cases st with
        | none => have := spans_le p s f (pos + (Utf8.decode s pos).2) (some pos) acc; dsimp only; omega
        | some a => have := spans_le p s f (pos + (Utf8.decode s pos).2) (some a) acc; dsimp only; omega
    · dsimp only; omega
theorem goFields_le (p : Nat → Bool) (s : ByteArray) : (Lib.goFieldsP p s).length ≤ s.size + 1 := by
  unfold Lib.goFieldsP Lib.spansOfP Lib.closeSpans
  have := spans_le p s s.size 0 none []
  rw [List.length_map]
  split <;> simp at * <;> omega
/-- the string without the bytes of another one -/
def wo (s cs : ByteArray) : ByteArray := ⟨(L.without s.data.toList cs.data.toList).toArray⟩
theorem wo_le (s cs : ByteArray) : (wo s cs).size ≤ s.size := List.length_filter_le _ _
set_option maxHeartbeats 1000000 in
set_option maxRecDepth 100000 in
theorem without_any (s cs : ByteArray) (w : World) (hs : s.size ≤ 1000000) :
    Calls Tryd.prog 103 #[.string s, .string cs] w fun e w' => e = .returned (.string (wo s cs)) ∧ Below w.heap.size w w' := by
  obtain ⟨R, HR⟩ : ∃ R : List UInt8, Hid (L.without s.data.toList cs.data.toList = R) := ⟨_, Lib.hid rfl⟩
  rw [show wo s cs = ⟨R.toArray⟩ by rw [wo, HR.out]]
  go_enter Tryd.func103, Tryd.ntmps103
  go_wp2_with fail
  go_loopw [5, 9] (fun v i wr => ∃ (k : Nat) (acc : List UInt8), k ≤ s.size ∧ i = .int .i64 k ∧ OwnB w.heap.size v acc wr ∧ acc.length ≤ k ∧ acc ++ L.without (s.data.toList.drop k) cs.data.toList = R ∧ Below w.heap.size w wr) (fun _ i _ => s.size - (intOf i).toNat)
  case atStart => exact ⟨0, [], Nat.zero_le _, rfl, OwnB.nil _ _, by simp, HR.out, Below.refl _ _⟩
  case round =>
    clear HR
    obtain ⟨k, acc, hk, rfl, hown, hal, hr, hbl⟩ := hrel
    have Hr := Lib.hid hr
    have Hown := Lib.hid hown
    have Hbl := Lib.hid hbl
    have hsz := hbl.size
    clear hr hown hbl
    by_cases hlt : k < s.size
    · have hkl : k < s.data.toList.length := hlt
      have Hix : Hid (∀ w, Calls Tryd.prog 106 #[.string cs, .int .u8 (s[k].toNat : Int)] w fun e w' => e = .returned (.int .i64 (Lib.indexByte cs.data.toList s[k])) ∧ w = w') := fun w => indexByte_any cs s[k] w
      have hh := L.ix_has cs.data.toList s[k]
      have Hs : Hid (acc ++ ((if !cs.data.toList.contains s[k] then [s[k]] else []) ++ L.without (s.data.toList.drop (k + 1)) cs.data.toList) = R) := by
        show _ = _
        rw [← Hr.out, List.drop_eq_getElem_cons hkl, L.without, L.without, List.filter_cons]
        show _ = acc ++ (if (!cs.data.toList.contains s[k]) = true then s[k] :: _ else _)
        cases cs.data.toList.contains s[k] <;> rfl
      clear Hr
      by_cases hp : 0 ≤ Lib.indexByte cs.data.toList s[k]
      · have hcn : cs.data.toList.contains s[k] = true := by rw [← hh]; simpa using hp
        rw [hcn] at Hs
        clear hh hcn
        generalize Lib.indexByte cs.data.toList s[k] = ix at *
        go_wp2_with fail
        ((with_reducible refine (Hix.out _).mono ?_); rintro e _ ⟨rfl, rfl⟩)
        clear Hix
        go_wp2_with fail
        go_roundw
        case rel => exact ⟨k + 1, acc, by omega, by go_num, Hown.out, by omega, by rw [← Hs.out]; rfl, Hbl.out⟩
        case measure => simp [intOf]; omega
      · have hcn : cs.data.toList.contains s[k] = false := by rw [← hh]; simpa using hp
        rw [hcn] at Hs
        clear hh hcn
        generalize Lib.indexByte cs.data.toList s[k] = ix at *
        go_wp2_with fail
        ((with_reducible refine (Hix.out _).mono ?_); rintro e _ ⟨rfl, rfl⟩)
        clear Hix
        go_wp2_with (at_builtin; refine app_bytes (w0 := wr) rfl _ _ rfl w.heap.size _ _ [s[k]] _ _ rfl Hown.out rfl rfl rfl hsz (by simp; omega) ?_; intro v' w2 hb2 hg2 hl2; clear hg2)
        go_roundw
        case rel => exact ⟨k + 1, acc ++ [s[k]], by omega, by go_num, hb2, by simp; omega, by rw [← Hs.out]; simp, Hbl.out.trans hl2⟩
        case measure => simp [intOf]; omega
    · have Hx : Hid (acc = R) := by show _ = _; rw [← Hr.out, show s.data.toList.drop k = [] from List.drop_eq_nil_of_le (by show s.size ≤ k; omega)]; simp [L.without]
      have kd := Hown.out.conv
      rw [Hx.out] at kd
      clear Hx Hr Hown
      go_wp2_with fail
      go_ret
      exact ⟨rfl, Hbl.out⟩
/-- the closure of handref2.without -/
theorem without1_any (r : Nat) (hr : r ≤ 1114111) (X : Nat) (cs : ByteArray) (w : World) (hc : w.cell? ⟨X, 0, none⟩ = some (.string cs)) :
    Calls Tryd.prog 158 #[.int .i32 (r : Int), .pointer (some ⟨X, 0, none⟩)] w fun e w' => e = .returned (.bool (L.pred cs.data.toList r)) ∧ w = w' := by
  by_cases h : r < 128
  · have Hp : Hid (L.pred cs.data.toList r = decide (0 ≤ Lib.indexByte cs.data.toList r.toUInt8)) := by show _ = _; rw [L.pred, L.ix_has]; simp [h]
    rw [Hp.out]
    have Hcr : Hid (∀ w, Calls Tryd.prog 159 #[.string cs, .int .i32 (r : Int)] w fun e w' => e = .returned (.bool (decide (0 ≤ Lib.indexByte cs.data.toList r.toUInt8))) ∧ w = w') := fun w => (Tryd.strings_ContainsRune_ascii cs r w (by omega) (by omega)).mono fun e w' ⟨a, b⟩ => ⟨by rw [a]; simp, b.symm⟩
    generalize decide (0 ≤ Lib.indexByte cs.data.toList r.toUInt8) = D at *
    have hI : (r : Int) < 128 := by omega
    go_enter Tryd.func158, Tryd.ntmps158
    go_wp2_with (first | (go_at_call 159; refine (Hcr.out _).mono ?_; rintro e _ ⟨rfl, rfl⟩))
    go_ret
    exact ⟨by simp, rfl⟩
  · have Hp : Hid (L.pred cs.data.toList r = false) := by show _ = _; rw [L.pred]; simp [h]
    rw [Hp.out]
    have hI : ¬ (r : Int) < 128 := by omega
    have hI2 : decide ((r : Int) < 128) = false := by simpa using hI
    go_enter Tryd.func158, Tryd.ntmps158
    go_wp2_with fail
    go_ret
    exact ⟨by simp, rfl⟩
set_option maxHeartbeats 1000000 in
set_option maxRecDepth 100000 in
theorem refWithout_any (s cs : ByteArray) (w : World) (hs : s.size ≤ 1000000) (ha : cs.data.toList.all (fun b => decide (b.toNat < 128)) = true) :
    Calls Tryd.prog 107 #[.string s, .string cs] w fun e w' => e = .returned (.string (wo s cs)) ∧ Below w.heap.size w w' := by
  have Hb : Hid (Below w.heap.size w (w.alloc (.cells #[.string cs] 9))) := (Below.refl _ _).alloc (Nat.le_refl _) _
  have hc : (w.alloc (.cells #[.string cs] 9)).cell? ⟨w.heap.size, 0, none⟩ = some (.string cs) := by rw [World.cell?_alloc_at _ _ _ _ rfl]; rfl
  have hsz : w.heap.size < (w.alloc (.cells #[.string cs] 9)).heap.size := by simp
  have Hff := Lib.hid (Tryd.strings_FieldsFunc_grows 158 #[.pointer (some ⟨w.heap.size, 0, none⟩)] (fun _ _ => by kernel_rfl) (L.pred cs.data.toList) s (w.alloc (.cells #[.string cs] 9)) (by omega) (fun W x hx hb =>
    (without1_any x hx w.heap.size cs W (by rw [hb.cell (p := ⟨w.heap.size, 0, none⟩) hsz]; exact hc)).mono fun e w' ⟨a, b⟩ => ⟨a, b ▸ Below.refl _ _⟩))
  have hgf := L.goFields_without s cs.data.toList ha
  have hxl := goFields_le (L.pred cs.data.toList) s
  clear ha hc
  generalize Lib.goFieldsP (L.pred cs.data.toList) s = xs at *
  have hw : (xs.map (·.data.toList)).flatten = (wo s cs).data.toList := by rw [hgf]; simp [wo]
  have hwl : ((xs.map (·.data.toList)).flatten).length ≤ 1000000 := by rw [hw]; exact Nat.le_trans (wo_le s cs) hs
  have Hw := Lib.hid hw
  clear hgf hw
  go_enter Tryd.func107, Tryd.ntmps107
  go_wp2_with fail
  ((with_reducible refine Hff.out.mono ?_); rintro e w1 ⟨A, rfl, hA, hown, hl1⟩)
  have hz1 := hl1.size
  have Hb1 := Lib.hid (Hb.out.trans (hl1.mono (by simp)))
  have Hown := Lib.hid hown
  clear hown Hff hl1 Hb
  by_cases hx0 : xs.length = 0
  · have hxn : xs = [] := List.length_eq_zero_iff.1 hx0
    subst hxn
    have Hj := Lib.hid (Tryd.strings_Join_none (some ⟨A, 0, none⟩) 0 ⟨#[]⟩ w1)
    go_wp2_with fail
    ((with_reducible refine Hj.out.mono ?_); rintro e w2 ⟨rfl, hw2⟩)
    have Hw2 := Lib.hid hw2
    clear hw2
    go_wp2_with fail
    go_ret
    refine ⟨?_, by rw [Hw2.out]; exact Hb1.out⟩
    have h0 : (wo s cs).data.toList = [] := by rw [← Hw.out]; rfl
    have : wo s cs = ⟨#[]⟩ := WideShapes.bytes_inj h0
    rw [this]
    rfl
  · have Hj := Lib.hid (Tryd.strings_Join A 0 xs.length xs ⟨#[]⟩ w1 (fun j x hx => by
        have := Hown.out.cells (g := A) rfl j (.string x) (by simp [hx])
        rwa [add_at] at this) ((Hown.out.lt A rfl).2) (by omega) (Nat.le_refl _) (by show (Lib.join _ []).length ≤ _; rw [L.join_none]; omega))
    go_wp2_with fail
    ((with_reducible refine Hj.out.mono ?_); rintro e w2 ⟨rfl, hl2⟩)
    go_wp2_with fail
    go_ret
    refine ⟨?_, Hb1.out.trans (hl2.mono (by simp at hz1; omega))⟩
    have h0 : wo s cs = ⟨(Lib.join (xs.map (·.data.toList)) []).toArray⟩ := WideShapes.bytes_inj (by rw [L.join_none, Hw.out])
    rw [h0]
    rfl
/-- a mail address made normal -/
def mailN (s : ByteArray) : ByteArray := if (Lib.cut s.data.toList [64]).2.2 then ⟨(Lib.cut (Lib.cut s.data.toList [64]).1 [43]).1.toArray⟩ ++ ⟨#[64]⟩ ++ ⟨(Lib.cut s.data.toList [64]).2.1.toArray⟩ else s
theorem mail_any (s : ByteArray) (w : World) (hs : s.size ≤ 1000000) (hM : MaxL w) :
    Calls Tryd.prog 100 #[.string s] w fun e w' => e = .returned (.string (mailN s)) ∧ Below w.heap.size w w' := by
  have HM := Lib.hid hM
  have hcl := cut_le s.data.toList [64]
  have Hcut : Hid (∀ w, MaxL w → Calls Tryd.prog 88 #[.string s, .string ⟨#[64]⟩] w fun e w' => e = .returned (.tuple #[.string ⟨(Lib.cut s.data.toList [64]).1.toArray⟩, .string ⟨(Lib.cut s.data.toList [64]).2.1.toArray⟩, .bool (Lib.cut s.data.toList [64]).2.2]) ∧ Below w.heap.size w w') := fun w h => cut_any s w (by omega) h ⟨#[64]⟩
  unfold mailN
  generalize Lib.cut s.data.toList [64] = ct at *
  obtain ⟨ll, dl, ok⟩ := ct
  dsimp only at *
  have hlo : (ByteArray.mk ll.toArray).size ≤ 1000000 := Nat.le_trans hcl.1 hs
  have Hcut2 : Hid (∀ w, MaxL w → Calls Tryd.prog 88 #[.string ⟨ll.toArray⟩, .string ⟨#[43]⟩] w fun e w' => e = .returned (.tuple #[.string ⟨(Lib.cut ll [43]).1.toArray⟩, .string ⟨(Lib.cut ll [43]).2.1.toArray⟩, .bool (Lib.cut ll [43]).2.2]) ∧ Below w.heap.size w w') := fun w h => cut_any ⟨ll.toArray⟩ w (by omega) h ⟨#[43]⟩
  have hcl2 := cut_le ll [43]
  generalize Lib.cut ll [43] = ct2 at *
  obtain ⟨l3, l4, ok2⟩ := ct2
  have hdo : (ByteArray.mk dl.toArray).size ≤ 1000000 := Nat.le_trans hcl.2 hs
  have hlo2 : (ByteArray.mk l3.toArray).size ≤ 1000000 := Nat.le_trans (Nat.le_trans hcl2.1 hcl.1) hs
  clear hcl2
  dsimp only at *
  generalize ByteArray.mk ll.toArray = lo at *
  generalize ByteArray.mk dl.toArray = dom at *
  generalize ByteArray.mk l3.toArray = lo2 at *
  generalize ByteArray.mk l4.toArray = lo3 at *
  clear hM hcl
  cases ok
  · go_enter Tryd.func100, Tryd.ntmps100
    go_wp2_with fail
    ((with_reducible refine (Hcut.out _ HM.out).mono ?_); rintro e w1 ⟨rfl, hl_w1⟩)
    have hz_w1 := hl_w1.size
    go_wp2_with fail
    go_ret
    exact ⟨rfl, hl_w1⟩
  · go_enter Tryd.func100, Tryd.ntmps100
    go_wp2_with fail
    ((with_reducible refine (Hcut.out _ HM.out).mono ?_); rintro e w1 ⟨rfl, hl_w1⟩)
    have hz_w1 := hl_w1.size
    go_wp2_with fail
    ((with_reducible refine (Hcut2.out _ (HM.out.below hl_w1)).mono ?_); rintro e w2 ⟨rfl, hl_w2⟩)
    have hz_w2 := hl_w2.size
    go_wp2_with fail
    go_ret
    exact ⟨rfl, hl_w1.trans (hl_w2.mono hz_w1)⟩
/-- a phone number made normal; its signs are without those that divide -/
def phoneN (t c : ByteArray) : ByteArray := if Lib.hasPrefix t.data.toList [48, 48] then ⟨#[43]⟩ ++ t.extract 2 t.size else if Lib.hasPrefix t.data.toList [48] then ⟨#[43]⟩ ++ c ++ t.extract 1 t.size else if Lib.hasPrefix t.data.toList [43] then t else ⟨#[43]⟩ ++ c ++ t
theorem hasPrefix_le (l p : List UInt8) (h : Lib.hasPrefix l p = true) : p.length ≤ l.length := by
  unfold Lib.hasPrefix at h
  exact (List.isPrefixOf_iff_prefix.1 h).length_le
theorem phone_any (s c : ByteArray) (w : World) (hs : s.size ≤ 1000000) (hcs : c.size ≤ 1000) :
    Calls Tryd.prog 102 #[.string s, .string c] w fun e w' => e = .returned (.string (phoneN (wo s ⟨#[32, 45, 46, 47, 40, 41]⟩) c)) ∧ Below w.heap.size w w' := by
  have hwl := wo_le s ⟨#[32, 45, 46, 47, 40, 41]⟩
  have Hwo := Lib.hid (without_any s ⟨#[32, 45, 46, 47, 40, 41]⟩ w hs)
  generalize wo s ⟨#[32, 45, 46, 47, 40, 41]⟩ = t at *
  have H1 : Hid (∀ w, Calls Tryd.prog 69 #[.string t, .string ⟨#[48, 48]⟩] w fun e w' => e = .returned (.bool (Lib.hasPrefix t.data.toList [48, 48])) ∧ w = w') := fun w => hasPrefix_any t ⟨#[48, 48]⟩ w
  have H2 : Hid (∀ w, Calls Tryd.prog 69 #[.string t, .string ⟨#[48]⟩] w fun e w' => e = .returned (.bool (Lib.hasPrefix t.data.toList [48])) ∧ w = w') := fun w => hasPrefix_any t ⟨#[48]⟩ w
  have H3 : Hid (∀ w, Calls Tryd.prog 69 #[.string t, .string ⟨#[43]⟩] w fun e w' => e = .returned (.bool (Lib.hasPrefix t.data.toList [43])) ∧ w = w') := fun w => hasPrefix_any t ⟨#[43]⟩ w
  obtain ⟨R, HR⟩ : ∃ R, Hid (phoneN t c = R) := ⟨_, Lib.hid rfl⟩
  rw [HR.out]
  by_cases h1 : Lib.hasPrefix t.data.toList [48, 48] = true
  · have hz : 2 ≤ t.size := hasPrefix_le _ _ h1
    rw [h1] at H1
    have Hx : Hid (⟨#[43]⟩ ++ t.extract 2 t.size = R) := by show _ = _; rw [← HR.out, phoneN, if_pos h1]
    clear h1 HR
    go_enter Tryd.func102, Tryd.ntmps102
    go_wp2_with fail
    ((with_reducible refine (Hwo.out).mono ?_); rintro e w1 ⟨rfl, hl_w1⟩)
    have hz_w1 := hl_w1.size
    go_wp2_with fail
    ((with_reducible refine (H1.out _).mono ?_); rintro e _ ⟨rfl, rfl⟩)
    go_wp2_with fail
    go_ret
    exact ⟨by rw [← Hx.out]; rfl, hl_w1⟩
  · have h1' : Lib.hasPrefix t.data.toList [48, 48] = false := by simpa using h1
    rw [h1'] at H1
    by_cases h2 : Lib.hasPrefix t.data.toList [48] = true
    · have hz : 1 ≤ t.size := hasPrefix_le _ _ h2
      rw [h2] at H2
      have Hx : Hid (⟨#[43]⟩ ++ c ++ t.extract 1 t.size = R) := by show _ = _; rw [← HR.out, phoneN, if_neg h1, if_pos h2]
      clear h1 h1' h2 HR
      go_enter Tryd.func102, Tryd.ntmps102
      go_wp2_with fail
      ((with_reducible refine (Hwo.out).mono ?_); rintro e w1 ⟨rfl, hl_w1⟩)
      have hz_w1 := hl_w1.size
      go_wp2_with fail
      ((with_reducible refine (H1.out _).mono ?_); rintro e _ ⟨rfl, rfl⟩)
      go_wp2_with fail
      ((with_reducible refine (H2.out _).mono ?_); rintro e _ ⟨rfl, rfl⟩)
      go_wp2_with fail
      go_ret
      exact ⟨by rw [← Hx.out]; rfl, hl_w1⟩
    · have h2' : Lib.hasPrefix t.data.toList [48] = false := by simpa using h2
      rw [h2'] at H2
      by_cases h3 : Lib.hasPrefix t.data.toList [43] = true
      · rw [h3] at H3
        have Hx : Hid (t = R) := by show _ = _; rw [← HR.out, phoneN, if_neg h1, if_neg h2, if_pos h3]
        clear h1 h1' h2 h2' h3 HR
        go_enter Tryd.func102, Tryd.ntmps102
        go_wp2_with fail
        ((with_reducible refine (Hwo.out).mono ?_); rintro e w1 ⟨rfl, hl_w1⟩)
        have hz_w1 := hl_w1.size
        go_wp2_with fail
        ((with_reducible refine (H1.out _).mono ?_); rintro e _ ⟨rfl, rfl⟩)
        go_wp2_with fail
        ((with_reducible refine (H2.out _).mono ?_); rintro e _ ⟨rfl, rfl⟩)
        go_wp2_with fail
        ((with_reducible refine (H3.out _).mono ?_); rintro e _ ⟨rfl, rfl⟩)
        go_wp2_with fail
        go_ret
        exact ⟨by rw [← Hx.out]; rfl, hl_w1⟩
      · have h3' : Lib.hasPrefix t.data.toList [43] = false := by simpa using h3
        rw [h3'] at H3
        have Hx : Hid (⟨#[43]⟩ ++ c ++ t = R) := by show _ = _; rw [← HR.out, phoneN, if_neg h1, if_neg h2, if_neg h3]
        clear h1 h1' h2 h2' h3 h3' HR
        go_enter Tryd.func102, Tryd.ntmps102
        go_wp2_with fail
        ((with_reducible refine (Hwo.out).mono ?_); rintro e w1 ⟨rfl, hl_w1⟩)
        have hz_w1 := hl_w1.size
        go_wp2_with fail
        ((with_reducible refine (H1.out _).mono ?_); rintro e _ ⟨rfl, rfl⟩)
        go_wp2_with fail
        ((with_reducible refine (H2.out _).mono ?_); rintro e _ ⟨rfl, rfl⟩)
        go_wp2_with fail
        ((with_reducible refine (H3.out _).mono ?_); rintro e _ ⟨rfl, rfl⟩)
        go_wp2_with fail
        go_ret
        exact ⟨by rw [← Hx.out]; rfl, hl_w1⟩
set_option maxHeartbeats 1000000 in
set_option maxRecDepth 100000 in
/-- the closure of NormalOf: bytes of one list turned into those of another -/
theorem normalOf1_any (X : Nat) (s : ByteArray) (fr to_ : ByteArray) (w : World) (hs : s.size ≤ 1000000) (hc : w.cell? ⟨X, 0, none⟩ = some (.string s)) (hft : ∀ c, Lib.indexByte fr.data.toList c < (to_.size : Int)) :
    Calls Tryd.prog 105 #[.string fr, .string to_, .pointer (some ⟨X, 0, none⟩)] w fun e w' => e = .returned (.string ⟨(s.data.toList.map (L.mapB fr.data.toList to_.data.toList)).toArray⟩) ∧ Below w.heap.size w w' := by
  have Hft := Lib.hid hft
  clear hft
  have kc := fun w => Lib.run_convert_string_bytes (P := Tryd.prog) w 9 105 5 s Tryd.underlying9 Tryd.underlying105 Tryd.underlying5
  have Hm := Lib.hid (ByAt.made w s)
  have Hb := Lib.hid (below_bytes w s)
  go_enter Tryd.func105, Tryd.ntmps105
  go_wp2_with fail
  clear kc hc
  generalize Lib.bytesWorld w 5 s = w1 at *
  generalize grownCap w s.size 0 5 = cap
  go_loopw [14] (fun i wr => ∃ k : Nat, k ≤ s.size ∧ i = .int .i64 k ∧ ByAt w.heap.size (turned (L.mapB fr.data.toList to_.data.toList) s.data.toList k) wr ∧ Below w.heap.size w wr) (fun i _ => s.size - (intOf i).toNat)
  case atStart => exact ⟨0, Nat.zero_le _, rfl, Hm.out, Hb.out⟩
  case round =>
    clear Hm Hb
    obtain ⟨k, hk, rfl, hby, hbl⟩ := hrel
    have Hby := Lib.hid hby
    have Hbl := Lib.hid hbl
    clear hby hbl
    by_cases hlt : k < s.size
    · have hkl : k < s.data.toList.length := hlt
      obtain ⟨c, hc⟩ : ∃ c, s.data.toList[k]? = some c := ⟨_, List.getElem?_eq_getElem hkl⟩
      have Hc := Lib.hid hc
      obtain ⟨c0, f0⟩ := Hby.out.2 k c (turned_at _ _ _ c hc)
      have hft := Hft.out c
      have Hix : Hid (∀ w, Calls Tryd.prog 106 #[.string fr, .int .u8 (c.toNat : Int)] w fun e w' => e = .returned (.int .i64 (Lib.indexByte fr.data.toList c)) ∧ w = w') := fun w => indexByte_any fr c w
      obtain ⟨nb, Hnb⟩ : ∃ nb, Hid (L.mapB fr.data.toList to_.data.toList c = nb) := ⟨_, Lib.hid rfl⟩
      have hnb := Hnb.out
      unfold L.mapB at hnb
      clear hc
      generalize Lib.indexByte fr.data.toList c = ix at *
      by_cases hp : 0 ≤ ix
      · obtain ⟨j, rfl⟩ := Int.eq_ofNat_of_zero_le hp
        have hj : j < to_.size := by omega
        have Hnj : Hid (to_[j] = nb) := by
          show _ = _
          rw [← hnb, if_pos hp]
          have hjl : j < to_.data.toList.length := hj
          show to_[j] = to_.data.toList.getD j 0
          rw [List.getD_eq_getElem?_getD, List.getElem?_eq_getElem hjl]
          rfl
        have Hst := Lib.hid (Hby.out.set k nb (by rw [turned_len]; exact hkl))
        have Hbs := Lib.hid (Hbl.out.setCell (p := ⟨w.heap.size, k, none⟩) (Nat.le_refl _) (.int .u8 (nb.toNat : Int)))
        rw [← Hnb.out, turned_step _ _ _ c Hc.out] at Hst
        rw [Hnb.out, ← Hnj.out] at Hst
        rw [← Hnj.out] at Hbs
        clear hnb Hnb Hc hft hp
        go_wp2_with fail
        ((with_reducible refine (Hix.out _).mono ?_); rintro e _ ⟨rfl, rfl⟩)
        clear Hix
        go_wp2_with fail
        go_roundw
        case rel => exact ⟨k + 1, by omega, by go_num, Hst.out, Hbs.out⟩
        case measure => simp [intOf]; omega
      · have Hs : Hid (turned (L.mapB fr.data.toList to_.data.toList) s.data.toList k = turned (L.mapB fr.data.toList to_.data.toList) s.data.toList (k + 1)) := turned_same _ _ _ c Hc.out (by rw [Hnb.out, ← hnb, if_neg hp])
        have hp2 : ix < 0 := by omega
        clear hnb Hnb hft
        go_wp2_with fail
        ((with_reducible refine (Hix.out _).mono ?_); rintro e _ ⟨rfl, rfl⟩)
        clear Hix
        go_wp2_with fail
        go_roundw
        case rel => exact ⟨k + 1, by omega, by go_num, by rw [← Hs.out]; exact Hby.out, Hbl.out⟩
        case measure => simp [intOf]; omega
    · have Hf : Hid (turned (L.mapB fr.data.toList to_.data.toList) s.data.toList k = s.data.toList.map (L.mapB fr.data.toList to_.data.toList)) := turned_all _ _ _ (by show s.size ≤ k; omega)
      rw [Hf.out] at Hby
      have kd := Hby.out.conv (cap := cap)
      rw [List.length_map, show s.data.toList.length = s.size from rfl] at kd
      go_wp2_with fail
      go_ret
      exact ⟨rfl, Hbl.out⟩
end Go.Proofs.YtcbpajhlollcbaaDoor
