/- What lower, upper, without of package person return. -/
import Derived.Test.YtcbpajhlollcbaaDoorCheckId
import Derived.Test.YtcbpajhlollcbaaDoorNormLaw
import Derived.Test.YtcbpajhlollcbaaDoorBytes
namespace Go.Proofs.YtcbpajhlollcbaaDoor
open Go.RowKit
/-- the block's first cells are these bytes, and they can be written -/
def ByAt (blk : Nat) (l : List UInt8) (w : World) : Prop := blk < w.heap.size ∧ ∀ (j : Nat) (c : UInt8), l[j]? = some c → w.cell? ⟨blk, j, none⟩ = some (.int .u8 c.toNat) ∧ w.frozen? ⟨blk, j, none⟩ = false
theorem ByAt.set {blk : Nat} {l : List UInt8} {w : World} (h : ByAt blk l w) (j : Nat) (c : UInt8) (hj : j < l.length) : ByAt blk (l.set j c) (w.setCell ⟨blk, j, none⟩ (.int .u8 c.toNat)) := by
  refine ⟨by simp [World.setCell]; exact h.1, fun i d hd => ?_⟩
  by_cases hij : j = i
  · subst hij
    rw [List.getElem?_set_self hj] at hd
    cases hd
    obtain ⟨h1, h2⟩ := h.2 j _ (List.getElem?_eq_getElem hj)
    exact ⟨World.cell?_setCell_same _ _ _ h1, by rw [World.frozen?_setCell]; exact h2⟩
  · rw [List.getElem?_set_ne hij] at hd
    obtain ⟨h1, h2⟩ := h.2 i d hd
    exact ⟨by rw [World.cell?_setCell_other _ _ _ _ (by intro h; cases h; exact hij rfl)]; exact h1, by rw [World.frozen?_setCell]; exact h2⟩
theorem ByAt.conv {blk cap : Nat} {l : List UInt8} {w : World} (h : ByAt blk l w) : (convert 105 9 (.slice (some ⟨blk, 0, none⟩) l.length cap)).run Tryd.prog w = .ok (.string ⟨l.toArray⟩) w := by
  have := run_convert_bytes_arg w 105 5 Tryd.underlying105 Tryd.underlying5 blk 0 l.length cap (l.map fun c => (c.toNat : Int)) (by simp) (fun i hi => by
      have := (h.2 i l[i] (List.getElem?_eq_getElem hi)).1
      rw [Nat.zero_add, this]
      simp [List.getD, List.getElem?_eq_getElem hi]) 9 Tryd.underlying9
  rw [this]
  simp [strOfNums, List.map_map, Function.comp_def]
theorem ByAt.made (w : World) (s : ByteArray) : ByAt w.heap.size s.data.toList (Lib.bytesWorld w 5 s) := by
  refine ⟨by rw [Lib.bytesWorld_size]; omega, fun j c hc => ?_⟩
  have hj : j < s.size := by
    have : j < s.data.toList.length := (List.getElem?_eq_some_iff.1 hc).1
    exact this
  refine ⟨by rw [Lib.bytesWorld_cell w _ s j hj]; simp [List.getD, hc], ?_⟩
  have hsz : s.size ≤ (Lib.bytesCells w 5 s).size := by simp [Lib.bytesCells]
  simp only [World.frozen?, Lib.bytesWorld_at_new]
  simp
  omega
theorem below_bytes (w : World) (s : ByteArray) : Below w.heap.size w (Lib.bytesWorld w 5 s) := by
  refine ⟨rfl, rfl, rfl, by rw [Lib.bytesWorld_size]; omega, fun k hk => Lib.bytesWorld_at_old w _ s k hk⟩
/-- the first k bytes turned -/
def turned (f : UInt8 → UInt8) (l : List UInt8) (k : Nat) : List UInt8 := (l.take k).map f ++ l.drop k
theorem turned_len (f : UInt8 → UInt8) (l : List UInt8) (k : Nat) : (turned f l k).length = l.length := by
  unfold turned; rw [List.length_append, List.length_map, List.length_take, List.length_drop]; omega
theorem turned_at (f : UInt8 → UInt8) (l : List UInt8) (k : Nat) (c : UInt8) (h : l[k]? = some c) : (turned f l k)[k]? = some c := by
  have hk := (List.getElem?_eq_some_iff.1 h).1
  unfold turned
  rw [List.getElem?_append_right (by simp; omega), List.length_map, List.length_take, List.getElem?_drop, show k + (k - min k l.length) = k by omega]
  exact h
theorem turned_step (f : UInt8 → UInt8) (l : List UInt8) (k : Nat) (c : UInt8) (h : l[k]? = some c) : (turned f l k).set k (f c) = turned f l (k + 1) := by
  obtain ⟨hk, e⟩ := List.getElem?_eq_some_iff.1 h
  unfold turned
  rw [List.set_append_right _ _ (by simp; omega), List.length_map, List.length_take, show k - min k l.length = 0 by omega, List.drop_eq_getElem_cons hk, List.set_cons_zero, List.take_succ_eq_append_getElem hk, List.map_append, e]
  simp
theorem turned_same (f : UInt8 → UInt8) (l : List UInt8) (k : Nat) (c : UInt8) (h : l[k]? = some c) (hc : f c = c) : turned f l k = turned f l (k + 1) := by
  rw [← turned_step f l k c h, hc]
  refine (List.ext_getElem? fun i => ?_).symm
  by_cases hi : k = i
  · subst hi
    rw [List.getElem?_set_self (by rw [turned_len]; exact (List.getElem?_eq_some_iff.1 h).1), turned_at f l k c h]
  · rw [List.getElem?_set_ne hi]
theorem turned_all (f : UInt8 → UInt8) (l : List UInt8) (k : Nat) (h : l.length ≤ k) : turned f l k = l.map f := by
  unfold turned; rw [List.take_of_length_le h, List.drop_eq_nil_of_le h, List.append_nil]
set_option maxHeartbeats 1000000 in
set_option maxRecDepth 100000 in
theorem lower_any (s : ByteArray) (w : World) (hs : s.size ≤ 1000000) :
    Calls Tryd.prog 101 #[.string s] w fun e w' => e = .returned (.string ⟨(s.data.toList.map L.lowB).toArray⟩) ∧ Below w.heap.size w w' := by
  have kc := fun w => Lib.run_convert_string_bytes (P := Tryd.prog) w 9 105 5 s Tryd.underlying9 Tryd.underlying105 Tryd.underlying5
  have Hm := Lib.hid (ByAt.made w s)
  have Hb := Lib.hid (below_bytes w s)
  go_enter Tryd.func101, Tryd.ntmps101
  go_wp2_with fail
  clear kc
  generalize Lib.bytesWorld w 5 s = w1 at *
  generalize grownCap w s.size 0 5 = cap
  go_loopw [10] (fun i wr => ∃ k : Nat, k ≤ s.size ∧ i = .int .i64 k ∧ ByAt w.heap.size (turned L.lowB s.data.toList k) wr ∧ Below w.heap.size w wr) (fun i _ => s.size - (intOf i).toNat)
  case atStart => exact ⟨0, Nat.zero_le _, rfl, Hm.out, Hb.out⟩
  case round =>
    clear Hm Hb
    obtain ⟨k, hk, rfl, hby, hbl⟩ := hrel
    have Hby := Lib.hid hby
    have Hbl := Lib.hid hbl
    clear hby hbl
    by_cases hlt : k < s.size
    · have hkl : k < s.data.toList.length := hlt
      obtain ⟨c, hc⟩ : ∃ c, s.data.toList[k]? = some c := ⟨_, List.getElem?_eq_getElem hkl⟩
      have Hc := Lib.hid hc
      obtain ⟨c0, f0⟩ := Hby.out.2 k c (turned_at _ _ _ c hc)
      clear hc
      by_cases hp : L.isCapital c = true
      · obtain ⟨n1, n2, n3⟩ := L.lowB_nat c hp
        have Hst := Lib.hid (Hby.out.set k (L.lowB c) (by rw [turned_len]; exact hkl))
        have Hbs := Lib.hid (Hbl.out.setCell (p := ⟨w.heap.size, k, none⟩) (Nat.le_refl _) (.int .u8 ((L.lowB c).toNat : Int)))
        rw [turned_step _ _ _ c Hc.out] at Hst
        have ev : ((L.lowB c).toNat : Int) = (c.toNat : Int) + 97 - 65 := by omega
        rw [ev] at Hst Hbs
        clear n1 ev Hc
        go_wp2_with fail
        ((with_reducible refine (capital_pb c _).mono ?_); rintro e _ ⟨rfl, rfl⟩)
        rw [hp]
        clear hp
        go_wp2_with fail
        go_roundw
        case rel => exact ⟨k + 1, by omega, by go_num, Hst.out, Hbs.out⟩
        case measure => simp [intOf]; omega
      · have hp' : L.isCapital c = false := by simpa using hp
        have Hs : Hid (turned L.lowB s.data.toList k = turned L.lowB s.data.toList (k + 1)) := turned_same _ _ _ c Hc.out (by unfold L.lowB; rw [hp']; rfl)
        go_wp2_with fail
        ((with_reducible refine (capital_pb c _).mono ?_); rintro e _ ⟨rfl, rfl⟩)
        rw [hp']
        clear hp hp'
        go_wp2_with fail
        go_roundw
        case rel => exact ⟨k + 1, by omega, by go_num, by rw [← Hs.out]; exact Hby.out, Hbl.out⟩
        case measure => simp [intOf]; omega
    · have Hf : Hid (turned L.lowB s.data.toList k = s.data.toList.map L.lowB) := turned_all _ _ _ (by show s.size ≤ k; omega)
      rw [Hf.out] at Hby
      have kd := Hby.out.conv (cap := cap)
      rw [List.length_map, show s.data.toList.length = s.size from rfl] at kd
      go_wp2_with fail
      go_ret
      exact ⟨rfl, Hbl.out⟩
set_option maxHeartbeats 1000000 in
set_option maxRecDepth 100000 in
theorem upper_any (s : ByteArray) (w : World) (hs : s.size ≤ 1000000) :
    Calls Tryd.prog 104 #[.string s] w fun e w' => e = .returned (.string ⟨(s.data.toList.map L.upB).toArray⟩) ∧ Below w.heap.size w w' := by
  have kc := fun w => Lib.run_convert_string_bytes (P := Tryd.prog) w 9 105 5 s Tryd.underlying9 Tryd.underlying105 Tryd.underlying5
  have Hm := Lib.hid (ByAt.made w s)
  have Hb := Lib.hid (below_bytes w s)
  go_enter Tryd.func104, Tryd.ntmps104
  go_wp2_with fail
  clear kc
  generalize Lib.bytesWorld w 5 s = w1 at *
  generalize grownCap w s.size 0 5 = cap
  go_loopw [10] (fun i wr => ∃ k : Nat, k ≤ s.size ∧ i = .int .i64 k ∧ ByAt w.heap.size (turned L.upB s.data.toList k) wr ∧ Below w.heap.size w wr) (fun i _ => s.size - (intOf i).toNat)
  case atStart => exact ⟨0, Nat.zero_le _, rfl, Hm.out, Hb.out⟩
  case round =>
    clear Hm Hb
    obtain ⟨k, hk, rfl, hby, hbl⟩ := hrel
    have Hby := Lib.hid hby
    have Hbl := Lib.hid hbl
    clear hby hbl
    by_cases hlt : k < s.size
    · have hkl : k < s.data.toList.length := hlt
      obtain ⟨c, hc⟩ : ∃ c, s.data.toList[k]? = some c := ⟨_, List.getElem?_eq_getElem hkl⟩
      have Hc := Lib.hid hc
      obtain ⟨c0, f0⟩ := Hby.out.2 k c (turned_at _ _ _ c hc)
      clear hc
      by_cases hp : L.isSmall c = true
      · obtain ⟨n1, n2, n3⟩ := L.upB_nat c hp
        have Hst := Lib.hid (Hby.out.set k (L.upB c) (by rw [turned_len]; exact hkl))
        have Hbs := Lib.hid (Hbl.out.setCell (p := ⟨w.heap.size, k, none⟩) (Nat.le_refl _) (.int .u8 ((L.upB c).toNat : Int)))
        rw [turned_step _ _ _ c Hc.out] at Hst
        have ev : ((L.upB c).toNat : Int) = (c.toNat : Int) + 65 - 97 := by omega
        rw [ev] at Hst Hbs
        clear n1 ev Hc
        go_wp2_with fail
        ((with_reducible refine (small_pb c _).mono ?_); rintro e _ ⟨rfl, rfl⟩)
        rw [hp]
        clear hp
        go_wp2_with fail
        go_roundw
        case rel => exact ⟨k + 1, by omega, by go_num, Hst.out, Hbs.out⟩
        case measure => simp [intOf]; omega
      · have hp' : L.isSmall c = false := by simpa using hp
        have Hs : Hid (turned L.upB s.data.toList k = turned L.upB s.data.toList (k + 1)) := turned_same _ _ _ c Hc.out (by unfold L.upB; rw [hp']; rfl)
        go_wp2_with fail
        ((with_reducible refine (small_pb c _).mono ?_); rintro e _ ⟨rfl, rfl⟩)
        rw [hp']
        clear hp hp'
        go_wp2_with fail
        go_roundw
        case rel => exact ⟨k + 1, by omega, by go_num, by rw [← Hs.out]; exact Hby.out, Hbl.out⟩
        case measure => simp [intOf]; omega
    · have Hf : Hid (turned L.upB s.data.toList k = s.data.toList.map L.upB) := turned_all _ _ _ (by show s.size ≤ k; omega)
      rw [Hf.out] at Hby
      have kd := Hby.out.conv (cap := cap)
      rw [List.length_map, show s.data.toList.length = s.size from rfl] at kd
      go_wp2_with fail
      go_ret
      exact ⟨rfl, Hbl.out⟩
end Go.Proofs.YtcbpajhlollcbaaDoor
