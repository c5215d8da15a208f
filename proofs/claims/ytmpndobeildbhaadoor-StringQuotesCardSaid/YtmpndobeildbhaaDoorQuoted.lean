/- What handref2.Quoted and handlaw2.strange return. -/
import Derived.Test.YtmpndobeildbhaaDoorBytes
import Derived.Test.YtmpndobeildbhaaDoorQuote
import Derived.Test.YtmpndobeildbhaaDoorMix
namespace Go.Proofs.YtmpndobeildbhaaDoor
open Go.RowKit

/-- k bytes have been written. -/
def RRel (B : Nat) (l : List UInt8) (w : World) (k : Nat) (v : Value) (wr : World) : Prop :=
  OwnB B v (34 :: (l.take k).flatMap Q.qb) wr ∧ Below B w wr
theorem RRel.mk {B : Nat} {l : List UInt8} {w wr wn : World} {k : Nat} {v v' : Value} (hk : k < l.length) (h : RRel B l w k v wr) (hl : Below B wr wn) (t : List UInt8) (ht : t = Q.qb l[k])
    (hb : OwnB B v' (34 :: (l.take k).flatMap Q.qb ++ t) wn) : RRel B l w (k + 1) v' wn := by
  refine ⟨?_, h.2.trans hl⟩
  rw [Q.take_flat l k hk, ← ht]
  exact hb
theorem rrel_len (l : List UInt8) (k : Nat) (h : k ≤ l.length) : (34 :: (l.take k).flatMap Q.qb).length ≤ 4 * l.length + 1 := by
  have h1 := Q.flat_len (l.take k)
  have h2 : (l.take k).length ≤ l.length := by simp; omega
  rw [List.length_cons]; omega

set_option maxHeartbeats 1000000 in
set_option maxRecDepth 100000 in
theorem quoted_any (s : ByteArray) (w : World) (hs : s.size ≤ 1000000000) :
    Calls Tryd.prog 6 #[.string s] w fun e w' => e = .returned (.string ⟨(Q.quote s.data.toList).toArray⟩) ∧ Below w.heap.size w w' := by
  have Hsl : Hid (s.data.toList.length = s.size) := rfl
  have Hr0 : RRel w.heap.size s.data.toList w 0 (.slice (some ⟨w.heap.size, 0, none⟩) 1 1) (w.alloc (.cells #[.int .u8 34] 5)) :=
    ⟨OwnB.lit [34] _ (by simp [Lib.byteCells]) (Nat.le_refl _) (by simp), (Below.refl _ _).alloc (Nat.le_refl _) _⟩
  go_enter Tryd.func6, Tryd.ntmps6
  go_wp2_with fail
  go_loopw [3, 9] (fun v i wr => ∃ k : Nat, k ≤ s.size ∧ i = .int .i64 k ∧ RRel w.heap.size s.data.toList w k v wr) (fun _ i _ => s.size - (intOf i).toNat)
  case atStart => exact ⟨0, Nat.zero_le _, rfl, Hr0⟩
  case round =>
    obtain ⟨k, hk, rfl, hr⟩ := hrel
    clear Hr0
    have hsz : w.heap.size ≤ wr.heap.size := hr.2.size
    have hlen := rrel_len s.data.toList k (by rw [Hsl.out]; exact hk)
    rw [Hsl.out] at hlen
    have Hb := Lib.hid hr.1
    by_cases hlt : k < s.size
    · have c1 : (s[k].toNat : Int) < 256 := by have := s[k].toNat_lt; omega
      have Hq : Hid (∀ t : List UInt8, t = Q.qb s[k] → ∀ v' wn, Below w.heap.size wr wn → OwnB w.heap.size v' (34 :: (s.data.toList.take k).flatMap Q.qb ++ t) wn → RRel w.heap.size s.data.toList w (k + 1) v' wn) :=
        fun t ht v' wn hl hb => RRel.mk (by rw [Hsl.out]; exact hlt) hr hl t (by rw [ht]; rfl) hb
      clear hr
      by_cases hA : s[k].toNat = 34 ∨ s[k].toNat = 92
      · have Hqb : Hid ([92, s[k]] = Q.qb s[k]) := by show _ = _; rw [Q.qb, if_pos hA]
        rcases hA with hA | hA
        · have e1 : ((s[k].toNat : Int) == 34) = true := by simp [hA]
          clear hA
          go_wp2_with (at_builtin; refine app_bytes rfl _ _ rfl w.heap.size _ _ [92, s[k]] _ _ rfl Hb.out rfl rfl (by simp [Lib.byteCells]) hsz (by simp only [List.length_cons, List.length_nil] at *; omega) ?_; intro v' w2 hb2 hg2 hl2; clear hg2)
          go_roundw
          case rel => exact ⟨k + 1, by omega, by go_num, Hq.out _ Hqb.out _ _ hl2 hb2⟩
          case measure => simp [intOf]; omega
        · have e1 : ((s[k].toNat : Int) == 34) = false := by simp [hA]
          have e2 : ((s[k].toNat : Int) == 92) = true := by simp [hA]
          clear hA
          go_wp2_with (at_builtin; refine app_bytes rfl _ _ rfl w.heap.size _ _ [92, s[k]] _ _ rfl Hb.out rfl rfl (by simp [Lib.byteCells]) hsz (by simp only [List.length_cons, List.length_nil] at *; omega) ?_; intro v' w2 hb2 hg2 hl2; clear hg2)
          go_roundw
          case rel => exact ⟨k + 1, by omega, by go_num, Hq.out _ Hqb.out _ _ hl2 hb2⟩
          case measure => simp [intOf]; omega
      · have e1 : ((s[k].toNat : Int) == 34) = false := by simp; omega
        have e2 : ((s[k].toNat : Int) == 92) = false := by simp; omega
        by_cases hB : s[k].toNat = 10
        · have e3 : ((s[k].toNat : Int) == 10) = true := by simp [hB]
          have Hqb : Hid ([92, 110] = Q.qb s[k]) := by show _ = _; rw [Q.qb, if_neg hA, if_pos hB]
          clear hA hB
          go_wp2_with (at_builtin; refine app_str rfl _ _ rfl w.heap.size _ _ _ rfl Hb.out rfl hsz (by simp only [List.length_cons, List.length_nil, ByteArray.size, List.size_toArray] at *; omega) ?_; intro v' w2 hb2 hg2 hl2; clear hg2)
          go_roundw
          case rel => exact ⟨k + 1, by omega, by go_num, Hq.out _ Hqb.out _ _ hl2 hb2⟩
          case measure => simp [intOf]; omega
        · have e3 : ((s[k].toNat : Int) == 10) = false := by simp; omega
          by_cases hC : s[k].toNat < 33 ∨ 126 < s[k].toNat
          · have Hqb : Hid ([92, 120, Q.hexd (s[k].toNat / 16), Q.hexd (s[k].toNat % 16)] = Q.qb s[k]) := by show _ = _; rw [Q.qb, if_neg hA, if_neg hB, if_pos hC]
            rcases hC with hC | hC
            · have hC1 : (s[k].toNat : Int) < 33 := by omega
              clear hA hB hC
              go_wp2_with fail
              refine wp_region_mix (fun _ => True) [(true, 0), (true, 1), (true, 2), (true, 3), (true, 4), (true, 5), (true, 6), (false, 7), (false, 8), (true, 9)] (by kernel_rfl) (by kernel_rfl) (fun _ _ => trivial) (fun KK hKK wd hd_wd => ?_)
              repeat (refine mix_p rfl (fun K hK => ?_); go_simp; (try go_bits); (try simp (disch := omega) only [if_pos, if_neg, dif_pos, dif_neg]); (try go_simp); (refine hK _ ?_; clear hK K))
              refine mix_l rfl (fun K hK => ?_) trivial
              go_wp2_with fail
              refine ⟨trivial, ?_⟩
              refine mix_l rfl (fun K hK => ?_) trivial
              refine app_bytes (w0 := wd) rfl _ _ rfl w.heap.size _ _ [92, 120, Q.hexd (s[k].toNat / 16), Q.hexd (s[k].toNat % 16)] _ _ rfl (Hb.out.kept (hd_wd.below _)) rfl rfl (by simp [Lib.byteCells, hex_at]) (Nat.le_trans hsz (hd_wd.below 0).size) (by simp only [List.length_cons, List.length_nil] at *; omega) ?_
              intro v' w2 hb2 hg2 hl2
              clear hg2
              go_wp2_with fail
              refine ⟨trivial, ?_⟩
              repeat (refine mix_p rfl (fun K hK => ?_); go_simp; (try go_bits); (try simp (disch := omega) only [if_pos, if_neg, dif_pos, dif_neg]); (try go_simp); (refine hK _ ?_; clear hK K))
              refine mix_nil ?_
              simp only [Exit.then]
              refine hKK _ _ ?_
              go_wp2_with fail
              go_roundw
              case rel => exact ⟨k + 1, by omega, by go_num, Hq.out _ Hqb.out _ _ ((hd_wd.below _).trans hl2) hb2⟩
              case measure => simp [intOf]; omega
            · have hC1 : ¬ (s[k].toNat : Int) < 33 := by omega
              have hC2 : (126 : Int) < s[k].toNat := by omega
              clear hA hB hC
              go_wp2_with fail
              refine wp_region_mix (fun _ => True) [(true, 0), (true, 1), (true, 2), (true, 3), (true, 4), (true, 5), (true, 6), (false, 7), (false, 8), (true, 9)] (by kernel_rfl) (by kernel_rfl) (fun _ _ => trivial) (fun KK hKK wd hd_wd => ?_)
              repeat (refine mix_p rfl (fun K hK => ?_); go_simp; (try go_bits); (try simp (disch := omega) only [if_pos, if_neg, dif_pos, dif_neg]); (try go_simp); (refine hK _ ?_; clear hK K))
              refine mix_l rfl (fun K hK => ?_) trivial
              go_wp2_with fail
              refine ⟨trivial, ?_⟩
              refine mix_l rfl (fun K hK => ?_) trivial
              refine app_bytes (w0 := wd) rfl _ _ rfl w.heap.size _ _ [92, 120, Q.hexd (s[k].toNat / 16), Q.hexd (s[k].toNat % 16)] _ _ rfl (Hb.out.kept (hd_wd.below _)) rfl rfl (by simp [Lib.byteCells, hex_at]) (Nat.le_trans hsz (hd_wd.below 0).size) (by simp only [List.length_cons, List.length_nil] at *; omega) ?_
              intro v' w2 hb2 hg2 hl2
              clear hg2
              go_wp2_with fail
              refine ⟨trivial, ?_⟩
              repeat (refine mix_p rfl (fun K hK => ?_); go_simp; (try go_bits); (try simp (disch := omega) only [if_pos, if_neg, dif_pos, dif_neg]); (try go_simp); (refine hK _ ?_; clear hK K))
              refine mix_nil ?_
              simp only [Exit.then]
              refine hKK _ _ ?_
              go_wp2_with fail
              go_roundw
              case rel => exact ⟨k + 1, by omega, by go_num, Hq.out _ Hqb.out _ _ ((hd_wd.below _).trans hl2) hb2⟩
              case measure => simp [intOf]; omega
          · have Hqb : Hid ([s[k]] = Q.qb s[k]) := by show _ = _; rw [Q.qb, if_neg hA, if_neg hB, if_neg hC]
            have hC1 : ¬ (s[k].toNat : Int) < 33 := by omega
            have hC2 : ¬ (126 : Int) < s[k].toNat := by omega
            clear hA hB hC
            go_wp2_with (at_builtin; refine app_bytes rfl _ _ rfl w.heap.size _ _ [s[k]] _ _ rfl Hb.out rfl rfl (by simp [Lib.byteCells]) hsz (by simp only [List.length_cons, List.length_nil] at *; omega) ?_; intro v' w2 hb2 hg2 hl2; clear hg2)
            go_roundw
            case rel => exact ⟨k + 1, by omega, by go_num, Hq.out _ Hqb.out _ _ hl2 hb2⟩
            case measure => simp [intOf]; omega
    · have hke : s.data.toList.take k = s.data.toList := List.take_of_length_le (by rw [Hsl.out]; omega)
      have hr2 := hr.2
      rw [hke] at Hb hlen
      clear hke hr
      go_wp2_with (at_builtin; refine app_bytes rfl _ _ rfl w.heap.size _ _ [34] _ _ rfl Hb.out rfl rfl (by simp [Lib.byteCells]) hsz (by simp only [List.length_cons, List.length_nil] at *; omega) ?_; intro v' w2 hb2 hg2 hl2; clear hg2; have hcv := hb2.conv)
      go_ret
      exact ⟨rfl, hr2.trans hl2⟩

theorem strange_any (b m : Nat) (w : World) (hs : Strm b m w) (hm : m ≤ 100000000000) :
    Calls Tryd.prog 4 #[.pointer (some ⟨b, 0, none⟩)] w (DrawsStr b (m + 9) 32 w) := by
  go_enter Tryd.func4, Tryd.ntmps4
  go_wp2_with fail
  ((with_reducible refine (range_any b m _ _ _ hs (by omega) (by omega) (by omega) (by omega)).mono ?_); rintro e w1 ⟨r, hr0, hr1, rfl, hk1, hs1⟩)
  obtain ⟨n, rfl⟩ := Int.eq_ofNat_of_zero_le hr0
  clear hs
  go_wp2_with fail
  go_loopw [3, 6] (fun v i wr => ∃ (k : Nat) (t : ByteArray), k ≤ n ∧ i = .int .i64 k ∧ v = .string t ∧ t.size ≤ 4 * k ∧ SK b w wr ∧ Strm b (m + 1 + k) wr) (fun _ i _ => n - (intOf i).toNat)
  case atStart => exact ⟨0, ByteArray.mk #[], Nat.zero_le _, rfl, rfl, by simp [ByteArray.size], hk1, hs1⟩
  case round =>
    obtain ⟨k, t, hk, rfl, rfl, ht, hkr, hsr⟩ := hrel
    clear hk1 hs1
    by_cases hlt : k < n
    · go_wp2_with fail
      have hs2 := hsr.alloc (.cells #[.string ⟨#[97]⟩, .string ⟨#[32]⟩, .string ⟨#[34]⟩, .string ⟨#[92]⟩, .string ⟨#[10]⟩, .string ⟨#[0]⟩, .string ⟨#[127]⟩, .string ⟨#[255]⟩, .string ⟨#[195, 169]⟩, .string ⟨#[92, 120]⟩, .string ⟨#[48]⟩, .string ⟨#[240, 159, 152, 128]⟩, .string ⟨#[195]⟩, .string ⟨#[98]⟩, .string ⟨#[61]⟩] 9)
      ((with_reducible refine (next_any b (m + 1 + k) _ _ hs2 (by omega) (by omega) (by omega)).mono ?_); rintro e w3 ⟨r, hr0', hr1', rfl, hk3, hs3⟩)
      have hcell : ∀ j : Nat, w3.cell? ⟨wr.heap.size, j, none⟩ = (wr.alloc (.cells #[.string ⟨#[97]⟩, .string ⟨#[32]⟩, .string ⟨#[34]⟩, .string ⟨#[92]⟩, .string ⟨#[10]⟩, .string ⟨#[0]⟩, .string ⟨#[127]⟩, .string ⟨#[255]⟩, .string ⟨#[195, 169]⟩, .string ⟨#[92, 120]⟩, .string ⟨#[48]⟩, .string ⟨#[240, 159, 152, 128]⟩, .string ⟨#[195]⟩, .string ⟨#[98]⟩, .string ⟨#[61]⟩] 9)).cell? ⟨wr.heap.size, j, none⟩ := fun j =>
        World.cell?_of_block (hk3.block wr.heap.size (by simp) (by have := hsr.lt; omega))
      obtain ⟨j, rfl⟩ := Int.eq_ofNat_of_zero_le hr0'
      have hj : j < 15 := by omega
      obtain ⟨u, hu, hcj⟩ : ∃ u : ByteArray, u.size ≤ 4 ∧ w3.cell? ⟨wr.heap.size, j, none⟩ = some (.string u) := by
        rw [hcell j, World.cell?_alloc_at _ _ _ _ rfl]
        obtain rfl | rfl | rfl | rfl | rfl | rfl | rfl | rfl | rfl | rfl | rfl | rfl | rfl | rfl | rfl : j = 0 ∨ j = 1 ∨ j = 2 ∨ j = 3 ∨ j = 4 ∨ j = 5 ∨ j = 6 ∨ j = 7 ∨ j = 8 ∨ j = 9 ∨ j = 10 ∨ j = 11 ∨ j = 12 ∨ j = 13 ∨ j = 14 := by omega
        all_goals exact ⟨_, by decide, rfl⟩
      clear hcell hs2
      go_wp2_with fail
      go_roundw
      case rel => exact ⟨k + 1, t ++ u, by omega, by go_num, rfl, by rw [ByteArray.size_append]; omega, (hkr.alloc _).trans hk3, hs3⟩
      case measure => simp [intOf]; omega
    · go_wp2_with fail
      go_ret
      exact ⟨t, by omega, rfl, hkr, hsr.mono (by omega)⟩
end Go.Proofs.YtmpndobeildbhaaDoor
