/- What person.kindName, IdWords and consent.Seal return. -/
import Derived.Test.YtlnklkedpknbpaaGreatDoorMay
import Derived.Deep.QuietTactic
import Derived.Lib.ConvBytes
namespace Go.Proofs.YtlnklkedpknbpaaGreatDoor
open Go.RowKit
theorem kindName1_any (w : World) : Calls Tryz.prog 169 #[.int .i64 1] w fun e w' => e = .returned (.string ⟨#[109, 97, 105, 108]⟩) ∧ Below w.heap.size w w' := by
  go_enter Tryz.func169, Tryz.ntmps169
  go_wp2_with fail
  go_ret
  exact ⟨rfl, (Below.refl _ _).alloc (Nat.le_refl _) _⟩
set_option maxRecDepth 100000 in
theorem idWords1_any (w : World) : Calls Tryz.prog 127 #[.agg #[.int .i64 1, .string ⟨#[97, 64, 98, 46, 100, 101]⟩]] w fun e w' => e = .returned (.string ⟨#[109, 97, 105, 108, 32, 97, 64, 98, 46, 100, 101]⟩) ∧ Below w.heap.size w w' := by
  have hb0 : Below w.heap.size w (w.alloc (.cells #[.int .i64 1, .string ⟨#[97, 64, 98, 46, 100, 101]⟩] 29)) := (Below.refl _ _).alloc (Nat.le_refl _) _
  have lv := LV.new w w.heap.size #[.int .i64 1, .string ⟨#[97, 64, 98, 46, 100, 101]⟩] 29 rfl
  go_enter Tryz.func127, Tryz.ntmps127
  go_wp2_with fail
  generalize w.alloc (.cells #[.int .i64 1, .string ⟨#[97, 64, 98, 46, 100, 101]⟩] 29) = w1 at *
  refine wp_region_mixG 8 (fun w' => LV w' w.heap.size #[.int .i64 1, .string ⟨#[97, 64, 98, 46, 100, 101]⟩] 29) [.q 0, .q 1, .q 4, .q 5, .e 2, .q 3, .q 6, .q 7] (by kernel_rfl) (by kernel_rfl) (fun w' hd => LV.kb3 lv (hd.below _) lv.lt) (fun KK hKK wd hd => ?_)
  have hC : LV wd w.heap.size #[.int .i64 1, .string ⟨#[97, 64, 98, 46, 100, 101]⟩] 29 := LV.kb3 lv (hd.below _) lv.lt
  have Hbd : Hid (Below w.heap.size w wd) := hb0.trans ((hd.below _).mono hb0.size)
  clear hd lv hb0
  repeat (refine mixG_p rfl (fun K hK => ?_); go_simp; (try go_bits); (try simp (disch := omega) only [if_pos]); (try simp (disch := omega) only [if_neg]); (try simp (disch := omega) only [dif_pos]); (try simp (disch := omega) only [dif_neg]); (try go_simp); (refine hK _ ?_; clear hK K))
  refine mixG_load (.int .i64 1) rfl rfl rfl rfl (fun _ => rfl) (fun w' h => h.cell 0 _ rfl) ?_
  repeat (refine mixG_p rfl (fun K hK => ?_); go_simp; (try go_bits); (try simp (disch := omega) only [if_pos]); (try simp (disch := omega) only [if_neg]); (try simp (disch := omega) only [dif_pos]); (try simp (disch := omega) only [dif_neg]); (try go_simp); (refine hK _ ?_; clear hK K))
  refine mixG_load (.string ⟨#[97, 64, 98, 46, 100, 101]⟩) rfl rfl rfl rfl (fun _ => rfl) (fun w' h => h.cell 1 _ rfl) ?_
  refine mixG_l rfl rfl (fun K hK => ?_)
  go_wp2_with fail
  ((with_reducible refine (kindName1_any wd).mono ?_); rintro e w4 ⟨rfl, hl4⟩)
  have hC4 : LV w4 w.heap.size #[.int .i64 1, .string ⟨#[97, 64, 98, 46, 100, 101]⟩] 29 := LV.kb3 hC hl4 hC.lt
  have Hb4 : Hid (Below w.heap.size w w4) := Hbd.out.trans (hl4.mono Hbd.out.size)
  clear hl4 hC Hbd
  go_wp2_with fail
  refine ⟨fun _ => hC4, ?_⟩
  repeat (refine mixG_p rfl (fun K hK => ?_); go_simp; (try go_bits); (try simp (disch := omega) only [if_pos]); (try simp (disch := omega) only [if_neg]); (try simp (disch := omega) only [dif_pos]); (try simp (disch := omega) only [dif_neg]); (try go_simp); (refine hK _ ?_; clear hK K))
  refine mixG_nil ?_
  simp only [Exit.then]
  refine hKK _ _ ?_
  go_wp2_with fail
  go_ret
  exact ⟨rfl, Hb4.out⟩
theorem sealMade (w : World) (s : ByteArray) (j : Nat) (c : UInt8) (hc : s.data.toList[j]? = some c) : (Lib.bytesWorld w 5 s).cell? ⟨w.heap.size, j, none⟩ = some (.int .u8 c.toNat) := by
  have hj : j < s.size := by
    have : j < s.data.toList.length := (List.getElem?_eq_some_iff.1 hc).1
    exact this
  rw [Lib.bytesWorld_cell w _ s j hj]
  simp [List.getD, hc]
theorem sealBelow (w : World) (s : ByteArray) : Below w.heap.size w (Lib.bytesWorld w 5 s) :=
  ⟨rfl, rfl, rfl, by rw [Lib.bytesWorld_size]; omega, fun k hk => Lib.bytesWorld_at_old w _ s k hk⟩
/-- the sum of bytes -/
def bsum (l : List UInt8) : Nat := (l.map (·.toNat)).sum
theorem bsum_take (l : List UInt8) (k : Nat) (c : UInt8) (h : l[k]? = some c) : bsum (l.take (k + 1)) = bsum (l.take k) + c.toNat := by
  rw [List.take_add_one, h]
  simp [bsum]
set_option maxHeartbeats 4000000 in
set_option maxRecDepth 100000 in
theorem seal1_any (w : World) (hM : MaxL w) : Calls Tryz.prog 73 #[.agg #[.int .i64 1, .string ⟨#[97, 64, 98, 46, 100, 101]⟩]] w fun e w' => (∃ n : Int, 0 < n ∧ e = .returned (.tuple #[.int .i64 n, .int .i64 0])) ∧ Below w.heap.size w w' := by
  have hb0 : Below w.heap.size w (w.alloc (.cells #[.int .i64 1, .string ⟨#[97, 64, 98, 46, 100, 101]⟩] 29)) := (Below.refl _ _).alloc (Nat.le_refl _) _
  have lv := LV.new w w.heap.size #[.int .i64 1, .string ⟨#[97, 64, 98, 46, 100, 101]⟩] 29 rfl
  have e1 : L.idFault 1 ⟨#[97, 64, 98, 46, 100, 101]⟩ = 0 := by decide +kernel
  have Hc := Lib.hid (checkId_any 1 ⟨#[97, 64, 98, 46, 100, 101]⟩ _ (by decide) (hM.below hb0))
  rw [e1] at Hc
  go_enter Tryz.func73, Tryz.ntmps73
  go_wp2_with fail
  ((with_reducible refine (Hc.out).mono ?_); rintro e w2 ⟨rfl, hl2⟩)
  have lv2 := LV.kb3 lv hl2 lv.lt
  have Hb2 : Hid (Below w.heap.size w w2) := hb0.trans (hl2.mono hb0.size)
  have c0 : w2.cell? ⟨w.heap.size, 0, none⟩ = some (.int .i64 1) := lv2.cell 0 _ rfl
  have c1 : w2.cell? ⟨w.heap.size, 1, none⟩ = some (.string ⟨#[97, 64, 98, 46, 100, 101]⟩) := lv2.cell 1 _ rfl
  clear lv lv2 hl2 hb0 Hc
  go_wp2_with fail
  ((with_reducible refine (idWords1_any w2).mono ?_); rintro e w3 ⟨rfl, hl3⟩)
  have Hb3 : Hid (Below w.heap.size w w3) := Hb2.out.trans (hl3.mono Hb2.out.size)
  clear c0 c1 hl3
  have kc := fun w => Lib.run_convert_string_bytes (P := Tryz.prog) w 9 177 5 ⟨#[109, 97, 105, 108, 32, 97, 64, 98, 46, 100, 101]⟩ Tryz.underlying9 Tryz.underlying177 Tryz.underlying5
  have Hm := Lib.hid (sealMade w3 ⟨#[109, 97, 105, 108, 32, 97, 64, 98, 46, 100, 101]⟩)
  have Hbb := Lib.hid (sealBelow w3 ⟨#[109, 97, 105, 108, 32, 97, 64, 98, 46, 100, 101]⟩)
  go_wp2_with fail
  clear kc
  generalize Lib.bytesWorld w3 5 ⟨#[109, 97, 105, 108, 32, 97, 64, 98, 46, 100, 101]⟩ = w4 at *
  go_loopw [5, 6, 18] (fun h s i wr => ∃ (k : Nat) (z : Int), k ≤ 11 ∧ i = .int .i64 k ∧ h = .int .u32 z ∧ (0 ≤ z ∧ z < 4294967296) ∧ s = .int .i64 (bsum ((⟨#[109, 97, 105, 108, 32, 97, 64, 98, 46, 100, 101]⟩ : ByteArray).data.toList.take k) : Nat) ∧ w4 = wr) (fun _ _ i _ => 11 - (intOf i).toNat)
  case atStart => exact ⟨0, 2166136261, by omega, rfl, rfl, by omega, rfl, rfl⟩
  case round =>
    obtain ⟨k, z, hk, rfl, rfl, hz, rfl, rfl⟩ := hrel
    by_cases hlt : k < 11
    · obtain ⟨c, hc⟩ : ∃ c, (⟨#[109, 97, 105, 108, 32, 97, 64, 98, 46, 100, 101]⟩ : ByteArray).data.toList[k]? = some c := ⟨_, List.getElem?_eq_getElem (by show k < 11; exact hlt)⟩
      have c0 := Hm.out k c hc
      have Hbs := Lib.hid (bsum_take _ k c hc)
      have hcl : (c.toNat : Int) < 256 := by have := c.toNat_lt; omega
      have hbl : bsum ((⟨#[109, 97, 105, 108, 32, 97, 64, 98, 46, 100, 101]⟩ : ByteArray).data.toList.take k) ≤ 100000 := by
        have : ∀ j : Fin 12, bsum ((⟨#[109, 97, 105, 108, 32, 97, 64, 98, 46, 100, 101]⟩ : ByteArray).data.toList.take j.val) ≤ 100000 := by decide +kernel
        exact this ⟨k, by omega⟩
      clear hc
      generalize bsum ((⟨#[109, 97, 105, 108, 32, 97, 64, 98, 46, 100, 101]⟩ : ByteArray).data.toList.take k) = q at *
      go_wp2_with fail
      refine ⟨⟨k + 1, _, by omega, by simp, rfl, ⟨Int.emod_nonneg _ (by decide), Int.emod_lt_of_pos _ (by decide)⟩, ?_, trivial⟩, by simp [intOf]; omega⟩
      have hb := Hbs.out
      refine congrArg _ ?_
      refine Eq.trans ?_ (congrArg Int.ofNat hb.symm)
      simp
    · obtain rfl : k = 11 := by omega
      have e11 : bsum ((⟨#[109, 97, 105, 108, 32, 97, 64, 98, 46, 100, 101]⟩ : ByteArray).data.toList.take 11) = 957 := by decide +kernel
      rw [e11]
      go_wp2_with fail
      go_ret2
      exact ⟨⟨z * 1009 + 957, by omega, rfl⟩, Hb3.out.trans (Hbb.out.mono Hb3.out.size)⟩
end Go.Proofs.YtlnklkedpknbpaaGreatDoor
