/- Several texts in one: Seals, SealChk, ViaMem, EqInt, LawSeal. -/
import Derived.Test.YthmkphmciiiagaaGreatDoorPackA
import Derived.Test.YthmkphmciiiagaaGreatDoorPackB
import Derived.Laws.Bits64
import Derived.Test.YthmkphmciiiagaaGreatDoorPackC
import Derived.Test.YthmkphmciiiagaaGreatDoorSortInt
import Derived.Test.YthmkphmciiiagaaGreatDoorInts
import Derived.Test.YthmkphmciiiagaaGreatDoorProof
import Derived.Test.YthmkphmciiiagaaGreatDoorPackH
/- The seal of an id: what person.IdWords, consent.Seal and handref2.SealOf return. -/
namespace Go.Proofs.YthmkphmciiiagaaGreatDoor
open Go Go.RowKit
theorem addStr (a b : ByteArray) (ha : a.size ≤ 1000000000) (hb : b.size ≤ 1000000000) (w : World) : (Op.stringOp .add a b).run Tryz.prog w = .ok (.string (a ++ b)) w := run_string_add_sum w a b (by omega)
theorem wrapU32 (n : Int) : IntKind.u32.wrap n = n % 4294967296 := by simp [IntKind.wrap, IntKind.bits, IntKind.signed]
theorem bitsXorU32 (a b : Nat) (ha : a < 4294967296) (hb : b < 4294967296) : bits .xor .u32 (a : Int) (b : Int) = ((a ^^^ b : Nat) : Int) := by
  show IntKind.u32.wrap ((BitVec.ofInt 32 (a : Int) ^^^ BitVec.ofInt 32 (b : Int)).toNat : Int) = _
  have h1 : (BitVec.ofInt 32 (a : Int)).toNat = a := by rw [BitVec.ofInt_natCast, BitVec.toNat_ofNat]; exact Nat.mod_eq_of_lt (by omega)
  have h2 : (BitVec.ofInt 32 (b : Int)).toNat = b := by rw [BitVec.ofInt_natCast, BitVec.toNat_ofNat]; exact Nat.mod_eq_of_lt (by omega)
  have h3 : a ^^^ b < 2 ^ 32 := Nat.xor_lt_two_pow (by omega) (by omega)
  rw [BitVec.toNat_xor, h1, h2, wrapU32]
  omega
theorem bitsXorI64 (a b : Nat) (ha : a < 4294967296) (hb : b < 4294967296) : bits .xor .i64 (a : Int) (b : Int) = ((a ^^^ b : Nat) : Int) := by
  show IntKind.i64.wrap ((BitVec.ofInt 64 (a : Int) ^^^ BitVec.ofInt 64 (b : Int)).toNat : Int) = _
  have h1 : (BitVec.ofInt 64 (a : Int)).toNat = a := by rw [BitVec.ofInt_natCast, BitVec.toNat_ofNat]; exact Nat.mod_eq_of_lt (by omega)
  have h2 : (BitVec.ofInt 64 (b : Int)).toNat = b := by rw [BitVec.ofInt_natCast, BitVec.toNat_ofNat]; exact Nat.mod_eq_of_lt (by omega)
  have h3 : a ^^^ b < 2 ^ 32 := Nat.xor_lt_two_pow (by omega) (by omega)
  rw [BitVec.toNat_xor, h1, h2]
  exact IntWalk.i64_in _ (by omega)
def hStep (h : Nat) (c : UInt8) : Nat := (h ^^^ c.toNat) * 16777619 % 4294967296
def hSum (l : List UInt8) : Nat := l.foldl hStep 2166136261
theorem foldl_take {β : Type} (f : β → UInt8 → β) (b : β) (l : List UInt8) (k : Nat) (c : UInt8) (h : l[k]? = some c) : (l.take (k + 1)).foldl f b = f ((l.take k).foldl f b) c := by
  rw [List.take_add_one, h]
  simp only [Option.toList_some, List.foldl_append, List.foldl_cons, List.foldl_nil]
theorem hSum_take (l : List UInt8) (k : Nat) (c : UInt8) (h : l[k]? = some c) : hSum (l.take (k + 1)) = hStep (hSum (l.take k)) c := foldl_take hStep 2166136261 l k c h
theorem hSum_lt (l : List UInt8) : hSum l < 4294967296 := by
  unfold hSum
  rcases List.eq_nil_or_concat l with rfl | ⟨a, c, rfl⟩
  · show (2166136261 : Nat) < 4294967296
    omega
  · rw [List.concat_eq_append, List.foldl_append, List.foldl_cons, List.foldl_nil, hStep]
    exact Nat.mod_lt _ (by omega)
theorem bsum_le (l : List UInt8) : bsum l ≤ 255 * l.length := by
  induction l with
  | nil => simp [bsum]
  | cons c r ih =>
    have hc := c.toNat_lt
    simp only [bsum, List.map_cons, List.sum_cons, List.length_cons] at ih ⊢
    omega
def kword (k : Int) : ByteArray := if k = 1 then ⟨#[109, 97, 105, 108]⟩ else if k = 2 then ⟨#[112, 104, 111, 110, 101]⟩ else if k = 3 then ⟨#[109, 101, 109, 98, 101, 114]⟩ else ⟨#[100, 101, 118, 105, 99, 101]⟩
def idW (k : Int) (t : ByteArray) : ByteArray := kword k ++ ⟨#[32]⟩ ++ t
def sealB (l : List UInt8) : Int := (hSum l : Int) * 1009 + ((bsum l % 1009 : Nat) : Int)
def sealOf (k : Int) (t : ByteArray) : Int := sealB (idW k t).data.toList
theorem kindName_any (k : Int) (hk : 1 ≤ k ∧ k ≤ 4) (w : World) : Calls Tryz.prog 150 #[.int .i64 k] w fun e w' => e = .returned (.string (kword k)) ∧ Below w.heap.size w w' := by
  have h : k = 1 ∨ k = 2 ∨ k = 3 ∨ k = 4 := by omega
  rcases h with rfl | rfl | rfl | rfl
  all_goals
    go_enter Tryz.func150, Tryz.ntmps150
    go_wp2_with fail
    go_ret
    exact ⟨rfl, (Below.refl _ _).alloc (Nat.le_refl _) _⟩
theorem wordAt (k : Int) (v : ByteArray) (h : (k = 1 ∧ v = ⟨#[109, 97, 105, 108]⟩) ∨ (k = 2 ∧ v = ⟨#[112, 104, 111, 110, 101]⟩) ∨ (k = 3 ∧ v = ⟨#[109, 101, 109, 98, 101, 114]⟩) ∨ (k = 4 ∧ v = ⟨#[100, 101, 118, 105, 99, 101]⟩)) (w : World) : (Instr.index 206 (.agg #[.string ⟨#[]⟩, .string ⟨#[109, 97, 105, 108]⟩, .string ⟨#[112, 104, 111, 110, 101]⟩, .string ⟨#[109, 101, 109, 98, 101, 114]⟩, .string ⟨#[100, 101, 118, 105, 99, 101]⟩]) (.int .i64 k)).run Tryz.prog w = .ok (.string v) w := by
  rcases h with ⟨rfl, rfl⟩ | ⟨rfl, rfl⟩ | ⟨rfl, rfl⟩ | ⟨rfl, rfl⟩ <;> kernel_rfl
set_option maxRecDepth 100000 in
theorem refIdWord_any (k : Int) (hk : 1 ≤ k ∧ k ≤ 4) (w : World) : Calls Tryz.prog 80 #[.int .i64 k] w fun e w' => e = .returned (.string (kword k)) ∧ w = w' := by
  have h : k = 1 ∨ k = 2 ∨ k = 3 ∨ k = 4 := by omega
  have i1 := wordAt 1 ⟨#[109, 97, 105, 108]⟩ (by simp)
  have i2 := wordAt 2 ⟨#[112, 104, 111, 110, 101]⟩ (by simp)
  have i3 := wordAt 3 ⟨#[109, 101, 109, 98, 101, 114]⟩ (by simp)
  have i4 := wordAt 4 ⟨#[100, 101, 118, 105, 99, 101]⟩ (by simp)
  rcases h with rfl | rfl | rfl | rfl
  all_goals
    go_enter Tryz.func80, Tryz.ntmps80
    go_wp2_with fail
    go_ret
    exact ⟨rfl, rfl⟩
theorem idFault_kind (k : Int) (t : ByteArray) (h : L.idFault k t = 0) : 1 ≤ k ∧ k ≤ 4 := by
  unfold L.idFault at h
  split at h
  · omega
  · split at h
    · omega
    · split at h
      · omega
      · split at h
        · omega
        · cases h
set_option maxRecDepth 100000 in
theorem idWords_any (k : Int) (t : ByteArray) (ht : t.size ≤ 1000000) (hk : 1 ≤ k ∧ k ≤ 4) (w : World) : Calls Tryz.prog 71 #[.agg #[.int .i64 k, .string t]] w fun e w' => e = .returned (.string (idW k t)) ∧ Below w.heap.size w w' := by
  have hb0 : Below w.heap.size w (w.alloc (.cells #[.int .i64 k, .string t] 29)) := (Below.refl _ _).alloc (Nat.le_refl _) _
  have lv := LV.new w w.heap.size #[.int .i64 k, .string t] 29 rfl
  obtain ⟨q, hq⟩ : ∃ q, kword k = q := ⟨_, rfl⟩
  have hqs : q.size ≤ 6 := by
    rw [← hq]; unfold kword
    split <;> (try split) <;> (try split) <;> decide
  have Hkn := Lib.hid (fun w => hq ▸ kindName_any k hk w)
  have hw1 : idW k t = q ++ ⟨#[32]⟩ ++ t := by rw [idW, hq]
  rw [hw1]
  have hqs2 : (q ++ ⟨#[32]⟩).size ≤ 7 := by rw [ByteArray.size_append]; show q.size + 1 ≤ 7; omega
  have ha1 := addStr q ⟨#[32]⟩ (by omega) (by decide)
  have ha2 := addStr (q ++ ⟨#[32]⟩) t (by omega) (by omega)
  clear hq hw1
  go_enter Tryz.func71, Tryz.ntmps71
  go_wp2_with fail
  generalize w.alloc (.cells #[.int .i64 k, .string t] 29) = w1 at *
  refine wp_region_mixG 8 (fun w' => LV w' w.heap.size #[.int .i64 k, .string t] 29) [.q 0, .q 1, .q 4, .q 5, .e 2, .q 3, .q 6, .q 7] (by kernel_rfl) (by kernel_rfl) (fun w' hd => LV.kb3 lv (hd.below _) lv.lt) (fun KK hKK wd hd => ?_)
  have hC : LV wd w.heap.size #[.int .i64 k, .string t] 29 := LV.kb3 lv (hd.below _) lv.lt
  have Hbd : Hid (Below w.heap.size w wd) := hb0.trans ((hd.below _).mono hb0.size)
  clear hd lv hb0
  repeat (refine mixG_p rfl (fun K hK => ?_); go_simp; (try go_bits); (try simp (disch := omega) only [if_pos]); (try simp (disch := omega) only [if_neg]); (try simp (disch := omega) only [dif_pos]); (try simp (disch := omega) only [dif_neg]); (try go_simp); (refine hK _ ?_; clear hK K))
  refine mixG_load (.int .i64 k) rfl rfl rfl rfl (fun _ => rfl) (fun w' h => h.cell 0 _ rfl) ?_
  repeat (refine mixG_p rfl (fun K hK => ?_); go_simp; (try go_bits); (try simp (disch := omega) only [if_pos]); (try simp (disch := omega) only [if_neg]); (try simp (disch := omega) only [dif_pos]); (try simp (disch := omega) only [dif_neg]); (try go_simp); (refine hK _ ?_; clear hK K))
  refine mixG_load (.string t) rfl rfl rfl rfl (fun _ => rfl) (fun w' h => h.cell 1 _ rfl) ?_
  refine mixG_l rfl rfl (fun K hK => ?_)
  go_wp2_with fail
  ((with_reducible refine (Hkn.out wd).mono ?_); rintro e w4 ⟨rfl, hl4⟩)
  have hC4 : LV w4 w.heap.size #[.int .i64 k, .string t] 29 := LV.kb3 hC hl4 hC.lt
  have Hb4 : Hid (Below w.heap.size w w4) := Hbd.out.trans (hl4.mono Hbd.out.size)
  clear hl4 hC Hbd
  go_wp2_with fail
  refine ⟨fun _ => hC4, ?_⟩
  repeat (refine mixG_p rfl (fun K hK => ?_); go_simp; (try go_bits); (try simp (disch := omega) only [if_pos]); (try simp (disch := omega) only [if_neg]); (try simp (disch := omega) only [dif_pos]); (try simp (disch := omega) only [dif_neg]); (try go_simp); (refine hK _ ?_; clear hK K))
  refine mixG_nil ?_
  simp only [Exit.then]
  refine hKK _ _ ?_
  go_wp2_with fail
  go_ret
  exact ⟨rfl, Hb4.out⟩
set_option maxHeartbeats 4000000 in
set_option maxRecDepth 100000 in
theorem seal_any (k : Int) (t : ByteArray) (w : World) (ht : t.size ≤ 1000000) (hM : MaxL w) : Calls Tryz.prog 18 #[.agg #[.int .i64 k, .string t]] w fun e w' => e = .returned (.tuple #[.int .i64 (if L.idFault k t = 0 then sealOf k t else 0), .int .i64 (L.idFault k t)]) ∧ Below w.heap.size w w' := by
  have hb0 : Below w.heap.size w (w.alloc (.cells #[.int .i64 k, .string t] 29)) := (Below.refl _ _).alloc (Nat.le_refl _) _
  have lv := LV.new w w.heap.size #[.int .i64 k, .string t] 29 rfl
  have Hc := Lib.hid (checkId_any k t _ ht (hM.below hb0))
  have Hk := Lib.hid (idFault_kind k t)
  obtain ⟨F, hF⟩ : ∃ F, L.idFault k t = F := ⟨_, rfl⟩
  rw [hF] at Hc Hk ⊢
  obtain ⟨R, HR⟩ : ∃ R, Hid ((if F = 0 then sealOf k t else 0) = R) := ⟨_, Lib.hid rfl⟩
  rw [HR.out]
  clear hF
  go_enter Tryz.func18, Tryz.ntmps18
  go_wp2_with fail
  ((with_reducible refine (Hc.out).mono ?_); rintro e w2 ⟨rfl, hl2⟩)
  have lv2 := LV.kb3 lv hl2 lv.lt
  have Hb2 : Hid (Below w.heap.size w w2) := hb0.trans (hl2.mono hb0.size)
  have c0 := lv2.all
  clear lv lv2 hl2 hb0 Hc
  by_cases hF : F = 0
  · have hk := Hk.out hF
    have HR1 : Hid (sealB (idW k t).data.toList = R) := by show _ = _; rw [← HR.out, if_pos hF]; rfl
    subst hF
    clear HR
    go_wp2_with fail
    ((with_reducible refine (idWords_any k t ht hk w2).mono ?_); rintro e w3 ⟨rfl, hl3⟩)
    have Hb3 : Hid (Below w.heap.size w w3) := Hb2.out.trans (hl3.mono Hb2.out.size)
    clear c0 hl3
    obtain ⟨s, Hs⟩ : ∃ s, Hid (idW k t = s) := ⟨_, Lib.hid rfl⟩
    rw [Hs.out] at HR1 ⊢
    have kc := fun w => Lib.run_convert_string_bytes (P := Tryz.prog) w 9 118 5 s Tryz.underlying9 Tryz.underlying118 Tryz.underlying5
    have Hm := Lib.hid (sealMade w3 s)
    have Hbb := Lib.hid (sealBelow w3 s)
    go_wp2_with fail
    clear kc
    generalize hw4 : Lib.bytesWorld w3 5 s = w4 at *
    clear hw4
    have hsl : s.data.toList.length ≤ 2000000 := by
      rw [← Hs.out]
      have h1 : (idW k t).size = (kword k).size + 1 + t.size := by rw [idW, ByteArray.size_append, ByteArray.size_append]; rfl
      have h2 : (kword k).size ≤ 6 := by unfold kword; split <;> (try split) <;> (try split) <;> decide
      have h3 : (idW k t).data.toList.length = (idW k t).size := rfl
      omega
    obtain ⟨n, hn⟩ : ∃ n, s.data.toList.length = n := ⟨_, rfl⟩
    have hn2 : s.size = n := hn
    rw [hn2]
    have Hbl : Hid (∀ j, bsum (s.data.toList.take j) ≤ 255 * n) := fun j => by
      have h1 := bsum_le (s.data.toList.take j)
      have h2 : (s.data.toList.take j).length ≤ n := by rw [List.length_take]; omega
      exact Nat.le_trans h1 (Nat.mul_le_mul_left _ h2)
    rw [hn] at hsl
    have Hn := Lib.hid hn
    clear hn hn2
    go_loopw [5, 6, 18] (fun h z i wr => ∃ j : Nat, j ≤ n ∧ i = .int .i64 j ∧ h = .int .u32 (hSum (s.data.toList.take j) : Nat) ∧ z = .int .i64 (bsum (s.data.toList.take j) : Nat) ∧ w4 = wr) (fun _ _ i _ => n - (intOf i).toNat)
    case atStart => exact ⟨0, by omega, rfl, rfl, rfl, rfl⟩
    case round =>
      obtain ⟨j, hj, rfl, rfl, rfl, rfl⟩ := hrel
      by_cases hlt : j < n
      · obtain ⟨c, hc⟩ : ∃ c, s.data.toList[j]? = some c := ⟨_, List.getElem?_eq_getElem (by have := Hn.out; omega)⟩
        have c0 := Hm.out j c hc
        have Hbs := Lib.hid (bsum_take _ j c hc)
        have Hhs := Lib.hid (hSum_take _ j c hc)
        have hbl := Hbl.out j
        have hh := hSum_lt (s.data.toList.take j)
        have hcl : (c.toNat : Int) < 256 := by have := c.toNat_lt; omega
        have hcl2 : c.toNat < 4294967296 := by have := c.toNat_lt; omega
        clear hc
        generalize bsum (s.data.toList.take j) = q at *
        generalize hSum (s.data.toList.take j) = h at *
        have hx := bitsXorU32 h c.toNat hh hcl2
        have hw8 : IntKind.u32.wrap (c.toNat : Int) = (c.toNat : Int) := by rw [wrapU32]; omega
        go_wp2_with fail
        refine ⟨⟨j + 1, by omega, by go_num, ?_, ?_, trivial⟩, by simp [intOf]; omega⟩
        · rw [Hhs.out, hStep, Int.natCast_emod, Int.natCast_mul]; rfl
        · rw [Hbs.out, Int.natCast_add]
      · have ht1 : s.data.toList.take j = s.data.toList := List.take_of_length_le (by have := Hn.out; omega)
        rw [ht1]
        have hh := hSum_lt s.data.toList
        have hbl := Hbl.out n
        rw [show s.data.toList.take n = s.data.toList from List.take_of_length_le (by have := Hn.out; omega)] at hbl
        have HR2 : Hid ((hSum s.data.toList : Int) * 1009 + ((bsum s.data.toList % 1009 : Nat) : Int) = R) := by show _ = _; rw [← HR1.out]; rfl
        have Hj := Lib.hid hlt
        clear HR1
        generalize bsum s.data.toList = q at *
        generalize hSum s.data.toList = h at *
        go_wp2_with fail
        go_ret2
        exact ⟨by rw [← HR2.out, Int.natCast_emod]; rfl, Hb3.out.trans (Hbb.out.mono Hb3.out.size)⟩
  · have hF' : (F != 0) = true := by simpa using hF
    obtain rfl : 0 = R := by rw [← HR.out, if_neg hF]
    clear HR hF
    go_wp2_with fail
    go_ret2
    exact ⟨rfl, Hb2.out⟩
set_option maxHeartbeats 4000000 in
set_option maxRecDepth 100000 in
theorem refSeal_any (k : Int) (t : ByteArray) (hk : 1 ≤ k ∧ k ≤ 4) (w : World) (ht : t.size ≤ 1000000) : Calls Tryz.prog 20 #[.agg #[.int .i64 k, .string t]] w fun e w' => e = .returned (.int .i64 (sealOf k t)) ∧ Below w.heap.size w w' := by
  have hb0 : Below w.heap.size w (w.alloc (.cells #[.int .i64 k, .string t] 29)) := (Below.refl _ _).alloc (Nat.le_refl _) _
  have lv := LV.new w w.heap.size #[.int .i64 k, .string t] 29 rfl
  obtain ⟨q, hq⟩ : ∃ q, kword k = q := ⟨_, rfl⟩
  have hqs : q.size ≤ 6 := by
    rw [← hq]; unfold kword
    split <;> (try split) <;> (try split) <;> decide
  have Hkn := Lib.hid (fun w => hq ▸ refIdWord_any k hk w)
  obtain ⟨s, Hs⟩ : ∃ s, Hid (q ++ ⟨#[32]⟩ ++ t = s) := ⟨_, Lib.hid rfl⟩
  obtain ⟨R, HR⟩ : ∃ R, Hid (sealOf k t = R) := ⟨_, Lib.hid rfl⟩
  have HR1 : Hid (sealB s.data.toList = R) := by show _ = _; rw [← HR.out, sealOf, idW, hq, Hs.out]
  rw [HR.out]
  have hqs2 : (q ++ ⟨#[32]⟩).size ≤ 7 := by rw [ByteArray.size_append]; show q.size + 1 ≤ 7; omega
  have ha1 := addStr q ⟨#[32]⟩ (by omega) (by decide)
  have ha2 := addStr (q ++ ⟨#[32]⟩) t (by omega) (by omega)
  have hs2 : s.data.toList.length ≤ 2000000 := by
    have h1 : (q ++ ⟨#[32]⟩ ++ t).size = q.size + 1 + t.size := by rw [ByteArray.size_append, ByteArray.size_append]; rfl
    rw [Hs.out] at h1
    have h3 : s.data.toList.length = s.size := rfl
    omega
  rw [Hs.out] at ha2
  have kc := fun w => Lib.run_convert_string_bytes (P := Tryz.prog) w 9 118 5 s Tryz.underlying9 Tryz.underlying118 Tryz.underlying5
  clear HR hq
  go_enter Tryz.func20, Tryz.ntmps20
  go_wp2_with fail
  generalize w.alloc (.cells #[.int .i64 k, .string t] 29) = w1 at *
  refine wp_region_mixG 10 (fun w' => LV w' w.heap.size #[.int .i64 k, .string t] 29) [.q 0, .q 1, .q 4, .q 5, .q 9, .e 2, .q 3, .q 6, .e 7, .q 8] (by kernel_rfl) (by kernel_rfl) (fun w' hd => LV.kb3 lv (hd.below _) lv.lt) (fun KK hKK wd hd => ?_)
  have hC : LV wd w.heap.size #[.int .i64 k, .string t] 29 := LV.kb3 lv (hd.below _) lv.lt
  have Hbd : Hid (Below w.heap.size w wd) := hb0.trans ((hd.below _).mono hb0.size)
  clear hd lv hb0
  repeat (refine mixG_p rfl (fun K hK => ?_); go_simp; (try go_bits); (try simp (disch := omega) only [if_pos]); (try simp (disch := omega) only [if_neg]); (try simp (disch := omega) only [dif_pos]); (try simp (disch := omega) only [dif_neg]); (try go_simp); (refine hK _ ?_; clear hK K))
  refine mixG_load (.int .i64 k) rfl rfl rfl rfl (fun _ => rfl) (fun w' h => h.cell 0 _ rfl) ?_
  repeat (refine mixG_p rfl (fun K hK => ?_); go_simp; (try go_bits); (try simp (disch := omega) only [if_pos]); (try simp (disch := omega) only [if_neg]); (try simp (disch := omega) only [dif_pos]); (try simp (disch := omega) only [dif_neg]); (try go_simp); (refine hK _ ?_; clear hK K))
  refine mixG_load (.string t) rfl rfl rfl rfl (fun _ => rfl) (fun w' h => h.cell 1 _ rfl) ?_
  repeat (refine mixG_p rfl (fun K hK => ?_); go_simp; (try go_bits); (try simp (disch := omega) only [if_pos]); (try simp (disch := omega) only [if_neg]); (try simp (disch := omega) only [dif_pos]); (try simp (disch := omega) only [dif_neg]); (try go_simp); (refine hK _ ?_; clear hK K))
  refine mixG_l rfl rfl (fun K hK => ?_)
  go_wp2_with fail
  ((with_reducible refine (Hkn.out wd).mono ?_); rintro e _ ⟨rfl, rfl⟩)
  go_wp2_with fail
  refine ⟨fun _ => hC, ?_⟩
  repeat (refine mixG_p rfl (fun K hK => ?_); go_simp; (try go_bits); (try simp (disch := omega) only [if_pos]); (try simp (disch := omega) only [if_neg]); (try simp (disch := omega) only [dif_pos]); (try simp (disch := omega) only [dif_neg]); (try go_simp); (refine hK _ ?_; clear hK K))
  refine mixG_l rfl rfl (fun K hK => ?_)
  have Hm := Lib.hid (sealMade wd s)
  have Hbb := Lib.hid (sealBelow wd s)
  go_wp2_with fail
  refine ⟨fun _ => LV.kb3 hC Hbb.out hC.lt, ?_⟩
  repeat (refine mixG_p rfl (fun K hK => ?_); go_simp; (try go_bits); (try simp (disch := omega) only [if_pos]); (try simp (disch := omega) only [if_neg]); (try simp (disch := omega) only [dif_pos]); (try simp (disch := omega) only [dif_neg]); (try go_simp); (refine hK _ ?_; clear hK K))
  refine mixG_nil ?_
  simp only [Exit.then]
  refine hKK _ _ ?_
  clear kc ha1 ha2 hC
  generalize hw4 : Lib.bytesWorld wd 5 s = w4 at *
  clear hw4
  obtain ⟨n, hn⟩ : ∃ n, s.data.toList.length = n := ⟨_, rfl⟩
  have hn2 : s.size = n := hn
  rw [hn2]
  have Hbl : Hid (∀ j, bsum (s.data.toList.take j) ≤ 255 * n) := fun j => by
    have h1 := bsum_le (s.data.toList.take j)
    have h2 : (s.data.toList.take j).length ≤ n := by rw [List.length_take]; omega
    exact Nat.le_trans h1 (Nat.mul_le_mul_left _ h2)
  rw [hn] at hs2
  have Hn := Lib.hid hn
  have Hb4 : Hid (Below w.heap.size w w4) := Hbd.out.trans (Hbb.out.mono Hbd.out.size)
  clear hn hn2 Hbb Hbd
  go_wp2_with fail
  go_loopw [3, 4, 16] (fun h z i wr => ∃ j : Nat, j ≤ n ∧ i = .int .i64 j ∧ h = .int .i64 (hSum (s.data.toList.take j) : Nat) ∧ z = .int .i64 (bsum (s.data.toList.take j) : Nat) ∧ w4 = wr) (fun _ _ i _ => n - (intOf i).toNat)
  case atStart => exact ⟨0, by omega, rfl, rfl, rfl, rfl⟩
  case round =>
    obtain ⟨j, hj, rfl, rfl, rfl, rfl⟩ := hrel
    by_cases hlt : j < n
    · obtain ⟨c, hc⟩ : ∃ c, s.data.toList[j]? = some c := ⟨_, List.getElem?_eq_getElem (by have := Hn.out; omega)⟩
      have c0 := Hm.out j c hc
      have Hbs := Lib.hid (bsum_take _ j c hc)
      have Hhs := Lib.hid (hSum_take _ j c hc)
      have hbl := Hbl.out j
      have hh := hSum_lt (s.data.toList.take j)
      have hcl : (c.toNat : Int) < 256 := by have := c.toNat_lt; omega
      have hcl2 : c.toNat < 4294967296 := by have := c.toNat_lt; omega
      clear hc
      generalize bsum (s.data.toList.take j) = q at *
      generalize hSum (s.data.toList.take j) = h at *
      have hx := bitsXorI64 h c.toNat hh hcl2
      have hx2 : h ^^^ c.toNat < 2 ^ 32 := Nat.xor_lt_two_pow (by omega) (by omega)
      generalize hxx : h ^^^ c.toNat = x at *
      have hw8 : IntKind.i64.wrap ((x : Int) * 16777619) = (x : Int) * 16777619 := IntWalk.i64_in _ (by omega)
      have hrm : ((x : Int) * 16777619).tmod 4294967296 = (x : Int) * 16777619 % 4294967296 := Int.tmod_eq_emod_of_nonneg (by omega)
      go_wp2_with fail
      refine ⟨⟨j + 1, by omega, by go_num, ?_, ?_, trivial⟩, by simp [intOf]; omega⟩
      · rw [Hhs.out, hStep, hxx, Int.natCast_emod, Int.natCast_mul]; rfl
      · rw [Hbs.out, Int.natCast_add]
    · have ht1 : s.data.toList.take j = s.data.toList := List.take_of_length_le (by have := Hn.out; omega)
      rw [ht1]
      have hh := hSum_lt s.data.toList
      have hbl := Hbl.out n
      rw [show s.data.toList.take n = s.data.toList from List.take_of_length_le (by have := Hn.out; omega)] at hbl
      have HR2 : Hid ((hSum s.data.toList : Int) * 1009 + ((bsum s.data.toList % 1009 : Nat) : Int) = R) := by show _ = _; rw [← HR1.out]; rfl
      clear HR1
      generalize bsum s.data.toList = q at *
      generalize hSum s.data.toList = h at *
      go_wp2_with fail
      go_ret
      exact ⟨by rw [← HR2.out, Int.natCast_emod]; rfl, Hb4.out⟩
end Go.Proofs.YthmkphmciiiagaaGreatDoor

/- What consent.CheckSeals, handref2.SealsFault, slices.BinarySearch of numbers and consent.Sealed return. -/
namespace Go.Proofs.YthmkphmciiiagaaGreatDoor
open Go Go.RowKit
/-- the numbers rise -/
def RiseI (xs : List Int) : Prop := xs.Pairwise (· < ·)
theorem RiseI.at {xs : List Int} (h : RiseI xs) {i j : Nat} {x y : Int} (hij : i < j) (hi : xs[i]? = some x) (hj : xs[j]? = some y) : x < y := by
  obtain ⟨h1, rfl⟩ := List.getElem?_eq_some_iff.1 hi
  obtain ⟨h2, rfl⟩ := List.getElem?_eq_some_iff.1 hj
  exact List.pairwise_iff_getElem.1 h i j h1 h2 hij
def GivesBs (xs : List Int) (x : Int) (w : World) (e : Ending) (w' : World) : Prop := ∃ i : Int, e = .returned (.tuple #[.int .i64 i, .bool (decide (x ∈ xs))]) ∧ w = w'
/-- the faults of seals -/
def sealsGo (prev : Option Int) : List Int → Int
  | [] => 0
  | n :: r => if ¬ (0 ≤ n ∧ n ≤ 4333622001663) then 1 else if prev.any (fun q => decide (n ≤ q)) = true then 7 else sealsGo (some n) r
def sealsF (l : List Int) : Int := if 2000 < l.length then 2 else sealsGo none l
end Go.Proofs.YthmkphmciiiagaaGreatDoor

/- Where a stream goes along, what a call without a stream does to the pieces is as where none does. -/
namespace Go.Proofs.YthmkphmciiiagaaGreatDoor
open Go Go.RowKit
theorem take_get (a : Array Obj) {n k : Nat} (h : k < n) : (a.take n)[k]? = a[k]? := by
  rw [← Array.getElem?_toList, ← Array.getElem?_toList]
  simp only [Array.take_eq_extract, Array.toList_extract, List.extract_eq_take_drop, Nat.sub_zero, List.drop_zero]
  rw [List.getElem?_take_of_lt h]
/-- the pieces seen without the stream, and back -/
theorem St.viaMem {b m : Nat} {w0 w : World} {cs : List Chunk} (S : St b m w0 w cs) : ∃ wb, wb.heap.size = w0.heap.size ∧ Mem wb w cs ∧ ∀ w' cs', Mem wb w' cs' → St b m w0 w' cs' := by
  have hsz := S.g.size
  have hb := S.b0
  refine ⟨{ w with heap := w.heap.take w0.heap.size }, ?_, ⟨⟨rfl, rfl, rfl, ?_, fun k hk => ?_⟩, ?_, ?_, S.sep⟩, fun w' cs' M => ?_⟩
  · show (w.heap.take w0.heap.size).size = _
    simp; omega
  · show (w.heap.take w0.heap.size).size ≤ _
    simp; omega
  · have hk' : k < (w.heap.take w0.heap.size).size := hk
    show w.heap[k]? = (w.heap.take w0.heap.size)[k]?
    simp at hk'
    rw [take_get _ (by omega)]
  · have e : (w.heap.take w0.heap.size).size = w0.heap.size := by simp; omega
    show ∀ c ∈ cs, c.ok (Mut (w.heap.take w0.heap.size).size cs) w
    rw [e]; exact S.ok
  · have e : (w.heap.take w0.heap.size).size = w0.heap.size := by simp; omega
    show ∀ c ∈ cs, ∀ k, c.blk = some k → (w.heap.take w0.heap.size).size ≤ k
    rw [e]; exact S.new
  · have e : (w.heap.take w0.heap.size).size = w0.heap.size := by simp; omega
    have hblk : ∀ k, k < w0.heap.size → w'.heap[k]? = w.heap[k]? := fun k hk => by
      have h1 := M.b.block k (by show k < (w.heap.take w0.heap.size).size; omega)
      rw [h1]
      show (w.heap.take w0.heap.size)[k]? = w.heap[k]?
      rw [take_get _ hk]
    have hsz' : w0.heap.size ≤ w'.heap.size := by
      have := M.b.size
      have h2 : (w.heap.take w0.heap.size).size ≤ w'.heap.size := this
      omega
    refine ⟨⟨⟨M.b.os.trans S.g.k.os, M.b.tape.trans S.g.k.tape, M.b.output.trans S.g.k.output, hsz', fun k hk hn => (hblk k hk).trans (S.g.k.block k hk hn)⟩, S.g.s.lower (fun k hk => hblk k (by omega))⟩, hb, ?_, ?_, M.sep⟩
    · have := M.ok
      rw [show World.heap { w with heap := w.heap.take w0.heap.size } = w.heap.take w0.heap.size from rfl, e] at this
      exact this
    · have := M.new
      rw [show World.heap { w with heap := w.heap.take w0.heap.size } = w.heap.take w0.heap.size from rfl, e] at this
      exact this
end Go.Proofs.YthmkphmciiiagaaGreatDoor

/- slices.Equal of the same numbers. -/
namespace Go.Proofs.YthmkphmciiiagaaGreatDoor
open Go Go.RowKit
theorem Sl.intAt {N : Nat → Prop} {w : World} {A : Option Addr} {xs : List Int} (h : Sl rInt N w A xs) (h0 : xs ≠ []) : ∃ b o, A = some ⟨b, o, none⟩ ∧ ∀ j, j < xs.length → w.cell? ⟨b, o + j, none⟩ = some (.int .i64 (xs.getD j 0)) := by
  cases xs with
  | nil => exact absurd rfl h0
  | cons x r =>
    obtain ⟨b, o, l, e, _, _, _, _⟩ := h 0 x rfl
    refine ⟨b, o, e, fun j hj => ?_⟩
    obtain ⟨b2, o2, l2, e2, _, _, hr, hc⟩ := h j (x :: r)[j] (List.getElem?_eq_getElem hj)
    rw [e] at e2
    cases e2
    obtain rfl : l2 = [.int .i64 (x :: r)[j]] := hr
    have := hc 0 _ rfl
    rw [show o + j * rInt.size + 0 = o + j by simp [rInt, Rep.flat]] at this
    rw [this, List.getD_eq_getElem?_getD, List.getElem?_eq_getElem hj]
    rfl
end Go.Proofs.YthmkphmciiiagaaGreatDoor

/- The law ConsentSeals walked: it returns true, and nothing that was there has turned. -/
namespace Go.Proofs.YthmkphmciiiagaaGreatDoor
open Go Go.RowKit
def GivesSrt (w0 : World) (cs : List Chunk) (i B E : Nat) (v : Value) (n : Nat) (e : Ending) (w' : World) : Prop := e = .returned (.tuple #[]) ∧ ∃ ys : List Int, ys.length ≤ n ∧ Mem w0 w' (cs.set i (.own rInt B E v ys))
def GivesCmp (w0 : World) (cs : List Chunk) (i B E : Nat) (n : Nat) (e : Ending) (w' : World) : Prop := ∃ v, e = .returned v ∧ ∃ ys : List Int, ys.length ≤ n ∧ Mem w0 w' (cs.set i (.own rInt B E v ys))
def GivesSd (xs : List Int) (k : Int) (t : ByteArray) (w : World) (e : Ending) (w' : World) : Prop :=
  e = .returned (.tuple #[.bool (if firstErr [sealsF xs, L.idFault k t] = 0 then decide (sealOf k t ∈ xs) else false), .int .i64 (firstErr [sealsF xs, L.idFault k t])]) ∧ Below w.heap.size w w'
def SealRel (L b M : Nat) (w0 : World) (X : Nat) (k : Int) (t : ByteArray) (B : Nat) (v : Value) (w : World) : Prop := ∃ xs : List Int, xs.length ≤ L ∧ St b M w0 w [.loc X (idCs k t) 29, .own rInt B 3 v xs]
end Go.Proofs.YthmkphmciiiagaaGreatDoor
