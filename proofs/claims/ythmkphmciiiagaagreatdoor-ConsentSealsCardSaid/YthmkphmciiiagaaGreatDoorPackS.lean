/- Several texts in one: Seals, SealChk, ViaMem, EqInt, LawSeal. -/
import Derived.Test.YthmkphmciiiagaaGreatDoorPackA
import Derived.Test.YthmkphmciiiagaaGreatDoorPackB
import Derived.Laws.Bits64
import Derived.Test.YthmkphmciiiagaaGreatDoorPackC
import Derived.Test.YthmkphmciiiagaaGreatDoorSortInt
import Derived.Test.YthmkphmciiiagaaGreatDoorInts
import Derived.Test.YthmkphmciiiagaaGreatDoorProof
import Derived.Test.YthmkphmciiiagaaGreatDoorPackH
/- The seal of an id: what person.IdWords, consent.Seal and handref2.SealOf return. -/
namespace Go.Proofs.YthmkphmciiiagaaGreatDoor
open Go Go.RowKit
theorem addStr (a b : ByteArray) (ha : a.size ≤ 1000000000) (hb : b.size ≤ 1000000000) (w : World) : (Op.stringOp .add a b).run Tryz.prog w = .ok (.string (a ++ b)) w := run_string_add_sum w a b (by omega)
theorem wrapU32 (n : Int) : IntKind.u32.wrap n = n % 4294967296 := by simp [IntKind.wrap, IntKind.bits, IntKind.signed]
theorem bitsXorU32 (a b : Nat) (ha : a < 4294967296) (hb : b < 4294967296) : bits .xor .u32 (a : Int) (b : Int) = ((a ^^^ b : Nat) : Int) := by
  show IntKind.u32.wrap ((BitVec.ofInt 32 (a : Int) ^^^ BitVec.ofInt 32 (b : Int)).toNat : Int) = _
  have h1 : (BitVec.ofInt 32 (a : Int)).toNat = a := by rw [BitVec.ofInt_natCast, BitVec.toNat_ofNat]; exact Nat.mod_eq_of_lt (by omega)
  have h2 : (BitVec.ofInt 32 (b : Int)).toNat = b := by rw [BitVec.ofInt_natCast, BitVec.toNat_ofNat]; exact Nat.mod_eq_of_lt (by omega)
  have h3 : a ^^^ b < 2 ^ 32 := Nat.xor_lt_two_pow (by omega) (by omega)
  rw [BitVec.toNat_xor, h1, h2, wrapU32]
  omega
theorem bitsXorI64 (a b : Nat) (ha : a < 4294967296) (hb : b < 4294967296) : bits .xor .i64 (a : Int) (b : Int) = ((a ^^^ b : Nat) : Int) := by
  show IntKind.i64.wrap ((BitVec.ofInt 64 (a : Int) ^^^ BitVec.ofInt 64 (b : Int)).toNat : Int) = _
  have h1 : (BitVec.ofInt 64 (a : Int)).toNat = a := by rw [BitVec.ofInt_natCast, BitVec.toNat_ofNat]; exact Nat.mod_eq_of_lt (by omega)
  have h2 : (BitVec.ofInt 64 (b : Int)).toNat = b := by rw [BitVec.ofInt_natCast, BitVec.toNat_ofNat]; exact Nat.mod_eq_of_lt (by omega)
  have h3 : a ^^^ b < 2 ^ 32 := Nat.xor_lt_two_pow (by omega) (by omega)
  rw [BitVec.toNat_xor, h1, h2]
  exact IntWalk.i64_in _ (by omega)
def hStep (h : Nat) (c : UInt8) : Nat := (h ^^^ c.toNat) * 16777619 % 4294967296
def hSum (l : List UInt8) : Nat := l.foldl hStep 2166136261
theorem foldl_take {β : Type} (f : β → UInt8 → β) (b : β) (l : List UInt8) (k : Nat) (c : UInt8) (h : l[k]? = some c) : (l.take (k + 1)).foldl f b = f ((l.take k).foldl f b) c := by
  rw [List.take_add_one, h]
  simp only [Option.toList_some, List.foldl_append, List.foldl_cons, List.foldl_nil]
theorem hSum_take (l : List UInt8) (k : Nat) (c : UInt8) (h : l[k]? = some c) : hSum (l.take (k + 1)) = hStep (hSum (l.take k)) c := foldl_take hStep 2166136261 l k c h
theorem hSum_lt (l : List UInt8) : hSum l < 4294967296 := by
  unfold hSum
  rcases List.eq_nil_or_concat l with rfl | ⟨a, c, rfl⟩
  · show (2166136261 : Nat) < 4294967296
    omega
  · rw [List.concat_eq_append, List.foldl_append, List.foldl_cons, List.foldl_nil, hStep]
    exact Nat.mod_lt _ (by omega)
theorem bsum_le (l : List UInt8) : bsum l ≤ 255 * l.length := by
  induction l with
  | nil => simp [bsum]
  | cons c r ih =>
    have hc := c.toNat_lt
    simp only [bsum, List.map_cons, List.sum_cons, List.length_cons] at ih ⊢
    omega
def kword (k : Int) : ByteArray := if k = 1 then ⟨#[109, 97, 105, 108]⟩ else if k = 2 then ⟨#[112, 104, 111, 110, 101]⟩ else if k = 3 then ⟨#[109, 101, 109, 98, 101, 114]⟩ else ⟨#[100, 101, 118, 105, 99, 101]⟩
def idW (k : Int) (t : ByteArray) : ByteArray := kword k ++ ⟨#[32]⟩ ++ t
def sealB (l : List UInt8) : Int := (hSum l : Int) * 1009 + ((bsum l % 1009 : Nat) : Int)
def sealOf (k : Int) (t : ByteArray) : Int := sealB (idW k t).data.toList
theorem kindName_any (k : Int) (hk : 1 ≤ k ∧ k ≤ 4) (w : World) : Calls Tryz.prog 150 #[.int .i64 k] w fun e w' => e = .returned (.string (kword k)) ∧ Below w.heap.size w w' := by
  have h : k = 1 ∨ k = 2 ∨ k = 3 ∨ k = 4 := by omega
  rcases h with rfl | rfl | rfl | rfl
  all_goals
    go_enter Tryz.func150, Tryz.ntmps150
    go_wp2_with fail
    go_ret
    exact ⟨rfl, (Below.refl _ _).alloc (Nat.le_refl _) _⟩
theorem wordAt (k : Int) (v : ByteArray) (h : (k = 1 ∧ v = ⟨#[109, 97, 105, 108]⟩) ∨ (k = 2 ∧ v = ⟨#[112, 104, 111, 110, 101]⟩) ∨ (k = 3 ∧ v = ⟨#[109, 101, 109, 98, 101, 114]⟩) ∨ (k = 4 ∧ v = ⟨#[100, 101, 118, 105, 99, 101]⟩)) (w : World) : (Instr.index 206 (.agg #[.string ⟨#[]⟩, .string ⟨#[109, 97, 105, 108]⟩, .string ⟨#[112, 104, 111, 110, 101]⟩, .string ⟨#[109, 101, 109, 98, 101, 114]⟩, .string ⟨#[100, 101, 118, 105, 99, 101]⟩]) (.int .i64 k)).run Tryz.prog w = .ok (.string v) w := by
  rcases h with ⟨rfl, rfl⟩ | ⟨rfl, rfl⟩ | ⟨rfl, rfl⟩ | ⟨rfl, rfl⟩ <;> kernel_rfl
set_option maxRecDepth 100000 in
theorem refIdWord_any (k : Int) (hk : 1 ≤ k ∧ k ≤ 4) (w : World) : Calls Tryz.prog 80 #[.int .i64 k] w fun e w' => e = .returned (.string (kword k)) ∧ w = w' := by
  have h : k = 1 ∨ k = 2 ∨ k = 3 ∨ k = 4 := by omega
  have i1 := wordAt 1 ⟨#[109, 97, 105, 108]⟩ (by simp)
  have i2 := wordAt 2 ⟨#[112, 104, 111, 110, 101]⟩ (by simp)
  have i3 := wordAt 3 ⟨#[109, 101, 109, 98, 101, 114]⟩ (by simp)
  have i4 := wordAt 4 ⟨#[100, 101, 118, 105, 99, 101]⟩ (by simp)
  rcases h with rfl | rfl | rfl | rfl
  all_goals
    go_enter Tryz.func80, Tryz.ntmps80
    go_wp2_with fail
    go_ret
    exact ⟨rfl, rfl⟩
theorem idFault_kind (k : Int) (t : ByteArray) (h : L.idFault k t = 0) : 1 ≤ k ∧ k ≤ 4 := by
  unfold L.idFault at h
  split at h
  · omega
  · split at h
    · omega
    · split at h
      · omega
      · split at h
        · omega
        · cases h
set_option maxRecDepth 100000 in
theorem idWords_any (k : Int) (t : ByteArray) (ht : t.size ≤ 1000000) (hk : 1 ≤ k ∧ k ≤ 4) (w : World) : Calls Tryz.prog 71 #[.agg #[.int .i64 k, .string t]] w fun e w' => e = .returned (.string (idW k t)) ∧ Below w.heap.size w w' := by
  have hb0 : Below w.heap.size w (w.alloc (.cells #[.int .i64 k, .string t] 29)) := (Below.refl _ _).alloc (Nat.le_refl _) _
  have lv := LV.new w w.heap.size #[.int .i64 k, .string t] 29 rfl
  obtain ⟨q, hq⟩ : ∃ q, kword k = q := ⟨_, rfl⟩
  have hqs : q.size ≤ 6 := by
    rw [← hq]; unfold kword
    split <;> (try split) <;> (try split) <;> decide
  have Hkn := Lib.hid (fun w => hq ▸ kindName_any k hk w)
  have hw1 : idW k t = q ++ ⟨#[32]⟩ ++ t := by rw [idW, hq]
  rw [hw1]
  have hqs2 : (q ++ ⟨#[32]⟩).size ≤ 7 := by rw [ByteArray.size_append]; show q.size + 1 ≤ 7; omega
  have ha1 := addStr q ⟨#[32]⟩ (by omega) (by decide)
  have ha2 := addStr (q ++ ⟨#[32]⟩) t (by omega) (by omega)
  clear hq hw1
  go_enter Tryz.func71, Tryz.ntmps71
  go_wp2_with fail
  generalize w.alloc (.cells #[.int .i64 k, .string t] 29) = w1 at *
  refine wp_region_mixG 8 (fun w' => LV w' w.heap.size #[.int .i64 k, .string t] 29) [.q 0, .q 1, .q 4, .q 5, .e 2, .q 3, .q 6, .q 7] (by kernel_rfl) (by kernel_rfl) (fun w' hd => LV.kb3 lv (hd.below _) lv.lt) (fun KK hKK wd hd => ?_)
  have hC : LV wd w.heap.size #[.int .i64 k, .string t] 29 := LV.kb3 lv (hd.below _) lv.lt
  have Hbd : Hid (Below w.heap.size w wd) := hb0.trans ((hd.below _).mono hb0.size)
  clear hd lv hb0
  repeat (refine mixG_p rfl (fun K hK => ?_); go_simp; (try go_bits); (try simp (disch := omega) only [if_pos]); (try simp (disch := omega) only [if_neg]); (try simp (disch := omega) only [dif_pos]); (try simp (disch := omega) only [dif_neg]); (try go_simp); (refine hK _ ?_; clear hK K))
  refine mixG_load (.int .i64 k) rfl rfl rfl rfl (fun _ => rfl) (fun w' h => h.cell 0 _ rfl) ?_
  repeat (refine mixG_p rfl (fun K hK => ?_); go_simp; (try go_bits); (try simp (disch := omega) only [if_pos]); (try simp (disch := omega) only [if_neg]); (try simp (disch := omega) only [dif_pos]); (try simp (disch := omega) only [dif_neg]); (try go_simp); (refine hK _ ?_; clear hK K))
  refine mixG_load (.string t) rfl rfl rfl rfl (fun _ => rfl) (fun w' h => h.cell 1 _ rfl) ?_
  refine mixG_l rfl rfl (fun K hK => ?_)
  go_wp2_with fail
  ((with_reducible refine (Hkn.out wd).mono ?_); rintro e w4 ⟨rfl, hl4⟩)
  have hC4 : LV w4 w.heap.size #[.int .i64 k, .string t] 29 := LV.kb3 hC hl4 hC.lt
  have Hb4 : Hid (Below w.heap.size w w4) := Hbd.out.trans (hl4.mono Hbd.out.size)
  clear hl4 hC Hbd
  go_wp2_with fail
  refine ⟨fun _ => hC4, ?_⟩
  repeat (refine mixG_p rfl (fun K hK => ?_); go_simp; (try go_bits); (try simp (disch := omega) only [if_pos]); (try simp (disch := omega) only [if_neg]); (try simp (disch := omega) only [dif_pos]); (try simp (disch := omega) only [dif_neg]); (try go_simp); (refine hK _ ?_; clear hK K))
  refine mixG_nil ?_
  simp only [Exit.then]
  refine hKK _ _ ?_
  go_wp2_with fail
  go_ret
  exact ⟨rfl, Hb4.out⟩
set_option maxHeartbeats 4000000 in
set_option maxRecDepth 100000 in
theorem seal_any (k : Int) (t : ByteArray) (w : World) (ht : t.size ≤ 1000000) (hM : MaxL w) : Calls Tryz.prog 18 #[.agg #[.int .i64 k, .string t]] w fun e w' => e = .returned (.tuple #[.int .i64 (if L.idFault k t = 0 then sealOf k t else 0), .int .i64 (L.idFault k t)]) ∧ Below w.heap.size w w' := by
  have hb0 : Below w.heap.size w (w.alloc (.cells #[.int .i64 k, .string t] 29)) := (Below.refl _ _).alloc (Nat.le_refl _) _
  have lv := LV.new w w.heap.size #[.int .i64 k, .string t] 29 rfl
  have Hc := Lib.hid (checkId_any k t _ ht (hM.below hb0))
  have Hk := Lib.hid (idFault_kind k t)
  obtain ⟨F, hF⟩ : ∃ F, L.idFault k t = F := ⟨_, rfl⟩
  rw [hF] at Hc Hk ⊢
  obtain ⟨R, HR⟩ : ∃ R, Hid ((if F = 0 then sealOf k t else 0) = R) := ⟨_, Lib.hid rfl⟩
  rw [HR.out]
  clear hF
  go_enter Tryz.func18, Tryz.ntmps18
  go_wp2_with fail
  ((with_reducible refine (Hc.out).mono ?_); rintro e w2 ⟨rfl, hl2⟩)
  have lv2 := LV.kb3 lv hl2 lv.lt
  have Hb2 : Hid (Below w.heap.size w w2) := hb0.trans (hl2.mono hb0.size)
  have c0 := lv2.all
  clear lv lv2 hl2 hb0 Hc
  by_cases hF : F = 0
  · have hk := Hk.out hF
    have HR1 : Hid (sealB (idW k t).data.toList = R) := by show _ = _; rw [← HR.out, if_pos hF]; rfl
    subst hF
    clear HR
    go_wp2_with fail
    ((with_reducible refine (idWords_any k t ht hk w2).mono ?_); rintro e w3 ⟨rfl, hl3⟩)
    have Hb3 : Hid (Below w.heap.size w w3) := Hb2.out.trans (hl3.mono Hb2.out.size)
    clear c0 hl3
    obtain ⟨s, Hs⟩ : ∃ s, Hid (idW k t = s) := ⟨_, Lib.hid rfl⟩
    rw [Hs.out] at HR1 ⊢
    have kc := fun w => Lib.run_convert_string_bytes (P := Tryz.prog) w 9 118 5 s Tryz.underlying9 Tryz.underlying118 Tryz.underlying5
    have Hm := Lib.hid (sealMade w3 s)
    have Hbb := Lib.hid (sealBelow w3 s)
    go_wp2_with fail
    clear kc
    generalize hw4 : Lib.bytesWorld w3 5 s = w4 at *
    clear hw4
    have hsl : s.data.toList.length ≤ 2000000 := by
      rw [← Hs.out]
      have h1 : (idW k t).size = (kword k).size + 1 + t.size := by rw [idW, ByteArray.size_append, ByteArray.size_append]; rfl
      have h2 : (kword k).size ≤ 6 := by unfold kword; split <;> (try split) <;> (try split) <;> decide
      have h3 : (idW k t).data.toList.length = (idW k t).size := rfl
      omega
    obtain ⟨n, hn⟩ : ∃ n, s.data.toList.length = n := ⟨_, rfl⟩
    have hn2 : s.size = n := hn
    rw [hn2]
    have Hbl : Hid (∀ j, bsum (s.data.toList.take j) ≤ 255 * n) := fun j => by
      have h1 := bsum_le (s.data.toList.take j)
      have h2 : (s.data.toList.take j).length ≤ n := by rw [List.length_take]; omega
      exact Nat.le_trans h1 (Nat.mul_le_mul_left _ h2)
    rw [hn] at hsl
    have Hn := Lib.hid hn
    clear hn hn2
    go_loopw [5, 6, 18] (fun h z i wr => ∃ j : Nat, j ≤ n ∧ i = .int .i64 j ∧ h = .int .u32 (hSum (s.data.toList.take j) : Nat) ∧ z = .int .i64 (bsum (s.data.toList.take j) : Nat) ∧ w4 = wr) (fun _ _ i _ => n - (intOf i).toNat)
    case atStart => exact ⟨0, by omega, rfl, rfl, rfl, rfl⟩
    case round =>
      obtain ⟨j, hj, rfl, rfl, rfl, rfl⟩ := hrel
      by_cases hlt : j < n
      · obtain ⟨c, hc⟩ : ∃ c, s.data.toList[j]? = some c := ⟨_, List.getElem?_eq_getElem (by have := Hn.out; omega)⟩
        have c0 := Hm.out j c hc
        have Hbs := Lib.hid (bsum_take _ j c hc)
        have Hhs := Lib.hid (hSum_take _ j c hc)
        have hbl := Hbl.out j
        have hh := hSum_lt (s.data.toList.take j)
        have hcl : (c.toNat : Int) < 256 := by have := c.toNat_lt; omega
        have hcl2 : c.toNat < 4294967296 := by have := c.toNat_lt; omega
        clear hc
        generalize bsum (s.data.toList.take j) = q at *
        generalize hSum (s.data.toList.take j) = h at *
        have hx := bitsXorU32 h c.toNat hh hcl2
        have hw8 : IntKind.u32.wrap (c.toNat : Int) = (c.toNat : Int) := by rw [wrapU32]; omega
        go_wp2_with fail
        refine ⟨⟨j + 1, by omega, by go_num, ?_, ?_, trivial⟩, by simp [intOf]; omega⟩
        · rw [Hhs.out, hStep, Int.natCast_emod, Int.natCast_mul]; rfl
        · rw [Hbs.out, Int.natCast_add]
      · have ht1 : s.data.toList.take j = s.data.toList := List.take_of_length_le (by have := Hn.out; omega)
        rw [ht1]
        have hh := hSum_lt s.data.toList
        have hbl := Hbl.out n
        rw [show s.data.toList.take n = s.data.toList from List.take_of_length_le (by have := Hn.out; omega)] at hbl
        have HR2 : Hid ((hSum s.data.toList : Int) * 1009 + ((bsum s.data.toList % 1009 : Nat) : Int) = R) := by show _ = _; rw [← HR1.out]; rfl
        have Hj := Lib.hid hlt
        clear HR1
        generalize bsum s.data.toList = q at *
        generalize hSum s.data.toList = h at *
        go_wp2_with fail
        go_ret2
        exact ⟨by rw [← HR2.out, Int.natCast_emod]; rfl, Hb3.out.trans (Hbb.out.mono Hb3.out.size)⟩
  · have hF' : (F != 0) = true := by simpa using hF
    obtain rfl : 0 = R := by rw [← HR.out, if_neg hF]
    clear HR hF
    go_wp2_with fail
    go_ret2
    exact ⟨rfl, Hb2.out⟩
set_option maxHeartbeats 4000000 in
set_option maxRecDepth 100000 in
theorem refSeal_any (k : Int) (t : ByteArray) (hk : 1 ≤ k ∧ k ≤ 4) (w : World) (ht : t.size ≤ 1000000) : Calls Tryz.prog 20 #[.agg #[.int .i64 k, .string t]] w fun e w' => e = .returned (.int .i64 (sealOf k t)) ∧ Below w.heap.size w w' := by
  have hb0 : Below w.heap.size w (w.alloc (.cells #[.int .i64 k, .string t] 29)) := (Below.refl _ _).alloc (Nat.le_refl _) _
  have lv := LV.new w w.heap.size #[.int .i64 k, .string t] 29 rfl
  obtain ⟨q, hq⟩ : ∃ q, kword k = q := ⟨_, rfl⟩
  have hqs : q.size ≤ 6 := by
    rw [← hq]; unfold kword
    split <;> (try split) <;> (try split) <;> decide
  have Hkn := Lib.hid (fun w => hq ▸ refIdWord_any k hk w)
  obtain ⟨s, Hs⟩ : ∃ s, Hid (q ++ ⟨#[32]⟩ ++ t = s) := ⟨_, Lib.hid rfl⟩
  obtain ⟨R, HR⟩ : ∃ R, Hid (sealOf k t = R) := ⟨_, Lib.hid rfl⟩
  have HR1 : Hid (sealB s.data.toList = R) := by show _ = _; rw [← HR.out, sealOf, idW, hq, Hs.out]
  rw [HR.out]
  have hqs2 : (q ++ ⟨#[32]⟩).size ≤ 7 := by rw [ByteArray.size_append]; show q.size + 1 ≤ 7; omega
  have ha1 := addStr q ⟨#[32]⟩ (by omega) (by decide)
  have ha2 := addStr (q ++ ⟨#[32]⟩) t (by omega) (by omega)
  have hs2 : s.data.toList.length ≤ 2000000 := by
    have h1 : (q ++ ⟨#[32]⟩ ++ t).size = q.size + 1 + t.size := by rw [ByteArray.size_append, ByteArray.size_append]; rfl
    rw [Hs.out] at h1
    have h3 : s.data.toList.length = s.size := rfl
    omega
  rw [Hs.out] at ha2
  have kc := fun w => Lib.run_convert_string_bytes (P := Tryz.prog) w 9 118 5 s Tryz.underlying9 Tryz.underlying118 Tryz.underlying5
  clear HR hq
  go_enter Tryz.func20, Tryz.ntmps20
  go_wp2_with fail
  generalize w.alloc (.cells #[.int .i64 k, .string t] 29) = w1 at *
  refine wp_region_mixG 10 (fun w' => LV w' w.heap.size #[.int .i64 k, .string t] 29) [.q 0, .q 1, .q 4, .q 5, .q 9, .e 2, .q 3, .q 6, .e 7, .q 8] (by kernel_rfl) (by kernel_rfl) (fun w' hd => LV.kb3 lv (hd.below _) lv.lt) (fun KK hKK wd hd => ?_)
  have hC : LV wd w.heap.size #[.int .i64 k, .string t] 29 := LV.kb3 lv (hd.below _) lv.lt
  have Hbd : Hid (Below w.heap.size w wd) := hb0.trans ((hd.below _).mono hb0.size)
  clear hd lv hb0
  repeat (refine mixG_p rfl (fun K hK => ?_); go_simp; (try go_bits); (try simp (disch := omega) only [if_pos]); (try simp (disch := omega) only [if_neg]); (try simp (disch := omega) only [dif_pos]); (try simp (disch := omega) only [dif_neg]); (try go_simp); (refine hK _ ?_; clear hK K))
  refine mixG_load (.int .i64 k) rfl rfl rfl rfl (fun _ => rfl) (fun w' h => h.cell 0 _ rfl) ?_
  repeat (refine mixG_p rfl (fun K hK => ?_); go_simp; (try go_bits); (try simp (disch := omega) only [if_pos]); (try simp (disch := omega) only [if_neg]); (try simp (disch := omega) only [dif_pos]); (try simp (disch := omega) only [dif_neg]); (try go_simp); (refine hK _ ?_; clear hK K))
  refine mixG_load (.string t) rfl rfl rfl rfl (fun _ => rfl) (fun w' h => h.cell 1 _ rfl) ?_
  repeat (refine mixG_p rfl (fun K hK => ?_); go_simp; (try go_bits); (try simp (disch := omega) only [if_pos]); (try simp (disch := omega) only [if_neg]); (try simp (disch := omega) only [dif_pos]); (try simp (disch := omega) only [dif_neg]); (try go_simp); (refine hK _ ?_; clear hK K))
  refine mixG_l rfl rfl (fun K hK => ?_)
  go_wp2_with fail
  ((with_reducible refine (Hkn.out wd).mono ?_); rintro e _ ⟨rfl, rfl⟩)
  go_wp2_with fail
  refine ⟨fun _ => hC, ?_⟩
  repeat (refine mixG_p rfl (fun K hK => ?_); go_simp; (try go_bits); (try simp (disch := omega) only [if_pos]); (try simp (disch := omega) only [if_neg]); (try simp (disch := omega) only [dif_pos]); (try simp (disch := omega) only [dif_neg]); (try go_simp); (refine hK _ ?_; clear hK K))
  refine mixG_l rfl rfl (fun K hK => ?_)
  have Hm := Lib.hid (sealMade wd s)
  have Hbb := Lib.hid (sealBelow wd s)
  go_wp2_with fail
  refine ⟨fun _ => LV.kb3 hC Hbb.out hC.lt, ?_⟩
  repeat (refine mixG_p rfl (fun K hK => ?_); go_simp; (try go_bits); (try simp (disch := omega) only [if_pos]); (try simp (disch := omega) only [if_neg]); (try simp (disch := omega) only [dif_pos]); (try simp (disch := omega) only [dif_neg]); (try go_simp); (refine hK _ ?_; clear hK K))
  refine mixG_nil ?_
  simp only [Exit.then]
  refine hKK _ _ ?_
  clear kc ha1 ha2 hC
  generalize hw4 : Lib.bytesWorld wd 5 s = w4 at *
  clear hw4
  obtain ⟨n, hn⟩ : ∃ n, s.data.toList.length = n := ⟨_, rfl⟩
  have hn2 : s.size = n := hn
  rw [hn2]
  have Hbl : Hid (∀ j, bsum (s.data.toList.take j) ≤ 255 * n) := fun j => by
    have h1 := bsum_le (s.data.toList.take j)
    have h2 : (s.data.toList.take j).length ≤ n := by rw [List.length_take]; omega
    exact Nat.le_trans h1 (Nat.mul_le_mul_left _ h2)
  rw [hn] at hs2
  have Hn := Lib.hid hn
  have Hb4 : Hid (Below w.heap.size w w4) := Hbd.out.trans (Hbb.out.mono Hbd.out.size)
  clear hn hn2 Hbb Hbd
  go_wp2_with fail
  go_loopw [3, 4, 16] (fun h z i wr => ∃ j : Nat, j ≤ n ∧ i = .int .i64 j ∧ h = .int .i64 (hSum (s.data.toList.take j) : Nat) ∧ z = .int .i64 (bsum (s.data.toList.take j) : Nat) ∧ w4 = wr) (fun _ _ i _ => n - (intOf i).toNat)
  case atStart => exact ⟨0, by omega, rfl, rfl, rfl, rfl⟩
  case round =>
    obtain ⟨j, hj, rfl, rfl, rfl, rfl⟩ := hrel
    by_cases hlt : j < n
    · obtain ⟨c, hc⟩ : ∃ c, s.data.toList[j]? = some c := ⟨_, List.getElem?_eq_getElem (by have := Hn.out; omega)⟩
      have c0 := Hm.out j c hc
      have Hbs := Lib.hid (bsum_take _ j c hc)
      have Hhs := Lib.hid (hSum_take _ j c hc)
      have hbl := Hbl.out j
      have hh := hSum_lt (s.data.toList.take j)
      have hcl : (c.toNat : Int) < 256 := by have := c.toNat_lt; omega
      have hcl2 : c.toNat < 4294967296 := by have := c.toNat_lt; omega
      clear hc
      generalize bsum (s.data.toList.take j) = q at *
      generalize hSum (s.data.toList.take j) = h at *
      have hx := bitsXorI64 h c.toNat hh hcl2
      have hx2 : h ^^^ c.toNat < 2 ^ 32 := Nat.xor_lt_two_pow (by omega) (by omega)
      generalize hxx : h ^^^ c.toNat = x at *
      have hw8 : IntKind.i64.wrap ((x : Int) * 16777619) = (x : Int) * 16777619 := IntWalk.i64_in _ (by omega)
      have hrm : ((x : Int) * 16777619).tmod 4294967296 = (x : Int) * 16777619 % 4294967296 := Int.tmod_eq_emod_of_nonneg (by omega)
      go_wp2_with fail
      refine ⟨⟨j + 1, by omega, by go_num, ?_, ?_, trivial⟩, by simp [intOf]; omega⟩
      · rw [Hhs.out, hStep, hxx, Int.natCast_emod, Int.natCast_mul]; rfl
      · rw [Hbs.out, Int.natCast_add]
    · have ht1 : s.data.toList.take j = s.data.toList := List.take_of_length_le (by have := Hn.out; omega)
      rw [ht1]
      have hh := hSum_lt s.data.toList
      have hbl := Hbl.out n
      rw [show s.data.toList.take n = s.data.toList from List.take_of_length_le (by have := Hn.out; omega)] at hbl
      have HR2 : Hid ((hSum s.data.toList : Int) * 1009 + ((bsum s.data.toList % 1009 : Nat) : Int) = R) := by show _ = _; rw [← HR1.out]; rfl
      clear HR1
      generalize bsum s.data.toList = q at *
      generalize hSum s.data.toList = h at *
      go_wp2_with fail
      go_ret
      exact ⟨by rw [← HR2.out, Int.natCast_emod]; rfl, Hb4.out⟩
end Go.Proofs.YthmkphmciiiagaaGreatDoor

/- What consent.CheckSeals, handref2.SealsFault, slices.BinarySearch of numbers and consent.Sealed return. -/
namespace Go.Proofs.YthmkphmciiiagaaGreatDoor
open Go Go.RowKit
theorem nan1_any (a : Int) (w : World) : Calls Tryz.prog 238 #[.int .i64 a] w fun e w' => e = .returned (.bool false) ∧ w = w' := by
  go_enter Tryz.func238, Tryz.ntmps238
  go_wp2_with fail
  go_ret
  exact ⟨rfl, rfl⟩
theorem nan2_any (a : Int) (w : World) : Calls Tryz.prog 174 #[.int .i64 a] w fun e w' => e = .returned (.bool false) ∧ w = w' := by
  go_enter Tryz.func174, Tryz.ntmps174
  go_wp2_with fail
  go_ret
  exact ⟨rfl, rfl⟩
theorem lessI_any (a b : Int) (w : World) : Calls Tryz.prog 169 #[.int .i64 a, .int .i64 b] w fun e w' => e = .returned (.bool (decide (a < b))) ∧ w = w' := by
  have h1 := nan1_any
  go_enter Tryz.func169, Tryz.ntmps169
  go_wp2_with fail
  ((with_reducible refine (h1 _ _).mono ?_); rintro e _ ⟨rfl, rfl⟩)
  go_wp2_with fail
  go_ret
  exact ⟨rfl, rfl⟩
/-- the numbers rise -/
def RiseI (xs : List Int) : Prop := xs.Pairwise (· < ·)
theorem RiseI.at {xs : List Int} (h : RiseI xs) {i j : Nat} {x y : Int} (hij : i < j) (hi : xs[i]? = some x) (hj : xs[j]? = some y) : x < y := by
  obtain ⟨h1, rfl⟩ := List.getElem?_eq_some_iff.1 hi
  obtain ⟨h2, rfl⟩ := List.getElem?_eq_some_iff.1 hj
  exact List.pairwise_iff_getElem.1 h i j h1 h2 hij
def GivesBs (xs : List Int) (x : Int) (w : World) (e : Ending) (w' : World) : Prop := ∃ i : Int, e = .returned (.tuple #[.int .i64 i, .bool (decide (x ∈ xs))]) ∧ w = w'
set_option maxHeartbeats 4000000 in
set_option maxRecDepth 100000 in
theorem bsearchI_any (N : Nat → Prop) (A : Option Addr) (xs : List Int) (x : Int) (c : Nat) (w : World) (hS : Sl rInt N w A xs) (hn : xs.length ≤ 100000) (hri : RiseI xs) :
    Calls Tryz.prog 83 #[.slice A xs.length c, .int .i64 x] w (GivesBs xs x w) := by
  have HS := Lib.hid hS
  have Hri := Lib.hid hri
  have hls := lessI_any
  clear hS hri
  go_enter Tryz.func83, Tryz.ntmps83
  go_wp2_with fail
  go_loopw [7, 8] (fun a b wr => ∃ i j : Nat, i ≤ j ∧ j ≤ xs.length ∧ a = .int .i64 i ∧ b = .int .i64 j ∧ Hid (∀ p f, p < i → xs[p]? = some f → f < x) ∧ Hid (∀ p f, j ≤ p → xs[p]? = some f → x ≤ f) ∧ w = wr) (fun a b _ => (intOf b).toNat - (intOf a).toNat)
  case atStart => exact ⟨0, xs.length, by omega, by omega, rfl, rfl, (fun p f h => by omega), (fun p f h hp => by rw [List.getElem?_eq_none h] at hp; cases hp), rfl⟩
  case round =>
    obtain ⟨i, j, hij, hj, rfl, rfl, Hlo, Hhi, rfl⟩ := hrel
    by_cases hlt : i < j
    · obtain ⟨h, hh⟩ : ∃ h : Nat, h = (i + j) / 2 := ⟨_, rfl⟩
      have h1 : i ≤ h := by omega
      have h2 : h < j := by omega
      have eh : ((i : Int) + (j : Int)) / 2 = (h : Int) := by omega
      clear hh
      obtain ⟨f, hf⟩ : ∃ f, xs[h]? = some f := ⟨_, List.getElem?_eq_getElem (by omega)⟩
      obtain ⟨blk, off, rfl, hblk, d0⟩ := HS.out.int h f hf
      have Hf := Lib.hid hf
      clear hf
      go_wp2_with fail
      ((with_reducible refine (hls _ _ _).mono ?_); rintro e _ ⟨rfl, rfl⟩)
      by_cases hc : f < x
      · have Hl : Hid (∀ p g, p < h + 1 → xs[p]? = some g → g < x) := fun p g hp hg => by
          by_cases hph : p = h
          · subst hph; rw [Hf.out] at hg; cases hg; exact hc
          · have := Hri.out.at (i := p) (j := h) (by omega) hg Hf.out; omega
        go_wp2_with fail
        go_roundw
        case rel => exact ⟨h + 1, j, by omega, by omega, by go_num, rfl, Hl, Hhi, (by first | rfl | trivial)⟩
        case measure => simp [intOf]; omega
      · have Hl : Hid (∀ p g, h ≤ p → xs[p]? = some g → x ≤ g) := fun p g hp hg => by
          by_cases hph : p = h
          · subst hph; rw [Hf.out] at hg; cases hg; omega
          · have := Hri.out.at (i := h) (j := p) (by omega) Hf.out hg; omega
        go_wp2_with fail
        go_roundw
        case rel => exact ⟨i, h, by omega, by omega, rfl, rfl, Hlo, Hl, (by first | rfl | trivial)⟩
        case measure => simp [intOf]; omega
    · obtain rfl : i = j := by omega
      have hnn := nan2_any
      by_cases hli : i < xs.length
      · obtain ⟨f, hf⟩ : ∃ f, xs[i]? = some f := ⟨_, List.getElem?_eq_getElem hli⟩
        obtain ⟨blk, off, rfl, hblk, d0⟩ := HS.out.int i f hf
        by_cases hfx : f = x
        · subst hfx
          have hmem : decide (f ∈ xs) = true := decide_eq_true (List.mem_of_getElem? hf)
          have Hm := Lib.hid hmem
          clear hf hmem
          go_wp2_with fail
          go_ret2
          exact ⟨_, (by rw [Hm.out]; rfl), rfl⟩
        · have hmem : decide (x ∈ xs) = false := decide_eq_false fun hx => by
            obtain ⟨p, hp, rfl⟩ := List.getElem_of_mem hx
            have hp2 := List.getElem?_eq_getElem hp
            rcases Nat.lt_trichotomy p i with h | rfl | h
            · have := Hlo.out p _ h hp2; omega
            · rw [hf] at hp2; exact hfx (Option.some.inj hp2)
            · have h3 := Hri.out.at h hf hp2
              have h4 := Hhi.out i f (Nat.le_refl _) hf
              omega
          have Hm := Lib.hid hmem
          have hfx' : (f == x) = false := by simpa using hfx
          clear hf hmem hfx
          go_wp2_with fail
          ((with_reducible refine (hnn _ _).mono ?_); rintro e _ ⟨rfl, rfl⟩)
          go_wp2_with fail
          go_ret2
          exact ⟨_, (by rw [Hm.out]; rfl), rfl⟩
      · have hmem : decide (x ∈ xs) = false := decide_eq_false fun hx => by
          obtain ⟨p, hp, rfl⟩ := List.getElem_of_mem hx
          have := Hlo.out p _ (by omega) (List.getElem?_eq_getElem hp)
          omega
        have Hm := Lib.hid hmem
        clear hmem
        go_wp2_with fail
        go_ret2
        exact ⟨_, (by rw [Hm.out]; rfl), rfl⟩
/-- the faults of seals -/
def sealsGo (prev : Option Int) : List Int → Int
  | [] => 0
  | n :: r => if ¬ (0 ≤ n ∧ n ≤ 4333622001663) then 1 else if prev.any (fun q => decide (n ≤ q)) = true then 7 else sealsGo (some n) r
def sealsF (l : List Int) : Int := if 2000 < l.length then 2 else sealsGo none l
theorem sealsGo_rise : ∀ {l : List Int} {prev : Option Int}, sealsGo prev l = 0 → RiseI l ∧ ∀ q, prev = some q → ∀ x ∈ l, q < x
  | [], _, _ => ⟨List.Pairwise.nil, fun _ _ _ h => by cases h⟩
  | n :: r, prev, h => by
    rw [sealsGo] at h
    split at h
    · cases h
    · split at h
      · cases h
      · rename_i h2
        obtain ⟨h3, h4⟩ := sealsGo_rise h
        refine ⟨List.pairwise_cons.2 ⟨fun x hx => h4 n rfl x hx, h3⟩, fun q hq x hx => ?_⟩
        subst hq
        have hqn : q < n := by simpa using h2
        rcases List.mem_cons.1 hx with rfl | hx
        · exact hqn
        · have := h4 n rfl x hx; omega
theorem sealsF_rise {l : List Int} (h : sealsF l = 0) : RiseI l ∧ l.length ≤ 2000 := by
  unfold sealsF at h
  split at h
  · cases h
  · exact ⟨(sealsGo_rise h).1, by omega⟩
set_option maxHeartbeats 4000000 in
set_option maxRecDepth 100000 in
theorem checkSeals_any (N : Nat → Prop) (A : Option Addr) (xs : List Int) (c : Nat) (w : World) (hS : Sl rInt N w A xs) (hn : xs.length ≤ 100000) :
    Calls Tryz.prog 26 #[.slice A xs.length c] w fun e w' => e = .returned (.int .i64 (sealsF xs)) ∧ w = w' := by
  have HS := Lib.hid hS
  have hwi := cwithin_any
  obtain ⟨R, HR⟩ : ∃ R, Hid (sealsF xs = R) := ⟨_, Lib.hid rfl⟩
  rw [HR.out]
  clear hS
  go_enter Tryz.func26, Tryz.ntmps26
  by_cases h2000 : 2000 < xs.length
  · obtain rfl : 2 = R := by rw [← HR.out, sealsF, if_pos h2000]
    have hd : decide ((xs.length : Int) > 2000) = true := decide_eq_true (by omega)
    go_wp2_with fail
    go_ret
    exact ⟨rfl, rfl⟩
  · have HR0 : Hid (sealsGo none (xs.drop 0) = R) := by show _ = _; rw [← HR.out, sealsF, if_neg h2000]; rfl
    have hd : decide ((xs.length : Int) > 2000) = false := decide_eq_false (by omega)
    clear HR
    go_wp2_with fail
    go_loopw [10] (fun i wr => ∃ j : Nat, j ≤ xs.length ∧ i = .int .i64 j ∧ Hid (sealsGo (if j = 0 then none else xs[j - 1]?) (xs.drop j) = R) ∧ w = wr) (fun i _ => xs.length - (intOf i).toNat)
    case atStart => exact ⟨0, Nat.zero_le _, rfl, HR0, rfl⟩
    case round =>
      clear HR0
      obtain ⟨j, hj, rfl, HR, rfl⟩ := hrel
      by_cases hlt : j < xs.length
      · obtain ⟨x, hx⟩ : ∃ x, xs[j]? = some x := ⟨_, List.getElem?_eq_getElem hlt⟩
        obtain ⟨blk, off, rfl, hblk, d0⟩ := HS.out.int j x hx
        have hdr : xs.drop j = x :: xs.drop (j + 1) := by
          obtain ⟨h1, rfl⟩ := List.getElem?_eq_some_iff.1 hx
          exact List.drop_eq_getElem_cons h1
        rw [hdr, sealsGo] at HR
        have Hnx : Hid (xs[j + 1 - 1]? = some x) := by show _ = _; rw [Nat.add_sub_cancel]; exact hx
        by_cases hin : 0 ≤ x ∧ x ≤ 4333622001663
        · have hin' : decide (0 ≤ x ∧ x ≤ 4333622001663) = true := decide_eq_true hin
          rw [if_neg (by simpa using hin)] at HR
          clear hdr hin
          rcases Nat.eq_zero_or_pos j with h0 | h0
          · subst h0
            have HR2 : Hid (sealsGo (some x) (xs.drop 1) = R) := by show _ = _; have := HR.out; simpa using this
            rw [Nat.add_zero] at d0
            clear hx HR
            go_wp2_with fail
            ((with_reducible refine (hwi _ _ _ _).mono ?_); rintro e _ ⟨rfl, rfl⟩)
            go_wp2_with fail
            go_roundw
            case rel => exact ⟨1, by omega, by go_num, (by show sealsGo (if 1 = 0 then none else xs[0]?) _ = _; rw [if_neg (show ¬ (1 = 0) by decide), show xs[0]? = some x from Hnx.out]; exact HR2.out), (by first | rfl | trivial)⟩
            case measure => simp [intOf]; omega
          · obtain ⟨m, rfl⟩ : ∃ m, j = m + 1 := ⟨j - 1, by omega⟩
            obtain ⟨y, hy⟩ : ∃ y, xs[m]? = some y := ⟨_, List.getElem?_eq_getElem (by omega)⟩
            obtain ⟨blk2, off2, e2, _, d1⟩ := HS.out.int m y hy
            simp only [Option.some.injEq, Addr.mk.injEq, and_true] at e2
            obtain ⟨rfl, rfl⟩ := e2
            rw [if_neg (show ¬ (m + 1 = 0) by omega), Nat.add_sub_cancel, hy] at HR
            by_cases hxy : x ≤ y
            · obtain rfl : 7 = R := by have := HR.out; rw [if_pos (by simpa using hxy)] at this; exact this
              clear hx hy HR
              go_wp2_with fail
              ((with_reducible refine (hwi _ _ _ _).mono ?_); rintro e _ ⟨rfl, rfl⟩)
              go_wp2_with fail
              go_ret
              exact ⟨rfl, rfl⟩
            · have HR2 : Hid (sealsGo (some x) (xs.drop (m + 1 + 1)) = R) := by have := HR.out; rw [if_neg (by simpa using hxy)] at this; exact this
              clear hx hy HR
              go_wp2_with fail
              ((with_reducible refine (hwi _ _ _ _).mono ?_); rintro e _ ⟨rfl, rfl⟩)
              go_wp2_with fail
              go_roundw
              case rel => exact ⟨m + 1 + 1, by omega, by go_num, (by rw [if_neg (show ¬ (m + 1 + 1 = 0) by omega), Hnx.out]; exact HR2), (by first | rfl | trivial)⟩
              case measure => simp [intOf]; omega
        · have hin' : decide (0 ≤ x ∧ x ≤ 4333622001663) = false := decide_eq_false hin
          obtain rfl : 1 = R := by have := HR.out; rw [if_pos hin] at this; exact this
          clear hdr hin hx HR
          go_wp2_with fail
          ((with_reducible refine (hwi _ _ _ _).mono ?_); rintro e _ ⟨rfl, rfl⟩)
          go_wp2_with fail
          go_ret
          exact ⟨rfl, rfl⟩
      · obtain rfl : 0 = R := by rw [← HR.out, List.drop_eq_nil_of_le (by omega)]; rfl
        go_wp2_with fail
        go_ret
        exact ⟨rfl, rfl⟩
set_option maxHeartbeats 4000000 in
set_option maxRecDepth 100000 in
theorem sealsFault_any (N : Nat → Prop) (A : Option Addr) (xs : List Int) (c : Nat) (w : World) (hS : Sl rInt N w A xs) (hn : xs.length ≤ 100000) :
    Calls Tryz.prog 25 #[.slice A xs.length c] w fun e w' => e = .returned (.int .i64 (sealsF xs)) ∧ w = w' := by
  have HS := Lib.hid hS
  have hwi := in_any
  obtain ⟨R, HR⟩ : ∃ R, Hid (sealsF xs = R) := ⟨_, Lib.hid rfl⟩
  rw [HR.out]
  clear hS
  go_enter Tryz.func25, Tryz.ntmps25
  by_cases h2000 : 2000 < xs.length
  · obtain rfl : 2 = R := by rw [← HR.out, sealsF, if_pos h2000]
    have hd : decide ((xs.length : Int) > 2000) = true := decide_eq_true (by omega)
    go_wp2_with fail
    go_ret
    exact ⟨rfl, rfl⟩
  · have HR0 : Hid (sealsGo none (xs.drop 0) = R) := by show _ = _; rw [← HR.out, sealsF, if_neg h2000]; rfl
    have hd : decide ((xs.length : Int) > 2000) = false := decide_eq_false (by omega)
    clear HR
    go_wp2_with fail
    go_loopw [10] (fun i wr => ∃ j : Nat, j ≤ xs.length ∧ i = .int .i64 j ∧ Hid (sealsGo (if j = 0 then none else xs[j - 1]?) (xs.drop j) = R) ∧ w = wr) (fun i _ => xs.length - (intOf i).toNat)
    case atStart => exact ⟨0, Nat.zero_le _, rfl, HR0, rfl⟩
    case round =>
      clear HR0
      obtain ⟨j, hj, rfl, HR, rfl⟩ := hrel
      by_cases hlt : j < xs.length
      · obtain ⟨x, hx⟩ : ∃ x, xs[j]? = some x := ⟨_, List.getElem?_eq_getElem hlt⟩
        obtain ⟨blk, off, rfl, hblk, d0⟩ := HS.out.int j x hx
        have hdr : xs.drop j = x :: xs.drop (j + 1) := by
          obtain ⟨h1, rfl⟩ := List.getElem?_eq_some_iff.1 hx
          exact List.drop_eq_getElem_cons h1
        rw [hdr, sealsGo] at HR
        have Hnx : Hid (xs[j + 1 - 1]? = some x) := by show _ = _; rw [Nat.add_sub_cancel]; exact hx
        by_cases hin : 0 ≤ x ∧ x ≤ 4333622001663
        · have hin' : decide (0 ≤ x ∧ x ≤ 4333622001663) = true := decide_eq_true hin
          rw [if_neg (by simpa using hin)] at HR
          clear hdr hin
          rcases Nat.eq_zero_or_pos j with h0 | h0
          · subst h0
            have HR2 : Hid (sealsGo (some x) (xs.drop 1) = R) := by show _ = _; have := HR.out; simpa using this
            rw [Nat.add_zero] at d0
            clear hx HR
            go_wp2_with fail
            ((with_reducible refine (hwi _ _ _ _).mono ?_); rintro e _ ⟨rfl, rfl⟩)
            go_wp2_with fail
            go_roundw
            case rel => exact ⟨1, by omega, by go_num, (by show sealsGo (if 1 = 0 then none else xs[0]?) _ = _; rw [if_neg (show ¬ (1 = 0) by decide), show xs[0]? = some x from Hnx.out]; exact HR2.out), (by first | rfl | trivial)⟩
            case measure => simp [intOf]; omega
          · obtain ⟨m, rfl⟩ : ∃ m, j = m + 1 := ⟨j - 1, by omega⟩
            obtain ⟨y, hy⟩ : ∃ y, xs[m]? = some y := ⟨_, List.getElem?_eq_getElem (by omega)⟩
            obtain ⟨blk2, off2, e2, _, d1⟩ := HS.out.int m y hy
            simp only [Option.some.injEq, Addr.mk.injEq, and_true] at e2
            obtain ⟨rfl, rfl⟩ := e2
            rw [if_neg (show ¬ (m + 1 = 0) by omega), Nat.add_sub_cancel, hy] at HR
            by_cases hxy : x ≤ y
            · obtain rfl : 7 = R := by have := HR.out; rw [if_pos (by simpa using hxy)] at this; exact this
              clear hx hy HR
              go_wp2_with fail
              ((with_reducible refine (hwi _ _ _ _).mono ?_); rintro e _ ⟨rfl, rfl⟩)
              go_wp2_with fail
              go_ret
              exact ⟨rfl, rfl⟩
            · have HR2 : Hid (sealsGo (some x) (xs.drop (m + 1 + 1)) = R) := by have := HR.out; rw [if_neg (by simpa using hxy)] at this; exact this
              clear hx hy HR
              go_wp2_with fail
              ((with_reducible refine (hwi _ _ _ _).mono ?_); rintro e _ ⟨rfl, rfl⟩)
              go_wp2_with fail
              go_roundw
              case rel => exact ⟨m + 1 + 1, by omega, by go_num, (by rw [if_neg (show ¬ (m + 1 + 1 = 0) by omega), Hnx.out]; exact HR2), (by first | rfl | trivial)⟩
              case measure => simp [intOf]; omega
        · have hin' : decide (0 ≤ x ∧ x ≤ 4333622001663) = false := decide_eq_false hin
          obtain rfl : 1 = R := by have := HR.out; rw [if_pos hin] at this; exact this
          clear hdr hin hx HR
          go_wp2_with fail
          ((with_reducible refine (hwi _ _ _ _).mono ?_); rintro e _ ⟨rfl, rfl⟩)
          go_wp2_with fail
          go_ret
          exact ⟨rfl, rfl⟩
      · obtain rfl : 0 = R := by rw [← HR.out, List.drop_eq_nil_of_le (by omega)]; rfl
        go_wp2_with fail
        go_ret
        exact ⟨rfl, rfl⟩
end Go.Proofs.YthmkphmciiiagaaGreatDoor

/- Where a stream goes along, what a call without a stream does to the pieces is as where none does. -/
namespace Go.Proofs.YthmkphmciiiagaaGreatDoor
open Go Go.RowKit
theorem take_get (a : Array Obj) {n k : Nat} (h : k < n) : (a.take n)[k]? = a[k]? := by
  rw [← Array.getElem?_toList, ← Array.getElem?_toList]
  simp only [Array.take_eq_extract, Array.toList_extract, List.extract_eq_take_drop, Nat.sub_zero, List.drop_zero]
  rw [List.getElem?_take_of_lt h]
/-- the pieces seen without the stream, and back -/
theorem St.viaMem {b m : Nat} {w0 w : World} {cs : List Chunk} (S : St b m w0 w cs) : ∃ wb, wb.heap.size = w0.heap.size ∧ Mem wb w cs ∧ ∀ w' cs', Mem wb w' cs' → St b m w0 w' cs' := by
  have hsz := S.g.size
  have hb := S.b0
  refine ⟨{ w with heap := w.heap.take w0.heap.size }, ?_, ⟨⟨rfl, rfl, rfl, ?_, fun k hk => ?_⟩, ?_, ?_, S.sep⟩, fun w' cs' M => ?_⟩
  · show (w.heap.take w0.heap.size).size = _
    simp; omega
  · show (w.heap.take w0.heap.size).size ≤ _
    simp; omega
  · have hk' : k < (w.heap.take w0.heap.size).size := hk
    show w.heap[k]? = (w.heap.take w0.heap.size)[k]?
    simp at hk'
    rw [take_get _ (by omega)]
  · have e : (w.heap.take w0.heap.size).size = w0.heap.size := by simp; omega
    show ∀ c ∈ cs, c.ok (Mut (w.heap.take w0.heap.size).size cs) w
    rw [e]; exact S.ok
  · have e : (w.heap.take w0.heap.size).size = w0.heap.size := by simp; omega
    show ∀ c ∈ cs, ∀ k, c.blk = some k → (w.heap.take w0.heap.size).size ≤ k
    rw [e]; exact S.new
  · have e : (w.heap.take w0.heap.size).size = w0.heap.size := by simp; omega
    have hblk : ∀ k, k < w0.heap.size → w'.heap[k]? = w.heap[k]? := fun k hk => by
      have h1 := M.b.block k (by show k < (w.heap.take w0.heap.size).size; omega)
      rw [h1]
      show (w.heap.take w0.heap.size)[k]? = w.heap[k]?
      rw [take_get _ hk]
    have hsz' : w0.heap.size ≤ w'.heap.size := by
      have := M.b.size
      have h2 : (w.heap.take w0.heap.size).size ≤ w'.heap.size := this
      omega
    refine ⟨⟨⟨M.b.os.trans S.g.k.os, M.b.tape.trans S.g.k.tape, M.b.output.trans S.g.k.output, hsz', fun k hk hn => (hblk k hk).trans (S.g.k.block k hk hn)⟩, S.g.s.lower (fun k hk => hblk k (by omega))⟩, hb, ?_, ?_, M.sep⟩
    · have := M.ok
      rw [show World.heap { w with heap := w.heap.take w0.heap.size } = w.heap.take w0.heap.size from rfl, e] at this
      exact this
    · have := M.new
      rw [show World.heap { w with heap := w.heap.take w0.heap.size } = w.heap.take w0.heap.size from rfl, e] at this
      exact this
end Go.Proofs.YthmkphmciiiagaaGreatDoor

/- slices.Equal of the same numbers. -/
namespace Go.Proofs.YthmkphmciiiagaaGreatDoor
open Go Go.RowKit
theorem Sl.intAt {N : Nat → Prop} {w : World} {A : Option Addr} {xs : List Int} (h : Sl rInt N w A xs) (h0 : xs ≠ []) : ∃ b o, A = some ⟨b, o, none⟩ ∧ ∀ j, j < xs.length → w.cell? ⟨b, o + j, none⟩ = some (.int .i64 (xs.getD j 0)) := by
  cases xs with
  | nil => exact absurd rfl h0
  | cons x r =>
    obtain ⟨b, o, l, e, _, _, _, _⟩ := h 0 x rfl
    refine ⟨b, o, e, fun j hj => ?_⟩
    obtain ⟨b2, o2, l2, e2, _, _, hr, hc⟩ := h j (x :: r)[j] (List.getElem?_eq_getElem hj)
    rw [e] at e2
    cases e2
    obtain rfl : l2 = [.int .i64 (x :: r)[j]] := hr
    have := hc 0 _ rfl
    rw [show o + j * rInt.size + 0 = o + j by simp [rInt, Rep.flat]] at this
    rw [this, List.getD_eq_getElem?_getD, List.getElem?_eq_getElem hj]
    rfl
end Go.Proofs.YthmkphmciiiagaaGreatDoor

/- The law ConsentSeals walked: it returns true, and nothing that was there has turned. -/
namespace Go.Proofs.YthmkphmciiiagaaGreatDoor
open Go Go.RowKit
theorem firstErr2 (a b : Int) : firstErr [a, b] = if a = 0 then b else a := by
  by_cases ha : a = 0
  · by_cases hb : b = 0 <;> simp [firstErr, ha, hb]
  · simp [firstErr, ha]
theorem set_same {α : Type} {l : List α} {i : Nat} {x : α} (h : l[i]? = some x) : l.set i x = l := by
  obtain ⟨hi, rfl⟩ := List.getElem?_eq_some_iff.1 h
  exact List.set_getElem_self hi
def GivesSrt (w0 : World) (cs : List Chunk) (i B E : Nat) (v : Value) (n : Nat) (e : Ending) (w' : World) : Prop := e = .returned (.tuple #[]) ∧ ∃ ys : List Int, ys.length ≤ n ∧ Mem w0 w' (cs.set i (.own rInt B E v ys))
def GivesCmp (w0 : World) (cs : List Chunk) (i B E : Nat) (n : Nat) (e : Ending) (w' : World) : Prop := ∃ v, e = .returned v ∧ ∃ ys : List Int, ys.length ≤ n ∧ Mem w0 w' (cs.set i (.own rInt B E v ys))
theorem sortAnyI {w0 w : World} {cs : List Chunk} (S : Mem w0 w cs) (i : Nat) {B E : Nat} {v : Value} {xs : List Int} (hi : cs[i]? = some (.own rInt B E v xs)) (hl : xs.length ≤ 1000000) :
    Calls Tryz.prog 22 #[v] w (GivesSrt w0 cs i B E v xs.length) := by
  rcases (S.ow i hi).shape2 with ⟨rfl, rfl⟩ | ⟨g, cap, rfl, _⟩
  · refine (sortNilI_any w).mono ?_
    rintro e w' ⟨rfl, rfl⟩
    exact ⟨rfl, [], Nat.le_refl _, by rw [set_same hi]; exact S⟩
  · refine (S.sortI i hi rfl hl).mono ?_
    rintro e w' ⟨rfl, S'⟩
    exact ⟨rfl, _, Nat.le_of_eq (srtI_len xs), S'⟩
theorem compAnyI {w0 w : World} {cs : List Chunk} (S : Mem w0 w cs) (i : Nat) {B E : Nat} {v : Value} {xs : List Int} (hi : cs[i]? = some (.own rInt B E v xs)) (hl : xs.length ≤ 1000000) :
    Calls Tryz.prog 23 #[v] w (GivesCmp w0 cs i B E xs.length) := by
  rcases (S.ow i hi).shape2 with ⟨rfl, rfl⟩ | ⟨g, cap, rfl, hc⟩
  · refine (Tryz.slices_Compact_int_empty none 0 w).mono ?_
    rintro e w' ⟨rfl, rfl⟩
    exact ⟨_, rfl, [], Nat.le_refl _, by rw [set_same hi]; exact S⟩
  · refine (S.compI i hi rfl hl hc).mono ?_
    rintro e w' ⟨rfl, S'⟩
    exact ⟨_, rfl, _, compact_len xs, S'⟩
theorem containsI_any (N : Nat → Prop) (A : Option Addr) (xs : List Int) (x : Int) (c : Nat) (w : World) (hS : Sl rInt N w A xs) (hn : xs.length ≤ 1000000) :
    Calls Tryz.prog 28 #[.slice A xs.length c, .int .i64 x] w fun e w' => e = .returned (.bool (decide (x ∈ xs))) ∧ w = w' := by
  by_cases h0 : xs = []
  · subst h0
    refine (Tryz.slices_Contains_int_empty A c x w).mono ?_
    rintro e w' ⟨rfl, rfl⟩
    exact ⟨by simp, rfl⟩
  · obtain ⟨b, o, rfl, hc⟩ := hS.intAt h0
    refine (Tryz.slices_Contains_int b o xs.length c xs x w (Nat.le_refl _) (by omega) hc).mono ?_
    rintro e w' ⟨rfl, rfl⟩
    refine ⟨?_, rfl⟩
    rw [List.take_length, List.contains_eq_mem]
def GivesSd (xs : List Int) (k : Int) (t : ByteArray) (w : World) (e : Ending) (w' : World) : Prop :=
  e = .returned (.tuple #[.bool (if firstErr [sealsF xs, L.idFault k t] = 0 then decide (sealOf k t ∈ xs) else false), .int .i64 (firstErr [sealsF xs, L.idFault k t])]) ∧ Below w.heap.size w w'
set_option maxHeartbeats 4000000 in
set_option maxRecDepth 100000 in
theorem sealed_any (N : Nat → Prop) (A : Option Addr) (xs : List Int) (c : Nat) (k : Int) (t : ByteArray) (w : World) (hS : Sl rInt N w A xs) (hn : xs.length ≤ 100000) (ht : t.size ≤ 1000000) (hM : MaxL w) :
    Calls Tryz.prog 24 #[.slice A xs.length c, .agg #[.int .i64 k, .string t]] w (GivesSd xs k t w) := by
  have S := (Mem.start w).new' (idCs k t) 29
  replace S : Mem w (w.alloc (.cells (idCs k t) 29)) [.loc w.heap.size (idCs k t) 29] := S
  have H1 := Lib.hid (fun w' (h : Below w.heap.size w w') => checkSeals_any N A xs c w' (hS.keepB h) hn)
  have H2 := Lib.hid (fun w' (h : Below w.heap.size w w') => seal_any k t w' ht (hM.below h))
  have H3 := Lib.hid (fun (hF : sealsF xs = 0) w' (h : Below w.heap.size w w') => bsearchI_any N A xs (sealOf k t) c w' (hS.keepB h) hn (sealsF_rise hF).1)
  unfold GivesSd
  generalize sealsF xs = F1 at *
  generalize L.idFault k t = F2 at *
  generalize sealOf k t = sl at *
  obtain ⟨R1, HR1⟩ : ∃ R1, Hid ((if firstErr [F1, F2] = 0 then decide (sl ∈ xs) else false) = R1) := ⟨_, Lib.hid rfl⟩
  obtain ⟨R2, HR2⟩ : ∃ R2, Hid (firstErr [F1, F2] = R2) := ⟨_, Lib.hid rfl⟩
  rw [HR1.out, HR2.out]
  rw [HR2.out] at HR1
  clear hS hM
  go_enter Tryz.func24, Tryz.ntmps24
  go_wp2_with fail
  generalize w.alloc (.cells (idCs k t) 29) = w1 at *
  ((with_reducible refine (H1.out w1 S.b).mono ?_); rintro e _ ⟨rfl, rfl⟩)
  by_cases h1 : F1 = 0
  · have HB := Lib.hid (H3.out h1)
    subst h1
    have e2 : Hid (R2 = F2) := by show _ = _; rw [← HR2.out, firstErr2, if_pos rfl]
    clear H1 H3
    have c0 := (S.lv 0 rfl).all
    go_wp2_with fail
    ((with_reducible refine (H2.out w1 S.b).mono ?_); rintro e w2 ⟨rfl, hl2⟩)
    replace S := S.below hl2
    by_cases h2 : F2 = 0
    · subst h2
      have e3 : Hid (decide (sl ∈ xs) = R1) := by show _ = _; rw [← HR1.out, e2.out, if_pos rfl]
      obtain rfl : R2 = 0 := e2.out
      rw [if_pos rfl]
      clear HR1 HR2 hl2 c0 H2 e2
      go_wp2_with fail
      ((with_reducible refine (HB.out w2 S.b).mono ?_); rintro e _ ⟨i, rfl, rfl⟩)
      rw [e3.out]
      go_wp2_with fail
      go_ret2
      exact ⟨rfl, S.b⟩
    · have h2' : (F2 != 0) = true := by simpa using h2
      obtain rfl : false = R1 := by rw [← HR1.out, e2.out, if_neg h2]
      obtain rfl : R2 = F2 := e2.out
      rw [if_neg h2]
      clear HR1 HR2 hl2 c0 H2 HB h2 e2
      go_wp2_with fail
      go_ret2
      exact ⟨rfl, S.b⟩
  · have h1' : (F1 != 0) = true := by simpa using h1
    have e2 : R2 = F1 := by rw [← HR2.out, firstErr2, if_neg h1]
    obtain rfl : false = R1 := by rw [← HR1.out, e2, if_neg h1]
    subst e2
    clear HR1 HR2 H1 H2 H3 h1
    go_wp2_with fail
    go_ret2
    exact ⟨rfl, S.b⟩
def SealRel (L b M : Nat) (w0 : World) (X : Nat) (k : Int) (t : ByteArray) (B : Nat) (v : Value) (w : World) : Prop := ∃ xs : List Int, xs.length ≤ L ∧ St b M w0 w [.loc X (idCs k t) 29, .own rInt B 3 v xs]
set_option maxHeartbeats 16000000 in
set_option maxRecDepth 100000 in
theorem consentSeals_any (v : Value) (w : World) (hv : IntsIn v w) (hP : Pool w) (hM : MaxL w) :
    Calls Tryz.prog 4 #[v] w fun e w' => e = .returned (.bool true) ∧ Below w.heap.size w w' := by
  obtain ⟨va, vn, vc, rfl⟩ : ∃ a n c, v = .slice a n c := by
    rcases hv with ⟨a, c, rfl⟩ | ⟨k, off, len, cap, rfl, _⟩
    · exact ⟨_, _, _, rfl⟩
    · exact ⟨_, _, _, rfl⟩
  have g0 := G.start (Strm.start hv)
  clear hv
  have hPn : 0 ≠ w.heap.size := Nat.ne_of_lt hP.lt
  have hMl : 2 < w.heap.size := by
    obtain ⟨m, h⟩ := hM
    exact World.block_lt_of_cell? w _ h
  have hMn : 2 ≠ w.heap.size := Nat.ne_of_lt hMl
  have hk0 := (SK.refl w.heap.size w).alloc (.cells #[.slice va vn vc, .int .i64 0] 25)
  have HP := Lib.hid (hP.keep hk0 hPn)
  have HM := Lib.hid (hM.sk hk0 hMn)
  have HM0 := Lib.hid hM
  clear hP hM hk0 hMl
  have S := St.start g0.s
  obtain ⟨B, hB⟩ : ∃ B, B = (w.alloc (.cells #[.slice va vn vc, .int .i64 0] 25)).heap.size := ⟨_, rfl⟩
  have HB := Lib.hid hB
  clear hB
  go_enter Tryz.func4, Tryz.ntmps4
  go_wp2_with fail
  generalize hw0 : w.alloc (.cells #[.slice va vn vc, .int .i64 0] 25) = w0 at *
  have Hw0 := Lib.hid hw0
  clear hw0
  ((with_reducible refine (id_any w.heap.size 0 _ S.g.s (by omega) (HP.out.keep S.g.k hPn) hPn).mono ?_); rintro e w1 ⟨k, t, ht, rfl, hk1, hs1⟩)
  replace S := S.step hk1 hs1
  clear hk1 hs1
  have htt : t.size ≤ 1000000 := by omega
  go_upto_region 3 with fail
  obtain ⟨X, hX⟩ : ∃ X, X = w1.heap.size := ⟨_, rfl⟩
  replace S : St w.heap.size (0 + 10) w0 (w1.alloc (.cells (idCs k t) 29)) [.loc X (idCs k t) 29] := by
    rw [hX]; exact S.new' (idCs k t) 29
  rw [← hX]
  clear hX
  generalize w1.alloc (.cells (idCs k t) 29) = w2 at *
  have c0 := (S.lv 0 rfl).all
  have Hse := Lib.hid (seal_any k t w2 htt (HM.out.sk S.g.k hMn))
  have Hid1 := Lib.hid (fun w' h => refId_any k t w' htt h)
  have Hk := Lib.hid (idFault_kind k t)
  have Hsl := Lib.hid (fun hk w' => refSeal_any k t hk w' htt)
  have Hsd := Lib.hid (fun (A : Option Addr) (xs : List Int) (c : Nat) w' (hS : Sl rInt (fun _ => False) w' A xs) (hn : xs.length ≤ 100000) (h : MaxL w') => sealed_any (fun _ => False) A xs c k t w' hS hn htt h)
  unfold GivesSd at Hsd
  obtain ⟨F, hF⟩ : ∃ F, L.idFault k t = F := ⟨_, rfl⟩
  rw [hF] at Hse Hid1 Hk Hsd
  obtain ⟨sl, hsl⟩ : ∃ sl, sealOf k t = sl := ⟨_, rfl⟩
  rw [hsl] at Hse Hsl Hsd
  obtain ⟨sv, Hsv⟩ : ∃ sv, Hid ((if F = 0 then sl else 0) = sv) := ⟨_, Lib.hid rfl⟩
  rw [Hsv.out] at Hse
  clear hF hsl
  go_wp2_with fail
  ((with_reducible refine (Hse.out).mono ?_); rintro e w3 ⟨rfl, hl3⟩)
  replace S := S.below hl3
  clear hl3 Hse c0
  have c0 := (S.lv 0 rfl).all
  go_wp2_with fail
  ((with_reducible refine (Hid1.out w3 (HM.out.sk S.g.k hMn)).mono ?_); rintro e w4 ⟨rfl, hl4⟩)
  replace S := S.below hl4
  clear hl4 c0
  go_upto_region 5 with fail
  have HS0 := Lib.hid S
  clear S
  go_cut [44] (fun s44 wx => s44 = .bool false ∧ St w.heap.size 10 w0 wx [.loc X (idCs k t) 29])
  case first =>
    have S := HS0.out
    clear HS0
    by_cases hF : F = 0
    · have hk := Hk.out hF
      obtain rfl : sl = sv := by rw [← Hsv.out, if_pos hF]
      subst hF
      clear Hsv
      have c0 := (S.lv 0 rfl).all
      go_wp2_with fail
      ((with_reducible refine (Hsl.out hk w4).mono ?_); rintro e w5 ⟨rfl, hl5⟩)
      replace S := S.below hl5
      go_wp2_with fail
      go_meet
      exact ⟨rfl, S⟩
    · have hF' : (F != 0) = true := by simpa using hF
      have hF2 : (F == 0) = false := by simpa using hF
      obtain rfl : 0 = sv := by rw [← Hsv.out, if_neg hF]
      clear Hsv
      have HFz := Lib.hid hF
      clear hF
      go_wp2_with fail
      go_meet
      exact ⟨rfl, S⟩
  case rest =>
    clear HS0
    obtain ⟨rfl, S⟩ := hcut
    generalize wc = w5 at *
    replace S : St w.heap.size 10 w0 w5 [.loc X (idCs k t) 29, .own rInt B 3 (.slice none 0 0) []] := S.nil rInt B 3
    clear Hsv
    go_wp2_with fail
    ((with_reducible refine (range_any w.heap.size _ 0 4 _ S.g.s (by omega) (by omega) (by omega) (by omega)).mono ?_); rintro e w6 ⟨r, r0, r1, rfl, hk_w6, hs_w6⟩)
    replace S := S.step hk_w6 hs_w6
    clear hk_w6 hs_w6
    obtain ⟨n, rfl⟩ := Int.eq_ofNat_of_zero_le r0
    have hn : n ≤ 4 := by omega
    clear r0 r1
    go_wp2_with fail
    go_loopw [8, 47] (fun s8 i wr => ∃ (j : Nat) (xs : List Int), j ≤ n ∧ i = .int .i64 j ∧ xs.length ≤ j ∧ St w.heap.size (11 + 10 * j) w0 wr [.loc X (idCs k t) 29, .own rInt B 3 s8 xs]) (fun _ i _ => n - (intOf i).toNat)
    case atStart => exact ⟨0, [], Nat.zero_le _, rfl, Nat.zero_le _, S⟩
    case round =>
      clear S
      obtain ⟨j, xs, hj, rfl, hxl, S⟩ := hrel
      by_cases hlt : j < n
      · go_wp2_with fail
        ((with_reducible refine (id_any w.heap.size _ _ S.g.s (by omega) (HP.out.keep S.g.k hPn) hPn).mono ?_); rintro e w7 ⟨k2, t2, ht2, rfl, hk7, hs7⟩)
        replace S := S.step hk7 hs7
        clear hk7 hs7
        go_upto_region 11 with fail
        obtain ⟨Y, hY⟩ : ∃ Y, Y = w7.heap.size := ⟨_, rfl⟩
        replace S := S.newAt (idCs k2 t2) 29 Y hY
        rw [← hY]
        clear hY
        generalize w7.alloc (.cells (idCs k2 t2) 29) = w8 at *
        have c2 := (S.lv 2 rfl).all
        have Hf := Lib.hid (refId_any k2 t2 w8 (by omega) (HM.out.sk S.g.k hMn))
        have Hk2 := Lib.hid (idFault_kind k2 t2)
        generalize L.idFault k2 t2 = F2 at *
        go_wp2_with fail
        ((with_reducible refine (Hf.out).mono ?_); rintro e w9 ⟨rfl, hl9⟩)
        replace S := S.below hl9
        clear hl9 c2 Hf
        by_cases hF2 : F2 = 0
        · have Hs2 := Lib.hid (refSeal_any k2 t2 (Hk2.out hF2) w9 (by omega))
          have hF2' : (F2 == 0) = true := by simpa using hF2
          generalize sealOf k2 t2 = s2 at *
          have c2 := (S.lv 2 rfl).all
          clear hF2
          go_wp2_with fail
          ((with_reducible refine (Hs2.out).mono ?_); rintro e w10 ⟨rfl, hl10⟩)
          replace S := S.below hl10
          clear hl10 c2 Hs2
          have hsz : B ≤ w10.heap.size := by rw [HB.out]; exact S.g.size
          go_wp2_with (at_builtin; refine S.app 1 rfl tyIntP rfl _ _ rfl s2 1 rfl rfl rfl (fun u hu => by simp at hu; subst hu; rfl) hsz (by omega) (by decide) ?_; intro v' w11 S11)
          go_roundw
          case rel => exact ⟨j + 1, _, by omega, by go_num, by rw [List.length_append, List.length_singleton]; omega, (S11.del 2).mono (by omega)⟩
          case measure => simp [intOf]; omega
        · have hF2' : (F2 == 0) = false := by simpa using hF2
          clear hF2
          go_wp2_with fail
          go_roundw
          case rel => exact ⟨j + 1, _, by omega, by go_num, by omega, (S.del 2).mono (by omega)⟩
          case measure => simp [intOf]; omega
      · obtain ⟨wb, hwb, M, back⟩ := S.viaMem
        have Hso := Lib.hid (sortAnyI M 1 rfl (by omega))
        clear M
        go_wp2_with fail
        ((with_reducible refine (Hso.out).mono ?_); rintro e w7 ⟨rfl, ys, hys, M7⟩)
        replace S := back _ _ M7
        clear M7 back Hso hwb
        have hyl : ys.length ≤ 4 := by omega
        go_wp2_with fail
        ((with_reducible refine (flip_any w.heap.size _ _ _ S.g.s (by omega) (by omega) (by omega)).mono ?_); rintro e w8 ⟨r8, rfl, hk_w8, hs_w8⟩)
        replace S := S.step hk_w8 hs_w8
        clear hk_w8 hs_w8
        go_upto_if 64 with fail
        have HS0 := Lib.hid S
        clear S
        go_cut [8] (fun s8 wx => SealRel 5 w.heap.size 100 w0 X k t B s8 wx)
        case first =>
          have S := HS0.out
          clear HS0
          cases r8
          · obtain ⟨wb, hwb, M, back⟩ := S.viaMem
            have Hco := Lib.hid (compAnyI M 1 rfl (by omega))
            clear M
            go_wp2_with fail
            ((with_reducible refine (Hco.out).mono ?_); rintro e w9 ⟨v9, rfl, zs, hzs, M9⟩)
            have S9 := back _ _ M9
            clear M9 back Hco hwb S
            go_wp2_with fail
            go_meet
            exact ⟨zs, by omega, S9.mono (by omega)⟩
          · go_wp2_with fail
            go_meet
            exact ⟨ys, by omega, S.mono (by omega)⟩
        case rest =>
          clear HS0 hyl hys
          obtain ⟨zs, hzl, S⟩ := hcut
          generalize wc = w9 at *
          replace S : St w.heap.size 100 w0 w9 [.loc X (idCs k t) 29, .own rInt B 3 u8 zs] := S
          go_wp2_with fail
          ((with_reducible refine (flip_any w.heap.size _ _ _ S.g.s (by omega) (by omega) (by omega)).mono ?_); rintro e w10 ⟨r10, rfl, hk_w10, hs_w10⟩)
          replace S := S.step hk_w10 hs_w10
          clear hk_w10 hs_w10
          go_upto_if 68 with fail
          have HS0 := Lib.hid S
          clear S
          go_cut [8] (fun s8 wx => SealRel 6 w.heap.size 200 w0 X k t B s8 wx)
          case first =>
            have S := HS0.out
            clear HS0
            cases r10
            · go_wp2_with fail
              go_meet
              exact ⟨zs, by omega, S.mono (by omega)⟩
            · go_wp2_with fail
              ((with_reducible refine (pick_lit w.heap.size _ 4 [-1, 0, 4333622001663, 4333622001664] S.g.s (by decide) (by simp) (by omega) (by omega) (by omega)).mono ?_); rintro e w11 ⟨n1, hn1, rfl, hk11, hs11⟩)
              replace S := S.step hk11 hs11
              clear hk11 hs11 hn1
              have hsz : B ≤ w11.heap.size := by rw [HB.out]; exact S.g.size
              go_wp2_with (at_builtin; refine S.app 1 rfl tyIntP rfl _ _ rfl n1 1 rfl rfl rfl (fun u hu => by simp at hu; subst hu; rfl) hsz (by omega) (by decide) ?_; intro v' w12 S12)
              go_meet
              exact ⟨_, by rw [List.length_append, List.length_singleton]; omega, S12.mono (by omega)⟩
          case rest =>
            clear HS0 hzl
            obtain ⟨xs2, hxs2, S⟩ := hcut
            generalize wc = w11 at *
            have Hb : Hid (Below w.heap.size w w11) := by
              have g := g0.step S.g.k S.g.s
              rw [← Hw0.out] at g
              exact Gg.toBelow g
            have HLx : Hid (LV w11 X (idCs k t) 29) := S.lv 0 rfl
            obtain ⟨A, c, e1, hSl⟩ := ((S.ow 1 rfl).flatM flatInt (M' := fun _ => False)).toSlC (fun _ _ h => h)
            have HSl := Lib.hid hSl.2
            have HMx := Lib.hid (HM.out.sk S.g.k hMn)
            subst e1
            clear S hSl
            have M := Mem.start w11
            have H1 := Lib.hid (fun w' (h : Below w11.heap.size w11 w') => Hsd.out A xs2 c w' (HSl.out.keepB h) (by omega) (HMx.out.below h))
            have H2 := Lib.hid (fun w' (h : Below w11.heap.size w11 w') => sealsFault_any (fun _ => False) A xs2 c w' (HSl.out.keepB h) (by omega))
            have H3 := Lib.hid (fun w' (h : Below w11.heap.size w11 w') => checkSeals_any (fun _ => False) A xs2 c w' (HSl.out.keepB h) (by omega))
            have H4 := Lib.hid (fun w' (h : Below w11.heap.size w11 w') => Hid1.out w' (HMx.out.below h))
            have H5 := Lib.hid (fun w' (h : Below w11.heap.size w11 w') => containsI_any (fun _ => False) A xs2 sl c w' (HSl.out.keepB h) (by omega))
            have HC := Lib.hid (fun w' (h : Below w11.heap.size w11 w') => consents_any w' (HMx.out.below h))
            generalize sealsF xs2 = F1 at *
            obtain ⟨E, HE⟩ : ∃ E, Hid (firstErr [F1, F] = E) := ⟨_, Lib.hid rfl⟩
            rw [HE.out] at H1
            obtain ⟨is, His⟩ : ∃ is, Hid ((if E = 0 then decide (sl ∈ xs2) else false) = is) := ⟨_, Lib.hid rfl⟩
            rw [His.out] at H1
            have HEk : Hid (E = 0 → F = 0) := fun h => by
              have e := HE.out
              rw [firstErr2, h] at e
              by_cases h1 : F1 = 0
              · rw [if_pos h1] at e; exact e
              · rw [if_neg h1] at e; exact absurd e h1
            clear Hsd Hid1 HSl
            have c0 := HLx.out.all
            go_wp2_with fail
            ((with_reducible refine (H1.out w11 M.b).mono ?_); rintro e w12 ⟨rfl, hl12⟩)
            replace M := M.below hl12
            clear hl12 H1 c0
            go_wp2_with fail
            ((with_reducible refine (H2.out w12 M.b).mono ?_); rintro e _ ⟨rfl, rfl⟩)
            go_wp2_with fail
            ((with_reducible refine (H3.out w12 M.b).mono ?_); rintro e _ ⟨rfl, rfl⟩)
            clear H2 H3
            have c0 := (LV.kb3 HLx.out M.b HLx.out.lt).all
            go_wp2_with fail
            ((with_reducible refine (H4.out w12 M.b).mono ?_); rintro e w13 ⟨rfl, hl13⟩)
            replace M := M.below hl13
            clear hl13 H4 c0
            have M2 := M.newAt #[.int .i64 F1, .int .i64 F] 32 w13.heap.size rfl
            have Hwr := Lib.hid (wrongOr_any w13.heap.size [F1, F] (w13.alloc (.cells #[.int .i64 F1, .int .i64 F] 32)) (M2.lv 0 rfl) (by simp))
            rw [HE.out, show ([F1, F] : List Int).length = 2 from rfl] at Hwr
            go_wp2_with fail
            ((with_reducible refine (Hwr.out).mono ?_); rintro e _ ⟨rfl, rfl⟩)
            generalize w13.alloc (.cells #[.int .i64 F1, .int .i64 F] 32) = w14 at *
            clear Hwr M
            by_cases hE : E = 0
            · have hF := HEk.out hE
              have Hsl1 := Lib.hid (Hsl.out (Hk.out hF) w14)
              obtain rfl : decide (sl ∈ xs2) = is := by rw [← His.out, if_pos hE]
              subst hE
              obtain ⟨bb, hbb⟩ : ∃ bb, decide (sl ∈ xs2) = bb := ⟨_, rfl⟩
              have H6 : Hid (∀ w', Below w11.heap.size w11 w' → Calls Tryz.prog 28 #[.slice A xs2.length c, .int .i64 sl] w' fun e w'' => e = .returned (.bool bb) ∧ w' = w'') := hbb ▸ H5.out
              rw [hbb]
              clear hF hbb His HEk H5
              have c0 := (LV.kb3 HLx.out M2.b HLx.out.lt).all
              go_wp2_with fail
              ((with_reducible refine (Hsl1.out).mono ?_); rintro e w15 ⟨rfl, hl15⟩)
              replace M2 := M2.below hl15
              clear hl15 c0
              go_wp2_with fail
              ((with_reducible refine (H6.out w15 M2.b).mono ?_); rintro e _ ⟨rfl, rfl⟩)
              go_wp2_with fail
              ((with_reducible refine (HC.out w15 M2.b).mono ?_); rintro e w16 ⟨rfl, hl16⟩)
              replace M2 := M2.below hl16
              go_wp2_with fail
              go_ret
              exact ⟨rfl, Hb.out.trans (M2.b.mono Hb.out.size)⟩
            · obtain rfl : false = is := by rw [← His.out, if_neg hE]
              have hE' : (E != 0) = true := by simpa using hE
              clear His HEk H5 hE
              go_wp2_with fail
              ((with_reducible refine (HC.out w14 M2.b).mono ?_); rintro e w16 ⟨rfl, hl16⟩)
              replace M2 := M2.below hl16
              go_wp2_with fail
              go_ret
              exact ⟨rfl, Hb.out.trans (M2.b.mono Hb.out.size)⟩
end Go.Proofs.YthmkphmciiiagaaGreatDoor
