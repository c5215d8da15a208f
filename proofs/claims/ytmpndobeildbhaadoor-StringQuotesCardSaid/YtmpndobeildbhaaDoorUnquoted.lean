/- What handref2.Unquoted returns. -/
import Derived.Test.YtmpndobeildbhaaDoorUnquote
namespace Go.Proofs.YtmpndobeildbhaaDoor
open Go.RowKit

/-- what Unquoted returns -/
def unqR : Option (List UInt8 × Nat) → Value
  | none => .tuple #[.string ⟨#[]⟩, .int .i64 0, .bool false]
  | some p => .tuple #[.string ⟨p.1.toArray⟩, .int .i64 p.2, .bool true]

theorem quote_one (c : UInt8) : (ByteArray.mk (Q.quote [c]).toArray).extract 1 ((ByteArray.mk (Q.quote [c]).toArray).size - 1) = ByteArray.mk (Q.qb c).toArray := by
  apply ByteArray.ext
  rw [ByteArray.data_extract]
  apply Array.toList_inj.1
  rw [Array.toList_extract, List.extract_eq_take_drop]
  simp [Q.quote, ByteArray.size]
theorem quote_size (c : UInt8) : (ByteArray.mk (Q.quote [c]).toArray).size = (Q.qb c).length + 2 := by
  simp [Q.quote, ByteArray.size]

/-- no byte below c is written there -/
def NoneBelow (rest : List UInt8) (c : Nat) : Prop := ∀ k, k < c → (Q.qb (UInt8.ofNat k)).isPrefixOf rest = false
theorem stepR_none {rest : List UInt8} (h : NoneBelow rest 256) : Q.stepR rest = none := by
  unfold Q.stepR
  rw [List.findSome?_eq_none_iff]
  intro k hk
  rw [h k (List.mem_range.1 hk)]
  rfl
theorem stepR_some {rest : List UInt8} {c : Nat} (hc : c < 256) (h : NoneBelow rest c) (hp : (Q.qb (UInt8.ofNat c)).isPrefixOf rest = true) : Q.stepR rest = some (UInt8.ofNat c, (Q.qb (UInt8.ofNat c)).length) := by
  unfold Q.stepR
  have e : List.range 256 = List.range c ++ c :: List.map (· + (c + 1)) (List.range (256 - (c + 1))) := by
    have h1 : (256 : Nat) = c + (1 + (256 - (c + 1))) := by omega
    conv => lhs; rw [h1, List.range_add]
    rw [Nat.add_comm 1, List.range_succ_eq_map]
    simp [Function.comp_def]
    omega
  rw [e, List.findSome?_append]
  have : (List.range c).findSome? (fun k => if (Q.qb (UInt8.ofNat k)).isPrefixOf rest then some (UInt8.ofNat k, (Q.qb (UInt8.ofNat k)).length) else none) = none := by
    rw [List.findSome?_eq_none_iff]
    intro k hk
    rw [h k (List.mem_range.1 hk)]
    rfl
  rw [this, Option.none_or, List.findSome?_cons]
  simp only [hp, if_true]

set_option maxHeartbeats 2000000 in
set_option maxRecDepth 100000 in
theorem unquoted_any (s : ByteArray) (w : World) (hs : s.size ≤ 1000000000) :
    Calls Tryd.prog 10 #[.string s] w fun e w' => e = .returned (unqR (Q.unq Q.stepR s.data.toList)) ∧ Below w.heap.size w w' := by
  have Hsl : Hid (s.data.toList.length = s.size) := rfl
  by_cases hp : Lib.hasPrefix s.data.toList [34] = true
  · obtain ⟨t, ht⟩ := List.isPrefixOf_iff_prefix.1 hp
    have h0 : 0 < s.size := by rw [← Hsl.out, ← ht]; simp
    have Hq : Hid (s[0].toNat = 34) := by
      show _ = _
      have h := bytes1 s h0
      rw [← ht] at h
      rw [← (List.cons.inj h).1]; rfl
    obtain ⟨R, HR⟩ : ∃ R, Hid (Q.run Q.stepR s.data.toList s.data.toList.length 1 [] = R) := ⟨_, Lib.hid rfl⟩
    have Hv : Hid (Q.unq Q.stepR s.data.toList = R) := by
      show _ = _
      rw [← HR.out]
      unfold Q.unq
      split
      · rename_i he; rw [he] at ht; simp at ht
      · rename_i c r he
        have : c = 34 := by rw [he] at ht; exact (List.cons.inj ht).1.symm
        rw [if_pos (by rw [this]; rfl)]
    rw [Hv.out]
    clear ht
    have Hp : Hid (∀ w', Calls Tryd.prog 19 #[.string s, .string ⟨#[34]⟩] w' fun e w'' => e = .returned (.bool true) ∧ w'' = w') := fun w' =>
      (Tryd.strings_HasPrefix s ⟨#[34]⟩ w').mono fun e w'' ⟨h1, h2⟩ => ⟨by rw [h1, ← hp], h2⟩
    clear hp
    have Hr0 : URel w.heap.size Q.stepR s.data.toList w 1 (.slice none 0 0) w := ⟨[], s.data.toList.length, OwnB.nil _ _, Below.refl _ _, by simp, by omega, rfl⟩
    have hs1 : 1 ≤ s.size := h0
    go_enter Tryd.func10, Tryd.ntmps10
    go_wp2_with fail
    ((with_reducible refine (Hp.out _).mono ?_); rintro e w1 ⟨rfl, rfl⟩)
    go_wp2_with fail
    go_loopw [5, 6] (fun v r wr => ∃ (k : Nat) (rest : ByteArray), 1 ≤ k ∧ k ≤ s.size ∧ r = .string rest ∧ rest.data.toList = s.data.toList.drop k ∧ rest.size = s.size - k ∧ URel w1.heap.size Q.stepR s.data.toList w1 k v wr) (fun _ r _ => match r with | .string t => t.size | _ => 0)
    case atStart => exact ⟨1, s.extract 1 s.size, Nat.le_refl _, h0, rfl, extract_list s 1, by rw [ByteArray.size_extract]; omega, Hr0⟩
    case round =>
      obtain ⟨k, rest, hk1, hk, rfl, hrest, hrz, acc, f, hown, hbl, hacc, hf, hrun⟩ := hrel
      clear Hr0
      have Hrest := Lib.hid hrest
      have Hrz := Lib.hid hrz
      have hsz : w1.heap.size ≤ wr.heap.size := hbl.size
      rw [Hsl.out] at hf
      rw [HR.out] at hrun
      obtain ⟨g, rfl⟩ : ∃ g, f = g + 1 := ⟨f - 1, by omega⟩
      have Hrun := Lib.hid hrun
      have Hown := Lib.hid hown
      clear hrun hown hrest hrz
      by_cases hlt : k < s.size
      · have Hd := Lib.hid (drop_bytes s k hlt)
        have hr0 : 0 < rest.size := by rw [Hrz.out]; omega
        have hr1 : rest.size ≤ s.size := by rw [Hrz.out]; omega
        have n1 := (str_ne hr0).1
        have n2 := (str_ne hr0).2
        have Hc0 : Hid (rest[0] = s[k]) := by
          show _ = _
          have h := bytes1 rest hr0
          rw [Hrest.out, Hd.out] at h
          exact (List.cons.inj h).1.symm
        by_cases hA : s[k].toNat = 34
        · have e2 : ((rest[0].toNat : Int) == 34) = true := by rw [Hc0.out]; simp [hA]
          have HR2 : Hid (R = some (acc, k + 1)) := by
            show _ = _
            rw [← Hrun.out]; unfold Q.run; rw [Hd.out]; simp [hA]
          clear hA
          have hcv := Hown.out.conv
          go_wp2_with fail
          go_ret3
          refine ⟨?_, hbl⟩
          rw [HR2.out]
          have e3 : ((s.size : Int) - rest.size + 1) = ((k + 1 : Nat) : Int) := by rw [Hrz.out]; omega
          simp only [unqR, e3]
          rfl
        have e2 : ((rest[0].toNat : Int) == 34) = false := by rw [Hc0.out]; simp; omega
        have Hstep : Hid (Q.run Q.stepR s.data.toList (g + 1) k acc = match Q.stepR rest.data.toList with | none => none | some (x, n) => Q.run Q.stepR s.data.toList g (k + n) (acc ++ [x])) := by
          show _ = _
          conv => lhs; unfold Q.run
          rw [Hrest.out, Hd.out]
          simp only
          rw [if_neg hA]
          cases Q.stepR (s[k] :: List.drop (k + 1) s.data.toList) <;> rfl
        clear hA
        obtain ⟨wo, hwo⟩ : ∃ wo : World, wo = wr := ⟨_, rfl⟩
        subst hwo
        go_wp2_with fail
        go_loopw [5, 6, 7, 28] (fun v r fd i wi => ∃ c : Nat, c ≤ 256 ∧ i = .int .i64 c ∧ v = u5 ∧ r = .string rest ∧ fd = .bool false ∧ NoneBelow rest.data.toList c ∧ Below wo.heap.size wo wi) (fun _ _ _ i _ => 256 - (intOf i).toNat)
        case atStart => exact ⟨0, by omega, rfl, rfl, rfl, rfl, fun k hk => absurd hk (by omega), Below.refl _ _⟩
        case round =>
          obtain ⟨c, hc, rfl, rfl, rfl, rfl, hnb, hbi⟩ := hrel
          have Hnb := Lib.hid hnb
          clear hnb
          have hzi := hbi.size
          by_cases hc2 : c < 256
          · have Hcv : Hid (∀ wx : World, OwnB wx.heap.size (.slice (some ⟨wx.heap.size, 0, none⟩) 1 1) [UInt8.ofNat c] (wx.alloc (.cells #[.int .u8 c] 5))) := fun wx => OwnB.lit [UInt8.ofNat c] _ (by simp [Lib.byteCells]; omega) (Nat.le_refl _) (by simp)
            have hcv := (Hcv.out wr).conv
            have hL := Q.qb_len (UInt8.ofNat c)
            obtain ⟨q, Hqz, Hqe, Hqc⟩ : ∃ q : ByteArray, Hid (q.size = (Q.qb (UInt8.ofNat c)).length + 2) ∧ Hid (q.extract 1 (q.size - 1) = ⟨(Q.qb (UInt8.ofNat c)).toArray⟩) ∧ Hid (∀ w', Calls Tryd.prog 6 #[.string ⟨#[UInt8.ofNat c]⟩] w' fun e w'' => e = .returned (.string q) ∧ Below w'.heap.size w' w'') :=
              ⟨_, Lib.hid (quote_size _), Lib.hid (quote_one _), fun w' => quoted_any _ w' (by simp [ByteArray.size])⟩
            have hq2 : 2 < q.size := by rw [Hqz.out]; omega
            have hq3 : q.size ≤ 6 := by rw [Hqz.out]; omega
            clear hL
            go_wp2_with fail
            ((with_reducible refine (Hqc.out _).mono ?_); rintro e w2 ⟨rfl, hl2⟩)
            have hz2 := hl2.size
            simp only [World.size_alloc] at hz2
            have Hb2 : Hid (Below wo.heap.size wo w2) := (hbi.alloc hzi _).trans (hl2.mono (by simp; omega))
            have hsl : ∀ wx : World, (Instr.slice 9 (.string q) (some (.int .i64 1)) (some (.int .i64 ((q.size : Int) - 1))) none).run Tryd.prog wx = .ok (.string ⟨(Q.qb (UInt8.ofNat c)).toArray⟩) wx := fun wx => by
              rw [run_slice_string wx 9 q .i64 .i64 1 ((q.size : Int) - 1) Tryd.underlying9 (by omega) (by omega) (by omega)]
              rw [show ((q.size : Int) - 1).toNat = q.size - 1 from by omega]
              rw [← Hqe.out]; rfl
            clear hcv Hqc
            go_wp2_with fail
            clear hsl
            by_cases hp : (Q.qb (UInt8.ofNat c)).isPrefixOf rest.data.toList = true
            · have Hst := Lib.hid (stepR_some hc2 Hnb.out hp)
              have HR2 : Hid (Q.run Q.stepR s.data.toList g (k + (Q.qb (UInt8.ofNat c)).length) (acc ++ [UInt8.ofNat c]) = R) := by
                show _ = _
                rw [← Hrun.out, Hstep.out, Hst.out]
              have Hp : Hid (∀ w', Calls Tryd.prog 19 #[.string rest, .string ⟨(Q.qb (UInt8.ofNat c)).toArray⟩] w' fun e w'' => e = .returned (.bool true) ∧ w' = w'') := fun w' =>
                (Tryd.strings_HasPrefix rest _ w').mono fun e w'' ⟨h1, h2⟩ => ⟨by rw [h1, ← hp]; rfl, h2.symm⟩
              have hle : (Q.qb (UInt8.ofNat c)).length ≤ rest.size := by
                obtain ⟨t, ht⟩ := List.isPrefixOf_iff_prefix.1 hp
                have : rest.data.toList.length = rest.size := rfl
                rw [← this, ← ht]; simp
              have hL := Q.qb_len (UInt8.ofNat c)
              clear hp Hst Hstep Hrun
              obtain ⟨p, Hpp⟩ : ∃ p : ByteArray, Hid (ByteArray.mk (Q.qb (UInt8.ofNat c)).toArray = p) := ⟨_, Lib.hid rfl⟩
              rw [Hpp.out] at Hp ⊢
              have Hpz : Hid (p.size = (Q.qb (UInt8.ofNat c)).length) := by show _ = _; rw [← Hpp.out]; simp [ByteArray.size]
              rw [← Hpz.out] at hle hL HR2
              ((with_reducible refine (Hp.out _).mono ?_); rintro e w3 ⟨rfl, rfl⟩)
              clear Hp
              go_wp2_with fail
              refine wp_region_mix (fun _ => True) [(true, 0), (true, 1), (true, 2), (true, 5), (true, 6), (true, 7), (true, 8), (false, 3), (false, 4), (true, 9), (true, 10), (true, 11)] (by kernel_rfl) (by kernel_rfl) (fun _ _ => trivial) (fun KK hKK wd hd_wd => ?_)
              have hbd := Hb2.out.trans (hd_wd.below _)
              have hzd := hbd.size
              repeat (refine mix_p rfl (fun K hK => ?_); go_simp; (try go_bits); (try simp (disch := omega) only [if_pos, if_neg, dif_pos, dif_neg]); (try go_simp); (refine hK _ ?_; clear hK K))
              refine mix_l rfl (fun K hK => ?_) trivial
              go_wp2_with fail
              refine ⟨trivial, ?_⟩
              refine mix_l rfl (fun K hK => ?_) trivial
              refine app_bytes (w0 := wd) rfl _ _ rfl w1.heap.size _ _ [UInt8.ofNat c] _ _ rfl (Hown.out.kept hbd) rfl rfl (by simp [Lib.byteCells]; omega) (by omega) (by simp only [List.length_cons, List.length_nil]; omega) ?_
              intro v' w5 hb5 hg5 hl5
              clear hg5
              go_wp2_with fail
              refine ⟨trivial, ?_⟩
              repeat (refine mix_p rfl (fun K hK => ?_); go_simp; (try go_bits); (try simp (disch := omega) only [if_pos, if_neg, dif_pos, dif_neg]); (try go_simp); (refine hK _ ?_; clear hK K))
              refine mix_nil ?_
              simp only [Exit.then]
              refine hKK _ _ ?_
              go_wp2_with fail
              go_roundw
              case rel => exact ⟨k + p.size, rest.extract p.size rest.size, by omega, by have := Hrz.out; omega, rfl, by rw [extract_list, Hrest.out, List.drop_drop], by rw [ByteArray.size_extract]; have := Hrz.out; omega, acc ++ [UInt8.ofNat c], g, hb5, (hbl.trans (hbd.mono hsz)).trans hl5, by simp; omega, by rw [Hsl.out]; omega, by rw [HR2.out, HR.out]⟩
              case measure => simp [ByteArray.size_extract]; omega
            · have hp' : (Q.qb (UInt8.ofNat c)).isPrefixOf rest.data.toList = false := (Bool.not_eq_true _).mp hp
              have Hp : Hid (∀ w', Calls Tryd.prog 19 #[.string rest, .string ⟨(Q.qb (UInt8.ofNat c)).toArray⟩] w' fun e w'' => e = .returned (.bool false) ∧ w' = w'') := fun w' =>
                (Tryd.strings_HasPrefix rest _ w').mono fun e w'' ⟨h1, h2⟩ => ⟨by rw [h1, ← hp']; rfl, h2.symm⟩
              have Hnb2 : Hid (NoneBelow rest.data.toList (c + 1)) := fun j hj => by
                by_cases hjc : j = c
                · subst hjc; exact hp'
                · exact Hnb.out j (by omega)
              clear hp hp'
              ((with_reducible refine (Hp.out _).mono ?_); rintro e w3 ⟨rfl, rfl⟩)
              go_wp2_with fail
              go_roundw
              case rel => exact ⟨c + 1, by omega, by go_num, rfl, rfl, rfl, Hnb2.out, Hb2.out⟩
              case measure => simp [intOf]; omega
          · obtain rfl : c = 256 := by omega
            have HR2 : Hid (R = none) := by
              show _ = _
              rw [← Hrun.out, Hstep.out, stepR_none Hnb.out]
            go_wp2_with fail
            go_ret3
            exact ⟨by rw [HR2.out]; rfl, hbl.trans (hbi.mono hsz)⟩
      · have hz : rest.size = 0 := by rw [Hrz.out]; omega
        have n1 := (str_nil hz).1
        have n2 := (str_nil hz).2
        clear hz
        have HR2 : Hid (R = none) := by
          show _ = _
          rw [← Hrun.out]; unfold Q.run; rw [drop_none s k (by omega)]
        go_wp2_with fail
        go_ret3
        exact ⟨by rw [HR2.out]; rfl, hbl⟩
  · have hp' : Lib.hasPrefix s.data.toList [34] = false := (Bool.not_eq_true _).mp hp
    have Hv : Hid (unqR (Q.unq Q.stepR s.data.toList) = .tuple #[.string ⟨#[]⟩, .int .i64 0, .bool false]) := by
      show _ = _
      unfold Q.unq
      split
      · rfl
      · rename_i c r he
        rw [if_neg]
        · rfl
        · intro h34
          apply hp
          rw [he]
          have : c = 34 := UInt8.toNat_inj.1 h34
          subst this
          simp [Lib.hasPrefix, List.isPrefixOf]
    have Hp : Hid (∀ w', Calls Tryd.prog 19 #[.string s, .string ⟨#[34]⟩] w' fun e w'' => e = .returned (.bool false) ∧ w'' = w') := fun w' =>
      (Tryd.strings_HasPrefix s ⟨#[34]⟩ w').mono fun e w'' ⟨h1, h2⟩ => ⟨by rw [h1, ← hp'], h2⟩
    clear hp hp'
    go_enter Tryd.func10, Tryd.ntmps10
    go_wp2_with fail
    ((with_reducible refine (Hp.out _).mono ?_); rintro e w1 ⟨rfl, rfl⟩)
    go_wp2_with fail
    go_ret3
    exact ⟨by rw [Hv.out]; rfl, Below.refl _ _⟩
end Go.Proofs.YtmpndobeildbhaaDoor
