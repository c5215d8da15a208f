/- Several texts in one: Text, IdFault. -/
import Derived.Test.YtmlpkejeglpciaaGreatDoorPkAC
import Derived.Test.YtmlpkejeglpciaaGreatDoorPkAQ
import Derived.Lib.ValidAsc
import Derived.Test.YtmlpkejeglpciaaGreatDoorPkAJ
import Derived.Test.YtmlpkejeglpciaaGreatDoorPkAB
import Derived.Deep.DeepCutAuto
import Derived.IntWalk
/- What handref2.ValueFault and FieldsFault return. The plain law: a text is right if its code points are. -/
namespace Go.Proofs.YtmlpkejeglpciaaGreatDoor
open Go.RowKit
def ptOk (p : Int) : Bool := !(decide (p < 32) || p == 127)
theorem all_take {α : Type} (p : α → Bool) (l : List α) (k : Nat) : l.all p = ((l.take k).all p && (l.drop k).all p) := by
  rw [← List.all_append, List.take_append_drop]
theorem take_byte (s : ByteArray) (k : Nat) (hk : k ≤ s.size) (p : UInt8 → Bool) (h : ∀ i, i < k → p (s.get! i) = true) : (s.data.toList.take k).all p = true := by
  rw [List.all_eq_true]
  intro x hx
  obtain ⟨i, hi, e⟩ := List.getElem_of_mem hx
  rw [List.length_take] at hi
  rw [List.getElem_take] at e
  have h1 := h i (by omega)
  have : s.get! i = x := by
    rw [← e]
    have hs : i < s.size := by omega
    simp [ByteArray.get!, getElem!_pos s.data i (show i < s.data.size from hs)]
  rwa [this] at h1
theorem text_law : ∀ (f : Nat) (s : ByteArray), s.size ≤ f → (pts f s).all ptOk = textOk s
  | 0, s, h => by
    have h0 : s.size = 0 := by omega
    have : s = ⟨#[]⟩ := ByteArray.size_eq_zero_iff.1 h0
    subst this
    rfl
  | f + 1, s, h => by
    by_cases h0 : s.size = 0
    · have : s = ⟨#[]⟩ := ByteArray.size_eq_zero_iff.1 h0
      subst this
      rfl
    · have hpos : 0 < s.size := by omega
      have hne : s.data.toList ≠ [] := by
        intro e
        have : s.data.toList.length = 0 := by rw [e]; rfl
        exact h0 this
      have hdl : Lib.decodeL s.data.toList = Lib.decodeGo s := by unfold Lib.decodeL Lib.decodeGo; rw [if_neg h0]
      have hdn : Lib.decodeGo s = Lib.decodeN s.size (s.get! 0).toNat (s.get! 1).toNat (s.get! 2).toNat (s.get! 3).toNat := by
        unfold Lib.decodeGo; rw [if_neg h0, Lib.decode_at]; rfl
      have hr := dec_rng s hpos
      have ih := text_law f (s.extract (Lib.decodeGo s).2 s.size) (by rw [Lib.ext_size]; omega)
      have hg0 : s.get! 0 = s[0] := by
        simp [ByteArray.get!, getElem!_pos s.data 0 (show 0 < s.data.size from hpos)]; rfl
      rw [pts_cons f s hpos, List.all_cons, ih]
      unfold textOk
      rw [Lib.validD_step _ hne, hdl, Lib.ext_list, all_take L.textByte s.data.toList (Lib.decodeGo s).2]
      rcases L.decodeN_parts s.size (s.get! 0).toNat (s.get! 1).toNat (s.get! 2).toNat (s.get! 3).toNat (by omega) with ⟨e, hb⟩ | ⟨e, hb⟩ | ⟨h1, h2, h3, h4, h5, h6, h7, h8⟩
      · rw [← hdn] at e
        have hx : (s.data.toList.take 1).all L.textByte = L.textByte (s.get! 0) := by
          obtain ⟨⟨l⟩⟩ := s
          cases l with
          | nil => exact absurd rfl h0
          | cons a t => simp [ByteArray.get!]
        rw [e]
        dsimp only
        rw [if_neg (by omega), if_neg (by omega), hx]
        have : ptOk ((s.get! 0).toNat : Int) = L.textByte (s.get! 0) := by
          unfold ptOk L.textByte
          rw [Bool.eq_iff_iff]; simp; omega
        rw [this]
        cases L.textByte (s.get! 0) <;> simp
      · rw [← hdn] at e
        rw [e]
        dsimp only
        rw [if_pos ⟨rfl, rfl⟩, if_pos ⟨rfl, rfl⟩]
        have : ptOk (-1 - (s[0].toNat : Int)) = false := by unfold ptOk; simp; omega
        rw [this]; simp
      · rw [← hdn] at h1 h2 h3 h4 h7 h8
        rw [if_neg (by omega), if_neg (by omega)]
        have h9 : ptOk ((Lib.decodeGo s).1 : Int) = true := by unfold ptOk; simp; omega
        have h10 : (s.data.toList.take (Lib.decodeGo s).2).all L.textByte = true := by
          refine take_byte s _ h4 _ (fun i hi => ?_)
          have : i = 0 ∨ i = 1 ∨ i = 2 ∨ i = 3 := by omega
          have hb : 128 ≤ (s.get! i).toNat := by
            rcases this with rfl | rfl | rfl | rfl
            · exact h5
            · exact h6
            · exact h7 (by omega)
            · exact h8 (by omega)
          unfold L.textByte; simp; omega
        rw [h9, h10]; simp
theorem textFault_pts (s : ByteArray) (h : s.size ≤ 200) : textFault s = if (pts s.size s).all ptOk then 0 else 3 := by
  rw [text_law s.size s (Nat.le_refl _), textFault, if_neg (by omega)]
theorem ixa2 (w : World) : (Instr.index 281 (.agg #[.int .i64 0, .int .i64 0, .int .i64 (-1000000000000), .int .i64 0, .int .i64 0]) (.int .i64 2)).run Tryz.prog w = .ok (.int .i64 (-1000000000000)) w := by kernel_rfl
theorem ixa3 (w : World) : (Instr.index 281 (.agg #[.int .i64 0, .int .i64 0, .int .i64 (-1000000000000), .int .i64 0, .int .i64 0]) (.int .i64 3)).run Tryz.prog w = .ok (.int .i64 0) w := by kernel_rfl
theorem ixa4 (w : World) : (Instr.index 281 (.agg #[.int .i64 0, .int .i64 0, .int .i64 (-1000000000000), .int .i64 0, .int .i64 0]) (.int .i64 4)).run Tryz.prog w = .ok (.int .i64 0) w := by kernel_rfl
theorem ixb2 (w : World) : (Instr.index 281 (.agg #[.int .i64 0, .int .i64 0, .int .i64 1000000000000, .int .i64 1, .int .i64 4321439]) (.int .i64 2)).run Tryz.prog w = .ok (.int .i64 1000000000000) w := by kernel_rfl
theorem ixb3 (w : World) : (Instr.index 281 (.agg #[.int .i64 0, .int .i64 0, .int .i64 1000000000000, .int .i64 1, .int .i64 4321439]) (.int .i64 3)).run Tryz.prog w = .ok (.int .i64 1) w := by kernel_rfl
theorem ixb4 (w : World) : (Instr.index 281 (.agg #[.int .i64 0, .int .i64 0, .int .i64 1000000000000, .int .i64 1, .int .i64 4321439]) (.int .i64 4)).run Tryz.prog w = .ok (.int .i64 4321439) w := by kernel_rfl
set_option maxHeartbeats 1000000 in
set_option maxRecDepth 100000 in
theorem valueFault_num (k n : Int) (t : ByteArray) (w : World) (hk : k ≠ 1) :
    Calls Tryz.prog 244 #[.agg #[.int .i64 k, .string t, .int .i64 n]] w fun e w' => e = .returned (.int .i64 (valueFault k t n)) ∧ Below w.heap.size w w' := by
  obtain ⟨R, HR⟩ : ∃ R, Hid (valueFault k t n = R) := ⟨_, Lib.hid rfl⟩
  rw [HR.out]
  have Hb : Hid (Below w.heap.size w (w.alloc (.cells #[.int .i64 k, .string t, .int .i64 n] 121))) := (Below.refl _ _).alloc (Nat.le_refl _) _
  have hk' : (k == 1) = false := by simpa using hk
  by_cases h4 : 1 ≤ k ∧ k ≤ 4
  · have e4 : decide ((1 : Int) ≤ k ∧ k ≤ 4) = true := by simp; omega
    by_cases ht : t.toList = []
    · have ht' : t.toList.isEmpty = true := by simpa using ht
      obtain rfl | rfl | rfl : k = 2 ∨ k = 3 ∨ k = 4 := by omega
      all_goals
        clear h4 e4 hk
        have i1 := @ixa2
        have i2 := @ixa3
        have i3 := @ixa4
        have i4 := @ixb2
        have i5 := @ixb3
        have i6 := @ixb4
        go_enter Tryz.func244, Tryz.ntmps244
        go_wp2_with (first | (go_at_call 43; refine (in_any _ _ _ _).mono ?_; rintro e _ ⟨rfl, rfl⟩))
        go_quiet (fail)
        go_wp2_with (first | (go_at_call 43; refine (in_any _ _ _ _).mono ?_; rintro e _ ⟨rfl, rfl⟩))
        all_goals
          go_ret
          refine ⟨ret_i ?_, Hb.out.trans (below_drewN _ _ _)⟩
          rw [← HR.out]
          unfold valueFault
          clear HR Hb i1 i2 i3 i4 i5 i6
          simp_all
          try omega
    · have ht' : t.toList.isEmpty = false := by simpa using ht
      go_enter Tryz.func244, Tryz.ntmps244
      go_wp2_with (first | (go_at_call 43; refine (in_any _ _ _ _).mono ?_; rintro e _ ⟨rfl, rfl⟩; rw [e4]))
      go_ret
      refine ⟨ret_i ?_, Hb.out⟩
      rw [← HR.out]
      unfold valueFault
      obtain h | h | h : k = 2 ∨ k = 3 ∨ k = 4 := by omega
      all_goals simp [h, ht]
  · have e4 : decide ((1 : Int) ≤ k ∧ k ≤ 4) = false := by simp; omega
    go_enter Tryz.func244, Tryz.ntmps244
    go_wp2_with (first | (go_at_call 43; refine (in_any _ _ _ _).mono ?_; rintro e _ ⟨rfl, rfl⟩; rw [e4]))
    go_ret
    refine ⟨ret_i ?_, Hb.out⟩
    rw [← HR.out]
    unfold valueFault
    rw [if_neg (by omega), if_neg (by omega), if_neg (by omega), if_neg (by omega)]
set_option maxHeartbeats 1000000 in
set_option maxRecDepth 100000 in
theorem valueFault_text (n : Int) (t : ByteArray) (w : World) (hT : Tabs w) :
    Calls Tryz.prog 244 #[.agg #[.int .i64 1, .string t, .int .i64 n]] w fun e w' => e = .returned (.int .i64 (valueFault 1 t n)) ∧ Below w.heap.size w w' := by
  have HT := Lib.hid hT
  clear hT
  obtain ⟨R, HR⟩ : ∃ R, Hid (valueFault 1 t n = R) := ⟨_, Lib.hid rfl⟩
  rw [HR.out]
  have Hb : Hid (Below w.heap.size w (w.alloc (.cells #[.int .i64 1, .string t, .int .i64 n] 121))) := (Below.refl _ _).alloc (Nat.le_refl _) _
  by_cases hn : n = 0
  · subst hn
    by_cases h200 : 200 < t.size
    · go_enter Tryz.func244, Tryz.ntmps244
      go_wp2_with (first | (go_at_call 43; refine (in_any _ _ _ _).mono ?_; rintro e _ ⟨rfl, rfl⟩))
      go_ret
      refine ⟨ret_i ?_, Hb.out⟩
      rw [← HR.out, valueFault, if_pos rfl, if_neg (show ¬ (0 : Int) ≠ 0 by simp), textFault, if_pos h200]
    · have HR2 : Hid ((if (pts t.size t).all ptOk then (0 : Int) else 3) = R) := by
        show _ = _
        rw [← HR.out, valueFault, if_pos rfl, if_neg (show ¬ (0 : Int) ≠ 0 by simp), textFault_pts t (by omega)]
      clear HR
      have Hp : Hid (∀ w', Tabs w' → Calls Tryz.prog 285 #[.string t] w' (GivesI64 (pts t.size t) w')) := fun w' h => refpoints_any t w' (by omega) h
      have hpl := pts_len t.size t (Nat.le_refl _)
      generalize pts t.size t = ps at *
      go_enter Tryz.func244, Tryz.ntmps244
      go_wp2_with (first | (go_at_call 43; refine (in_any _ _ _ _).mono ?_; rintro e _ ⟨rfl, rfl⟩))
      refine (Hp.out _ (Utf8Tabs_below HT.out Hb.out)).mono ?_
      rintro e w1 ⟨v, rfl, hov, hl1⟩
      have Hb1 : Hid (Below w.heap.size w w1) := Hb.out.trans (hl1.mono (by simp))
      have Hrd := Lib.hid (Rd.ofOwn hov)
      clear hov hl1 Hb Hp HT
      obtain ⟨A, c, rfl⟩ : ∃ A c, v = .slice A ps.length c := by
        rcases Hrd.out.2 with ⟨x, c, rfl, h0⟩ | ⟨blk, off, cap, rfl, _⟩
        · exact ⟨x, c, by rw [h0]⟩
        · exact ⟨_, cap, rfl⟩
      have Ha : Hid (∀ i, i < ps.length → ∃ blk off x, A = some ⟨blk, off, none⟩ ∧ ps[i]? = some x ∧ w1.cell? ⟨blk, off + i, none⟩ = some (.int .i64 x)) := by
        intro i hi
        rcases Hrd.out.2 with ⟨x, c, he, h0⟩ | ⟨blk, off, cap, he, hk, hc⟩
        · omega
        · cases he
          exact ⟨blk, off, _, rfl, List.getElem?_eq_getElem hi, hc i _ (by simp [hi])⟩
      clear Hrd
      go_wp2_with fail
      go_loopw [27] (fun i wr => ∃ k : Nat, k ≤ ps.length ∧ i = .int .i64 k ∧ wr = w1 ∧ (if (ps.drop k).all ptOk then (0 : Int) else 3) = R) (fun i _ => ps.length - (intOf i).toNat)
      case atStart => exact ⟨0, Nat.zero_le _, rfl, rfl, HR2.out⟩
      case round =>
        obtain ⟨k, hk, rfl, rfl, hr⟩ := hrel
        have Hr := Lib.hid hr
        clear hr HR2
        by_cases hlt : k < ps.length
        · obtain ⟨blk, off, x, rfl, hx, hc⟩ := Ha.out k hlt
          have Hs : Hid ((if (ptOk x && (ps.drop (k + 1)).all ptOk) then (0 : Int) else 3) = R) := by
            show _ = _
            rw [← Hr.out, List.drop_eq_getElem_cons hlt, List.all_cons]
            have : ps[k] = x := by simpa [List.getElem?_eq_getElem hlt] using hx
            rw [this]
          clear hx Hr
          by_cases hp : ptOk x = true
          · have h1 : decide (x < 32) = false ∧ (x == 127) = false := by simpa [ptOk] using hp
            have h2 := h1.1
            have h3 := h1.2
            rw [hp] at Hs
            clear h1 hp
            go_wp2_with fail
            go_roundw
            case rel => exact ⟨k + 1, by omega, by go_num, trivial, by rw [← Hs.out]; simp⟩
            case measure => simp [intOf]; omega
          · have hp' : ptOk x = false := by simpa using hp
            rw [hp'] at Hs
            have h1 : x < 32 ∨ x = 127 := by
              have : 32 ≤ x → x = 127 := by simpa [ptOk] using hp'
              omega
            clear hp hp'
            by_cases h2 : x < 32
            · clear h1
              go_wp2_with fail
              go_ret
              exact ⟨ret_i (by rw [← Hs.out]; simp), Hb1.out⟩
            · have h3 : (x == 127) = true := by simp; omega
              clear h1
              go_wp2_with fail
              go_ret
              exact ⟨ret_i (by rw [← Hs.out]; simp), Hb1.out⟩
        · go_wp2_with fail
          go_ret
          exact ⟨ret_i (by rw [← Hr.out, List.drop_eq_nil_of_le (by omega)]; simp), Hb1.out⟩
  · have hn' : (n != 0) = true := by simpa using hn
    go_enter Tryz.func244, Tryz.ntmps244
    go_wp2_with (first | (go_at_call 43; refine (in_any _ _ _ _).mono ?_; rintro e _ ⟨rfl, rfl⟩))
    go_ret
    refine ⟨ret_i ?_, Hb.out⟩
    rw [← HR.out, valueFault, if_pos rfl, if_pos hn]
theorem refValue_any (k n : Int) (t : ByteArray) (w : World) (hT : Tabs w) :
    Calls Tryz.prog 244 #[.agg #[.int .i64 k, .string t, .int .i64 n]] w fun e w' => e = .returned (.int .i64 (valueFault k t n)) ∧ Below w.heap.size w w' := by
  by_cases hk : k = 1
  · subst hk; exact valueFault_text n t w hT
  · exact valueFault_num k n t w hk
theorem leS_nil (a : ByteArray) (h : L.isKey a = true) : leS a ⟨#[]⟩ = false := by
  have hz : 1 ≤ a.size := by
    unfold L.isKey at h
    simp only [Bool.and_eq_true, decide_eq_true_eq] at h
    exact h.1.1.1
  have h1 := (str_ne hz).1
  have h2 := (str_nil (t := ⟨#[]⟩) rfl).1
  unfold leS
  rw [h2]
  generalize a.toList = l at h1
  cases l with
  | nil => exact absurd rfl h1
  | cons x t => rfl
def lastNm (xs : List Fld) (k : Nat) : ByteArray := if k = 0 then ⟨#[]⟩ else ((xs[k - 1]?).map Fld.name).getD ⟨#[]⟩
theorem last_le (xs : List Fld) (k : Nat) (f : Fld) (hk : k < xs.length) (h : L.isKey f.name = true) : (prevAt xs k).any (fun p => leS f.name p) = leS f.name (lastNm xs k) := by
  unfold prevAt lastNm
  by_cases h0 : k = 0
  · rw [if_pos h0, if_pos h0, leS_nil _ h]; rfl
  · rw [if_neg h0, if_neg h0, List.getElem?_eq_getElem (by omega)]; rfl
theorem lastNm_succ (xs : List Fld) (k : Nat) (f : Fld) (h : xs[k]? = some f) : lastNm xs (k + 1) = f.name := by
  unfold lastNm; rw [if_neg (by omega), Nat.add_sub_cancel, h]; rfl
theorem prevAt_succ (xs : List Fld) (k : Nat) (f : Fld) (h : xs[k]? = some f) : prevAt xs (k + 1) = some f.name := by
  unfold prevAt; rw [if_neg (by omega), Nat.add_sub_cancel, h]; rfl
set_option maxHeartbeats 4000000 in
set_option maxRecDepth 100000 in
theorem refFields_any (N : Nat → Prop) (A : Option Addr) (xs : List Fld) (c : Nat) (w : World) (hS : Sl rFld N w A xs) (hsm : ∀ f ∈ xs, f.small) (hn : xs.length ≤ 1000000000) (hT : Tabs w) :
    Calls Tryz.prog 182 #[.slice A xs.length c] w fun e w' => e = .returned (.int .i64 (fldsFault xs)) ∧ Below w.heap.size w w' := by
  have HT := Lib.hid hT
  have HS := Lib.hid hS
  have Hsm := Lib.hid hsm
  clear hT hS hsm
  obtain ⟨R, HR⟩ : ∃ R, Hid (fldsFault xs = R) := ⟨_, Lib.hid rfl⟩
  rw [HR.out]
  by_cases h30 : 30 < xs.length
  · go_enter Tryz.func182, Tryz.ntmps182
    go_wp2_with fail
    go_ret
    exact ⟨ret_i (by rw [← HR.out]; simp [fldsFault, h30]), Below.refl _ _⟩
  · have HR2 : Hid (fldsGo none xs = R) := by show _ = _; rw [← HR.out, fldsFault, if_neg h30]
    clear HR
    go_enter Tryz.func182, Tryz.ntmps182
    go_wp2_with fail
    go_loopw [3, 12] (fun v i wr => ∃ k : Nat, k ≤ xs.length ∧ i = .int .i64 k ∧ v = .string (lastNm xs k) ∧ fldsGo (prevAt xs k) (xs.drop k) = R ∧ Below w.heap.size w wr) (fun _ i _ => xs.length - (intOf i).toNat)
    case atStart => exact ⟨0, Nat.zero_le _, rfl, rfl, HR2.out, Below.refl _ _⟩
    case round =>
      clear HR2
      obtain ⟨k, hk, rfl, rfl, hr, hbl⟩ := hrel
      have Hr := Lib.hid hr
      clear hr
      by_cases hlt : k < xs.length
      · obtain ⟨f, hf⟩ : ∃ f, xs[k]? = some f := ⟨_, List.getElem?_eq_getElem hlt⟩
        obtain ⟨blk, off, rfl, hblk, c0, c1, c2, c3⟩ := HS.out.fld k f hf
        have d0 := (hbl.cell (p := ⟨blk, off + k * 4, none⟩) hblk).trans c0
        have d1 := (hbl.cell (p := ⟨blk, off + k * 4 + 1, none⟩) hblk).trans c1
        have d2 := (hbl.cell (p := ⟨blk, off + k * 4 + 2, none⟩) hblk).trans c2
        have d3 := (hbl.cell (p := ⟨blk, off + k * 4 + 3, none⟩) hblk).trans c3
        have hfs1 : f.name.size ≤ 1000000000 := And.left (Hsm.out f (List.mem_of_getElem? hf))
        have Hf := Lib.hid hf
        clear c0 c1 c2 c3 hf
        have Hstep : Hid (fldsGo (prevAt xs k) (f :: xs.drop (k + 1)) = R) := by
          show _ = _
          rw [← Hr.out, List.drop_eq_getElem_cons hlt]
          have : xs[k] = f := by simpa [List.getElem?_eq_getElem hlt] using Hf.out
          rw [this]
        clear Hr
        have Hcv : Hid (∀ w', Below w.heap.size w w' → Calls Tryz.prog 244 #[.agg #[.int .i64 f.kind, .string f.text, .int .i64 f.num]] w' fun e w'' => e = .returned (.int .i64 (valueFault f.kind f.text f.num)) ∧ Below w'.heap.size w' w'') := fun w' h => refValue_any _ _ _ w' (Utf8Tabs_below HT.out h)
        have Hb1 : Hid (Below w.heap.size w (wr.alloc (.cells #[.string f.name, .int .i64 f.kind, .string f.text, .int .i64 f.num] 123))) := hbl.alloc hbl.size _
        have hsz := hbl.size
        by_cases h1 : L.isKey f.name = true
        · have HL := Lib.hid (last_le xs k f hlt h1)
          generalize lastNm xs k = last at *
          go_wp2_with fail
          refine (Key_any f.name _ hfs1).mono ?_
          rintro e w0 ⟨rfl, hl_w0⟩
          have hz_w0 := hl_w0.size
          rw [h1]
          have Hb2 : Hid (Below w.heap.size w w0) := Hb1.out.trans (hl_w0.mono (by simp; omega))
          have q1 : ∀ j : Nat, w0.cell? ⟨wr.heap.size, j, none⟩ = (wr.alloc (.cells #[.string f.name, .int .i64 f.kind, .string f.text, .int .i64 f.num] 123)).cell? ⟨wr.heap.size, j, none⟩ := fun j => hl_w0.cell (p := ⟨wr.heap.size, j, none⟩) (by simp)
          have q2 : w0.cell? ⟨wr.heap.size, 0, none⟩ = some (.string f.name) := by rw [q1, World.cell?_alloc_at _ _ _ _ rfl]; rfl
          have q3 : w0.cell? ⟨wr.heap.size, 1, none⟩ = some (.int .i64 f.kind) := by rw [q1, World.cell?_alloc_at _ _ _ _ rfl]; rfl
          have q4 : w0.cell? ⟨wr.heap.size, 2, none⟩ = some (.string f.text) := by rw [q1, World.cell?_alloc_at _ _ _ _ rfl]; rfl
          have q5 : w0.cell? ⟨wr.heap.size, 3, none⟩ = some (.int .i64 f.num) := by rw [q1, World.cell?_alloc_at _ _ _ _ rfl]; rfl
          have hz0 : wr.heap.size < w0.heap.size := by simp at hz_w0; omega
          clear q1 d0 d1 d2 d3 hl_w0 hz_w0
          by_cases h2 : valueFault f.kind f.text f.num = 0
          · rw [h2] at Hcv
            go_wp2_with fail
            refine (Hcv.out _ Hb2.out).mono ?_
            rintro e w1 ⟨rfl, hl_w1⟩
            have hz_w1 := hl_w1.size
            have r2 : w1.cell? ⟨wr.heap.size, 0, none⟩ = some (.string f.name) := (hl_w1.cell (p := ⟨wr.heap.size, 0, none⟩) hz0).trans q2
            clear q2 q3 q4 q5 Hcv
            have Hb3 : Hid (Below w.heap.size w w1) := Hb2.out.trans (hl_w1.mono (by omega))
            go_wp2_with fail
            · have hle : leS f.name last = true := by
                have h : Op.bytesLess f.name.toList last.toList = true ∨ (f.name.toList == last.toList) = true := by assumption
                unfold leS; rw [Bool.or_eq_true]; exact h
              go_ret
              exact ⟨ret_i (by rw [← Hstep.out, fldsGo, h1, h2, HL.out, hle]; simp), Hb3.out⟩
            · have hle : Hid (leS f.name last = false) := by
                have h : Op.bytesLess f.name.toList last.toList = false ∧ (f.name.toList == last.toList) = false := by assumption
                show leS _ _ = _; unfold leS; rw [h.1, h.2]; rfl
              go_roundw
              case rel => exact ⟨k + 1, by omega, by go_num, by rw [lastNm_succ xs k f Hf.out], by rw [← Hstep.out, fldsGo, h1, h2, HL.out, hle.out, prevAt_succ xs k f Hf.out]; simp, Hb3.out⟩
              case measure => simp [intOf]; omega
          · go_wp2_with fail
            refine (Hcv.out _ Hb2.out).mono ?_
            rintro e w1 ⟨rfl, hl_w1⟩
            have hz_w1 := hl_w1.size
            go_wp2_with fail
            go_ret
            exact ⟨ret_i (by rw [← Hstep.out, fldsGo, h1]; simp [h2]), Hb2.out.trans (hl_w1.mono (by omega))⟩
        · have h1 : L.isKey f.name = false := by simpa using h1
          go_wp2_with fail
          refine (Key_any f.name _ hfs1).mono ?_
          rintro e w0 ⟨rfl, hl_w0⟩
          have hz_w0 := hl_w0.size
          rw [h1]
          go_wp2_with fail
          go_ret
          exact ⟨ret_i (by rw [← Hstep.out, fldsGo, h1]; simp), Hb1.out.trans (hl_w0.mono (by simp; omega))⟩
      · go_wp2_with fail
        go_ret
        exact ⟨ret_i (by rw [← Hr.out, List.drop_eq_nil_of_le (by omega)]; rfl), hbl⟩
end Go.Proofs.YtmlpkejeglpciaaGreatDoor

/- What handref2.checkSign and IdFault return. -/
namespace Go.Proofs.YtmlpkejeglpciaaGreatDoor
open Go.RowKit
set_option maxHeartbeats 1000000 in
set_option maxRecDepth 100000 in
theorem refSign_any (s : ByteArray) (w : World) (hs : s.size ≤ 1000) (hmb : s.data.toList.all L.memberByte = true) :
    Calls Tryz.prog 243 #[.string s] w fun e w' => e = .returned (.int .i64 (L.checkNo s.data.toList : Int)) ∧ w' = w := by
  have Hmb := Lib.hid hmb
  have hsum := L.sgnSum_le s.data.toList hmb
  rw [show s.data.toList.length = s.size from rfl] at hsum
  clear hmb
  obtain ⟨R, HR⟩ : ∃ R, Hid (L.checkNo s.data.toList = R) := ⟨_, Lib.hid rfl⟩
  rw [HR.out]
  obtain ⟨T, HT⟩ : ∃ T, Hid (L.sgnSum s.data.toList = T) := ⟨_, Lib.hid rfl⟩
  rw [HT.out] at hsum
  have HR2 : Hid (R = (36 - T % 36) % 36) := by show _ = _; rw [← HR.out, L.checkNo, HT.out]
  clear HR
  go_enter Tryz.func243, Tryz.ntmps243
  go_wp2_with fail
  go_loopw [3, 9] (fun a i wr => ∃ (k u : Nat), k ≤ s.size ∧ i = .int .i64 k ∧ a = .int .i64 u ∧ u + L.sgnSum (s.data.toList.drop k) = T ∧ wr = w) (fun _ i _ => s.size - (intOf i).toNat)
  case atStart => exact ⟨0, 0, Nat.zero_le _, rfl, rfl, by rw [List.drop_zero, HT.out, Nat.zero_add], rfl⟩
  case round =>
    obtain ⟨k, u, hk, rfl, rfl, hu, rfl⟩ := hrel
    have hu2 : u ≤ 36 * s.size := by omega
    have Hu := Lib.hid hu
    clear hu
    by_cases hlt : k < s.size
    · have hkl : k < s.data.toList.length := hlt
      have hmj : L.memberByte s[k] = true := List.all_eq_true.1 Hmb.out _ (List.getElem_mem (l := s.data.toList) hkl)
      have hlt2 := L.sgn_lt s[k] hmj
      have Hstep : Hid (u + (L.q36 (if (s.size - (k + 1)) % 2 = 0 then 2 * L.sgn s[k] else L.sgn s[k]) + L.sgnSum (s.data.toList.drop (k + 1))) = T) := by
        show _ = _
        rw [← Hu.out, List.drop_eq_getElem_cons hkl, L.sgnSum, List.length_drop]
        rfl
      obtain ⟨v, hv⟩ : ∃ v : Nat, Lib.indexByte L.signs s[k] = (v : Int) := Int.eq_ofNat_of_zero_le hlt2.1
      have hv36 : v < 36 := by omega
      have Hv2 : Hid (L.sgn s[k] = v) := by show _ = _; rw [L.sgn, hv]; rfl
      have Hix : Hid (∀ w, Calls Tryz.prog 281 #[.string ⟨#[48, 49, 50, 51, 52, 53, 54, 55, 56, 57, 65, 66, 67, 68, 69, 70, 71, 72, 73, 74, 75, 76, 77, 78, 79, 80, 81, 82, 83, 84, 85, 86, 87, 88, 89, 90]⟩, .int .u8 (s[k].toNat : Int)] w fun e w' => e = .returned (.int .i64 (v : Int)) ∧ w = w') := fun w => hv ▸ indexByte_any ⟨#[48, 49, 50, 51, 52, 53, 54, 55, 56, 57, 65, 66, 67, 68, 69, 70, 71, 72, 73, 74, 75, 76, 77, 78, 79, 80, 81, 82, 83, 84, 85, 86, 87, 88, 89, 90]⟩ s[k] w
      have ek : (s.size : Int) - (k : Int) = ((s.size - k : Nat) : Int) := by omega
      rw [Hv2.out] at Hstep
      clear hv hlt2 hmj Hu
      by_cases hp : (s.size - (k + 1)) % 2 = 0
      · rw [if_pos hp] at Hstep
        have ep : (((s.size - k : Nat) : Int) % 2 == 1) = true := by simp; omega
        clear hp
        go_wp2_with fail
        refine (Hix.out _).mono ?_
        rintro e _ ⟨rfl, rfl⟩
        clear Hix
        go_wp2_with fail
        go_roundw
        case rel => exact ⟨k + 1, u + L.q36 (2 * v), by omega, by go_num, by unfold L.q36; go_num, by rw [← Hstep.out]; omega, trivial⟩
        case measure => simp [intOf]; omega
      · rw [if_neg hp] at Hstep
        have ep : (((s.size - k : Nat) : Int) % 2 == 1) = false := by simp; omega
        clear hp
        go_wp2_with fail
        refine (Hix.out _).mono ?_
        rintro e _ ⟨rfl, rfl⟩
        clear Hix
        go_wp2_with fail
        go_roundw
        case rel => exact ⟨k + 1, u + L.q36 v, by omega, by go_num, by unfold L.q36; go_num, by rw [← Hstep.out]; omega, trivial⟩
        case measure => simp [intOf]; omega
    · have Hx : Hid (u = T) := by show _ = _; rw [← Hu.out, show s.data.toList.drop k = [] from List.drop_eq_nil_of_le (by show s.size ≤ k; omega)]; rfl
      clear Hu
      go_wp2_with fail
      obtain ⟨wo, hwo⟩ : ∃ wo : World, wo = wr := ⟨_, rfl⟩
      subst hwo
      go_loopw [32] (fun i wi => ∃ c : Nat, c ≤ R ∧ i = .int .i64 c ∧ wi = wo) (fun i _ => 36 - (intOf i).toNat)
      case atStart => exact ⟨0, Nat.zero_le _, rfl, rfl⟩
      case round =>
        obtain ⟨c, hc, rfl, rfl⟩ := hrel
        have hR := HR2.out
        have hx := Hx.out
        have hr36 : R < 36 := by omega
        by_cases hcr : c = R
        · have ec : (((u : Int) + (c : Int)) % 36 == 0) = true := by simp; omega
          have Hcr := Lib.hid hcr
          clear hR hx hcr
          go_wp2_with fail
          go_ret
          exact ⟨ret_i (by rw [← Hcr.out]), rfl⟩
        · have ec : (((u : Int) + (c : Int)) % 36 == 0) = false := by simp; omega
          clear hR hx
          go_wp2_with fail
          go_roundw
          case rel => exact ⟨c + 1, by omega, by go_num, trivial⟩
          case measure => simp [intOf]; omega
theorem beq_bytes (a b : ByteArray) : (a.toList == b.toList) = (a.data.toList == b.data.toList) := by
  rw [ByteArray.toList_eq, ByteArray.toList_eq]
theorem only_kind (cs : ByteArray) (p : UInt8 → Bool) (hp : ∀ c, cs.data.toList.contains c = p c) (hc : cs.size ≤ 1000) (ha : cs.data.toList.all (fun b => decide (b.toNat < 128)) = true) (s : ByteArray) (w : World) (hs : s.size ≤ 1000000000) :
    Calls Tryz.prog 109 #[.string s, .string cs] w fun e w' => e = .returned (.bool (s.data.toList.all p)) ∧ Below w.heap.size w w' :=
  (only_any s cs w hs hc ha).mono fun e w' ⟨h1, h2⟩ => ⟨by rw [h1]; congr 3; exact funext hp, h2⟩
def GivesTrim (s : ByteArray) (c : UInt8) (w : World) (e : Ending) (w' : World) : Prop := ∃ t : ByteArray, (t.toList == s.toList) = L.ends s.data.toList c ∧ e = .returned (.string t) ∧ Below w.heap.size w w'
theorem trim_ends (s : ByteArray) (c : UInt8) (hc : c.toNat < 128) (w : World) (hs : s.size ≤ 1000000000) (h1 : 1 ≤ s.size) : Calls Tryz.prog 164 #[.string s, .string ⟨#[c]⟩] w (GivesTrim s c w) := by
  refine (Tryz.strings_Trim_ascii s ⟨#[c]⟩ w (by omega) (by simp [ByteArray.size]) (fun j b hb => ?_)).mono ?_
  · cases j with
    | zero => simp at hb; rw [← hb]; exact hc
    | succ j => simp at hb
  · rintro e w' ⟨rfl, hl⟩
    refine ⟨_, ?_, rfl, hl⟩
    rw [beq_bytes]
    exact L.trimS_same s.data.toList c (fun e => by have : s.data.toList.length = 0 := by rw [e]; rfl
                                                    have h2 : s.data.toList.length = s.size := rfl
                                                    omega)
set_option maxHeartbeats 4000000 in
set_option maxRecDepth 100000 in
theorem idFault_mail (s : ByteArray) (w : World) (hs : s.size ≤ 1000000) (hM : MaxL w) :
    Calls Tryz.prog 180 #[.agg #[.int .i64 1, .string s]] w fun e w' => e = .returned (.int .i64 (L.idFault 1 s)) ∧ Below w.heap.size w w' := by
  have HM := Lib.hid hM
  have hcl := cut_le s.data.toList [64]
  have Hcut : Hid (∀ w, MaxL w → Calls Tryz.prog 151 #[.string s, .string ⟨#[64]⟩] w fun e w' => e = .returned (.tuple #[.string ⟨(Lib.cut s.data.toList [64]).1.toArray⟩, .string ⟨(Lib.cut s.data.toList [64]).2.1.toArray⟩, .bool (Lib.cut s.data.toList [64]).2.2]) ∧ Below w.heap.size w w') := fun w h => cut_any s w (by omega) h ⟨#[64]⟩
  have hid : L.idFault 1 s = if L.mailOk s then 0 else 3 := by rw [L.idFault, if_pos rfl]
  rw [hid]
  clear hid
  unfold L.mailOk at *
  generalize Lib.cut s.data.toList [64] = ct at *
  obtain ⟨ll, dl, ok⟩ := ct
  dsimp only at *
  have hlo : (ByteArray.mk ll.toArray).size ≤ 1000000 := Nat.le_trans hcl.1 hs
  have hdo : (ByteArray.mk dl.toArray).size ≤ 1000000 := Nat.le_trans hcl.2 hs
  clear hM hcl
  generalize ByteArray.mk ll.toArray = lo at *
  generalize ByteArray.mk dl.toArray = dom at *
  obtain ⟨R, HR⟩ : ∃ R : Int, Hid ((if (ok && decide (s.size ≤ 80) && L.localOk lo && (L.labels dom).all L.labelOk && decide (2 ≤ (L.labels dom).length)) = true then 0 else 3) = R) := ⟨_, Lib.hid rfl⟩
  rw [HR.out]
  have Hb : Hid (Below w.heap.size w (w.alloc (.cells #[.int .i64 1, .string s] 44))) := (Below.refl _ _).alloc (Nat.le_refl _) _
  have HMb := Lib.hid (HM.out.below Hb.out)
  go_enter Tryz.func180, Tryz.ntmps180
  go_wp2_with fail
  refine (Hcut.out _ HMb.out).mono ?_
  rintro e w1 ⟨rfl, hl_w1⟩
  have hz_w1 := hl_w1.size
  have HM1 := Lib.hid (HMb.out.below hl_w1)
  have Hb1 := Lib.hid (Hb.out.trans (hl_w1.mono (by simp)))
  have hz1 := Hb1.out.size
  clear hl_w1 hz_w1 HM HMb Hb Hcut
  go_wp2_with fail
  refine (split_any dom _ (by omega) HM1.out).mono ?_
  rintro e w2 ⟨blk, c, rfl, hblk, hcell, hl2⟩
  have Hsz : Hid (∀ x ∈ L.labels dom, x.size ≤ 1000000) := fun x hx => Nat.le_trans (split_le _ _ _ x hx) hdo
  have hlen : (L.labels dom).length ≤ 1000001 := Nat.le_trans (Lib.splitB_length_le _ _ _ _) (by have := Lib.countB_le ⟨#[46]⟩ (by decide) dom.size dom (Nat.le_refl _); omega)
  have Hc := Lib.hid hcell
  have Hb2 : Hid (Below w.heap.size w w2) := Hb1.out.trans (hl2.mono hz1)
  have HM2 := Lib.hid (HM1.out.below hl2)
  have hz2 := hl2.size
  clear hcell hl2 Hb1 HM1
  generalize L.labels dom = ls at *
  obtain ⟨B, HB⟩ : ∃ B, Hid ((ok && decide (s.size ≤ 80) && L.localOk lo && decide (2 ≤ ls.length)) = B) := ⟨_, Lib.hid rfl⟩
  have HR2 : Hid ((if (B && ls.all L.labelOk) = true then (0 : Int) else 3) = R) := by
    show _ = _
    rw [← HR.out, ← HB.out]
    cases ok <;> cases L.localOk lo <;> cases ls.all L.labelOk <;> simp
  clear HR
  go_upto_region 8 with fail
  go_cut [4, 7] (fun s4 _ wx => s4 = .bool B ∧ Below w2.heap.size w2 wx)
  case first =>
    by_cases hz : 1 ≤ lo.size ∧ lo.size ≤ 64
    · have e1 : decide ((1 : Int) ≤ lo.size ∧ (lo.size : Int) ≤ 64) = true := by simp; omega
      obtain ⟨C, HC⟩ : ∃ C, Hid (Lib.contains lo.data.toList [46, 46] = C) := ⟨_, Lib.hid rfl⟩
      obtain ⟨M, HBm⟩ : ∃ M, Hid (lo.data.toList.all L.mailByte = M) := ⟨_, Lib.hid rfl⟩
      obtain ⟨E, HE⟩ : ∃ E, Hid (L.ends lo.data.toList 46 = E) := ⟨_, Lib.hid rfl⟩
      have Hcon : Hid (∀ w, MaxL w → Calls Tryz.prog 241 #[.string lo, .string ⟨#[46, 46]⟩] w fun e w' => e = .returned (.bool C) ∧ w = w') := fun w h => HC.out ▸ contains_any lo ⟨#[46, 46]⟩ w (by omega) h
      have Hon : Hid (∀ w, Calls Tryz.prog 109 #[.string lo, .string ⟨#[97, 98, 99, 100, 101, 102, 103, 104, 105, 106, 107, 108, 109, 110, 111, 112, 113, 114, 115, 116, 117, 118, 119, 120, 121, 122, 48, 49, 50, 51, 52, 53, 54, 55, 56, 57, 46, 45, 95]⟩] w fun e w' => e = .returned (.bool M) ∧ Below w.heap.size w w') := fun w => HBm.out ▸ only_kind _ _ L.mails_has (by decide) (by decide) lo w (by omega)
      have Htr : Hid (∀ w, Calls Tryz.prog 164 #[.string lo, .string ⟨#[46]⟩] w fun e w' => ∃ t : ByteArray, (t.toList == lo.toList) = E ∧ e = .returned (.string t) ∧ Below w.heap.size w w') := fun w => HE.out ▸ trim_ends lo 46 (by decide) w (by omega) hz.1
      have HB2 : Hid ((ok && decide (s.size ≤ 80) && (E && !C && M) && decide (2 ≤ ls.length)) = B) := by
        show _ = _
        rw [← HB.out, L.localOk, HC.out, HBm.out, HE.out]
        simp [hz]
      clear HC HBm HE HB
      go_wp2_with (first | (go_at_call 43; refine (in_any _ _ _ _).mono ?_; rintro e _ ⟨rfl, rfl⟩; rw [e1]) | (go_at_call 109; refine (Hon.out _).mono ?_; rintro e w3 ⟨rfl, hl3⟩; have hz3 := hl3.size) | (go_at_call 164; refine (Htr.out _).mono ?_; rintro e w4 ⟨t4, ht4, rfl, hl4⟩; have Ht4 := Lib.hid ht4; clear ht4; have hz4 := hl4.size) | (go_at_call 241; refine (Hcon.out _ ((HM2.out.below hl3).below hl4)).mono ?_; rintro e _ ⟨rfl, rfl⟩))
      all_goals
        go_meet
        clear HR2 Hsz Hc Hb2 Hcon Hon Htr
        first
          | (refine ⟨?_, Below.refl _ _⟩
             rw [← HB2.out]
             clear HB2
             first
               | (simp_all; done)
               | (have h80 : ¬ s.size ≤ 80 := by omega
                  simp [h80]
                  done))
          | (refine ⟨?_, hl3⟩; rw [← HB2.out]; clear HB2; simp_all; done)
          | (refine ⟨?_, hl3.trans (hl4.mono hz3)⟩
             rw [← HB2.out, ← Ht4.out]
             clear HB2 Ht4
             have h80 : s.size ≤ 80 := by omega
             first
               | (have h1 : ¬ t4.toList = lo.toList := by assumption
                  simp [h1]
                  done)
               | (have h1 : C = true := by assumption
                  simp [h1]
                  done)
               | (have h1 : t4.toList = lo.toList := by assumption
                  have h2 : ok = true := by assumption
                  have h3 : M = true := by assumption
                  have h4 : C = false := by simpa using ‹¬ C = true›
                  rw [h2, h3, h4, h1]
                  simp [h80]
                  omega))
    · have e1 : decide ((1 : Int) ≤ lo.size ∧ (lo.size : Int) ≤ 64) = false := by simp; omega
      have E2 : Hid (L.localOk lo = false) := by
        show _ = _
        have : (decide (1 ≤ lo.size) && decide (lo.size ≤ 64)) = false := by simp; omega
        unfold L.localOk; rw [this]; rfl
      rw [E2.out] at HB
      go_wp2_with (first | (go_at_call 43; refine (in_any _ _ _ _).mono ?_; rintro e _ ⟨rfl, rfl⟩; rw [e1]))
      all_goals (go_meet; exact ⟨by rw [← HB.out]; simp, Below.refl _ _⟩)
  case rest =>
    obtain ⟨rfl, hlc⟩ := hcut
    have Hbc : Hid (Below w.heap.size w wc) := Hb2.out.trans (hlc.mono (Nat.le_trans hz1 hz2))
    have Hcc : Hid (∀ i x, ls[i]? = some x → wc.cell? ⟨blk, i, none⟩ = some (.string x)) := fun i x hx => (hlc.cell (p := ⟨blk, i, none⟩) hblk).trans (Hc.out i x hx)
    have hblc : blk < wc.heap.size := Nat.lt_of_lt_of_le hblk hlc.size
    clear hlc Hc Hb2 HM2 HB
    go_wp2_with fail
    go_loopw [4, 60] (fun b4 i wr => ∃ (k : Nat) (B2 : Bool), k ≤ ls.length ∧ i = .int .i64 k ∧ b4 = .bool B2 ∧ (if (B2 && (ls.drop k).all L.labelOk) = true then (0 : Int) else 3) = R ∧ Below wc.heap.size wc wr) (fun _ i _ => ls.length - (intOf i).toNat)
    case atStart => exact ⟨0, B, Nat.zero_le _, rfl, rfl, HR2.out, Below.refl _ _⟩
    case round =>
      clear HR2
      obtain ⟨k, B2, hk, rfl, rfl, hr, hbr⟩ := hrel
      have Hr := Lib.hid hr
      have Hbr := Lib.hid hbr
      have hzr := hbr.size
      clear hr hbr
      by_cases hlt : k < ls.length
      · obtain ⟨x, hx⟩ : ∃ x, ls[k]? = some x := ⟨_, List.getElem?_eq_getElem hlt⟩
        have hcx := (Hbr.out.cell (p := ⟨blk, k, none⟩) hblc).trans (Hcc.out k x hx)
        have hxs := Hsz.out x (List.mem_of_getElem? hx)
        have Hs : Hid ((if (B2 && (L.labelOk x && (ls.drop (k + 1)).all L.labelOk)) = true then (0 : Int) else 3) = R) := by
          show _ = _
          rw [← Hr.out, List.drop_eq_getElem_cons hlt, List.all_cons]
          have : ls[k] = x := by simpa [List.getElem?_eq_getElem hlt] using hx
          rw [this]
        clear hx Hr
        by_cases hz : 1 ≤ x.size ∧ x.size ≤ 30
        · have e1 : decide ((1 : Int) ≤ x.size ∧ (x.size : Int) ≤ 30) = true := by simp; omega
          obtain ⟨M, HBm⟩ : ∃ M, Hid (x.data.toList.all L.labelByte = M) := ⟨_, Lib.hid rfl⟩
          obtain ⟨E, HE⟩ : ∃ E, Hid (L.ends x.data.toList 45 = E) := ⟨_, Lib.hid rfl⟩
          have Hon : Hid (∀ w, Calls Tryz.prog 109 #[.string x, .string ⟨#[97, 98, 99, 100, 101, 102, 103, 104, 105, 106, 107, 108, 109, 110, 111, 112, 113, 114, 115, 116, 117, 118, 119, 120, 121, 122, 48, 49, 50, 51, 52, 53, 54, 55, 56, 57, 45]⟩] w fun e w' => e = .returned (.bool M) ∧ Below w.heap.size w w') := fun w => HBm.out ▸ only_kind _ _ L.labels_has (by decide) (by decide) x w (by omega)
          have Htr : Hid (∀ w, Calls Tryz.prog 164 #[.string x, .string ⟨#[45]⟩] w fun e w' => ∃ t : ByteArray, (t.toList == x.toList) = E ∧ e = .returned (.string t) ∧ Below w.heap.size w w') := fun w => HE.out ▸ trim_ends x 45 (by decide) w (by omega) hz.1
          have HL : Hid (L.labelOk x = (E && M)) := by show _ = _; rw [L.labelOk, HBm.out, HE.out]; simp [hz]
          rw [HL.out] at Hs
          clear HBm HE HL
          go_wp2_with (first | (go_at_call 43; refine (in_any _ _ _ _).mono ?_; rintro e _ ⟨rfl, rfl⟩; rw [e1]) | (go_at_call 109; refine (Hon.out _).mono ?_; rintro e w3 ⟨rfl, hl3⟩; have hz3 := hl3.size) | (go_at_call 164; refine (Htr.out _).mono ?_; rintro e w4 ⟨t4, ht4, rfl, hl4⟩; have Ht4 := Lib.hid ht4; clear ht4; have hz4 := hl4.size))
          all_goals
            go_roundw
            case rel =>
              clear Hsz Hcc Hon Htr
              first
                | (refine ⟨k + 1, false, by omega, by go_num, rfl, ?_, Hbr.out⟩; rw [← Hs.out]; clear Hs; simp_all; done)
                | (refine ⟨k + 1, false, by omega, by go_num, rfl, ?_, Hbr.out.trans (hl3.mono hzr)⟩; rw [← Hs.out]; clear Hs; simp_all; done)
                | (refine ⟨k + 1, _, by omega, by go_num, rfl, ?_, Hbr.out.trans ((hl3.mono hzr).trans (hl4.mono (Nat.le_trans hzr hz3)))⟩
                   rw [← Hs.out, ← Ht4.out]
                   clear Hs Ht4
                   simp_all
                   done)
            case measure => simp [intOf]; omega
        · have e1 : decide ((1 : Int) ≤ x.size ∧ (x.size : Int) ≤ 30) = false := by simp; omega
          have E2 : Hid (L.labelOk x = false) := by
            show _ = _
            have : (decide (1 ≤ x.size) && decide (x.size ≤ 30)) = false := by simp; omega
            unfold L.labelOk; rw [this]; rfl
          rw [E2.out] at Hs
          go_wp2_with (first | (go_at_call 43; refine (in_any _ _ _ _).mono ?_; rintro e _ ⟨rfl, rfl⟩; rw [e1]))
          all_goals
            go_roundw
            case rel => exact ⟨k + 1, false, by omega, by go_num, rfl, by rw [← Hs.out]; simp, Hbr.out⟩
            case measure => simp [intOf]; omega
      · have Hx : Hid ((if B2 = true then (0 : Int) else 3) = R) := by show _ = _; rw [← Hr.out, List.drop_eq_nil_of_le (by omega)]; simp
        clear Hr
        cases B2
        all_goals
          go_wp2_with fail
          go_ret
          exact ⟨ret_i (by rw [← Hx.out]; rfl), Hbc.out.trans (Hbr.out.mono (Hbc.out.size))⟩
theorem cutPrefix_any (s p : ByteArray) (w : World) : Calls Tryz.prog 242 #[.string s, .string p] w fun e w' => e = .returned (.tuple #[.string ⟨(Lib.trimPrefix s.data.toList p.data.toList).toArray⟩, .bool (Lib.hasPrefix s.data.toList p.data.toList)]) ∧ w = w' := (Tryz.strings_CutPrefix s p w).mono fun _ _ ⟨h1, h2⟩ => ⟨h1, h2.symm⟩
set_option maxHeartbeats 2000000 in
set_option maxRecDepth 100000 in
theorem idFault_phone (s : ByteArray) (w : World) (hs : s.size ≤ 1000000) :
    Calls Tryz.prog 180 #[.agg #[.int .i64 2, .string s]] w fun e w' => e = .returned (.int .i64 (L.idFault 2 s)) ∧ Below w.heap.size w w' := by
  obtain ⟨R, HR⟩ : ∃ R : Int, Hid ((if L.phoneOk s then (0 : Int) else 3) = R) := ⟨_, Lib.hid rfl⟩
  rw [show L.idFault 2 s = R by rw [← HR.out, L.idFault]; simp]
  have Hb : Hid (Below w.heap.size w (w.alloc (.cells #[.int .i64 2, .string s] 44))) := (Below.refl _ _).alloc (Nat.le_refl _) _
  have hz0 : w.heap.size ≤ (w.alloc (.cells #[.int .i64 2, .string s] 44)).heap.size := by simp
  have Hcp : Hid (∀ w, Calls Tryz.prog 242 #[.string s, .string ⟨#[43]⟩] w fun e w' => e = .returned (.tuple #[.string ⟨(Lib.trimPrefix s.data.toList [43]).toArray⟩, .bool (Lib.hasPrefix s.data.toList [43])]) ∧ w = w') := fun w => cutPrefix_any s ⟨#[43]⟩ w
  by_cases hP : Lib.hasPrefix s.data.toList [43] = true
  · have hr : (ByteArray.mk (Lib.trimPrefix s.data.toList [43]).toArray).data.toList = s.data.toList.drop 1 := by simp [Lib.trimPrefix, hP]
    have hrs : (ByteArray.mk (Lib.trimPrefix s.data.toList [43]).toArray).size = s.size - 1 := by
      show (Lib.trimPrefix s.data.toList [43]).length = _
      rw [Lib.trimPrefix, if_pos hP, List.length_drop]; rfl
    rw [hP] at Hcp
    generalize ByteArray.mk (Lib.trimPrefix s.data.toList [43]).toArray = r at *
    obtain ⟨M, HM⟩ : ∃ M, Hid ((s.data.toList.drop 1).all L.isDigit = M) := ⟨_, Lib.hid rfl⟩
    have Hon : Hid (∀ w, Calls Tryz.prog 109 #[.string r, .string ⟨#[48, 49, 50, 51, 52, 53, 54, 55, 56, 57]⟩] w fun e w' => e = .returned (.bool M) ∧ Below w.heap.size w w') := fun w => HM.out ▸ hr ▸ only_kind _ _ L.digits_has (by decide) (by decide) r w (by omega)
    by_cases hz : 7 ≤ r.size ∧ r.size ≤ 15
    · have e1 : decide ((7 : Int) ≤ r.size ∧ (r.size : Int) ≤ 15) = true := by simp; omega
      have Hh := Lib.hid (headD_at r (by omega))
      rw [hr] at Hh
      have hr0 : 0 < r.size := by omega
      have HR2 : Hid ((if (M && ((r[0].toNat : Int) != 48)) = true then (0 : Int) else 3) = R) := by
        show _ = _
        rw [← HR.out, L.phoneOk, hP, HM.out, Hh.out, u8_ne _ 48 48 rfl]
        have h8 : (8 ≤ s.size) := by omega
        have h16 : s.size ≤ 16 := by omega
        simp [h8, h16]
      have Hrs := Lib.hid hrs
      clear HR hP hr HM Hh hrs
      go_enter Tryz.func180, Tryz.ntmps180
      go_wp2_with (first | (go_at_call 242; refine (Hcp.out _).mono ?_; rintro e _ ⟨rfl, rfl⟩) | (go_at_call 43; refine (in_any _ _ _ _).mono ?_; rintro e _ ⟨rfl, rfl⟩; rw [e1]) | (go_at_call 109; refine (Hon.out _).mono ?_; rintro e w3 ⟨rfl, hl3⟩))
      all_goals
        go_ret
        refine ⟨ret_i ?_, Hb.out.trans (hl3.mono hz0)⟩
        rw [← HR2.out]
        clear HR2 Hcp Hon Hb
        simp_all
    · have e1 : decide ((7 : Int) ≤ r.size ∧ (r.size : Int) ≤ 15) = false := by simp; omega
      have HR2 : Hid (3 = R) := by
        show _ = _
        rw [← HR.out, L.phoneOk]
        have h8 : (decide (8 ≤ s.size) && decide (s.size ≤ 16)) = false := by simp; omega
        rw [Bool.and_assoc (Lib.hasPrefix _ _), h8]; simp
      have Hrs := Lib.hid hrs
      clear HR hP hr HM hrs
      go_enter Tryz.func180, Tryz.ntmps180
      go_wp2_with (first | (go_at_call 242; refine (Hcp.out _).mono ?_; rintro e _ ⟨rfl, rfl⟩) | (go_at_call 43; refine (in_any _ _ _ _).mono ?_; rintro e _ ⟨rfl, rfl⟩; rw [e1]))
      go_ret
      exact ⟨ret_i (by rw [← HR2.out]), Hb.out⟩
  · have hP' : Lib.hasPrefix s.data.toList [43] = false := by simpa using hP
    rw [hP'] at Hcp
    have HR2 : Hid (3 = R) := by show _ = _; rw [← HR.out, L.phoneOk, hP']; simp
    clear HR hP hP'
    go_enter Tryz.func180, Tryz.ntmps180
    go_wp2_with (first | (go_at_call 242; refine (Hcp.out _).mono ?_; rintro e _ ⟨rfl, rfl⟩))
    go_ret
    exact ⟨ret_i (by rw [← HR2.out]), Hb.out⟩
set_option maxHeartbeats 2000000 in
set_option maxRecDepth 100000 in
theorem idFault_device (s : ByteArray) (w : World) (hs : s.size ≤ 1000000) :
    Calls Tryz.prog 180 #[.agg #[.int .i64 4, .string s]] w fun e w' => e = .returned (.int .i64 (L.idFault 4 s)) ∧ Below w.heap.size w w' := by
  obtain ⟨M, HM⟩ : ∃ M, Hid (s.data.toList.all L.deviceByte = M) := ⟨_, Lib.hid rfl⟩
  obtain ⟨R, HR⟩ : ∃ R : Int, Hid ((if (decide (s.size = 32) && M) = true then (0 : Int) else 3) = R) := ⟨_, Lib.hid rfl⟩
  rw [show L.idFault 4 s = R by rw [← HR.out, L.idFault, L.deviceOk, HM.out]; simp]
  have Hb : Hid (Below w.heap.size w (w.alloc (.cells #[.int .i64 4, .string s] 44))) := (Below.refl _ _).alloc (Nat.le_refl _) _
  have hz0 : w.heap.size ≤ (w.alloc (.cells #[.int .i64 4, .string s] 44)).heap.size := by simp
  have Hon : Hid (∀ w, Calls Tryz.prog 109 #[.string s, .string ⟨#[48, 49, 50, 51, 52, 53, 54, 55, 56, 57, 97, 98, 99, 100, 101, 102]⟩] w fun e w' => e = .returned (.bool M) ∧ Below w.heap.size w w') := fun w => HM.out ▸ only_kind _ _ L.devices_has (by decide) (by decide) s w (by omega)
  clear HM
  by_cases hz : s.size = 32
  · have e1 : ((s.size : Int) == 32) = true := by simp; omega
    have HR2 : Hid ((if M = true then (0 : Int) else 3) = R) := by show _ = _; rw [← HR.out]; simp [hz]
    clear HR hz
    cases M
    all_goals
      go_enter Tryz.func180, Tryz.ntmps180
      go_wp2_with (first | (go_at_call 109; refine (Hon.out _).mono ?_; rintro e w3 ⟨rfl, hl3⟩))
      go_ret
      exact ⟨ret_i (by rw [← HR2.out]; rfl), Hb.out.trans (hl3.mono hz0)⟩
  · have e1 : ((s.size : Int) == 32) = false := by simp; omega
    have HR2 : Hid (3 = R) := by show _ = _; rw [← HR.out]; simp [hz]
    clear HR hz
    go_enter Tryz.func180, Tryz.ntmps180
    go_wp2_with fail
    go_ret
    exact ⟨ret_i (by rw [← HR2.out]), Hb.out⟩
set_option maxHeartbeats 2000000 in
set_option maxRecDepth 100000 in
theorem idFault_member (s : ByteArray) (w : World) (hs : s.size ≤ 1000000) :
    Calls Tryz.prog 180 #[.agg #[.int .i64 3, .string s]] w fun e w' => e = .returned (.int .i64 (L.idFault 3 s)) ∧ Below w.heap.size w w' := by
  obtain ⟨R, HR⟩ : ∃ R : Int, Hid ((if L.memberOk s then (if L.signAt (L.checkNo s.data.toList.dropLast) = s.data.toList.getLastD 0 then (0 : Int) else 15) else 3) = R) := ⟨_, Lib.hid rfl⟩
  rw [show L.idFault 3 s = R by rw [← HR.out, L.idFault]; simp]
  have Hb : Hid (Below w.heap.size w (w.alloc (.cells #[.int .i64 3, .string s] 44))) := (Below.refl _ _).alloc (Nat.le_refl _) _
  have hz0 : w.heap.size ≤ (w.alloc (.cells #[.int .i64 3, .string s] 44)).heap.size := by simp
  have Hon : Hid (∀ w, Calls Tryz.prog 109 #[.string s, .string ⟨#[48, 49, 50, 51, 52, 53, 54, 55, 56, 57, 65, 66, 67, 68, 69, 70, 71, 72, 73, 74, 75, 76, 77, 78, 79, 80, 81, 82, 83, 84, 85, 86, 87, 88, 89, 90]⟩] w fun e w' => e = .returned (.bool (s.data.toList.all L.memberByte)) ∧ Below w.heap.size w w') := fun w => only_kind _ _ L.members_has (by decide) (by decide) s w (by omega)
  by_cases hz : 4 ≤ s.size ∧ s.size ≤ 20
  · have e1 : decide ((4 : Int) ≤ s.size ∧ (s.size : Int) ≤ 20) = true := by simp; omega
    by_cases hmb : s.data.toList.all L.memberByte = true
    · rw [hmb] at Hon
      have hmo : L.memberOk s = true := by rw [L.memberOk, hmb]; simp [hz]
      rw [hmo, if_pos rfl, lastD_at s (by omega)] at HR
      have hdl := extract_dropLast s (by omega)
      have hme : (s.extract 0 (s.size - 1)).data.toList.all L.memberByte = true := by
        rw [hdl, List.all_eq_true]
        exact fun x hx => List.all_eq_true.1 hmb x (List.dropLast_subset _ hx)
      have Hsg : Hid (∀ w, Calls Tryz.prog 243 #[.string (s.extract 0 (s.size - 1))] w fun e w' => e = .returned (.int .i64 (L.checkNo s.data.toList.dropLast : Int)) ∧ w' = w) := fun w => hdl ▸ refSign_any _ w (by rw [ByteArray.size_extract]; omega) hme
      have hck : L.checkNo s.data.toList.dropLast < 36 := by unfold L.checkNo; omega
      have Hsat := Lib.hid (signs_at _ hck)
      generalize L.checkNo s.data.toList.dropLast = ck at *
      have hckI : (ck : Int) < 36 := by omega
      have hz1 : s.size - 1 < s.size := by omega
      have ez : (s.size : Int) - 1 = ((s.size - 1 : Nat) : Int) := by omega
      have hz2 : s.size - 1 ≤ s.size := by omega
      have ew1 : IntKind.i64.wrap ((s.size - 1 : Nat) : Int) = ((s.size - 1 : Nat) : Int) := IntWalk.i64_in _ (by omega)
      have ew2 : IntKind.i64.wrap ((s.size : Int) - 1) = ((s.size - 1 : Nat) : Int) := (IntWalk.i64_in _ (by omega)).trans ez
      clear hmb hdl hme hmo
      by_cases hq : L.signAt ck = s[s.size - 1]
      · rw [if_pos hq] at HR
        have e3 : (((⟨#[48, 49, 50, 51, 52, 53, 54, 55, 56, 57, 65, 66, 67, 68, 69, 70, 71, 72, 73, 74, 75, 76, 77, 78, 79, 80, 81, 82, 83, 84, 85, 86, 87, 88, 89, 90]⟩ : ByteArray)[ck].toNat : Int) != (s[s.size - 1].toNat : Int)) = false := by rw [Hsat.out, hq]; simp
        clear hq Hsat
        go_enter Tryz.func180, Tryz.ntmps180
        go_wp2_with (first | (go_at_call 43; refine (in_any _ _ _ _).mono ?_; rintro e _ ⟨rfl, rfl⟩; rw [e1]) | (go_at_call 109; refine (Hon.out _).mono ?_; rintro e w3 ⟨rfl, hl3⟩))
        refine wp_region_quiet_lit (by kernel_rfl) (by kernel_rfl) ?_
        repeat (refine wpQuiet_step (fun K hK => ?_); go_simp; (try go_bits); (try simp (disch := omega) only [if_pos]); (try simp (disch := omega) only [if_neg]); (try go_simp); first | (refine hK _ ?_; clear hK K) | (apply Exists.intro; refine ⟨fun _ => ?_, hK _ ?_⟩; (go_at_call 243; exact Calls.quiet_of_same (Hsg.out _)); clear hK K))
        refine wpQuiet_nil ?_
        intro _ hw'
        obtain ⟨nq, hw''⟩ := hw'
        subst hw''
        go_wp2_with fail
        go_ret
        exact ⟨ret_i (by rw [← HR.out]), (Hb.out.trans (hl3.mono hz0)).trans (below_drewN _ _ _)⟩
      · rw [if_neg hq] at HR
        have e3 : (((⟨#[48, 49, 50, 51, 52, 53, 54, 55, 56, 57, 65, 66, 67, 68, 69, 70, 71, 72, 73, 74, 75, 76, 77, 78, 79, 80, 81, 82, 83, 84, 85, 86, 87, 88, 89, 90]⟩ : ByteArray)[ck].toNat : Int) != (s[s.size - 1].toNat : Int)) = true := by
          rw [Hsat.out, bne_iff_ne]; intro h; exact hq (UInt8.toNat_inj.1 (by omega))
        clear hq Hsat
        go_enter Tryz.func180, Tryz.ntmps180
        go_wp2_with (first | (go_at_call 43; refine (in_any _ _ _ _).mono ?_; rintro e _ ⟨rfl, rfl⟩; rw [e1]) | (go_at_call 109; refine (Hon.out _).mono ?_; rintro e w3 ⟨rfl, hl3⟩))
        refine wp_region_quiet_lit (by kernel_rfl) (by kernel_rfl) ?_
        repeat (refine wpQuiet_step (fun K hK => ?_); go_simp; (try go_bits); (try simp (disch := omega) only [if_pos]); (try simp (disch := omega) only [if_neg]); (try go_simp); first | (refine hK _ ?_; clear hK K) | (apply Exists.intro; refine ⟨fun _ => ?_, hK _ ?_⟩; (go_at_call 243; exact Calls.quiet_of_same (Hsg.out _)); clear hK K))
        refine wpQuiet_nil ?_
        intro _ hw'
        obtain ⟨nq, hw''⟩ := hw'
        subst hw''
        go_wp2_with fail
        go_ret
        exact ⟨ret_i (by rw [← HR.out]), (Hb.out.trans (hl3.mono hz0)).trans (below_drewN _ _ _)⟩
    · have hmb' : s.data.toList.all L.memberByte = false := by simpa using hmb
      rw [hmb'] at Hon
      have HR2 : Hid (3 = R) := by show _ = _; rw [← HR.out, L.memberOk, hmb']; simp
      clear hmb hmb' HR
      go_enter Tryz.func180, Tryz.ntmps180
      go_wp2_with (first | (go_at_call 43; refine (in_any _ _ _ _).mono ?_; rintro e _ ⟨rfl, rfl⟩; rw [e1]) | (go_at_call 109; refine (Hon.out _).mono ?_; rintro e w3 ⟨rfl, hl3⟩))
      go_quiet (fail)
      go_wp2_with fail
      go_ret
      exact ⟨ret_i (by rw [← HR2.out]), (Hb.out.trans (hl3.mono hz0)).trans (below_drewN _ _ _)⟩
  · have e1 : decide ((4 : Int) ≤ s.size ∧ (s.size : Int) ≤ 20) = false := by simp; omega
    have HR2 : Hid (3 = R) := by
      show _ = _
      have h8 : (decide (4 ≤ s.size) && decide (s.size ≤ 20)) = false := by simp; omega
      rw [← HR.out, L.memberOk, h8]; simp
    clear HR Hon
    go_enter Tryz.func180, Tryz.ntmps180
    go_wp2_with (first | (go_at_call 43; refine (in_any _ _ _ _).mono ?_; rintro e _ ⟨rfl, rfl⟩; rw [e1]))
    go_quiet (fail)
    go_wp2_with fail
    go_ret
    exact ⟨ret_i (by rw [← HR2.out]), Hb.out.trans (below_drewN _ _ _)⟩
theorem refId_any (k : Int) (s : ByteArray) (w : World) (hs : s.size ≤ 1000000) (hM : MaxL w) :
    Calls Tryz.prog 180 #[.agg #[.int .i64 k, .string s]] w fun e w' => e = .returned (.int .i64 (L.idFault k s)) ∧ Below w.heap.size w w' := by
  by_cases h1 : k = 1
  · subst h1; exact idFault_mail s w hs hM
  · by_cases h2 : k = 2
    · subst h2; exact idFault_phone s w hs
    · by_cases h3 : k = 3
      · subst h3; exact idFault_member s w hs
      · by_cases h4 : k = 4
        · subst h4; exact idFault_device s w hs
        · have e1 : (k == 1) = false := by simpa using h1
          have e2 : (k == 2) = false := by simpa using h2
          have e3 : (k == 3) = false := by simpa using h3
          have e4 : (k == 4) = false := by simpa using h4
          obtain ⟨R, HR⟩ : ∃ R, Hid (L.idFault k s = R) := ⟨_, Lib.hid rfl⟩
          rw [HR.out]
          have Hb : Hid (Below w.heap.size w (w.alloc (.cells #[.int .i64 k, .string s] 44))) := (Below.refl _ _).alloc (Nat.le_refl _) _
          go_enter Tryz.func180, Tryz.ntmps180
          go_wp2_with fail
          go_ret
          exact ⟨ret_i (by rw [← HR.out, L.idFault, if_neg h1, if_neg h2, if_neg h3, if_neg h4]), Hb.out⟩
end Go.Proofs.YtmlpkejeglpciaaGreatDoor
