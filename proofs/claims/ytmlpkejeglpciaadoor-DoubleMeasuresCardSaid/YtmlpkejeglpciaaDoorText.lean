/- What handref2.ValueFault and FieldsFault return. The plain law: a text is right if its code points are. -/
import Derived.Test.YtmlpkejeglpciaaDoorFields
import Derived.Test.YtmlpkejeglpciaaDoorFar
import Derived.Lib.ValidAsc
namespace Go.Proofs.YtmlpkejeglpciaaDoor
open Go.RowKit
def ptOk (p : Int) : Bool := !(decide (p < 32) || p == 127)
theorem all_take {α : Type} (p : α → Bool) (l : List α) (k : Nat) : l.all p = ((l.take k).all p && (l.drop k).all p) := by
  rw [← List.all_append, List.take_append_drop]
theorem take_byte (s : ByteArray) (k : Nat) (hk : k ≤ s.size) (p : UInt8 → Bool) (h : ∀ i, i < k → p (s.get! i) = true) : (s.data.toList.take k).all p = true := by
  rw [List.all_eq_true]
  intro x hx
  obtain ⟨i, hi, e⟩ := List.getElem_of_mem hx
  rw [List.length_take] at hi
  rw [List.getElem_take] at e
  have h1 := h i (by omega)
  have : s.get! i = x := by
    rw [← e]
    have hs : i < s.size := by omega
    simp [ByteArray.get!, getElem!_pos s.data i (show i < s.data.size from hs)]
  rwa [this] at h1
theorem text_law : ∀ (f : Nat) (s : ByteArray), s.size ≤ f → (pts f s).all ptOk = textOk s
  | 0, s, h => by
    have h0 : s.size = 0 := by omega
    have : s = ⟨#[]⟩ := ByteArray.size_eq_zero_iff.1 h0
    subst this
    rfl
  | f + 1, s, h => by
    by_cases h0 : s.size = 0
    · have : s = ⟨#[]⟩ := ByteArray.size_eq_zero_iff.1 h0
      subst this
      rfl
    · have hpos : 0 < s.size := by omega
      have hne : s.data.toList ≠ [] := by
        intro e
        have : s.data.toList.length = 0 := by rw [e]; rfl
        exact h0 this
      have hdl : Lib.decodeL s.data.toList = Lib.decodeGo s := by unfold Lib.decodeL Lib.decodeGo; rw [if_neg h0]
      have hdn : Lib.decodeGo s = Lib.decodeN s.size (s.get! 0).toNat (s.get! 1).toNat (s.get! 2).toNat (s.get! 3).toNat := by
        unfold Lib.decodeGo; rw [if_neg h0, Lib.decode_at]; rfl
      have hr := dec_rng s hpos
      have ih := text_law f (s.extract (Lib.decodeGo s).2 s.size) (by rw [Lib.ext_size]; omega)
      have hg0 : s.get! 0 = s[0] := by
        simp [ByteArray.get!, getElem!_pos s.data 0 (show 0 < s.data.size from hpos)]; rfl
      rw [pts_cons f s hpos, List.all_cons, ih]
      unfold textOk
      rw [Lib.validD_step _ hne, hdl, Lib.ext_list, all_take L.textByte s.data.toList (Lib.decodeGo s).2]
      rcases L.decodeN_parts s.size (s.get! 0).toNat (s.get! 1).toNat (s.get! 2).toNat (s.get! 3).toNat (by omega) with ⟨e, hb⟩ | ⟨e, hb⟩ | ⟨h1, h2, h3, h4, h5, h6, h7, h8⟩
      · rw [← hdn] at e
        have hx : (s.data.toList.take 1).all L.textByte = L.textByte (s.get! 0) := by
          obtain ⟨⟨l⟩⟩ := s
          cases l with
          | nil => exact absurd rfl h0
          | cons a t => simp [ByteArray.get!]
        rw [e]
        dsimp only
        rw [if_neg (by omega), if_neg (by omega), hx]
        have : ptOk ((s.get! 0).toNat : Int) = L.textByte (s.get! 0) := by
          unfold ptOk L.textByte
          rw [Bool.eq_iff_iff]; simp; omega
        rw [this]
        cases L.textByte (s.get! 0) <;> simp
      · rw [← hdn] at e
        rw [e]
        dsimp only
        rw [if_pos ⟨rfl, rfl⟩, if_pos ⟨rfl, rfl⟩]
        have : ptOk (-1 - (s[0].toNat : Int)) = false := by unfold ptOk; simp; omega
        rw [this]; simp
      · rw [← hdn] at h1 h2 h3 h4 h7 h8
        rw [if_neg (by omega), if_neg (by omega)]
        have h9 : ptOk ((Lib.decodeGo s).1 : Int) = true := by unfold ptOk; simp; omega
        have h10 : (s.data.toList.take (Lib.decodeGo s).2).all L.textByte = true := by
          refine take_byte s _ h4 _ (fun i hi => ?_)
          have : i = 0 ∨ i = 1 ∨ i = 2 ∨ i = 3 := by omega
          have hb : 128 ≤ (s.get! i).toNat := by
            rcases this with rfl | rfl | rfl | rfl
            · exact h5
            · exact h6
            · exact h7 (by omega)
            · exact h8 (by omega)
          unfold L.textByte; simp; omega
        rw [h9, h10]; simp
theorem textFault_pts (s : ByteArray) (h : s.size ≤ 200) : textFault s = if (pts s.size s).all ptOk then 0 else 3 := by
  rw [text_law s.size s (Nat.le_refl _), textFault, if_neg (by omega)]
theorem ixa2 (w : World) : (Instr.index 83 (.agg #[.int .i64 0, .int .i64 0, .int .i64 (-1000000000000), .int .i64 0, .int .i64 0]) (.int .i64 2)).run Tryd.prog w = .ok (.int .i64 (-1000000000000)) w := by kernel_rfl
theorem ixa3 (w : World) : (Instr.index 83 (.agg #[.int .i64 0, .int .i64 0, .int .i64 (-1000000000000), .int .i64 0, .int .i64 0]) (.int .i64 3)).run Tryd.prog w = .ok (.int .i64 0) w := by kernel_rfl
theorem ixa4 (w : World) : (Instr.index 83 (.agg #[.int .i64 0, .int .i64 0, .int .i64 (-1000000000000), .int .i64 0, .int .i64 0]) (.int .i64 4)).run Tryd.prog w = .ok (.int .i64 0) w := by kernel_rfl
theorem ixb2 (w : World) : (Instr.index 83 (.agg #[.int .i64 0, .int .i64 0, .int .i64 1000000000000, .int .i64 1, .int .i64 4321439]) (.int .i64 2)).run Tryd.prog w = .ok (.int .i64 1000000000000) w := by kernel_rfl
theorem ixb3 (w : World) : (Instr.index 83 (.agg #[.int .i64 0, .int .i64 0, .int .i64 1000000000000, .int .i64 1, .int .i64 4321439]) (.int .i64 3)).run Tryd.prog w = .ok (.int .i64 1) w := by kernel_rfl
theorem ixb4 (w : World) : (Instr.index 83 (.agg #[.int .i64 0, .int .i64 0, .int .i64 1000000000000, .int .i64 1, .int .i64 4321439]) (.int .i64 4)).run Tryd.prog w = .ok (.int .i64 4321439) w := by kernel_rfl
set_option maxHeartbeats 1000000 in
set_option maxRecDepth 100000 in
theorem valueFault_num (k n : Int) (t : ByteArray) (w : World) (hk : k ≠ 1) :
    Calls Tryd.prog 27 #[.agg #[.int .i64 k, .string t, .int .i64 n]] w fun e w' => e = .returned (.int .i64 (valueFault k t n)) ∧ Below w.heap.size w w' := by
  obtain ⟨R, HR⟩ : ∃ R, Hid (valueFault k t n = R) := ⟨_, Lib.hid rfl⟩
  rw [HR.out]
  have Hb : Hid (Below w.heap.size w (w.alloc (.cells #[.int .i64 k, .string t, .int .i64 n] 49))) := (Below.refl _ _).alloc (Nat.le_refl _) _
  have hk' : (k == 1) = false := by simpa using hk
  by_cases h4 : 1 ≤ k ∧ k ≤ 4
  · have e4 : decide ((1 : Int) ≤ k ∧ k ≤ 4) = true := by simp; omega
    by_cases ht : t.toList = []
    · have ht' : t.toList.isEmpty = true := by simpa using ht
      obtain rfl | rfl | rfl : k = 2 ∨ k = 3 ∨ k = 4 := by omega
      all_goals
        clear h4 e4 hk
        have i1 := @ixa2
        have i2 := @ixa3
        have i3 := @ixa4
        have i4 := @ixb2
        have i5 := @ixb3
        have i6 := @ixb4
        go_enter Tryd.func27, Tryd.ntmps27
        go_wp2_with (first | (go_at_call 24; refine (in_any _ _ _ _).mono ?_; rintro e _ ⟨rfl, rfl⟩))
        go_quiet (fail)
        go_wp2_with (first | (go_at_call 24; refine (in_any _ _ _ _).mono ?_; rintro e _ ⟨rfl, rfl⟩))
        all_goals
          go_ret
          refine ⟨ret_i ?_, Hb.out.trans (below_drewN _ _ _)⟩
          rw [← HR.out]
          unfold valueFault
          clear HR Hb i1 i2 i3 i4 i5 i6
          simp_all
          try omega
    · have ht' : t.toList.isEmpty = false := by simpa using ht
      go_enter Tryd.func27, Tryd.ntmps27
      go_wp2_with (first | (go_at_call 24; refine (in_any _ _ _ _).mono ?_; rintro e _ ⟨rfl, rfl⟩; rw [e4]))
      go_ret
      refine ⟨ret_i ?_, Hb.out⟩
      rw [← HR.out]
      unfold valueFault
      obtain h | h | h : k = 2 ∨ k = 3 ∨ k = 4 := by omega
      all_goals simp [h, ht]
  · have e4 : decide ((1 : Int) ≤ k ∧ k ≤ 4) = false := by simp; omega
    go_enter Tryd.func27, Tryd.ntmps27
    go_wp2_with (first | (go_at_call 24; refine (in_any _ _ _ _).mono ?_; rintro e _ ⟨rfl, rfl⟩; rw [e4]))
    go_ret
    refine ⟨ret_i ?_, Hb.out⟩
    rw [← HR.out]
    unfold valueFault
    rw [if_neg (by omega), if_neg (by omega), if_neg (by omega), if_neg (by omega)]
set_option maxHeartbeats 1000000 in
set_option maxRecDepth 100000 in
theorem valueFault_text (n : Int) (t : ByteArray) (w : World) (hT : Tabs w) :
    Calls Tryd.prog 27 #[.agg #[.int .i64 1, .string t, .int .i64 n]] w fun e w' => e = .returned (.int .i64 (valueFault 1 t n)) ∧ Below w.heap.size w w' := by
  have HT := Lib.hid hT
  clear hT
  obtain ⟨R, HR⟩ : ∃ R, Hid (valueFault 1 t n = R) := ⟨_, Lib.hid rfl⟩
  rw [HR.out]
  have Hb : Hid (Below w.heap.size w (w.alloc (.cells #[.int .i64 1, .string t, .int .i64 n] 49))) := (Below.refl _ _).alloc (Nat.le_refl _) _
  by_cases hn : n = 0
  · subst hn
    by_cases h200 : 200 < t.size
    · go_enter Tryd.func27, Tryd.ntmps27
      go_wp2_with (first | (go_at_call 24; refine (in_any _ _ _ _).mono ?_; rintro e _ ⟨rfl, rfl⟩))
      go_ret
      refine ⟨ret_i ?_, Hb.out⟩
      rw [← HR.out, valueFault, if_pos rfl, if_neg (show ¬ (0 : Int) ≠ 0 by simp), textFault, if_pos h200]
    · have HR2 : Hid ((if (pts t.size t).all ptOk then (0 : Int) else 3) = R) := by
        show _ = _
        rw [← HR.out, valueFault, if_pos rfl, if_neg (show ¬ (0 : Int) ≠ 0 by simp), textFault_pts t (by omega)]
      clear HR
      have Hp : Hid (∀ w', Tabs w' → Calls Tryd.prog 46 #[.string t] w' (GivesI64 (pts t.size t) w')) := fun w' h => refpoints_any t w' (by omega) h
      have hpl := pts_len t.size t (Nat.le_refl _)
      generalize pts t.size t = ps at *
      go_enter Tryd.func27, Tryd.ntmps27
      go_wp2_with (first | (go_at_call 24; refine (in_any _ _ _ _).mono ?_; rintro e _ ⟨rfl, rfl⟩))
      refine (Hp.out _ (Utf8Tabs_below HT.out Hb.out)).mono ?_
      rintro e w1 ⟨v, rfl, hov, hl1⟩
      have Hb1 : Hid (Below w.heap.size w w1) := Hb.out.trans (hl1.mono (by simp))
      have Hrd := Lib.hid (Rd.ofOwn hov)
      clear hov hl1 Hb Hp HT
      obtain ⟨A, c, rfl⟩ : ∃ A c, v = .slice A ps.length c := by
        rcases Hrd.out.2 with ⟨x, c, rfl, h0⟩ | ⟨blk, off, cap, rfl, _⟩
        · exact ⟨x, c, by rw [h0]⟩
        · exact ⟨_, cap, rfl⟩
      have Ha : Hid (∀ i, i < ps.length → ∃ blk off x, A = some ⟨blk, off, none⟩ ∧ ps[i]? = some x ∧ w1.cell? ⟨blk, off + i, none⟩ = some (.int .i64 x)) := by
        intro i hi
        rcases Hrd.out.2 with ⟨x, c, he, h0⟩ | ⟨blk, off, cap, he, hk, hc⟩
        · omega
        · cases he
          exact ⟨blk, off, _, rfl, List.getElem?_eq_getElem hi, hc i _ (by simp [hi])⟩
      clear Hrd
      go_wp2_with fail
      go_loopw [27] (fun i wr => ∃ k : Nat, k ≤ ps.length ∧ i = .int .i64 k ∧ wr = w1 ∧ (if (ps.drop k).all ptOk then (0 : Int) else 3) = R) (fun i _ => ps.length - (intOf i).toNat)
      case atStart => exact ⟨0, Nat.zero_le _, rfl, rfl, HR2.out⟩
      case round =>
        obtain ⟨k, hk, rfl, rfl, hr⟩ := hrel
        have Hr := Lib.hid hr
        clear hr HR2
        by_cases hlt : k < ps.length
        · obtain ⟨blk, off, x, rfl, hx, hc⟩ := Ha.out k hlt
          have Hs : Hid ((if (ptOk x && (ps.drop (k + 1)).all ptOk) then (0 : Int) else 3) = R) := by
            show _ = _
            rw [← Hr.out, List.drop_eq_getElem_cons hlt, List.all_cons]
            have : ps[k] = x := by simpa [List.getElem?_eq_getElem hlt] using hx
            rw [this]
          clear hx Hr
          by_cases hp : ptOk x = true
          · have h1 : decide (x < 32) = false ∧ (x == 127) = false := by simpa [ptOk] using hp
            have h2 := h1.1
            have h3 := h1.2
            rw [hp] at Hs
            clear h1 hp
            go_wp2_with fail
            go_roundw
            case rel => exact ⟨k + 1, by omega, by go_num, trivial, by rw [← Hs.out]; simp⟩
            case measure => simp [intOf]; omega
          · have hp' : ptOk x = false := by simpa using hp
            rw [hp'] at Hs
            have h1 : x < 32 ∨ x = 127 := by
              have : 32 ≤ x → x = 127 := by simpa [ptOk] using hp'
              omega
            clear hp hp'
            by_cases h2 : x < 32
            · clear h1
              go_wp2_with fail
              go_ret
              exact ⟨ret_i (by rw [← Hs.out]; simp), Hb1.out⟩
            · have h3 : (x == 127) = true := by simp; omega
              clear h1
              go_wp2_with fail
              go_ret
              exact ⟨ret_i (by rw [← Hs.out]; simp), Hb1.out⟩
        · go_wp2_with fail
          go_ret
          exact ⟨ret_i (by rw [← Hr.out, List.drop_eq_nil_of_le (by omega)]; simp), Hb1.out⟩
  · have hn' : (n != 0) = true := by simpa using hn
    go_enter Tryd.func27, Tryd.ntmps27
    go_wp2_with (first | (go_at_call 24; refine (in_any _ _ _ _).mono ?_; rintro e _ ⟨rfl, rfl⟩))
    go_ret
    refine ⟨ret_i ?_, Hb.out⟩
    rw [← HR.out, valueFault, if_pos rfl, if_pos hn]
theorem refValue_any (k n : Int) (t : ByteArray) (w : World) (hT : Tabs w) :
    Calls Tryd.prog 27 #[.agg #[.int .i64 k, .string t, .int .i64 n]] w fun e w' => e = .returned (.int .i64 (valueFault k t n)) ∧ Below w.heap.size w w' := by
  by_cases hk : k = 1
  · subst hk; exact valueFault_text n t w hT
  · exact valueFault_num k n t w hk
theorem leS_nil (a : ByteArray) (h : L.isKey a = true) : leS a ⟨#[]⟩ = false := by
  have hz : 1 ≤ a.size := by
    unfold L.isKey at h
    simp only [Bool.and_eq_true, decide_eq_true_eq] at h
    exact h.1.1.1
  have h1 := (str_ne hz).1
  have h2 := (str_nil (t := ⟨#[]⟩) rfl).1
  unfold leS
  rw [h2]
  generalize a.toList = l at h1
  cases l with
  | nil => exact absurd rfl h1
  | cons x t => rfl
def lastNm (xs : List Fld) (k : Nat) : ByteArray := if k = 0 then ⟨#[]⟩ else ((xs[k - 1]?).map Fld.name).getD ⟨#[]⟩
theorem last_le (xs : List Fld) (k : Nat) (f : Fld) (hk : k < xs.length) (h : L.isKey f.name = true) : (prevAt xs k).any (fun p => leS f.name p) = leS f.name (lastNm xs k) := by
  unfold prevAt lastNm
  by_cases h0 : k = 0
  · rw [if_pos h0, if_pos h0, leS_nil _ h]; rfl
  · rw [if_neg h0, if_neg h0, List.getElem?_eq_getElem (by omega)]; rfl
theorem lastNm_succ (xs : List Fld) (k : Nat) (f : Fld) (h : xs[k]? = some f) : lastNm xs (k + 1) = f.name := by
  unfold lastNm; rw [if_neg (by omega), Nat.add_sub_cancel, h]; rfl
theorem prevAt_succ (xs : List Fld) (k : Nat) (f : Fld) (h : xs[k]? = some f) : prevAt xs (k + 1) = some f.name := by
  unfold prevAt; rw [if_neg (by omega), Nat.add_sub_cancel, h]; rfl
set_option maxHeartbeats 4000000 in
set_option maxRecDepth 100000 in
theorem refFields_any (N : Nat → Prop) (A : Option Addr) (xs : List Fld) (c : Nat) (w : World) (hS : Sl rFld N w A xs) (hsm : ∀ f ∈ xs, f.small) (hn : xs.length ≤ 1000000000) (hT : Tabs w) :
    Calls Tryd.prog 11 #[.slice A xs.length c] w fun e w' => e = .returned (.int .i64 (fldsFault xs)) ∧ Below w.heap.size w w' := by
  have HT := Lib.hid hT
  have HS := Lib.hid hS
  have Hsm := Lib.hid hsm
  clear hT hS hsm
  obtain ⟨R, HR⟩ : ∃ R, Hid (fldsFault xs = R) := ⟨_, Lib.hid rfl⟩
  rw [HR.out]
  by_cases h30 : 30 < xs.length
  · go_enter Tryd.func11, Tryd.ntmps11
    go_wp2_with fail
    go_ret
    exact ⟨ret_i (by rw [← HR.out]; simp [fldsFault, h30]), Below.refl _ _⟩
  · have HR2 : Hid (fldsGo none xs = R) := by show _ = _; rw [← HR.out, fldsFault, if_neg h30]
    clear HR
    go_enter Tryd.func11, Tryd.ntmps11
    go_wp2_with fail
    go_loopw [3, 12] (fun v i wr => ∃ k : Nat, k ≤ xs.length ∧ i = .int .i64 k ∧ v = .string (lastNm xs k) ∧ fldsGo (prevAt xs k) (xs.drop k) = R ∧ Below w.heap.size w wr) (fun _ i _ => xs.length - (intOf i).toNat)
    case atStart => exact ⟨0, Nat.zero_le _, rfl, rfl, HR2.out, Below.refl _ _⟩
    case round =>
      clear HR2
      obtain ⟨k, hk, rfl, rfl, hr, hbl⟩ := hrel
      have Hr := Lib.hid hr
      clear hr
      by_cases hlt : k < xs.length
      · obtain ⟨f, hf⟩ : ∃ f, xs[k]? = some f := ⟨_, List.getElem?_eq_getElem hlt⟩
        obtain ⟨blk, off, rfl, hblk, c0, c1, c2, c3⟩ := HS.out.fld k f hf
        have d0 := (hbl.cell (p := ⟨blk, off + k * 4, none⟩) hblk).trans c0
        have d1 := (hbl.cell (p := ⟨blk, off + k * 4 + 1, none⟩) hblk).trans c1
        have d2 := (hbl.cell (p := ⟨blk, off + k * 4 + 2, none⟩) hblk).trans c2
        have d3 := (hbl.cell (p := ⟨blk, off + k * 4 + 3, none⟩) hblk).trans c3
        have hfs1 : f.name.size ≤ 1000000000 := And.left (Hsm.out f (List.mem_of_getElem? hf))
        have Hf := Lib.hid hf
        clear c0 c1 c2 c3 hf
        have Hstep : Hid (fldsGo (prevAt xs k) (f :: xs.drop (k + 1)) = R) := by
          show _ = _
          rw [← Hr.out, List.drop_eq_getElem_cons hlt]
          have : xs[k] = f := by simpa [List.getElem?_eq_getElem hlt] using Hf.out
          rw [this]
        clear Hr
        have Hcv : Hid (∀ w', Below w.heap.size w w' → Calls Tryd.prog 27 #[.agg #[.int .i64 f.kind, .string f.text, .int .i64 f.num]] w' fun e w'' => e = .returned (.int .i64 (valueFault f.kind f.text f.num)) ∧ Below w'.heap.size w' w'') := fun w' h => refValue_any _ _ _ w' (Utf8Tabs_below HT.out h)
        have Hb1 : Hid (Below w.heap.size w (wr.alloc (.cells #[.string f.name, .int .i64 f.kind, .string f.text, .int .i64 f.num] 52))) := hbl.alloc hbl.size _
        have hsz := hbl.size
        by_cases h1 : L.isKey f.name = true
        · have HL := Lib.hid (last_le xs k f hlt h1)
          generalize lastNm xs k = last at *
          go_wp2_with fail
          refine (Key_any f.name _ hfs1).mono ?_
          rintro e w0 ⟨rfl, hl_w0⟩
          have hz_w0 := hl_w0.size
          rw [h1]
          have Hb2 : Hid (Below w.heap.size w w0) := Hb1.out.trans (hl_w0.mono (by simp; omega))
          have q1 : ∀ j : Nat, w0.cell? ⟨wr.heap.size, j, none⟩ = (wr.alloc (.cells #[.string f.name, .int .i64 f.kind, .string f.text, .int .i64 f.num] 52)).cell? ⟨wr.heap.size, j, none⟩ := fun j => hl_w0.cell (p := ⟨wr.heap.size, j, none⟩) (by simp)
          have q2 : w0.cell? ⟨wr.heap.size, 0, none⟩ = some (.string f.name) := by rw [q1, World.cell?_alloc_at _ _ _ _ rfl]; rfl
          have q3 : w0.cell? ⟨wr.heap.size, 1, none⟩ = some (.int .i64 f.kind) := by rw [q1, World.cell?_alloc_at _ _ _ _ rfl]; rfl
          have q4 : w0.cell? ⟨wr.heap.size, 2, none⟩ = some (.string f.text) := by rw [q1, World.cell?_alloc_at _ _ _ _ rfl]; rfl
          have q5 : w0.cell? ⟨wr.heap.size, 3, none⟩ = some (.int .i64 f.num) := by rw [q1, World.cell?_alloc_at _ _ _ _ rfl]; rfl
          have hz0 : wr.heap.size < w0.heap.size := by simp at hz_w0; omega
          clear q1 d0 d1 d2 d3 hl_w0 hz_w0
          by_cases h2 : valueFault f.kind f.text f.num = 0
          · rw [h2] at Hcv
            go_wp2_with fail
            refine (Hcv.out _ Hb2.out).mono ?_
            rintro e w1 ⟨rfl, hl_w1⟩
            have hz_w1 := hl_w1.size
            have r2 : w1.cell? ⟨wr.heap.size, 0, none⟩ = some (.string f.name) := (hl_w1.cell (p := ⟨wr.heap.size, 0, none⟩) hz0).trans q2
            clear q2 q3 q4 q5 Hcv
            have Hb3 : Hid (Below w.heap.size w w1) := Hb2.out.trans (hl_w1.mono (by omega))
            go_wp2_with fail
            · have hle : leS f.name last = true := by
                have h : Op.bytesLess f.name.toList last.toList = true ∨ (f.name.toList == last.toList) = true := by assumption
                unfold leS; rw [Bool.or_eq_true]; exact h
              go_ret
              exact ⟨ret_i (by rw [← Hstep.out, fldsGo, h1, h2, HL.out, hle]; simp), Hb3.out⟩
            · have hle : Hid (leS f.name last = false) := by
                have h : Op.bytesLess f.name.toList last.toList = false ∧ (f.name.toList == last.toList) = false := by assumption
                show leS _ _ = _; unfold leS; rw [h.1, h.2]; rfl
              go_roundw
              case rel => exact ⟨k + 1, by omega, by go_num, by rw [lastNm_succ xs k f Hf.out], by rw [← Hstep.out, fldsGo, h1, h2, HL.out, hle.out, prevAt_succ xs k f Hf.out]; simp, Hb3.out⟩
              case measure => simp [intOf]; omega
          · go_wp2_with fail
            refine (Hcv.out _ Hb2.out).mono ?_
            rintro e w1 ⟨rfl, hl_w1⟩
            have hz_w1 := hl_w1.size
            go_wp2_with fail
            go_ret
            exact ⟨ret_i (by rw [← Hstep.out, fldsGo, h1]; simp [h2]), Hb2.out.trans (hl_w1.mono (by omega))⟩
        · have h1 : L.isKey f.name = false := by simpa using h1
          go_wp2_with fail
          refine (Key_any f.name _ hfs1).mono ?_
          rintro e w0 ⟨rfl, hl_w0⟩
          have hz_w0 := hl_w0.size
          rw [h1]
          go_wp2_with fail
          go_ret
          exact ⟨ret_i (by rw [← Hstep.out, fldsGo, h1]; simp), Hb1.out.trans (hl_w0.mono (by simp; omega))⟩
      · go_wp2_with fail
        go_ret
        exact ⟨ret_i (by rw [← Hr.out, List.drop_eq_nil_of_le (by omega)]; rfl), hbl⟩
end Go.Proofs.YtmlpkejeglpciaaDoor
