/- Several texts in one: GenEvt, GenScm, GenEvF. -/
import Derived.Test.YthlcdepjmoddnaaGreatDoorPackE
import Derived.Test.YthlcdepjmoddnaaGreatDoorPackG
import Derived.Test.YthlcdepjmoddnaaGreatDoorPackZ
import Derived.Test.YthlcdepjmoddnaaGreatDoorPackM
import Derived.Test.YthlcdepjmoddnaaGreatDoorPackB
import Derived.Deep.DeepCutAuto
/- What the generator Event makes. -/
namespace Go.Proofs.YthlcdepjmoddnaaGreatDoor
open Go.RowKit
/-- what handmake.eventNames holds -/
def ENames (w : World) : Prop := ∀ k, k < 4 → ∃ s : ByteArray, s.size ≤ 10 ∧ w.cell? ⟨0, k, none⟩ = some (.string s)
theorem ENames.lt {w : World} (h : ENames w) : 0 < w.heap.size := by
  obtain ⟨s, _, h⟩ := h 0 (by omega)
  exact World.block_lt_of_cell? w _ h
theorem ENames.keep {b : Nat} {w w' : World} (h : ENames w) (k : SK b w w') (hb : 0 ≠ b) : ENames w' := fun i hi => by
  obtain ⟨s, hs, hc⟩ := h i hi
  exact ⟨s, hs, (World.cell?_of_block (k.block _ h.lt hb)).trans hc⟩
structure EvSm (x : Evt) : Prop where
  id : x.id.size ≤ 1000
  nm : x.name.size ≤ 1000
  tx : x.text.size ≤ 10000
  fl : x.flds.length ≤ 40
  fs : ∀ f ∈ x.flds, f.tiny
theorem EvSm.ok {x : Evt} (h : EvSm x) : EvtOk x := ⟨Nat.le_trans h.id (by decide), Nat.le_trans h.nm (by decide), Nat.le_trans h.tx (by decide), Nat.le_trans h.fl (by decide), fun f hf => by
  obtain ⟨h1, h2⟩ := h.fs f hf
  exact ⟨by omega, by omega⟩⟩
def DrawsEvt (b m : Nat) (w : World) (e : Ending) (w' : World) : Prop := ∃ (x : Evt) (A : Option Addr) (c : Nat), e = .returned (.agg (evCs x A c)) ∧ EvSm x ∧ St b m w w' [.sl rFld A x.flds]
abbrev ezCs : Array Value := #[.string ⟨#[]⟩, .string ⟨#[]⟩, .int .i64 0, .int .i64 0, .string ⟨#[]⟩, .slice none 0 0]
theorem loadEv {w : World} {X : Nat} {a b c d e f : Value} (h : LV w X #[a, b, c, d, e, f] 32) : (loadVar 32 ⟨X, 0, none⟩).run Tryz.prog w = .ok (.agg #[a, b, c, d, e, f]) w := by
  have c0 := h.all
  go_simp
def evFact (b B : Nat) (id : ByteArray) (at' : Int) (i : Nat) (v : Value) (w : World) : Prop :=
  match i with
  | 2 => IsI 0 3 v
  | 3 => ∃ k : Nat, k < 4 ∧ v = .pointer (some ⟨0, k, none⟩)
  | 4 => IsS 10 v
  | 7 => IsI 0 3 v
  | 8 => ∃ k : Nat, k < 4 ∧ v = .pointer (some ⟨2, k * 2, none⟩)
  | 9 => ∃ (k : Int) (t : ByteArray), v = .agg #[.int .i64 k, .string t] ∧ t.size ≤ 100
  | 11 => ∃ xs : List Fld, Own rFld (Off b) B 122 w v xs ∧ xs.length ≤ 7 ∧ ∀ f ∈ xs, f.tiny
  | 12 => ∃ (nm : ByteArray) (k : Int) (t : ByteArray) (xs : List Fld) (A : Option Addr) (c : Nat), v = .agg (evCs ⟨id, nm, at', k, t, xs⟩ A c) ∧ nm.size ≤ 10 ∧ t.size ≤ 100 ∧ Own rFld (Off b) B 122 w (.slice A xs.length c) xs ∧ xs.length ≤ 7 ∧ ∀ f ∈ xs, f.tiny
  | 13 => IsNew B ezCs 32 v w
  | _ => True
set_option maxHeartbeats 8000000 in
set_option maxRecDepth 100000 in
theorem event_any (b m : Nat) (id : ByteArray) (at' : Int) (w : World) (hs : Strm b m w) (hm : m ≤ 100000000) (hid : id.size ≤ 1000) (hN : Names w) (hNb : 1 ≠ b) (hE : ENames w) (hEb : 0 ≠ b) (hP : Pool w) (hPb : 2 ≠ b) :
    Calls Tryz.prog 70 #[.pointer (some ⟨b, 0, none⟩), .string id, .int .i64 at'] w (DrawsEvt b (m + 1100) w) := by
  have S := (St.start hs).new' ezCs 32
  replace S : St b m w (w.alloc (.cells ezCs 32)) [.loc w.heap.size ezCs 32] := S
  have HN := Lib.hid hN
  have HE := Lib.hid hE
  have HP := Lib.hid hP
  clear hs hN hE hP
  obtain ⟨R, hR⟩ : ∃ R, R = w.heap.size := ⟨_, rfl⟩
  rw [← hR] at S
  go_enter Tryz.func70, Tryz.ntmps70
  go_upto_region 1 with fail
  generalize w.alloc (.cells ezCs 32) = w1 at *
  rw [← hR]
  clear hR
  refine wp_region_mixG 14 (fun _ => True) [.q 0, .q 1, .q 5, .q 6, .q 10, .f [2, 3, 4, 7, 8, 9, 11, 12, 13], .e 14] (by kernel_rfl) (by kernel_rfl) (fun _ _ => trivial) (fun KK hKK wd hd => ?_)
  replace S := S.below (hd.below _)
  have hbd : b < wd.heap.size := Nat.lt_of_lt_of_le S.b0 S.g.size
  clear hd
  repeat (refine mixG_p rfl (fun K hK => ?_); go_simp; (try go_bits); (try simp (disch := omega) only [if_pos]); (try simp (disch := omega) only [if_neg]); (try simp (disch := omega) only [dif_pos]); (try simp (disch := omega) only [dif_neg]); (try go_simp); (refine hK _ ?_; clear hK K))
  refine free_plan [(2, 10, []), (3, 11, [(2, 10)]), (4, 12, [(3, 11)]), (7, 15, [(2, 10)]), (8, 16, [(7, 15)]), (9, 17, [(8, 16)]), (11, 19, [(7, 15)]), (12, 20, [(4, 12), (9, 17), (11, 19)]), (13, 7, [])] rfl (by kernel_rfl) (fun c w' => G b (m + 100 * c) wd w') (SK b) (evFact b wd.heap.size id at') (G.start S.g.s) (fun _ _ _ => trivial) ?_ (by rfl) ?_ ?_
  · refine all_cons (fun _ _ _ _ h => h) (all_cons (fun _ _ _ _ h => h) (all_cons (fun _ _ _ _ h => h) (all_cons (fun _ _ _ _ h => h) (all_cons (fun _ _ _ _ h => h) (all_cons (fun _ _ _ _ h => h) (all_cons (fun v _ _ k h => ?_) (all_cons (fun v _ _ k h => ?_) (all_cons (fun v _ _ k h => IsNew.keep h k hbd) all_nil))))))))
    · obtain ⟨xs, h1, h2, h3⟩ := h
      exact ⟨xs, h1.stepG k hbd, h2, h3⟩
    · obtain ⟨nm, k', t, xs, A, c, h0, h1, h2, h3, h4, h5⟩ := h
      exact ⟨nm, k', t, xs, A, c, h0, h1, h2, h3.stepG k hbd, h4, h5⟩
  · refine all_cons ?_ (all_cons ?_ (all_cons ?_ (all_cons ?_ (all_cons ?_ (all_cons ?_ (all_cons ?_ (all_cons ?_ (all_cons ?_ all_nil))))))))
    all_goals (intro o ho c ν w2 hc hinv hp; cases ho; simp only [fillD, List.foldl_cons, List.foldl_nil]; simp only [List.length_cons, List.length_nil] at hc)
    · go_wp2_with fail
      ((with_reducible refine (next_any b _ _ _ hinv.s (by omega) (by omega) (by omega)).mono ?_); rintro e w3 ⟨r, r_lo, r_hi, rfl, hk_w3, hs_w3⟩)
      go_wp2_with fail
      refine ⟨_, rfl, hk_w3, (hinv.step hk_w3 hs_w3).mono (by omega), ?_⟩
      exact ⟨r, rfl, by omega, by omega⟩
    · obtain ⟨z, e1, z1, z2⟩ := (hp (2, 10) (by simp) : IsI 0 3 (ν 2))
      obtain ⟨q, rfl⟩ := Int.eq_ofNat_of_zero_le z1
      simp only [e1]
      go_wp2_with fail
      first | exact ⟨_, rfl, SK.refl _ _, hinv.mono (by omega), q, by omega, rfl⟩ | exact ⟨SK.refl _ _, hinv.mono (by omega), q, by omega, rfl⟩
    · obtain ⟨q, hq, e1⟩ := (hp (3, 11) (by simp) : ∃ k : Nat, k < 4 ∧ ν 3 = .pointer (some ⟨0, k, none⟩))
      obtain ⟨s, hs, hc⟩ := ((HE.out.keep S.g.k hEb).keep hinv.k hEb) q hq
      simp only [e1]
      go_wp2_with fail
      first | exact ⟨_, rfl, SK.refl _ _, hinv.mono (by omega), s, rfl, hs⟩ | exact ⟨SK.refl _ _, hinv.mono (by omega), s, rfl, hs⟩
    · go_wp2_with fail
      ((with_reducible refine (next_any b _ _ _ hinv.s (by omega) (by omega) (by omega)).mono ?_); rintro e w3 ⟨r, r_lo, r_hi, rfl, hk_w3, hs_w3⟩)
      go_wp2_with fail
      refine ⟨_, rfl, hk_w3, (hinv.step hk_w3 hs_w3).mono (by omega), ?_⟩
      exact ⟨r, rfl, by omega, by omega⟩
    · obtain ⟨z, e1, z1, z2⟩ := (hp (7, 15) (by simp) : IsI 0 3 (ν 7))
      obtain ⟨q, rfl⟩ := Int.eq_ofNat_of_zero_le z1
      simp only [e1]
      go_wp2_with fail
      first | exact ⟨_, rfl, SK.refl _ _, hinv.mono (by omega), q, by omega, rfl⟩ | exact ⟨SK.refl _ _, hinv.mono (by omega), q, by omega, rfl⟩
    · obtain ⟨q, hq, e1⟩ := (hp (8, 16) (by simp) : ∃ k : Nat, k < 4 ∧ ν 8 = .pointer (some ⟨2, k * 2, none⟩))
      obtain ⟨k, t, ht, hc0, hc1⟩ := ((HP.out.keep S.g.k hPb).keep hinv.k hPb) q (by omega)
      simp only [e1]
      go_wp2_with fail
      first | exact ⟨_, rfl, SK.refl _ _, hinv.mono (by omega), k, t, rfl, ht⟩ | exact ⟨SK.refl _ _, hinv.mono (by omega), k, t, rfl, ht⟩
    · go_wp2_with fail
      ((with_reducible refine (fields_any b _ 2 w2 hinv.s (by omega) ((HN.out.keep S.g.k hNb).keep hinv.k hNb)).mono ?_); rintro e w3 ⟨v, xs, rfl, ho, hl, ht, hg⟩)
      go_wp2_with fail
      exact ⟨_, rfl, hg.k, (hinv.step hg.k hg.s).mono (by omega), xs, ho.base hinv.size, hl, ht⟩
    · obtain ⟨s, e1, h1⟩ := (hp (4, 12) (by simp) : IsS 10 (ν 4))
      obtain ⟨k, t, e2, h2⟩ := (hp (9, 17) (by simp) : ∃ (k : Int) (t : ByteArray), ν 9 = .agg #[.int .i64 k, .string t] ∧ t.size ≤ 100)
      obtain ⟨xs, h3, h4, h5⟩ := (hp (11, 19) (by simp) : ∃ xs : List Fld, Own rFld (Off b) wd.heap.size 122 w2 (ν 11) xs ∧ xs.length ≤ 7 ∧ ∀ f ∈ xs, f.tiny)
      obtain ⟨A, cc, e3⟩ := h3.len
      rw [e3] at h3
      simp only [e1, e2, e3]
      go_wp2_with fail
      first | exact ⟨_, rfl, SK.refl _ _, hinv.mono (by omega), s, k, t, xs, A, cc, rfl, h1, h2, h3, h4, h5⟩ | exact ⟨SK.refl _ _, hinv.mono (by omega), s, k, t, xs, A, cc, rfl, h1, h2, h3, h4, h5⟩
    · go_wp2_with fail
      first | exact ⟨_, rfl, (SK.refl _ _).alloc _, (hinv.alloc _).mono (by omega), w2.heap.size, rfl, LV.new _ _ _ _ rfl, hinv.size⟩ | exact ⟨(SK.refl _ _).alloc _, (hinv.alloc _).mono (by omega), w2.heap.size, rfl, LV.new _ _ _ _ rfl, hinv.size⟩
  · intro ν w2 hinv hf
    obtain ⟨nm, k, t, xs, A, c, e12, hnm, ht, ho, hxl, hxt⟩ := (hf (12, 20, [(4, 12), (9, 17), (11, 19)]) (by simp) : ∃ (nm : ByteArray) (k : Int) (t : ByteArray) (xs : List Fld) (A : Option Addr) (c : Nat), ν 12 = .agg (evCs ⟨id, nm, at', k, t, xs⟩ A c) ∧ nm.size ≤ 10 ∧ t.size ≤ 100 ∧ Own rFld (Off b) wd.heap.size 122 w2 (.slice A xs.length c) xs ∧ xs.length ≤ 7 ∧ ∀ f ∈ xs, f.tiny)
    obtain ⟨X, e13, lvX, hX⟩ := (hf (13, 7, []) (by simp) : IsNew wd.heap.size ezCs 32 (ν 13) w2)
    have o1 : ∀ M, Own rFld M wd.heap.size 122 w2 (.slice A xs.length c) xs := fun M => ho.flatM flatFld
    replace S := S.callN hinv [.loc X ezCs 32, .own rFld wd.heap.size 122 (.slice A xs.length c) xs]
      (all_cons lvX (all_cons (o1 _) all_nil)) (all_cons (fun k e => by cases e; exact hX) (all_cons (fun k e => (ho.lt k e).1) all_nil))
      (List.pairwise_cons.2 ⟨all_cons (fun k e1 e2 => by cases e1; exact (o1 (fun _ => True)).blkTag lvX (by decide) _ e2 rfl) all_nil, List.pairwise_cons.2 ⟨all_nil, List.Pairwise.nil⟩⟩)
    obtain ⟨A2, c2, e2, S2⟩ := S.frz 2 rfl
    cases e2
    clear S
    have S : St b (m + 900) w w2 [.loc R ezCs 32, .loc X ezCs 32, .sl rFld A xs] := S2.mono (by show _ ≤ _; simp)
    have Hxt := Lib.hid hxt
    simp only [fillD, List.map_cons, List.map_nil, List.foldl_cons, List.foldl_nil, e12, e13]
    clear hf hinv lvX e12 e13 ho o1 S2 hxt hX
    generalize ν 2 = q2
    generalize ν 3 = q3
    generalize ν 4 = q4
    generalize ν 7 = q7
    generalize ν 8 = q8
    generalize ν 9 = q9
    generalize ν 11 = q11
    have x0 := (S.lv 1 rfl).all
    refine mixG_l rfl rfl (fun K hK => ?_)
    go_wp2_with fail
    refine ⟨fun h => absurd rfl h, ?_⟩
    refine mixG_nil ?_
    simp only [Exit.then]
    refine hKK _ _ ?_
    have S2 : St b (m + 900) w ((((((w2.setCell ⟨X, 0, none⟩ (.string id)).setCell ⟨X, 1, none⟩ (.string nm)).setCell ⟨X, 2, none⟩ (.int .i64 at')).setCell ⟨X, 3, none⟩ (.int .i64 k)).setCell ⟨X, 4, none⟩ (.string t)).setCell ⟨X, 5, none⟩ (.slice A xs.length c)) [.loc R ezCs 32, .loc X (evCs ⟨id, nm, at', k, t, xs⟩ A c) 32, .sl rFld A xs] :=
      (((((S.set 1 0 (.string id) rfl).set 1 1 (.string nm) rfl).set 1 2 (.int .i64 at') rfl).set 1 3 (.int .i64 k) rfl).set 1 4 (.string t) rfl).set 1 5 (.slice A xs.length c) rfl
    clear x0 S
    generalize (((((w2.setCell ⟨X, 0, none⟩ (.string id)).setCell ⟨X, 1, none⟩ (.string nm)).setCell ⟨X, 2, none⟩ (.int .i64 at')).setCell ⟨X, 3, none⟩ (.int .i64 k)).setCell ⟨X, 4, none⟩ (.string t)).setCell ⟨X, 5, none⟩ (.slice A xs.length c) = w3 at *
    have S := S2
    clear S2
    go_wp2_with fail
    ((with_reducible refine (flip_any b _ _ _ S.g.s (by omega) (by omega) (by omega)).mono ?_); rintro e w4 ⟨r4, rfl, hk_w4, hs_w4⟩)
    replace S := S.step hk_w4 hs_w4
    clear hk_w4 hs_w4
    cases r4
    · have y0 := (S.lv 0 rfl).all
      have y1 := (S.lv 1 rfl).all
      have S9 := (((((S.set 0 0 (.string (Evt.id ⟨id, nm, at', k, t, xs⟩)) rfl).set 0 1 (.string (Evt.name ⟨id, nm, at', k, t, xs⟩)) rfl).set 0 2 (.int .i64 (Evt.at' ⟨id, nm, at', k, t, xs⟩)) rfl).set 0 3 (.int .i64 (Evt.kind ⟨id, nm, at', k, t, xs⟩)) rfl).set 0 4 (.string (Evt.text ⟨id, nm, at', k, t, xs⟩)) rfl).set 0 5 (.slice A xs.length c) rfl
      go_wp2_with fail
      exact bodyPost_ret (results_cell1 rfl rfl (loadEv (S9.lv 0 rfl))) rfl ⟨⟨id, nm, at', k, t, xs⟩, A, c, rfl, ⟨hid, (by show nm.size ≤ 1000; omega), (by show t.size ≤ 10000; omega), (by show xs.length ≤ 40; omega), Hxt.out⟩, ((S9.del 1).del 0).mono (by omega)⟩
    · go_wp2_with fail
      ((with_reducible refine (next_any b _ _ _ S.g.s (by omega) (by omega) (by omega)).mono ?_); rintro e w5 ⟨r5, r5_lo, r5_hi, rfl, hk_w5, hs_w5⟩)
      replace S := S.step hk_w5 hs_w5
      clear hk_w5 hs_w5
      obtain rfl | rfl | rfl | rfl : r5 = 0 ∨ r5 = 1 ∨ r5 = 2 ∨ r5 = 3 := by omega
      · go_wp2_with fail
        ((with_reducible refine (one_le b _ _ _ (10) S.g.s (by first | rfl | simp) (by first | rfl | simp) (strsLe_of (by decide)) (by simp) (by simp) (by omega)).mono ?_); rintro e w6 ⟨t6, t6_le, rfl, hk_w6, hs_w6⟩)
        replace S := S.step hk_w6 hs_w6
        clear hk_w6 hs_w6
        have x0 := (S.lv 1 rfl).all
        have S2 : St b (m + 900 + 1 + 1 + 1) w (w6.setCell ⟨X, 0, none⟩ (.string t6)) [.loc R ezCs 32, .loc X (evCs ⟨t6, nm, at', k, t, xs⟩ A c) 32, .sl rFld A xs] := S.set 1 0 (.string t6) rfl
        go_upto_region 11 with fail
        clear x0 S
        generalize w6.setCell ⟨X, 0, none⟩ (.string t6) = w7 at *
        have S := S2
        clear S2
        have y0 := (S.lv 0 rfl).all
        have y1 := (S.lv 1 rfl).all
        have S9 := (((((S.set 0 0 (.string (Evt.id ⟨t6, nm, at', k, t, xs⟩)) rfl).set 0 1 (.string (Evt.name ⟨t6, nm, at', k, t, xs⟩)) rfl).set 0 2 (.int .i64 (Evt.at' ⟨t6, nm, at', k, t, xs⟩)) rfl).set 0 3 (.int .i64 (Evt.kind ⟨t6, nm, at', k, t, xs⟩)) rfl).set 0 4 (.string (Evt.text ⟨t6, nm, at', k, t, xs⟩)) rfl).set 0 5 (.slice A xs.length c) rfl
        go_wp2_with fail
        exact bodyPost_ret (results_cell1 rfl rfl (loadEv (S9.lv 0 rfl))) rfl ⟨⟨t6, nm, at', k, t, xs⟩, A, c, rfl, ⟨(by show t6.size ≤ 1000; omega), (by show nm.size ≤ 1000; omega), (by show t.size ≤ 10000; omega), (by show xs.length ≤ 40; omega), Hxt.out⟩, ((S9.del 1).del 0).mono (by omega)⟩
      · go_wp2_with fail
        ((with_reducible refine (one_le b _ _ _ (10) S.g.s (by first | rfl | simp) (by first | rfl | simp) (strsLe_of (by decide)) (by simp) (by simp) (by omega)).mono ?_); rintro e w6 ⟨t6, t6_le, rfl, hk_w6, hs_w6⟩)
        replace S := S.step hk_w6 hs_w6
        clear hk_w6 hs_w6
        have x0 := (S.lv 1 rfl).all
        have S2 : St b (m + 900 + 1 + 1 + 1) w (w6.setCell ⟨X, 1, none⟩ (.string t6)) [.loc R ezCs 32, .loc X (evCs ⟨id, t6, at', k, t, xs⟩ A c) 32, .sl rFld A xs] := S.set 1 1 (.string t6) rfl
        go_upto_region 11 with fail
        clear x0 S
        generalize w6.setCell ⟨X, 1, none⟩ (.string t6) = w7 at *
        have S := S2
        clear S2
        have y0 := (S.lv 0 rfl).all
        have y1 := (S.lv 1 rfl).all
        have S9 := (((((S.set 0 0 (.string (Evt.id ⟨id, t6, at', k, t, xs⟩)) rfl).set 0 1 (.string (Evt.name ⟨id, t6, at', k, t, xs⟩)) rfl).set 0 2 (.int .i64 (Evt.at' ⟨id, t6, at', k, t, xs⟩)) rfl).set 0 3 (.int .i64 (Evt.kind ⟨id, t6, at', k, t, xs⟩)) rfl).set 0 4 (.string (Evt.text ⟨id, t6, at', k, t, xs⟩)) rfl).set 0 5 (.slice A xs.length c) rfl
        go_wp2_with fail
        exact bodyPost_ret (results_cell1 rfl rfl (loadEv (S9.lv 0 rfl))) rfl ⟨⟨id, t6, at', k, t, xs⟩, A, c, rfl, ⟨hid, (by show t6.size ≤ 1000; omega), (by show t.size ≤ 10000; omega), (by show xs.length ≤ 40; omega), Hxt.out⟩, ((S9.del 1).del 0).mono (by omega)⟩
      · go_wp2_with fail
        ((with_reducible refine (odd_any b _ _ _ _ S.g.s (by omega) (by omega) (by omega) (by omega)).mono ?_); rintro e w6 ⟨t6, t6_lo, t6_hi, rfl, hk_w6, hs_w6⟩)
        replace S := S.step hk_w6 hs_w6
        clear hk_w6 hs_w6
        have x0 := (S.lv 1 rfl).all
        have S2 : St b (m + 900 + 1 + 1 + 3) w (w6.setCell ⟨X, 2, none⟩ (.int .i64 t6)) [.loc R ezCs 32, .loc X (evCs ⟨id, nm, t6, k, t, xs⟩ A c) 32, .sl rFld A xs] := (S.set 1 2 (.int .i64 t6) rfl).mono (by omega)
        go_upto_region 11 with fail
        clear x0 S
        generalize w6.setCell ⟨X, 2, none⟩ (.int .i64 t6) = w7 at *
        have S := S2
        clear S2
        have y0 := (S.lv 0 rfl).all
        have y1 := (S.lv 1 rfl).all
        have S9 := (((((S.set 0 0 (.string (Evt.id ⟨id, nm, t6, k, t, xs⟩)) rfl).set 0 1 (.string (Evt.name ⟨id, nm, t6, k, t, xs⟩)) rfl).set 0 2 (.int .i64 (Evt.at' ⟨id, nm, t6, k, t, xs⟩)) rfl).set 0 3 (.int .i64 (Evt.kind ⟨id, nm, t6, k, t, xs⟩)) rfl).set 0 4 (.string (Evt.text ⟨id, nm, t6, k, t, xs⟩)) rfl).set 0 5 (.slice A xs.length c) rfl
        go_wp2_with fail
        exact bodyPost_ret (results_cell1 rfl rfl (loadEv (S9.lv 0 rfl))) rfl ⟨⟨id, nm, t6, k, t, xs⟩, A, c, rfl, ⟨hid, (by show nm.size ≤ 1000; omega), (by show t.size ≤ 10000; omega), (by show xs.length ≤ 40; omega), Hxt.out⟩, ((S9.del 1).del 0).mono (by omega)⟩
      · go_wp2_with fail
        ((with_reducible refine (spoiledId_any b _ _ S.g.s (by omega) (HP.out.keep S.g.k hPb) hPb).mono ?_); rintro e w6 ⟨k6, t6, ht6, rfl, hk6, hs6⟩)
        replace S := S.step hk6 hs6
        clear hk6 hs6
        have x0 := (S.lv 1 rfl).all
        have S2 : St b (m + 950) w ((w6.setCell ⟨X, 3, none⟩ (.int .i64 k6)).setCell ⟨X, 4, none⟩ (.string t6)) [.loc R ezCs 32, .loc X (evCs ⟨id, nm, at', k6, t6, xs⟩ A c) 32, .sl rFld A xs] := ((S.set 1 3 (.int .i64 k6) rfl).set 1 4 (.string t6) rfl).mono (by omega)
        go_upto_region 11 with fail
        clear x0 S
        generalize (w6.setCell ⟨X, 3, none⟩ (.int .i64 k6)).setCell ⟨X, 4, none⟩ (.string t6) = w7 at *
        have S := S2
        clear S2
        have y0 := (S.lv 0 rfl).all
        have y1 := (S.lv 1 rfl).all
        have S9 := (((((S.set 0 0 (.string (Evt.id ⟨id, nm, at', k6, t6, xs⟩)) rfl).set 0 1 (.string (Evt.name ⟨id, nm, at', k6, t6, xs⟩)) rfl).set 0 2 (.int .i64 (Evt.at' ⟨id, nm, at', k6, t6, xs⟩)) rfl).set 0 3 (.int .i64 (Evt.kind ⟨id, nm, at', k6, t6, xs⟩)) rfl).set 0 4 (.string (Evt.text ⟨id, nm, at', k6, t6, xs⟩)) rfl).set 0 5 (.slice A xs.length c) rfl
        go_wp2_with fail
        exact bodyPost_ret (results_cell1 rfl rfl (loadEv (S9.lv 0 rfl))) rfl ⟨⟨id, nm, at', k6, t6, xs⟩, A, c, rfl, ⟨hid, (by show nm.size ≤ 1000; omega), ht6, (by show xs.length ≤ 40; omega), Hxt.out⟩, ((S9.del 1).del 0).mono (by omega)⟩
end Go.Proofs.YthlcdepjmoddnaaGreatDoor

/- What the generator Schemas makes. -/
namespace Go.Proofs.YthlcdepjmoddnaaGreatDoor
open Go Go.RowKit
theorem flatNd : rNd.Flat Nd.cells := fun _ _ _ _ => Iff.rfl
theorem tyNd : STy 111 116 rNd.size 32 (.agg #[.string ⟨#[]⟩, .int .i64 0, .bool false]) := ⟨Tryz.underlying111, by kernel_rfl, rfl, by decide⟩
theorem tyScm : STy 26 113 rScm.size 40 (.agg #[.string ⟨#[]⟩, .slice none 0 0]) := ⟨Tryz.underlying26, by kernel_rfl, rfl, by decide⟩
theorem oneNd (n : Nd) : ∀ u ∈ n.cells, u.oneCell' = true := fun u hu => by
  simp only [Nd.cells, List.mem_cons, List.not_mem_nil, or_false] at hu
  rcases hu with rfl | rfl | rfl <;> rfl
theorem oneScm (s : ByteArray) (A : Option Addr) (n c : Nat) : ∀ u ∈ [Value.string s, Value.slice A n c], u.oneCell' = true := fun u hu => by
  simp only [List.mem_cons, List.not_mem_nil, or_false] at hu
  rcases hu with rfl | rfl <;> rfl
theorem rScm_mk {N : Nat → Prop} {w : World} {s : Scm} {A : Option Addr} {c : Nat} (h : Sl rNd N w A s.needs) : rScm.rel N w s [.string s.name, .slice A s.needs.length c] := ⟨Scm.cells s, [.slice A s.needs.length c], rfl, rfl, A, c, rfl, h⟩
structure ScmSm (l : List Scm) : Prop where
  len : l.length ≤ 10
  nm : ∀ s ∈ l, s.name.size ≤ 10
  nl : ∀ s ∈ l, s.needs.length ≤ 10
  nn : ∀ s ∈ l, ∀ n ∈ s.needs, n.name.size ≤ 100
theorem ScmSm.ok {l : List Scm} (h : ScmSm l) : ScmOk l := ⟨Nat.le_trans h.len (by decide), fun s hs => Nat.le_trans (h.nm s hs) (by decide), fun s hs => Nat.le_trans (h.nl s hs) (by decide), fun s hs n hn => Nat.le_trans (h.nn s hs n hn) (by decide)⟩
theorem ScmSm.snoc {l : List Scm} {nm : ByteArray} {ns : List Nd} (h : ScmSm l) (hl : l.length ≤ 9) (h1 : nm.size ≤ 10) (h2 : ns.length ≤ 10) (h3 : ∀ n ∈ ns, n.name.size ≤ 100) : ScmSm (l ++ [⟨nm, ns⟩]) := by
  refine ⟨by simp; omega, fun s hs => ?_, fun s hs => ?_, fun s hs => ?_⟩
  all_goals
    rcases List.mem_append.1 hs with hs | hs
  · exact h.nm s hs
  · rw [List.mem_singleton.1 hs]; exact h1
  · exact h.nl s hs
  · rw [List.mem_singleton.1 hs]; exact h2
  · exact h.nn s hs
  · rw [List.mem_singleton.1 hs]; exact h3
def DrawsScms (b m : Nat) (w : World) (e : Ending) (w' : World) : Prop := ∃ (v : Value) (l : List Scm), e = .returned v ∧ ScmSm l ∧ St b m w w' [.own rScm w.heap.size 113 v l]
theorem ix4 (a b c d : ByteArray) (k : Nat) (hk : k < 4) : ∃ s : ByteArray, (s = a ∨ s = b ∨ s = c ∨ s = d) ∧ ∀ w, (Instr.index 110 (.agg #[.string a, .string b, .string c, .string d]) (.int .i64 k)).run Tryz.prog w = .ok (.string s) w := by
  obtain rfl | rfl | rfl | rfl : k = 0 ∨ k = 1 ∨ k = 2 ∨ k = 3 := by omega
  · exact ⟨a, .inl rfl, fun _ => by kernel_rfl⟩
  · exact ⟨b, .inr (.inl rfl), fun _ => by kernel_rfl⟩
  · exact ⟨c, .inr (.inr (.inl rfl)), fun _ => by kernel_rfl⟩
  · exact ⟨d, .inr (.inr (.inr rfl)), fun _ => by kernel_rfl⟩
set_option maxHeartbeats 8000000 in
set_option maxRecDepth 100000 in
theorem schemas_any (b m : Nat) (w : World) (hs : Strm b m w) (hm : m ≤ 100000000) (hN : Names w) (hNb : 1 ≠ b) (hE : ENames w) :
    Calls Tryz.prog 12 #[.pointer (some ⟨b, 0, none⟩)] w (DrawsScms b (m + 200) w) := by
  have S := (St.start hs).nil rScm w.heap.size 113
  replace S : St b m w w [.own rScm w.heap.size 113 (.slice none 0 0) []] := S
  have HN := Lib.hid hN
  obtain ⟨s0, hs0, n0⟩ := hE 0 (by omega)
  obtain ⟨s1, hs1, n1⟩ := hE 1 (by omega)
  obtain ⟨s2, hs2, n2⟩ := hE 2 (by omega)
  obtain ⟨s3, hs3, n3⟩ := hE 3 (by omega)
  have HIX : Hid (∀ k : Nat, k < 4 → ∃ s : ByteArray, s.size ≤ 10 ∧ ∀ w, (Instr.index 110 (.agg #[.string s0, .string s1, .string s2, .string s3]) (.int .i64 k)).run Tryz.prog w = .ok (.string s) w) := fun k hk => by
    obtain ⟨s, h1, h2⟩ := ix4 s0 s1 s2 s3 k hk
    exact ⟨s, by rcases h1 with rfl | rfl | rfl | rfl <;> assumption, h2⟩
  clear hs hN hE hs0 hs1 hs2 hs3
  go_enter Tryz.func12, Tryz.ntmps12
  go_wp2_with fail
  clear n0 n1 n2 n3
  go_loopw [3, 10] (fun s3 i wr => ∃ (k : Nat) (A : Option Addr) (cv : Nat) (l : List Scm), k ≤ 4 ∧ i = .int .i64 k ∧ s3 = .slice A l.length cv ∧ Hid (l.length ≤ k) ∧ Hid (ScmSm l) ∧ St b (m + 25 * k) w wr [.own rScm w.heap.size 113 (.slice A l.length cv) l]) (fun _ i _ => 4 - (intOf i).toNat)
  case atStart => exact ⟨0, none, 0, [], by omega, rfl, rfl, by show _ ≤ _; simp, ⟨by simp, by simp, by simp, by simp⟩, S.mono (by omega)⟩
  case round =>
    clear S
    obtain ⟨k, A, cv, l, hk, rfl, rfl, Hl, Hsm, S⟩ := hrel
    by_cases hk4 : k < 4
    · obtain ⟨nm, hnm, hix⟩ := HIX.out k hk4
      go_wp2_with fail
      ((with_reducible refine (flip_any b _ _ _ S.g.s (by omega) (by omega) (by omega)).mono ?_); rintro e w1 ⟨r1, rfl, hk_w1, hs_w1⟩)
      replace S := S.step hk_w1 hs_w1
      clear hk_w1 hs_w1
      clear hix
      cases r1
      · go_upto_region 7 with fail
        obtain ⟨X, hX⟩ : ∃ X, X = w1.heap.size := ⟨_, rfl⟩
        replace S := ((S.newAt #[.string nm, .slice none 0 0] 113 X hX).front.nil rNd w.heap.size 116).front
        rw [← hX]
        clear hX
        generalize w1.alloc (.cells #[.string nm, .slice none 0 0] 113) = w2 at *
        obtain ⟨n0, n1, n2, n3, n4, n5⟩ := HN.out.keep S.g.k hNb
        go_wp2_with fail
        clear n0 n1 n2 n3 n4 n5
        go_loopw [18] (fun i wr => ∃ (j : Nat) (An : Option Addr) (cn : Nat) (ns : List Nd), j ≤ 6 ∧ i = .int .i64 j ∧ Hid (ns.length ≤ j) ∧ Hid (∀ n ∈ ns, n.name.size ≤ 100) ∧ St b (m + 25 * k + 1 + 3 * j) w wr [.own rNd w.heap.size 116 (.slice An ns.length cn) ns, .loc X #[.string nm, .slice An ns.length cn] 113, .own rScm w.heap.size 113 (.slice A l.length cv) l]) (fun i _ => 6 - (intOf i).toNat)
        case atStart => exact ⟨0, none, 0, [], by omega, rfl, by show _ ≤ _; simp, by show ∀ _ ∈ _, _; simp, S.mono (by omega)⟩
        case round =>
          clear S
          obtain ⟨j, An, cn, ns, hj, rfl, Hnl, Hnn, S⟩ := hrel
          by_cases hj6 : j < 6
          · obtain ⟨fn, hfn, hix⟩ := names_ix j hj6
            go_wp2_with fail
            ((with_reducible refine (flip_any b _ _ _ S.g.s (by omega) (by omega) (by omega)).mono ?_); rintro e w3 ⟨r3, rfl, hk_w3, hs_w3⟩)
            replace S := S.step hk_w3 hs_w3
            clear hk_w3 hs_w3
            clear hix
            cases r3
            · go_wp2_with fail
              go_roundw
              case rel => exact ⟨j + 1, An, cn, ns, by omega, by go_num, by have := Hnl.out; show _ ≤ _; omega, Hnn, S.mono (by omega)⟩
              case measure => simp [intOf]; omega
            · have hc1 : w3.cell? ⟨X, 1, none⟩ = some (.slice An ns.length cn) := (S.lv 1 rfl).cell 1 _ rfl
              go_wp2_with fail
              refine wp_region_mixG 11 (fun wc => wc.cell? ⟨X, 1, none⟩ = some (.slice An ns.length cn)) [.q 0, .q 1, .q 2, .q 3, .q 5, .e 4, .e 6, .q 7, .e 8, .e 9, .q 10, .e 11] (by kernel_rfl) (by kernel_rfl) (fun _ hd => ((S.below (hd.below _)).lv 1 rfl).cell 1 _ rfl) (fun KK hKK wd hd => ?_)
              replace S := S.below (hd.below _)
              clear hd hc1
              repeat (refine mixG_p rfl (fun K hK => ?_); go_simp; (try go_bits); (try simp (disch := omega) only [if_pos]); (try simp (disch := omega) only [if_neg]); (try simp (disch := omega) only [dif_pos]); (try simp (disch := omega) only [dif_neg]); (try go_simp); (refine hK _ ?_; clear hK K))
              refine mixG_load (.slice An ns.length cn) rfl rfl rfl rfl (fun _ => rfl) (fun _ h => h) ?_
              repeat (refine mixG_p rfl (fun K hK => ?_); go_simp; (try go_bits); (try simp (disch := omega) only [if_pos]); (try simp (disch := omega) only [if_neg]); (try simp (disch := omega) only [dif_pos]); (try simp (disch := omega) only [dif_neg]); (try go_simp); (refine hK _ ?_; clear hK K))
              have hCa : wd.cell? ⟨X, 1, none⟩ = some (.slice An ns.length cn) := (S.lv 1 rfl).cell 1 _ rfl
              refine mixG_l rfl rfl (fun K hK => ?_)
              go_wp2_with fail
              ((with_reducible refine (range_any b _ _ _ _ S.g.s (by omega) (by omega) (by omega) (by omega)).mono ?_); rintro e w4 ⟨kd, kd_lo, kd_hi, rfl, hk_w4, hs_w4⟩)
              replace S := S.step hk_w4 hs_w4
              clear hk_w4 hs_w4
              have hCc : w4.cell? ⟨X, 1, none⟩ = some (.slice An ns.length cn) := (S.lv 1 rfl).cell 1 _ rfl
              go_wp2_with fail
              refine ⟨by first | exact hCc | exact fun _ => hCc, ?_⟩
              clear hCc
              refine mixG_l rfl rfl (fun K hK => ?_)
              go_wp2_with fail
              ((with_reducible refine (flip_any b _ _ _ S.g.s (by omega) (by omega) (by omega)).mono ?_); rintro e w5 ⟨mu, rfl, hk_w5, hs_w5⟩)
              replace S := S.step hk_w5 hs_w5
              clear hk_w5 hs_w5
              have hCc : w5.cell? ⟨X, 1, none⟩ = some (.slice An ns.length cn) := (S.lv 1 rfl).cell 1 _ rfl
              go_wp2_with fail
              refine ⟨by first | exact hCc | exact fun _ => hCc, ?_⟩
              clear hCc
              repeat (refine mixG_p rfl (fun K hK => ?_); go_simp; (try go_bits); (try simp (disch := omega) only [if_pos]); (try simp (disch := omega) only [if_neg]); (try simp (disch := omega) only [dif_pos]); (try simp (disch := omega) only [dif_neg]); (try go_simp); (refine hK _ ?_; clear hK K))
              have hsz := S.g.size
              have hlt := Hnl.out
              have hCb : ∀ o, (w5.alloc o).cell? ⟨X, 1, none⟩ = some (.slice An ns.length cn) := fun o => ((S.alloc o).lv 1 rfl).cell 1 _ rfl
              refine mixG_l rfl rfl (fun K hK => ?_)
              go_wp2_with fail
              first | refine ⟨hCb _, ?_⟩ | refine ⟨fun _ => hCb _, ?_⟩ | skip
              clear hCb hCa
              refine mixG_l rfl rfl (fun K hK => ?_)
              refine S.app 0 rfl tyNd rfl _ _ rfl ⟨fn, kd, mu⟩ 1 rfl rfl rfl (oneNd ⟨fn, kd, mu⟩) hsz (by omega) (by decide) ?_
              intro v' w6 S6
              obtain ⟨A6, c6, rfl⟩ := (S6.ow 0 rfl).len
              have hCc : w6.cell? ⟨X, 1, none⟩ = some (.slice An ns.length cn) := (S6.lv 1 rfl).cell 1 _ rfl
              have hCf : w6.frozen? ⟨X, 1, none⟩ = false := (S6.lv 1 rfl).free 1
              go_wp2_with fail
              first | refine ⟨hCc, ?_⟩ | refine ⟨fun _ => hCc, ?_⟩ | skip
              repeat (refine mixG_p rfl (fun K hK => ?_); go_simp; (try go_bits); (try simp (disch := omega) only [if_pos]); (try simp (disch := omega) only [if_neg]); (try simp (disch := omega) only [dif_pos]); (try simp (disch := omega) only [dif_neg]); (try go_simp); (refine hK _ ?_; clear hK K))
              refine mixG_l rfl rfl (fun K hK => ?_)
              go_wp2_with fail
              refine ⟨fun h => absurd rfl h, ?_⟩
              refine mixG_nil ?_
              simp only [Exit.then]
              refine hKK _ _ ?_
              clear hCc hCf
              go_wp2_with fail
              go_roundw
              case rel =>
                have S7 : St b (m + 25 * k + 1 + 3 * j + 1 + 1 + 1) w (w6.setCell ⟨X, 1, none⟩ (.slice A6 (ns ++ [(⟨fn, kd, mu⟩ : Nd)]).length c6)) [.own rNd w.heap.size 116 (.slice A6 (ns ++ [(⟨fn, kd, mu⟩ : Nd)]).length c6) (ns ++ [(⟨fn, kd, mu⟩ : Nd)]), .loc X #[.string nm, .slice A6 (ns ++ [(⟨fn, kd, mu⟩ : Nd)]).length c6] 113, .own rScm w.heap.size 113 (.slice A l.length cv) l] := S6.set 1 1 (.slice A6 (ns ++ [(⟨fn, kd, mu⟩ : Nd)]).length c6) rfl
                refine ⟨j + 1, A6, c6, ns ++ [⟨fn, kd, mu⟩], by omega, by go_num, by show _ ≤ _; simp; omega, ?_, ?_⟩
                · intro n hn
                  rcases List.mem_append.1 hn with hn | hn
                  · exact Hnn.out n hn
                  · rw [List.mem_singleton.1 hn]; exact hfn
                · first
                    | exact S7.mono (by omega)
                    | (rw [show ns.length + 1 = (ns ++ [(⟨fn, kd, mu⟩ : Nd)]).length by simp]; exact S7.mono (by omega))
              case measure => simp [intOf]; omega
          · obtain ⟨A9, c9, e9, S9⟩ := S.frz 0 rfl
            cases e9
            clear S
            have S : St b (m + 25 * k + 1 + 3 * j) w wr [.sl rNd An ns, .loc X #[.string nm, .slice An ns.length cn] 113, .own rScm w.heap.size 113 (.slice A l.length cv) l] := S9
            clear S9
            have hsz := S.g.size
            have x0 := (S.lv 1 rfl).all
            have hlt := Hl.out
            have hnl := Hnl.out
            go_wp2_with (at_builtin; refine S.app 2 rfl tyScm rfl _ _ rfl ⟨nm, ns⟩ 1 rfl rfl (rScm_mk (S.slc 0 rfl)) (oneScm nm An ns.length cn) hsz (by omega) (by decide) ?_; intro v' w10 S6; obtain ⟨A6, c6, rfl⟩ := (S6.ow 2 rfl).len)
            go_roundw
            case rel =>
              exact ⟨k + 1, A6, c6, l ++ [⟨nm, ns⟩], by omega, by go_num, by simp, by show _ ≤ _; simp; omega, Lib.hid (Hsm.out.snoc (by omega) hnm (by omega) Hnn.out), ((S6.del 1).del 0).mono (by omega)⟩
            case measure => simp [intOf]; omega
      · go_wp2_with fail
        go_roundw
        case rel => exact ⟨k + 1, A, cv, l, by omega, by go_num, rfl, by have := Hl.out; show _ ≤ _; omega, Hsm, S.mono (by omega)⟩
        case measure => simp [intOf]; omega
    · have hlt := Hl.out
      go_wp2_with fail
      ((with_reducible refine (flip_any b _ _ _ S.g.s (by omega) (by omega) (by omega)).mono ?_); rintro e w2 ⟨r2, rfl, hk_w2, hs_w2⟩)
      replace S := S.step hk_w2 hs_w2
      clear hk_w2 hs_w2
      cases r2
      · go_wp2_with fail
        go_ret
        exact ⟨_, l, rfl, Hsm.out, S.mono (by omega)⟩
      · go_wp2_with fail
        ((with_reducible refine (one_le b _ _ _ (10) S.g.s (by first | rfl | simp) (by first | rfl | simp) (strsLe_of (by decide)) (by simp) (by simp) (by omega)).mono ?_); rintro e w3 ⟨nm, nm_le, rfl, hk_w3, hs_w3⟩)
        replace S := S.step hk_w3 hs_w3
        clear hk_w3 hs_w3
        go_wp2_with fail
        ((with_reducible refine (one_le b _ _ _ (10) S.g.s (by first | rfl | simp) (by first | rfl | simp) (strsLe_of (by decide)) (by simp) (by simp) (by omega)).mono ?_); rintro e w4 ⟨fa, fa_le, rfl, hk_w4, hs_w4⟩)
        replace S := S.step hk_w4 hs_w4
        clear hk_w4 hs_w4
        go_wp2_with fail
        ((with_reducible refine (odd_any b _ _ _ _ S.g.s (by omega) (by omega) (by omega) (by omega)).mono ?_); rintro e w5 ⟨kd, kd_lo, kd_hi, rfl, hk_w5, hs_w5⟩)
        replace S := S.step hk_w5 hs_w5
        clear hk_w5 hs_w5
        go_wp2_with fail
        ((with_reducible refine (one_le b _ _ _ (10) S.g.s (by first | rfl | simp) (by first | rfl | simp) (strsLe_of (by decide)) (by simp) (by simp) (by omega)).mono ?_); rintro e w6 ⟨fb, fb_le, rfl, hk_w6, hs_w6⟩)
        replace S := S.step hk_w6 hs_w6
        clear hk_w6 hs_w6
        have hsz := S.g.size
        obtain ⟨A9, c9, e9, S9⟩ := ((S.new' #[.string fa, .int .i64 kd, .bool false, .string fb, .int .i64 1, .bool false] 116).asOwn flatNd 1 rfl [⟨fa, kd, false⟩, ⟨fb, 1, false⟩] rfl rfl (by simp) rfl 2 rfl).frz 1 rfl
        cases e9
        have hsl : Sl rNd _ _ (some ⟨w6.heap.size, 0, none⟩) [⟨fa, kd, false⟩, ⟨fb, 1, false⟩] := S9.slc 1 rfl
        have hsz9 := S9.g.size
        clear S
        go_wp2_with (at_builtin; go_loud (refine S9.app 0 rfl tyScm rfl _ _ rfl ⟨nm, [⟨fa, kd, false⟩, ⟨fb, 1, false⟩]⟩ 1 rfl (by rw [World.size_alloc]; rfl) (rScm_mk (s := ⟨nm, [⟨fa, kd, false⟩, ⟨fb, 1, false⟩]⟩) (c := 2) hsl) (oneScm nm (some ⟨w6.heap.size, 0, none⟩) 2 2) hsz9 (by omega) (by decide) ?_); intro v' w10 S6; obtain ⟨A6, c6, rfl⟩ := (S6.ow 0 rfl).len)
        go_ret
        refine ⟨_, l ++ [⟨nm, [⟨fa, kd, false⟩, ⟨fb, 1, false⟩]⟩], by simp, Hsm.out.snoc (by omega) nm_le (by simp) (fun n hn => ?_), (S6.del 1).mono (by omega)⟩
        simp only [List.mem_cons, List.not_mem_nil, or_false] at hn
        rcases hn with rfl | rfl
        · show fa.size ≤ 100; omega
        · show fb.size ≤ 100; omega
end Go.Proofs.YthlcdepjmoddnaaGreatDoor

/- What the generator EventFor makes. -/
namespace Go.Proofs.YthlcdepjmoddnaaGreatDoor
open Go Go.RowKit
set_option maxHeartbeats 8000000 in
set_option maxRecDepth 100000 in
theorem eventFor_any (b m : Nat) (A : Option Addr) (l : List Scm) (c : Nat) (id : ByteArray) (at' : Int) (w : World) (hs : Strm b m w) (hm : m ≤ 10000000) (hid : id.size ≤ 1000) (hN : Names w) (hNb : 1 ≠ b) (hE : ENames w) (hEb : 0 ≠ b) (hP : Pool w) (hPb : 2 ≠ b)
    (hS : Sl rScm (Off b) w A l) (hsm : ScmSm l) :
    Calls Tryz.prog 13 #[.pointer (some ⟨b, 0, none⟩), .slice A l.length c, .string id, .int .i64 at'] w (DrawsEvt b (m + 1400) w) := by
  have S := (St.start hs).new' ezCs 32
  replace S : St b m w (w.alloc (.cells ezCs 32)) [.loc w.heap.size ezCs 32] := S
  have HS := Lib.hid hS
  have Hsm := Lib.hid hsm
  have hll := hsm.len
  have Hev := Lib.hid (event_any b m id at' _ S.g.s (by omega) hid (hN.keep S.g.k hNb) hNb (hE.keep S.g.k hEb) hEb (hP.keep S.g.k hPb) hPb)
  clear hs hN hE hP hS hsm
  obtain ⟨R, hR⟩ : ∃ R, R = w.heap.size := ⟨_, rfl⟩
  rw [← hR] at S
  go_enter Tryz.func13, Tryz.ntmps13
  go_upto_region 1 with fail
  generalize w.alloc (.cells ezCs 32) = w1 at *
  rw [← hR]
  clear hR
  go_wp2_with fail
  ((with_reducible refine (Hev.out).mono ?_); rintro e w2 ⟨x, Ax, cx, rfl, hx, T⟩)
  have Hx := Lib.hid hx
  replace S : St b (m + 1100) w w2 [.loc R ezCs 32, .sl rFld Ax x.flds] := S.join T
  clear Hev T hx
  go_upto_region 2 with fail
  obtain ⟨Y, hY⟩ : ∃ Y, Y = w2.heap.size := ⟨_, rfl⟩
  replace S : St b (m + 1100) w (w2.alloc (.cells (evCs x Ax cx) 32)) [.loc R ezCs 32, .sl rFld Ax x.flds, .loc Y (evCs x Ax cx) 32] := S.newAt (evCs x Ax cx) 32 Y hY
  rw [← hY]
  clear hY
  generalize w2.alloc (.cells (evCs x Ax cx) 32) = w3 at *
  have HS3 := Lib.hid (HS.out.keep S.g.k.n)
  go_cut [24] (fun s24 wx => ∃ B : Bool, s24 = .bool B ∧ (B = false → 0 < l.length) ∧ SK b w3 wx ∧ Strm b (m + 1101) wx)
  case first =>
    by_cases h0 : l.length = 0
    · have h0' : ((l.length : Int) == 0) = true := by simpa using h0
      go_wp2_with fail
      go_meet
      exact ⟨true, rfl, (fun h => by cases h), SK.refl _ _, S.g.s.mono (by omega)⟩
    · have h0' : ((l.length : Int) == 0) = false := by simpa using h0
      go_wp2_with fail
      ((with_reducible refine (flip_any b _ _ _ S.g.s (by omega) (by omega) (by omega)).mono ?_); rintro e w4 ⟨r4, rfl, hk4, hs4⟩)
      go_wp2_with fail
      go_meet
      exact ⟨r4, rfl, (fun _ => by omega), hk4, hs4⟩
  case rest =>
    obtain ⟨B, rfl, hB, hkc, hsc⟩ := hcut
    have HB := Lib.hid hB
    replace S := S.step hkc hsc
    clear hkc hsc hB
    cases B
    · have h0 := HB.out rfl
      go_wp2_with fail
      ((with_reducible refine (next_any b _ _ _ S.g.s (by omega) (by omega) (by omega)).mono ?_); rintro e w4 ⟨kk, kk_lo, kk_hi, rfl, hk_w4, hs_w4⟩)
      replace S := S.step hk_w4 hs_w4
      clear hk_w4 hs_w4
      obtain ⟨k, rfl⟩ := Int.eq_ofNat_of_zero_le (by omega : 0 ≤ kk)
      have hk : k < l.length := by omega
      obtain ⟨s, hs⟩ : ∃ s, l[k]? = some s := ⟨_, List.getElem?_eq_getElem hk⟩
      have hsmem := List.mem_of_getElem? hs
      have hnl := Hsm.out.nl s hsmem
      have hnm := Hsm.out.nm s hsmem
      have Hnn := Lib.hid (Hsm.out.nn s hsmem)
      obtain ⟨blk, off, An, cn, rfl, hblk, e0, e1, hst⟩ := HS.out.scm k s hs
      have hne : blk ≠ b := fun e => Sl.nin HS.out hs blk off rfl e
      have d0 := (World.cell?_of_block (a := ⟨blk, off + k * 2, none⟩) (S.g.k.block blk hblk hne)).trans e0
      have d1 := (World.cell?_of_block (a := ⟨blk, off + k * 2 + 1, none⟩) (S.g.k.block blk hblk hne)).trans e1
      have HNd : Hid (∀ w', SK b w w' → Sl rNd (Off b) w' An s.needs) := fun w' h => hst.keep h.n
      clear hst hs hsmem HB HS3 e0 e1
      go_upto_region 5 with fail
      clear d0 d1
      obtain ⟨X, hX⟩ : ∃ X, X = w4.heap.size := ⟨_, rfl⟩
      replace S : St b (m + 1101 + 1) w (w4.alloc (.cells #[.string s.name, .slice An s.needs.length cn] 113)) [.loc R ezCs 32, .sl rFld Ax x.flds, .loc Y (evCs x Ax cx) 32, .loc X #[.string s.name, .slice An s.needs.length cn] 113] := S.newAt #[.string s.name, .slice An s.needs.length cn] 113 X hX
      rw [← hX]
      clear hX
      generalize w4.alloc (.cells #[.string s.name, .slice An s.needs.length cn] 113) = w5 at *
      have x3 := (S.lv 3 rfl).all
      have x2 := (S.lv 2 rfl).all
      go_upto_region 6 with fail
      replace S : St b (m + 1101 + 1) w ((w5.setCell ⟨Y, 1, none⟩ (.string s.name)).setCell ⟨Y, 5, none⟩ (.slice none 0 0)) [.loc R ezCs 32, .sl rFld Ax x.flds, .loc Y (evCs ⟨x.id, s.name, x.at', x.kind, x.text, []⟩ none 0) 32, .loc X #[.string s.name, .slice An s.needs.length cn] 113] := (S.set 2 1 (.string s.name) rfl).set 2 5 (.slice none 0 0) rfl
      clear x2 x3
      generalize (w5.setCell ⟨Y, 1, none⟩ (.string s.name)).setCell ⟨Y, 5, none⟩ (.slice none 0 0) = w6 at *
      have x3 := (S.lv 3 rfl).all
      go_wp2_with fail
      clear x3
      go_loopw [40] (fun i wr => ∃ (j : Nat) (Af : Option Addr) (cf : Nat) (fs : List Fld), j ≤ s.needs.length ∧ i = .int .i64 j ∧ Hid (fs.length ≤ j) ∧ Hid (∀ f ∈ fs, f.tiny) ∧ St b (m + 1102 + 15 * j) w wr [.own rFld w.heap.size 122 (.slice Af fs.length cf) fs, .loc R ezCs 32, .loc Y (evCs ⟨x.id, s.name, x.at', x.kind, x.text, fs⟩ Af cf) 32]) (fun i _ => s.needs.length - (intOf i).toNat)
      case atStart => exact ⟨0, none, 0, [], Nat.zero_le _, rfl, by show _ ≤ _; simp, by show ∀ _ ∈ _, _; simp, ((((S.del 3).del 1).nil rFld w.heap.size 122).front).mono (by omega)⟩
      case round =>
        clear S
        obtain ⟨j, Af, cf, fs, hj, rfl, Hfl, Hft, S⟩ := hrel
        by_cases hlt : j < s.needs.length
        · obtain ⟨n, hn⟩ : ∃ n, s.needs[j]? = some n := ⟨_, List.getElem?_eq_getElem hlt⟩
          have hns := Hnn.out n (List.mem_of_getElem? hn)
          obtain ⟨blk2, off2, rfl, hblk2, d0, d1, d2⟩ := (HNd.out wr S.g.k).nd j n hn
          obtain ⟨nn, nk, mu⟩ := n
          replace d0 : wr.cell? ⟨blk2, off2 + j * 3, none⟩ = some (.string nn) := d0
          replace d1 : wr.cell? ⟨blk2, off2 + j * 3 + 1, none⟩ = some (.int .i64 nk) := d1
          replace d2 : wr.cell? ⟨blk2, off2 + j * 3 + 2, none⟩ = some (.bool mu) := d2
          replace hns : nn.size ≤ 100 := hns
          clear hn
          go_upto_region 9 with fail
          clear d0 d1 d2
          obtain ⟨Z, hZ⟩ : ∃ Z, Z = wr.heap.size := ⟨_, rfl⟩
          replace S : St b (m + 1102 + 15 * j) w (wr.alloc (.cells #[.string nn, .int .i64 nk, .bool mu] 116)) [.own rFld w.heap.size 122 (.slice Af fs.length cf) fs, .loc R ezCs 32, .loc Y (evCs ⟨x.id, s.name, x.at', x.kind, x.text, fs⟩ Af cf) 32, .loc Z #[.string nn, .int .i64 nk, .bool mu] 116] := S.newAt #[.string nn, .int .i64 nk, .bool mu] 116 Z hZ
          rw [← hZ]
          clear hZ
          generalize wr.alloc (.cells #[.string nn, .int .i64 nk, .bool mu] 116) = w7 at *
          have z0 := (S.lv 3 rfl).all
          go_cut [54] (fun s54 wx => ∃ B : Bool, s54 = .bool B ∧ SK b w7 wx ∧ Strm b (m + 1102 + 15 * j + 2) wx)
          case first =>
            cases mu
            · go_wp2_with fail
              ((with_reducible refine (flip_any b _ _ _ S.g.s (by omega) (by omega) (by omega)).mono ?_); rintro e w8 ⟨r8, rfl, hk8, hs8⟩)
              go_wp2_with fail
              go_meet
              exact ⟨r8, rfl, hk8, hs8.mono (by omega)⟩
            · go_wp2_with fail
              ((with_reducible refine (flip_any b _ _ _ S.g.s (by omega) (by omega) (by omega)).mono ?_); rintro e w8 ⟨r8, rfl, hk8, hs8⟩)
              clear z0
              cases r8
              · go_wp2_with fail
                go_meet
                exact ⟨true, rfl, hk8, hs8.mono (by omega)⟩
              · go_wp2_with fail
                ((with_reducible refine (flip_any b _ _ _ hs8 (by omega) (by omega) (by omega)).mono ?_); rintro e w9 ⟨r9, rfl, hk9, hs9⟩)
                go_wp2_with fail
                go_meet
                exact ⟨r9, rfl, hk8.trans hk9, hs9⟩
          case rest =>
            obtain ⟨B, rfl, hkc, hsc⟩ := hcut
            replace S := S.step hkc hsc
            clear hkc hsc z0
            cases B
            · go_wp2_with fail
              go_roundw
              case rel => exact ⟨j + 1, Af, cf, fs, by omega, by go_num, by have := Hfl.out; show _ ≤ _; omega, Hft, (S.del 3).mono (by omega)⟩
              case measure => simp [intOf]; omega
            · go_wp2_with fail
              ((with_reducible refine (value_any b _ _ S.g.s (by omega)).mono ?_); rintro e w8 ⟨vk, vt, vn, hvt, rfl, hk8, hs8⟩)
              replace S := S.step hk8 hs8
              clear hk8 hs8
              go_upto_region 11 with fail
              obtain ⟨V, hV⟩ : ∃ V, V = w8.heap.size := ⟨_, rfl⟩
              replace S : St b (m + 1102 + 15 * j + 2 + 6) w (w8.alloc (.cells #[.int .i64 vk, .string vt, .int .i64 vn] 108)) [.own rFld w.heap.size 122 (.slice Af fs.length cf) fs, .loc R ezCs 32, .loc Y (evCs ⟨x.id, s.name, x.at', x.kind, x.text, fs⟩ Af cf) 32, .loc Z #[.string nn, .int .i64 nk, .bool mu] 116, .loc V #[.int .i64 vk, .string vt, .int .i64 vn] 108] := S.newAt #[.int .i64 vk, .string vt, .int .i64 vn] 108 V hV
              rw [← hV]
              clear hV
              generalize w8.alloc (.cells #[.int .i64 vk, .string vt, .int .i64 vn] 108) = w9 at *
              have z0 := (S.lv 3 rfl).all
              have v0 := (S.lv 4 rfl).all
              go_cut [66] (fun s66 wx => ∃ B : Bool, s66 = .bool B ∧ SK b w9 wx ∧ Strm b (m + 1102 + 15 * j + 2 + 6 + 1) wx)
              case first =>
                by_cases hkk : vk = nk
                · have hkb : (vk != nk) = false := by simpa using hkk
                  clear hkk
                  go_wp2_with fail
                  go_meet
                  exact ⟨false, rfl, SK.refl _ _, S.g.s.mono (by omega)⟩
                · have hkb : (vk != nk) = true := by simpa using hkk
                  clear hkk
                  go_wp2_with fail
                  ((with_reducible refine (flip_any b _ _ _ S.g.s (by omega) (by omega) (by omega)).mono ?_); rintro e w10 ⟨r10, rfl, hk10, hs10⟩)
                  go_wp2_with fail
                  go_meet
                  exact ⟨_, rfl, hk10, hs10⟩
              case rest =>
                obtain ⟨B, rfl, hkc, hsc⟩ := hcut
                replace S := S.step hkc hsc
                clear hkc hsc z0 v0
                have HT := Lib.hid S
                clear S
                go_upto_if 66 with fail
                go_cut [13] (fun s13 wx => s13 = .pointer (some ⟨V, 0, none⟩) ∧ ∃ (vk' vn' : Int) (vt' : ByteArray), vt'.size ≤ 1000 ∧ St b (m + 1102 + 15 * j + 10) w wx [.own rFld w.heap.size 122 (.slice Af fs.length cf) fs, .loc R ezCs 32, .loc Y (evCs ⟨x.id, s.name, x.at', x.kind, x.text, fs⟩ Af cf) 32, .loc Z #[.string nn, .int .i64 nk, .bool mu] 116, .loc V #[.int .i64 vk', .string vt', .int .i64 vn'] 108])
                case first =>
                  have S := HT.out
                  clear HT
                  cases B
                  · go_wp2_with fail
                    go_meet
                    exact ⟨rfl, vk, vn, vt, hvt, S.mono (by omega)⟩
                  · have hc1 : wc.cell? ⟨Z, 1, none⟩ = some (.int .i64 nk) := (S.lv 3 rfl).cell 1 _ rfl
                    go_wp2_with fail
                    refine wp_region_mixG 5 (fun wq => wq.cell? ⟨Z, 1, none⟩ = some (.int .i64 nk)) [.q 0, .q 1, .q 2, .e 3, .q 4, .e 5] (by kernel_rfl) (by kernel_rfl) (fun _ hd => ((S.below (hd.below _)).lv 3 rfl).cell 1 _ rfl) (fun KK hKK wd hd => ?_)
                    replace S := S.below (hd.below _)
                    clear hd hc1
                    repeat (refine mixG_p rfl (fun K hK => ?_); go_simp; (try go_bits); (try simp (disch := omega) only [if_pos]); (try simp (disch := omega) only [if_neg]); (try simp (disch := omega) only [dif_pos]); (try simp (disch := omega) only [dif_neg]); (try go_simp); (refine hK _ ?_; clear hK K))
                    refine mixG_load (.int .i64 nk) rfl rfl rfl rfl (fun _ => rfl) (fun _ h => h) ?_
                    repeat (refine mixG_p rfl (fun K hK => ?_); go_simp; (try go_bits); (try simp (disch := omega) only [if_pos]); (try simp (disch := omega) only [if_neg]); (try simp (disch := omega) only [dif_pos]); (try simp (disch := omega) only [dif_neg]); (try go_simp); (refine hK _ ?_; clear hK K))
                    refine mixG_l rfl rfl (fun K hK => ?_)
                    go_wp2_with fail
                    ((with_reducible refine (next_any b _ _ _ S.g.s (by omega) (by omega) (by omega)).mono ?_); rintro e w10 ⟨vn', vn_lo, vn_hi, rfl, hk_w10, hs_w10⟩)
                    replace S := S.step hk_w10 hs_w10
                    clear hk_w10 hs_w10
                    have hCc : w10.cell? ⟨Z, 1, none⟩ = some (.int .i64 nk) := (S.lv 3 rfl).cell 1 _ rfl
                    go_wp2_with fail
                    refine ⟨by first | exact hCc | exact fun _ => hCc, ?_⟩
                    clear hCc
                    repeat (refine mixG_p rfl (fun K hK => ?_); go_simp; (try go_bits); (try simp (disch := omega) only [if_pos]); (try simp (disch := omega) only [if_neg]); (try simp (disch := omega) only [dif_pos]); (try simp (disch := omega) only [dif_neg]); (try go_simp); (refine hK _ ?_; clear hK K))
                    have v0 := (S.lv 4 rfl).all
                    refine mixG_l rfl rfl (fun K hK => ?_)
                    go_wp2_with fail
                    refine ⟨fun h => absurd rfl h, ?_⟩
                    refine mixG_nil ?_
                    simp only [Exit.then]
                    refine hKK _ _ ?_
                    have S2 : St b (m + 1102 + 15 * j + 10) w (((w10.setCell ⟨V, 0, none⟩ (.int .i64 nk)).setCell ⟨V, 1, none⟩ (.string ⟨#[]⟩)).setCell ⟨V, 2, none⟩ (.int .i64 vn')) [.own rFld w.heap.size 122 (.slice Af fs.length cf) fs, .loc R ezCs 32, .loc Y (evCs ⟨x.id, s.name, x.at', x.kind, x.text, fs⟩ Af cf) 32, .loc Z #[.string nn, .int .i64 nk, .bool mu] 116, .loc V #[.int .i64 nk, .string ⟨#[]⟩, .int .i64 vn'] 108] :=
                      (((S.set 4 0 (.int .i64 nk) rfl).set 4 1 (.string ⟨#[]⟩) rfl).set 4 2 (.int .i64 vn') rfl).mono (by omega)
                    clear v0 S
                    generalize ((w10.setCell ⟨V, 0, none⟩ (.int .i64 nk)).setCell ⟨V, 1, none⟩ (.string ⟨#[]⟩)).setCell ⟨V, 2, none⟩ (.int .i64 vn') = w11 at *
                    have S := S2
                    clear S2
                    have z0 := (S.lv 3 rfl).all
                    have v0 := (S.lv 4 rfl).all
                    by_cases h1 : nk = 1
                    · have h1b : (nk == 1) = true := by simpa using h1
                      clear h1
                      go_wp2_with fail
                      go_meet
                      exact ⟨rfl, nk, 0, ⟨#[116]⟩, by decide, ((S.set 4 0 (.int .i64 nk) rfl).set 4 1 (.string ⟨#[116]⟩) rfl).set 4 2 (.int .i64 0) rfl⟩
                    · have h1b : (nk == 1) = false := by simpa using h1
                      clear h1
                      go_wp2_with fail
                      go_meet
                      exact ⟨rfl, nk, vn', ⟨#[]⟩, by decide, S⟩
                case rest =>
                  clear HT
                  obtain ⟨rfl, vk', vn', vt', hvt', S⟩ := hcut
                  have hsz := S.g.size
                  have hlf := Hfl.out
                  have y0 := (S.lv 2 rfl).all
                  have z0 := (S.lv 3 rfl).all
                  have v0 := (S.lv 4 rfl).all
                  go_wp2_with (at_builtin; refine S.app 0 rfl tyFld rfl _ _ rfl ⟨nn, vk', vt', vn'⟩ 1 rfl rfl rfl (oneFld ⟨nn, vk', vt', vn'⟩) hsz (by omega) (by decide) ?_; intro v' w12 S6; obtain ⟨A6, c6, rfl⟩ := (S6.ow 0 rfl).len; have hCb := (S6.lv 2 rfl).cell 5 (.slice Af fs.length cf) rfl; have hCf := (S6.lv 2 rfl).free 5)
                  go_roundw
                  case rel =>
                    have S7 : St b (m + 1102 + 15 * j + 10) w (w12.setCell ⟨Y, 5, none⟩ (.slice A6 (fs ++ [(⟨nn, vk', vt', vn'⟩ : Fld)]).length c6)) [.own rFld w.heap.size 122 (.slice A6 (fs ++ [(⟨nn, vk', vt', vn'⟩ : Fld)]).length c6) (fs ++ [(⟨nn, vk', vt', vn'⟩ : Fld)]), .loc R ezCs 32, .loc Y (evCs ⟨x.id, s.name, x.at', x.kind, x.text, fs ++ [(⟨nn, vk', vt', vn'⟩ : Fld)]⟩ A6 c6) 32, .loc Z #[.string nn, .int .i64 nk, .bool mu] 116, .loc V #[.int .i64 vk', .string vt', .int .i64 vn'] 108] := S6.set 2 5 (.slice A6 (fs ++ [(⟨nn, vk', vt', vn'⟩ : Fld)]).length c6) rfl
                    refine ⟨j + 1, A6, c6, fs ++ [⟨nn, vk', vt', vn'⟩], by omega, by go_num, by show _ ≤ _; simp; omega, tiny_snoc Hft.out ⟨by show nn.size ≤ _; omega, hvt'⟩, ?_⟩
                    first
                      | exact ((S7.del 4).del 3).mono (by omega)
                      | (rw [show fs.length + 1 = (fs ++ [(⟨nn, vk', vt', vn'⟩ : Fld)]).length by simp]; exact ((S7.del 4).del 3).mono (by omega))
                  case measure => simp [intOf]; omega
        · obtain ⟨A9, c9, e9, S9⟩ := S.frz 0 rfl
          cases e9
          clear S
          have S : St b (m + 1102 + 15 * j) w wr [.sl rFld Af fs, .loc R ezCs 32, .loc Y (evCs ⟨x.id, s.name, x.at', x.kind, x.text, fs⟩ Af cf) 32] := S9
          clear S9
          have hlf := Hfl.out
          have y0 := (S.lv 1 rfl).all
          have y2 := (S.lv 2 rfl).all
          have S9 := (((((S.set 1 0 (.string x.id) rfl).set 1 1 (.string s.name) rfl).set 1 2 (.int .i64 x.at') rfl).set 1 3 (.int .i64 x.kind) rfl).set 1 4 (.string x.text) rfl).set 1 5 (.slice Af fs.length cf) rfl
          go_wp2_with fail
          exact bodyPost_ret (results_cell1 rfl rfl (loadEv (S9.lv 1 rfl))) rfl ⟨⟨x.id, s.name, x.at', x.kind, x.text, fs⟩, Af, cf, rfl, ⟨Hx.out.id, (by show s.name.size ≤ 1000; omega), Hx.out.tx, (by show fs.length ≤ 40; omega), Hft.out⟩, ((S9.del 2).del 1).mono (by omega)⟩
    · have y0 := (S.lv 0 rfl).all
      have y2 := (S.lv 2 rfl).all
      have S9 := (((((S.set 0 0 (.string x.id) rfl).set 0 1 (.string x.name) rfl).set 0 2 (.int .i64 x.at') rfl).set 0 3 (.int .i64 x.kind) rfl).set 0 4 (.string x.text) rfl).set 0 5 (.slice Ax x.flds.length cx) rfl
      go_wp2_with fail
      exact bodyPost_ret (results_cell1 rfl rfl (loadEv (S9.lv 0 rfl))) rfl ⟨x, Ax, cx, rfl, Hx.out, ((S9.del 2).del 0).mono (by omega)⟩
end Go.Proofs.YthlcdepjmoddnaaGreatDoor
