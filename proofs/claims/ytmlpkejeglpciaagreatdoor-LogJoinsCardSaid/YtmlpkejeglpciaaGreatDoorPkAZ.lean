/- Several texts in one: LogRJoin, Clock, Local. -/
import Derived.Test.YtmlpkejeglpciaaGreatDoorPkAY
import Derived.Test.YtmlpkejeglpciaaGreatDoorPkAW
import Derived.RangeFuncNested
import Derived.RangeFuncBound
import Derived.RangeFuncCalls
import Derived.RangeFuncLeaves
import Derived.RangeFuncBox
import Derived.Shelf.Abstract
import Derived.Shelf.RegionOpen
import Derived.WalkKit
import Derived.OwnWalkIn
import Derived.TacticsInMore
import Derived.LoopNIn
import Derived.LoopIn
import Derived.Test.YtmlpkejeglpciaaGreatDoorPkAJ
/- handref2.(*Log).Join. -/
namespace Go.Proofs.YtmlpkejeglpciaaGreatDoor
open Go Go.RowKit
abbrev pbx (Y : Nat) : Array Value := #[.pointer (some ⟨Y, 0, none⟩)]
theorem noClashR {ps p2 : List EQ} (h : ∀ q ∈ p2, ∀ o ∈ ps, o.e.id = q.e.id → o.e = q.e) : ¬ Clash (ps.map EQ.e) (p2.map EQ.e) := by
  rintro ⟨e, he, o, ho, h1, h2⟩
  obtain ⟨q, hq, rfl⟩ := List.mem_map.1 he
  obtain ⟨p, hp, rfl⟩ := List.mem_map.1 ho
  exact h2 (h q hq p hp h1)
theorem noUnfitR {F : Evt → Int} {g : List ByteArray} {q2 : List EQ} (h : ∀ q ∈ q2, q.e.id ∉ g → F q.e = 0) : ¬ Unfit F g (q2.map EQ.e) := by
  rintro ⟨e, he, h1, h2⟩
  obtain ⟨q, hq, rfl⟩ := List.mem_map.1 he
  exact h2 (h q hq h1)
set_option maxHeartbeats 4000000 in
set_option maxRecDepth 100000 in
theorem gone_any {M M2 : Nat → Prop} {w : World} {B B2 : Nat} (bx bz Y Y2 : Nat) (K K2 : Option Addr) (n ck n2 ck2 : Nat) (v v2 g g2 : Value) (gn gn2 : List ByteArray) (s : ByteArray) (hx : LV w bx (pbx Y) 35) (hz : LV w bz (pbx Y2) 35) (hY : LV w Y (rlgCs K n ck v g) 39) (hY2 : LV w Y2 (rlgCs K2 n2 ck2 v2 g2) 39)
    (h1 : Own rStr M B 9 w g gn) (h2 : Own rStr M2 B2 9 w g2 gn2) (hl1 : gn.length ≤ 1000) (hl2 : gn2.length ≤ 1000) (w' : World) (hb : Below w.heap.size w w') :
    Calls Tryz.prog 61 #[.string s, .pointer (some ⟨bx, 0, none⟩), .pointer (some ⟨bz, 0, none⟩)] w' fun e w'' => e = .returned (.bool (hasId gn s || hasId gn2 s)) ∧ w' = w'' := by
  have C1 := Lib.hid (contG_any h1 s (Nat.le_trans hl1 (by decide)) w' hb)
  have C2 := Lib.hid (contG_any h2 s (Nat.le_trans hl2 (by decide)) w' hb)
  have x0 := (LV.kb3 hx hb hx.lt).all
  have z0 := (LV.kb3 hz hb hz.lt).all
  have y0 := (LV.kb3 hY hb hY.lt).all
  have y2 := (LV.kb3 hY2 hb hY2.lt).all
  obtain ⟨b1, hb1⟩ : ∃ b1, hasId gn s = b1 := ⟨_, rfl⟩
  obtain ⟨b2, hb2⟩ : ∃ b2, hasId gn2 s = b2 := ⟨_, rfl⟩
  rw [hb1] at C1 ⊢
  rw [hb2] at C2 ⊢
  clear hx hz hY hY2 h1 h2 hl1 hl2 hb hb1 hb2
  go_enter Tryz.func61, Tryz.ntmps61
  go_wp2_with fail
  refine (C1.out).mono ?_
  rintro e w2 ⟨rfl, rfl⟩
  clear C1
  cases b1
  · go_wp2_with fail
    refine (C2.out).mono ?_
    rintro e w3 ⟨rfl, rfl⟩
    clear C2
    go_wp2_with fail
    go_ret
    exact ⟨rfl, rfl⟩
  · go_wp2_with fail
    go_ret
    exact ⟨rfl, rfl⟩
theorem loadRlA {w : World} {X : Nat} {a b c : Value} (h : LV w X #[a, b, c] 39) : (Instr.loadAt 39 (.pointer (some ⟨X, 0, none⟩))).run Tryz.prog w = .ok (.agg #[a, b, c]) w := by
  have c0 := h.all
  go_simp
theorem perm_fin (a b c d : Chunk) (T : List Chunk) : (a :: b :: c :: d :: T).Perm (c :: a :: d :: b :: T) := (List.perm_middle (l₁ := [a, b])).trans (((List.Perm.swap d b T).cons a).cons c)
def GivesJoinR (F : Evt → Int) (Y : Nat) (K : Option Addr) (n ck : Nat) (v : Value) (B : Nat) (ps fs : List EQ) (g : Value) (B2 : Nat) (gn : List ByteArray) (p2 f2 : List EQ) (gn2 : List ByteArray) (w0 : World) (ot : List Chunk) (e : Ending) (w' : World) : Prop :=
  ∃ (N er : Int), e = .returned (.tuple #[.int .i64 N, .int .i64 er]) ∧ JoinTo F (ps.map EQ.e) gn (p2.map EQ.e) er ∧
    ((er ≠ 0 ∧ N = 0 ∧ Mem w0 w' (rlgP Y K n ck v B ps fs g B2 gn ot)) ∨
     (er = 0 ∧ ∃ (v' : Value) (ps' : List EQ) (g' : Value) (gn' : List ByteArray), N = ps'.length ∧ JoinedR ps gn p2 gn2 ps' gn' ∧ Mem w0 w' (rlgP Y K n ck v' B ps' (fs ++ f2) g' B2 gn' ot)))
set_option maxHeartbeats 16000000 in
set_option maxRecDepth 100000 in
theorem join_rlg {w0 w : World} (ch : List Chunk) (Y : Nat) (l : List Scm) (K : Option Addr) (ck : Nat) (v : Value) (B : Nat) (ps fs : List EQ) (g : Value) (B2 : Nat) (gn : List ByteArray)
    (Y2 : Nat) (K2 : Option Addr) (n2 ck2 : Nat) (v2 : Value) (B3 : Nat) (p2 f2 : List EQ) (g2 : Value) (B4 : Nat) (gn2 : List ByteArray) (S : Mem w0 w (rlgP Y K l.length ck v B ps fs g B2 gn (rlgP Y2 K2 n2 ck2 v2 B3 p2 f2 g2 B4 gn2 ch)))
    (hK : Sl rScm (fun _ => False) w K l) (hso : ScmOk l) (hsub : SubOk ps fs) (hsub2 : SubOk p2 f2) (hpn : (ps.map (fun q => q.e.id)).Nodup) (hp2 : (p2.map (fun q => q.e.id)).Nodup) (hap : ∀ p ∈ ps, p.e.id ∉ gn) (hap2 : ∀ p ∈ p2, p.e.id ∉ gn2)
    (hl : ps.length ≤ 200) (hl2 : p2.length ≤ 200) (hgl : gn.length ≤ 200) (hgl2 : gn2.length ≤ 200) (hT : Tabs w) (hM : MaxL w) (hB : B ≤ Y) (hB2 : B2 ≤ Y) :
    Calls Tryz.prog 17 #[.pointer (some ⟨Y, 0, none⟩), .pointer (some ⟨Y2, 0, none⟩)] w (GivesJoinR (evFault l) Y K l.length ck v B ps fs g B2 gn p2 f2 gn2 w0 (rlgP Y2 K2 n2 ck2 v2 B3 p2 f2 g2 B4 gn2 ch)) := by
  obtain ⟨A0, c0, e0⟩ := (S.ow 1 rfl).len
  subst e0
  obtain ⟨A2, c2, e2⟩ := (S.ow 5 rfl).len
  subst e2
  obtain ⟨A3, c3, e3⟩ := (S.ow 3 rfl).len
  subst e3
  obtain ⟨A4, c4, e4⟩ := (S.ow 7 rfl).len
  subst e4
  have HY := Lib.hid (fun w' (h : Below w.heap.size w w') => LV.kb3 (S.lv 0 rfl) h (S.lv 0 rfl).lt)
  have HY2 := Lib.hid (fun w' (h : Below w.heap.size w w') => LV.kb3 (S.lv 4 rfl) h (S.lv 4 rfl).lt)
  have HR := Lib.hid (fun w' (h : Below w.heap.size w w') => ((S.ow 1 rfl).slF flatEQ).keepB h)
  have HR2 := Lib.hid (fun w' (h : Below w.heap.size w w') => ((S.ow 5 rfl).slF flatEQ).keepB h)
  have HG := Lib.hid (fun w' (h : Below w.heap.size w w') => ((S.ow 3 rfl).slF flatStr).keepB h)
  have HG2 := Lib.hid (fun w' (h : Below w.heap.size w w') => ((S.ow 7 rfl).slF flatStr).keepB h)
  have hF1 : FldsOk (fun _ => False) w fs := fun p hp => (S.fl 2 rfl p hp).mono (fun _ _ h => h.elim)
  have hF2 : FldsOk (fun _ => False) w f2 := fun p hp => (S.fl 6 rfl p hp).mono (fun _ _ h => h.elim)
  have Hpl : Hid (∀ (s : ByteArray) w', Below w.heap.size w w' → Calls Tryz.prog 56 #[.pointer (some ⟨Y, 0, none⟩), .string s] w' (GivesIF (idIs s) ps w')) := fun s w' h =>
    place_log (fun _ => False) Y K l.length ck A0 c0 (.slice A3 gn.length c3) ps s w' (LV.kb3 (S.lv 0 rfl) h (S.lv 0 rfl).lt) (((S.ow 1 rfl).slF flatEQ).keepB h) (by omega)
  have Hsm : Hid (∀ p ∈ ps, ∀ q ∈ p2, ∀ w', Below w.heap.size w w' → Calls Tryz.prog 57 #[.agg (evCs p.e p.A p.c), .agg (evCs q.e q.A q.c)] w' (GivesEq (p.e = q.e) w')) := fun p hp q hq w' h =>
    sameEvG_any (fun _ => False) (fun _ => False) p.e q.e p.A q.A p.c q.c w' ((hF1 p (hsub.1 p hp)).keepB h) ((hF2 q (hsub2.1 q hq)).keepB h) (Nat.le_trans (hsub.2 p (hsub.1 p hp)).fl (by decide)) (Nat.le_trans (hsub2.2 q (hsub2.1 q hq)).fl (by decide))
  have Hef : Hid (∀ q ∈ p2, ∀ w', Below w.heap.size w w' → Calls Tryz.prog 55 #[.slice K l.length ck, .agg (evCs q.e q.A q.c)] w' fun e w'' => e = .returned (.int .i64 (evFault l q.e)) ∧ Below w'.heap.size w' w'') := fun q hq w' h =>
    eventFault_any (fun _ => False) K q.A l ck q.c q.e w' (hK.keepB h) hso ((hF2 q (hsub2.1 q hq)).keepB h) (hsub2.2 q (hsub2.1 q hq)).ok (Utf8Tabs_below hT h) (hM.below h)
  have Hgo : Hid (∀ (bx bz : Nat) (s : ByteArray) wq w', Below w.heap.size w wq → LV wq bx (pbx Y) 35 → LV wq bz (pbx Y2) 35 → Below wq.heap.size wq w' → Calls Tryz.prog 61 #[.string s, .pointer (some ⟨bx, 0, none⟩), .pointer (some ⟨bz, 0, none⟩)] w' fun e w'' => e = .returned (.bool (hasId gn s || hasId gn2 s)) ∧ w' = w'') := fun bx bz s wq w' hq hx hz h =>
    gone_any bx bz Y Y2 K K2 l.length ck n2 ck2 _ _ _ _ gn gn2 s hx hz (LV.kb3 (S.lv 0 rfl) hq (S.lv 0 rfl).lt) (LV.kb3 (S.lv 4 rfl) hq (S.lv 4 rfl).lt) (((S.below hq).ow 3 rfl)) (((S.below hq).ow 7 rfl)) (by omega) (by omega) w' h
  have Hap := Lib.hid hap
  have Hap2 := Lib.hid hap2
  have Hpn := Lib.hid hpn
  have Hp2 := Lib.hid hp2
  have HB := Lib.hid hB
  have HB2 := Lib.hid hB2
  have Hsu := Lib.hid hsub
  have Hsu2 := Lib.hid hsub2
  have HS := Lib.hid S
  obtain ⟨m, hm0⟩ : ∃ m, m = p2.length := ⟨_, rfl⟩
  have Hm := Lib.hid hm0
  have hml : m ≤ 200 := by omega
  obtain ⟨bx, hbx⟩ : ∃ bx, bx = w.heap.size := ⟨_, rfl⟩
  obtain ⟨bz, hbz⟩ : ∃ bz, bz = w.heap.size + 1 := ⟨_, rfl⟩
  have T : Mem w _ [.loc bx (pbx Y) 35, .loc bz (pbx Y2) 35] := ((Mem.start w).newAt (pbx Y) 35 bx hbx).newAt (pbx Y2) 35 bz (by rw [World.size_alloc]; exact hbz)
  clear hK hso hsub hsub2 hpn hp2 hap hap2 hT hM hB hB2 S hF1 hF2
  go_enter Tryz.func17, Tryz.ntmps17
  go_upto_region 1 with fail
  rw [← hbz, ← hbx]
  clear hbx hbz
  generalize World.alloc _ _ = w1 at T ⊢
  have x0 := (T.lv 0 rfl).all
  have z0 := (T.lv 1 rfl).all
  have y2 := (HY2.out w1 T.b).all
  rw [← hm0] at y2
  clear hm0
  go_wp2_with fail
  go_loopw [23] (fun i wr => ∃ j : Nat, j ≤ m ∧ i = .int .i64 j ∧ Hid (∀ q ∈ p2.take j, ∀ o ∈ ps, o.e.id = q.e.id → o.e = q.e) ∧ Mem w wr [.loc bx (pbx Y) 35, .loc bz (pbx Y2) 35]) (fun i _ => m - (intOf i).toNat)
  case atStart => exact ⟨0, Nat.zero_le _, rfl, (by show ∀ z ∈ _, _; simp), T⟩
  case round =>
    clear T x0 z0 y2
    obtain ⟨j, hj, rfl, HP, T⟩ := hrel
    by_cases hlt : j < m
    · obtain ⟨q, hq⟩ : ∃ q, p2[j]? = some q := ⟨_, List.getElem?_eq_getElem (by have := Hm.out; omega)⟩
      obtain ⟨blk, off, hA, hblk, d0, d1, d2, d3, d4, d5⟩ := hrowE (HR2.out wr T.b) hq
      subst hA
      have Hq := Lib.hid hq
      have Hqm := Lib.hid (List.mem_of_getElem? hq)
      clear hq
      obtain ⟨E, hE⟩ : ∃ E, E = wr.heap.size := ⟨_, rfl⟩
      have T1 := T.newAt (evCs q.e q.A q.c) 47 E hE
      clear T
      go_upto_region 5 with fail
      rw [← hE]
      clear hE d0 d1 d2 d3 d4 d5 hblk
      generalize World.alloc _ _ = w3 at T1 ⊢
      have x0 := (T1.lv 0 rfl).all
      have e0 := (T1.lv 2 rfl).all
      have Hf := Lib.hid (Hpl.out q.e.id w3 T1.b)
      go_wp2_with fail
      refine (Hf.out).mono ?_
      rintro e w4 ⟨i, rfl, hb4, hi⟩
      have T4 := T1.below hb4
      clear Hf hb4 T1 x0 e0
      go_upto_region 6 with fail
      have hT4 := T4.b
      refine wp_region_mix (fun wx => LV wx bx (pbx Y) 35 ∧ LV wx E (evCs q.e q.A q.c) 47 ∧ Below w.heap.size w wx) [(true, 0), (true, 1), (true, 2), (true, 3), (true, 4), (true, 5), (false, 6), (true, 7), (true, 8), (true, 9), (true, 10), (true, 11), (true, 12), (true, 13), (true, 14), (true, 15), (true, 16), (true, 17), (false, 18), (true, 19), (true, 20)] (by kernel_rfl) (by kernel_rfl) (fun w' hd => ⟨(T4.below (hd.below _)).lv 0 rfl, (T4.below (hd.below _)).lv 2 rfl, (T4.below (hd.below _)).b⟩) (fun KK hKK wd hd => ?_)
      have T := T4.below (hd.below _)
      have hC : LV wd bx (pbx Y) 35 ∧ LV wd E (evCs q.e q.A q.c) 47 ∧ Below w.heap.size w wd := ⟨T.lv 0 rfl, T.lv 2 rfl, T.b⟩
      have HT := Lib.hid T
      clear hd T T4 hT4
      rcases hi with ⟨rfl, hno⟩ | ⟨k, p, rfl, hk, hp, _⟩
      · have Hno : Hid (∀ y ∈ ps, y.e.id ≠ q.e.id) := fun y hy e => by
          have h1 := hno y hy
          rw [idIs_iff.2 e] at h1
          cases h1
        clear hno
        refine mpR ?_
        refine mix_l rfl (fun K9 hK9 => ?_) hC
        go_wp2_with fail
        refine ⟨hC, ?_⟩
        refine mpR ?_
        refine mix_l rfl (fun K9 hK9 => ?_) hC
        go_wp2_with fail
        refine ⟨hC, ?_⟩
        refine mpR ?_
        refine mix_nil ?_
        simp only [Exit.then]
        refine hKK _ _ ?_
        clear hKK KK hC
        have HP2 : Hid (∀ q' ∈ p2.take (j + 1), ∀ o' ∈ ps, o'.e.id = q'.e.id → o'.e = q'.e) := fun q' hq' o' ho' e => by
          rw [take_snoc Hq.out] at hq'
          rcases List.mem_append.1 hq' with h | h
          · exact HP.out q' h o' ho' e
          · rw [List.mem_singleton.1 h] at e
            exact absurd e (Hno.out o' ho')
        have HT6 := Lib.hid (HT.out.del 2)
        clear HT
        go_wp2_with fail
        go_roundw
        case rel => exact ⟨j + 1, by omega, by go_num, HP2, HT6.out⟩
        case measure => simp [intOf]; omega
      · have Hid' := Lib.hid (idIs_iff.1 hp)
        have Hj := Lib.hid hk
        have Hpm := Lib.hid (List.mem_of_getElem? hk)
        have hkl : k < ps.length := (List.getElem?_eq_some_iff.1 hk).1
        obtain ⟨bk2, of2, hA0, _⟩ := hrowE (HR.out wd hC.2.2) hk
        subst hA0
        have hg0 : hasId gn q.e.id = false := hasId_not (by rw [← Hid'.out]; exact Hap.out p Hpm.out)
        have hg1 : hasId gn2 q.e.id = false := hasId_not (Hap2.out q Hqm.out)
        have hgo := Hgo.out bx bz q.e.id wd wd hC.2.2 (HT.out.lv 0 rfl) (HT.out.lv 1 rfl) (Below.refl _ _)
        rw [hg0, hg1, Bool.or_self] at hgo
        have Hg := Lib.hid hgo
        clear hp hk hg0 hg1 hgo
        refine mpR ?_
        refine mix_loadH (.string q.e.id) rfl rfl rfl (fun w' h => loadC1 rfl (h.2.1.cell 0 _ rfl)) ?_
        refine mpR ?_
        refine mix_l rfl (fun K9 hK9 => ?_) hC
        go_wp2_with fail
        refine (Hg.out).mono ?_
        rintro e w5 ⟨rfl, rfl⟩
        clear Hg
        go_wp2_with fail
        refine ⟨hC, ?_⟩
        refine mpR ?_
        refine mix_loadH (.pointer (some ⟨Y, 0, none⟩)) rfl rfl rfl (fun w' h => loadC1 rfl (h.1.cell 0 _ rfl)) ?_
        refine mpR ?_
        refine mix_loadH (.slice (some ⟨bk2, of2, none⟩) ps.length c0) rfl rfl rfl (fun w' h => loadC1 rfl ((HY.out w' h.2.2).cell 1 _ rfl)) ?_
        refine mpR ?_
        refine mix_loadH (.agg (evCs p.e p.A p.c)) rfl rfl rfl (fun w' h => by
          obtain ⟨b2, o2, e2, _, d0, d1, d2, d3, d4, d5⟩ := hrowE (HR.out w' h.2.2) Hj.out
          cases e2
          go_simp) ?_
        refine mpR ?_
        refine mix_loadH (.agg (evCs q.e q.A q.c)) rfl rfl rfl (fun w' h => loadEvA h.2.1) ?_
        refine mix_l rfl (fun K9 hK9 => ?_) hC
        have Ho := Lib.hid (Hsm.out p Hpm.out q Hqm.out wd hC.2.2)
        go_wp2_with fail
        refine (Ho.out).mono ?_
        rintro e w8 ⟨bb, rfl, hbb, hb8⟩
        have T8 := HT.out.below hb8
        have Hbb := Lib.hid hbb
        clear hC HT Ho hbb hb8
        have hC : LV w8 bx (pbx Y) 35 ∧ LV w8 E (evCs q.e q.A q.c) 47 ∧ Below w.heap.size w w8 := ⟨T8.lv 0 rfl, T8.lv 2 rfl, T8.b⟩
        have HT6 := Lib.hid (T8.del 2)
        clear T8
        go_wp2_with fail
        refine ⟨hC, ?_⟩
        refine mpR ?_
        refine mix_nil ?_
        simp only [Exit.then]
        refine hKK _ _ ?_
        clear hKK KK hC
        cases bb
        · have hne : p.e ≠ q.e := fun e => by have := Hbb.out.2 e; cases this
          have Hto : Hid (JoinTo (evFault l) (ps.map EQ.e) gn (p2.map EQ.e) 13) := .inl ⟨⟨q.e, List.mem_map_of_mem Hqm.out, p.e, List.mem_map_of_mem Hpm.out, Hid'.out, hne⟩, rfl⟩
          have HS9 := Lib.hid (HS.out.below HT6.out.b)
          clear hne HT6
          go_wp2_with fail
          go_ret2
          exact ⟨0, 13, rfl, Hto.out, .inl ⟨by decide, rfl, HS9.out⟩⟩
        · have he : p.e = q.e := Hbb.out.1 rfl
          have HP2 : Hid (∀ q' ∈ p2.take (j + 1), ∀ o' ∈ ps, o'.e.id = q'.e.id → o'.e = q'.e) := fun q' hq' o' ho' e => by
            rw [take_snoc Hq.out] at hq'
            rcases List.mem_append.1 hq' with h | h
            · exact HP.out q' h o' ho' e
            · rw [List.mem_singleton.1 h] at e ⊢
              rw [← he] at e ⊢
              rw [nd_eq Hpn.out ho' Hpm.out e]
          clear he
          go_wp2_with fail
          go_roundw
          case rel => exact ⟨j + 1, by omega, by go_num, HP2, HT6.out⟩
          case measure => simp [intOf]; omega
    · have hjm : j = m := by omega
      subst hjm
      have Hnc : Hid (¬ Clash (ps.map EQ.e) (p2.map EQ.e)) := noClashR (by have h1 := HP.out; rwa [Hm.out, List.take_length] at h1)
      have z0 := (T.lv 1 rfl).all
      have y2 := (HY2.out wr T.b).all
      rw [← Hm.out] at y2
      clear HP
      go_wp2_with fail
      go_loopw [58] (fun i wr => ∃ k : Nat, k ≤ j ∧ i = .int .i64 k ∧ Hid (∀ q ∈ p2.take k, q.e.id ∉ gn → evFault l q.e = 0) ∧ Mem w wr [.loc bx (pbx Y) 35, .loc bz (pbx Y2) 35]) (fun i _ => j - (intOf i).toNat)
      case atStart => exact ⟨0, Nat.zero_le _, rfl, (by show ∀ z ∈ _, _; simp), T⟩
      case round =>
        clear T z0 y2
        obtain ⟨k, hk, rfl, HP, T⟩ := hrel
        by_cases hlt : k < j
        · obtain ⟨q, hq⟩ : ∃ q, p2[k]? = some q := ⟨_, List.getElem?_eq_getElem (by have := Hm.out; omega)⟩
          obtain ⟨blk, off, hA, hblk, d0, d1, d2, d3, d4, d5⟩ := hrowE (HR2.out _ T.b) hq
          subst hA
          have Hq := Lib.hid hq
          have Hqm := Lib.hid (List.mem_of_getElem? hq)
          clear hq
          obtain ⟨E, hE⟩ : ∃ E, E = (‹World› : World).heap.size := ⟨_, rfl⟩
          have T1 := T.newAt (evCs q.e q.A q.c) 47 E hE
          clear T
          go_upto_region 12 with fail
          rw [← hE]
          clear hE d0 d1 d2 d3 d4 d5 hblk
          generalize World.alloc _ _ = w3 at T1 ⊢
          refine wp_region_mix (fun wx => LV wx bx (pbx Y) 35 ∧ LV wx E (evCs q.e q.A q.c) 47 ∧ Below w.heap.size w wx) [(true, 0), (true, 1), (true, 2), (false, 3), (true, 4), (true, 5), (true, 6), (true, 7), (true, 8), (true, 9), (true, 10), (false, 11), (true, 12), (true, 13)] (by kernel_rfl) (by kernel_rfl) (fun w' hd => ⟨(T1.below (hd.below _)).lv 0 rfl, (T1.below (hd.below _)).lv 2 rfl, (T1.below (hd.below _)).b⟩) (fun KK hKK wd hd => ?_)
          have T := T1.below (hd.below _)
          have hC : LV wd bx (pbx Y) 35 ∧ LV wd E (evCs q.e q.A q.c) 47 ∧ Below w.heap.size w wd := ⟨T.lv 0 rfl, T.lv 2 rfl, T.b⟩
          have hg1 : hasId gn2 q.e.id = false := hasId_not (Hap2.out q Hqm.out)
          obtain ⟨gg, hgg⟩ : ∃ gg, hasId gn q.e.id = gg := ⟨_, rfl⟩
          have hgo := Hgo.out bx bz q.e.id wd wd hC.2.2 (T.lv 0 rfl) (T.lv 1 rfl) (Below.refl _ _)
          rw [hgg, hg1, Bool.or_false] at hgo
          have Hg := Lib.hid hgo
          have Hgg := Lib.hid hgg
          have HT := Lib.hid T
          clear hd T T1 hg1 hgg hgo
          refine mpR ?_
          refine mix_loadH (.string q.e.id) rfl rfl rfl (fun w' h => loadC1 rfl (h.2.1.cell 0 _ rfl)) ?_
          refine mix_l rfl (fun K9 hK9 => ?_) hC
          go_wp2_with fail
          refine (Hg.out).mono ?_
          rintro e w5 ⟨rfl, rfl⟩
          clear Hg
          go_wp2_with fail
          refine ⟨hC, ?_⟩
          cases gg
          · have Hng : Hid (q.e.id ∉ gn) := hasId_no Hgg.out
            refine mpR ?_
            refine mix_loadH (.pointer (some ⟨Y, 0, none⟩)) rfl rfl rfl (fun w' h => loadC1 rfl (h.1.cell 0 _ rfl)) ?_
            refine mpR ?_
            refine mix_loadH (.slice K l.length ck) rfl rfl rfl (fun w' h => loadC1 rfl ((HY.out w' h.2.2).cell 0 _ rfl)) ?_
            refine mpR ?_
            refine mix_loadH (.agg (evCs q.e q.A q.c)) rfl rfl rfl (fun w' h => loadEvA h.2.1) ?_
            refine mix_l rfl (fun K9 hK9 => ?_) hC
            obtain ⟨F, hF⟩ : ∃ F, evFault l q.e = F := ⟨_, rfl⟩
            have hsu := Hef.out q Hqm.out wd hC.2.2
            rw [hF] at hsu
            have Hb := Lib.hid hsu
            have HF := Lib.hid hF
            clear hsu hF
            go_wp2_with fail
            refine (Hb.out).mono ?_
            rintro e wf ⟨rfl, hb⟩
            have T8 := HT.out.below hb
            clear hC HT Hb hb
            have hC : LV wf bx (pbx Y) 35 ∧ LV wf E (evCs q.e q.A q.c) 47 ∧ Below w.heap.size w wf := ⟨T8.lv 0 rfl, T8.lv 2 rfl, T8.b⟩
            have HT6 := Lib.hid (T8.del 2)
            clear T8
            go_wp2_with fail
            refine ⟨hC, ?_⟩
            refine mpR ?_
            refine mix_nil ?_
            simp only [Exit.then]
            refine hKK _ _ ?_
            clear hKK KK hC
            by_cases hF0 : F = 0
            · subst hF0
              have HP2 : Hid (∀ q' ∈ p2.take (k + 1), q'.e.id ∉ gn → evFault l q'.e = 0) := fun q' hq' h2 => by
                rw [take_snoc Hq.out] at hq'
                rcases List.mem_append.1 hq' with h | h
                · exact HP.out q' h h2
                · rw [List.mem_singleton.1 h]; exact HF.out
              go_wp2_with fail
              go_roundw
              case rel => exact ⟨k + 1, by omega, by go_num, HP2, HT6.out⟩
              case measure => simp [intOf]; omega
            · have Hto : Hid (JoinTo (evFault l) (ps.map EQ.e) gn (p2.map EQ.e) 8) := .inr (.inl ⟨Hnc.out, ⟨q.e, List.mem_map_of_mem Hqm.out, Hng.out, by rw [HF.out]; exact hF0⟩, rfl⟩)
              have HS9 := Lib.hid (HS.out.below HT6.out.b)
              clear HT6
              go_wp2_with fail
              go_ret2
              exact ⟨0, 8, rfl, Hto.out, .inl ⟨by decide, rfl, HS9.out⟩⟩
          · have HP2 : Hid (∀ q' ∈ p2.take (k + 1), q'.e.id ∉ gn → evFault l q'.e = 0) := fun q' hq' h2 => by
              rw [take_snoc Hq.out] at hq'
              rcases List.mem_append.1 hq' with h | h
              · exact HP.out q' h h2
              · rw [List.mem_singleton.1 h] at h2
                exact absurd ((hasId_iff _ _).1 Hgg.out) h2
            refine mpR ?_
            refine mix_l rfl (fun K9 hK9 => ?_) hC
            go_wp2_with fail
            (try refine ⟨hC, ?_⟩)
            refine mpR ?_
            refine mix_nil ?_
            simp only [Exit.then]
            refine hKK _ _ ?_
            clear hKK KK hC
            have HT6 := Lib.hid (HT.out.del 2)
            clear HT
            go_wp2_with fail
            go_roundw
            case rel => exact ⟨k + 1, by omega, by go_num, HP2, HT6.out⟩
            case measure => simp [intOf]; omega
        · have hkj : k = j := by omega
          subst hkj
          have Hto : Hid (JoinTo (evFault l) (ps.map EQ.e) gn (p2.map EQ.e) 0) := .inr (.inr ⟨Hnc.out, noUnfitR (by have h1 := HP.out; rwa [Hm.out, List.take_length] at h1), rfl⟩)
          have x0 := (T.lv 0 rfl).all
          have y0 := (HY.out _ T.b).all
          clear HP Hnc
          obtain ⟨ZB, hZB⟩ : ∃ ZB, ZB = (‹World› : World).heap.size := ⟨_, rfl⟩
          have T1 := T.newAt (rlgCs K l.length ck (.slice none 0 0) (.slice none 0 0)) 39 ZB hZB
          clear T
          go_upto_region 16 with fail
          rw [← hZB]
          clear hZB x0 y0
          generalize World.alloc _ _ = w3 at T1 ⊢
          refine wp_region_mixT [] (fun wx => LV wx bx (pbx Y) 35 ∧ LV wx bz (pbx Y2) 35 ∧ Below w.heap.size w wx) (.q 0 (.p 1 (.p 2 (.q 3 (.q 4 (.p 5 (.p 6 (.q 7 (.p 11 (.e 8 (.e 9 (.q 10 .z)))))))))))) (by kernel_rfl) (by kernel_rfl) (fun w' hd => ⟨(T1.below (hd.below _)).lv 0 rfl, (T1.below (hd.below _)).lv 1 rfl, (T1.below (hd.below _)).b⟩) (fun KK hKK wd hd => ?_)
          have T := T1.below (hd.below _)
          clear hd T1
          refine mixT_loadR (.pointer (some ⟨Y, 0, none⟩)) rfl rfl rfl rfl (fun w' h => loadC1 rfl (h.1.cell 0 _ rfl)) ?_
          refine mpT ?_
          refine mixT_loadR (.slice A3 gn.length c3) rfl rfl rfl rfl (fun w' h => loadC1 rfl ((HY.out w' h.2.2).cell 2 _ rfl)) ?_
          refine mixT_loadR (.pointer (some ⟨Y2, 0, none⟩)) rfl rfl rfl rfl (fun w' h => loadC1 rfl (h.2.1.cell 0 _ rfl)) ?_
          refine mpT ?_
          refine mixT_loadR (.slice A4 gn2.length c4) rfl rfl rfl rfl (fun w' h => loadC1 rfl ((HY2.out w' h.2.2).cell 2 _ rfl)) ?_
          refine mpT ?_
          refine mixT_l rfl rfl (fun K9 hK9 => ?_)
          obtain ⟨X3, hX3⟩ : ∃ X3, X3 = wd.heap.size := ⟨_, rfl⟩
          have T2 := T.newAt #[.slice A3 gn.length c3, .slice A4 gn2.length c4] 37 X3 hX3
          go_wp2_with fail
          rw [← hX3]
          clear hX3 T
          generalize World.alloc _ _ = w4 at T2 ⊢
          refine ⟨⟨T2.lv 0 rfl, T2.lv 1 rfl, T2.b⟩, ?_⟩
          refine mixT_l rfl rfl (fun K9 hK9 => ?_)
          have Hca := Lib.hid (concatW_any X3 A3 A4 gn gn2 c3 c4 w4 (T2.lv 3 rfl) (HG.out w4 T2.b) (HG2.out w4 T2.b) (by omega) (by omega))
          go_wp2_with fail
          refine (Hca.out).mono ?_
          rintro e w5 ⟨vc, rfl, T9⟩
          obtain ⟨Ac, cc, ec, T8⟩ := T9.frz 0 rfl
          subst ec
          have T := (T2.join T8).del 3
          replace T : Mem w w5 [.loc bx (pbx Y) 35, .loc bz (pbx Y2) 35, .loc ZB (rlgCs K l.length ck (.slice none 0 0) (.slice none 0 0)) 39, .sl rStr Ac (gn ++ gn2)] := T
          have hC : LV w5 bx (pbx Y) 35 ∧ LV w5 bz (pbx Y2) 35 ∧ Below w.heap.size w w5 := ⟨T.lv 0 rfl, T.lv 1 rfl, T.b⟩
          obtain ⟨n3, hn3⟩ : ∃ n3, n3 = (gn ++ gn2).length := ⟨_, rfl⟩
          rw [← hn3]
          have Hn3 := Lib.hid hn3
          have hn3l : n3 ≤ 400 := by rw [hn3, List.length_append]; omega
          clear hn3 Hca T9 T8 T2
          go_wp2_with fail
          refine ⟨hC, ?_⟩
          clear hC
          refine mpT ?_
          refine mixT_nil ?_
          simp only [Exit.then]
          refine hKK _ _ ?_
          clear hKK KK
          have T1 := (T.nil rStr w.heap.size 9).front
          have HG0 := Lib.hid (GP.start (gn ++ gn2))
          clear T
          go_wp2_with fail
          go_loopw [94] (fun i wr => ∃ (k3 : Nat) (vg : Value) (gz : List ByteArray), k3 ≤ n3 ∧ i = .int .i64 k3 ∧ Hid (GP (gn ++ gn2) k3 gz) ∧ Mem w wr [.own rStr w.heap.size 9 vg gz, .loc bx (pbx Y) 35, .loc bz (pbx Y2) 35, .loc ZB (rlgCs K l.length ck (.slice none 0 0) vg) 39, .sl rStr Ac (gn ++ gn2)]) (fun i _ => n3 - (intOf i).toNat)
          case atStart => exact ⟨0, _, [], Nat.zero_le _, rfl, HG0, T1⟩
          case round =>
            clear T1 HG0
            obtain ⟨k3, vg, gz, hk3, rfl, HGP, T⟩ := hrel
            by_cases hlt : k3 < n3
            · obtain ⟨s, hs⟩ : ∃ s, (gn ++ gn2)[k3]? = some s := ⟨_, List.getElem?_eq_getElem (by have := Hn3.out; omega)⟩
              obtain ⟨blk, off, hA, hblk, d0⟩ := (T.slc 4 rfl).str k3 s hs
              subst hA
              have Hs := Lib.hid hs
              obtain ⟨Ag, cg, eg⟩ := (T.ow 0 rfl).len
              subst eg
              have z0 := (T.lv 3 rfl).all
              have Hc := Lib.hid (contG_any (T.ow 0 rfl) s (by have := HGP.out.ln; omega) _ (Below.refl _ _))
              obtain ⟨gg, hgg⟩ : ∃ gg, hasId gz s = gg := ⟨_, rfl⟩
              rw [hgg] at Hc
              have Hgg := Lib.hid hgg
              have HT := Lib.hid T
              have hgl3 : gz.length ≤ 400 := by have := HGP.out.ln; omega
              have hbs : w.heap.size ≤ (‹World› : World).heap.size := T.b.size
              clear hs hgg T
              go_wp2_with fail
              refine (Hc.out).mono ?_
              rintro e w6 ⟨rfl, rfl⟩
              clear Hc d0 hblk
              cases gg
              · have HG2 := Lib.hid (HGP.out.add Hs.out (hasId_no Hgg.out))
                go_upto_region 20 with fail
                generalize Value.slice Ag gz.length cg = vv at *
                go_upto_region 21 with (at_builtin; refine HT.out.app 0 rfl tyStrs rfl _ _ rfl s 1 rfl rfl rfl (oneStrs s) hbs (by omega) (by decide) ?_; intro v7 w7 S7; obtain ⟨g9, hg9⟩ : ∃ g9, gz ++ [s] = g9 := ⟨_, rfl⟩; rw [hg9] at S7 HG2; obtain ⟨A7, c7, e7⟩ := (S7.ow 0 rfl).len; subst e7; clear hg9; have z7 := (S7.lv 3 rfl).all)
                have S8 : Mem w (w7.setCell ⟨ZB, 2, none⟩ (.slice A7 g9.length c7)) [.own rStr w.heap.size 9 (.slice A7 g9.length c7) g9, .loc bx (pbx Y) 35, .loc bz (pbx Y2) 35, .loc ZB (rlgCs K l.length ck (.slice none 0 0) (.slice A7 g9.length c7)) 39, .sl rStr (some ⟨blk, off, none⟩) (gn ++ gn2)] := S7.set 3 2 (.slice A7 g9.length c7) rfl
                have HS8 := Lib.hid S8
                clear S7 S8 HT z0 z7
                go_wp2_with fail
                go_roundw
                case rel => exact ⟨k3 + 1, _, g9, by omega, by go_num, HG2, HS8.out⟩
                case measure => simp [intOf]; omega
              · have HG2 := Lib.hid (HGP.out.skip Hs.out ((hasId_iff _ _).1 Hgg.out))
                go_wp2_with fail
                go_roundw
                case rel => exact ⟨k3 + 1, _, gz, by omega, by go_num, HG2, HT.out⟩
                case measure => simp [intOf]; omega
            · have hkn : k3 = n3 := by omega
              subst hkn
              have Hgf : Hid (GP (gn ++ gn2) (gn ++ gn2).length gz) := by have h1 := HGP.out; rw [Hn3.out] at h1; exact h1
              obtain ⟨Ag, cg, eg⟩ := (T.ow 0 rfl).len
              subst eg
              have hgzl : gz.length ≤ 400 := by have := HGP.out.ln; omega
              clear HGP
              go_upto_region 22 with fail
              have T1 := T
              clear T
              refine wp_region_mixT [] (fun wx => LV wx bx (pbx Y) 35 ∧ LV wx bz (pbx Y2) 35 ∧ Below w.heap.size w wx) (.q 0 (.p 1 (.p 2 (.q 3 (.q 4 (.p 5 (.p 6 (.q 7 (.p 11 (.e 8 (.e 9 (.q 10 .z)))))))))))) (by kernel_rfl) (by kernel_rfl) (fun w' hd => ⟨(T1.below (hd.below _)).lv 1 rfl, (T1.below (hd.below _)).lv 2 rfl, (T1.below (hd.below _)).b⟩) (fun KK hKK wd hd => ?_)
              have T := T1.below (hd.below _)
              clear hd T1
              refine mixT_loadR (.pointer (some ⟨Y, 0, none⟩)) rfl rfl rfl rfl (fun w' h => loadC1 rfl (h.1.cell 0 _ rfl)) ?_
              refine mpT ?_
              refine mixT_loadR (.slice A0 ps.length c0) rfl rfl rfl rfl (fun w' h => loadC1 rfl ((HY.out w' h.2.2).cell 1 _ rfl)) ?_
              refine mixT_loadR (.pointer (some ⟨Y2, 0, none⟩)) rfl rfl rfl rfl (fun w' h => loadC1 rfl (h.2.1.cell 0 _ rfl)) ?_
              refine mpT ?_
              refine mixT_loadR (.slice A2 p2.length c2) rfl rfl rfl rfl (fun w' h => loadC1 rfl ((HY2.out w' h.2.2).cell 1 _ rfl)) ?_
              refine mpT ?_
              refine mixT_l rfl rfl (fun K9 hK9 => ?_)
              obtain ⟨X4, hX4⟩ : ∃ X4, X4 = wd.heap.size := ⟨_, rfl⟩
              have T2 := T.newAt #[.slice A0 ps.length c0, .slice A2 p2.length c2] 36 X4 hX4
              go_wp2_with fail
              rw [← hX4]
              clear hX4 T
              generalize World.alloc _ _ = w4 at T2 ⊢
              refine ⟨⟨T2.lv 1 rfl, T2.lv 2 rfl, T2.b⟩, ?_⟩
              refine mixT_l rfl rfl (fun K9 hK9 => ?_)
              have Hca := Lib.hid (concatE_any X4 A0 A2 ps p2 c0 c2 w4 (T2.lv 5 rfl) (HR.out w4 T2.b) (HR2.out w4 T2.b) (by omega) (by have := Hm.out; omega))
              go_wp2_with fail
              refine (Hca.out).mono ?_
              rintro e w5 ⟨vc, rfl, T9⟩
              obtain ⟨Ae, ce, ec, T8⟩ := T9.frz 0 rfl
              subst ec
              have T := (T2.join T8).del 5
              replace T : Mem w w5 [.own rStr w.heap.size 9 (.slice Ag gz.length cg) gz, .loc bx (pbx Y) 35, .loc bz (pbx Y2) 35, .loc ZB (rlgCs K l.length ck (.slice none 0 0) (.slice Ag gz.length cg)) 39, .sl rStr Ac (gn ++ gn2), .sl rEQ Ae (ps ++ p2)] := T
              have hC : LV w5 bx (pbx Y) 35 ∧ LV w5 bz (pbx Y2) 35 ∧ Below w.heap.size w w5 := ⟨T.lv 1 rfl, T.lv 2 rfl, T.b⟩
              obtain ⟨n4, hn4⟩ : ∃ n4, n4 = (ps ++ p2).length := ⟨_, rfl⟩
              rw [← hn4]
              have Hn4 := Lib.hid hn4
              have hn4l : n4 ≤ 400 := by rw [hn4, List.length_append]; have := Hm.out; omega
              clear hn4 Hca T9 T8 T2
              go_wp2_with fail
              refine ⟨hC, ?_⟩
              clear hC
              refine mpT ?_
              refine mixT_nil ?_
              simp only [Exit.then]
              refine hKK _ _ ?_
              clear hKK KK
              have T1 := ((T.del 4).nil rEQ w.heap.size 47).front
              have HZ0 := Lib.hid (ZP.start ps p2 gn gn2)
              clear T
              go_wp2_with fail
              go_loopw [127] (fun i wr => ∃ (k4 : Nat) (vz : Value) (zs : List EQ), k4 ≤ n4 ∧ i = .int .i64 k4 ∧ Hid (ZP ps p2 gn gn2 k4 zs) ∧ Mem w wr [.own rEQ w.heap.size 47 vz zs, .own rStr w.heap.size 9 (.slice Ag gz.length cg) gz, .loc bx (pbx Y) 35, .loc bz (pbx Y2) 35, .loc ZB (rlgCs K l.length ck vz (.slice Ag gz.length cg)) 39, .sl rEQ Ae (ps ++ p2)]) (fun i _ => n4 - (intOf i).toNat)
              case atStart => exact ⟨0, _, [], Nat.zero_le _, rfl, HZ0, T1⟩
              case round =>
                clear T1 HZ0
                obtain ⟨k4, vz, zs, hk4, rfl, HZ, T⟩ := hrel
                obtain ⟨Az, cz, ez⟩ := (T.ow 0 rfl).len
                subst ez
                have hzl : zs.length ≤ 400 := by have := HZ.out.ln; omega
                by_cases hlt : k4 < n4
                · obtain ⟨q, hq⟩ : ∃ q, (ps ++ p2)[k4]? = some q := ⟨_, List.getElem?_eq_getElem (by have := Hn4.out; omega)⟩
                  obtain ⟨blk, off, hA, hblk, d0, d1, d2, d3, d4, d5⟩ := hrowE (T.slc 5 rfl) hq
                  subst hA
                  have Hq := Lib.hid hq
                  clear hq
                  obtain ⟨E, hE⟩ : ∃ E, E = (‹World› : World).heap.size := ⟨_, rfl⟩
                  have T1 := (T.newAt (evCs q.e q.A q.c) 47 E hE).front
                  clear T
                  go_upto_region 25 with fail
                  rw [← hE]
                  clear hE d0 d1 d2 d3 d4 d5 hblk
                  generalize World.alloc _ _ = w3 at T1 ⊢
                  have e0 := (T1.lv 0 rfl).all
                  have Hpz := Lib.hid (place_log (fun _ => False) ZB K l.length ck Az cz (.slice Ag gz.length cg) zs q.e.id w3 (T1.lv 5 rfl) ((T1.ow 1 rfl).slF flatEQ) (by omega))
                  go_wp2_with fail
                  refine (Hpz.out).mono ?_
                  rintro e w4 ⟨i, rfl, hb4, hi⟩
                  have T4 := T1.below hb4
                  clear Hpz hb4 T1 e0
                  rcases hi with ⟨rfl, hno⟩ | ⟨k, p, rfl, hk, hp, _⟩
                  · have Hno : Hid (∀ z ∈ zs, z.e.id ≠ q.e.id) := fun y hy e => by
                      have h1 := hno y hy
                      rw [idIs_iff.2 e] at h1
                      cases h1
                    clear hno
                    obtain ⟨gg, hgg⟩ : ∃ gg, (hasId gn q.e.id || hasId gn2 q.e.id) = gg := ⟨_, rfl⟩
                    have hgo := Hgo.out bx bz q.e.id w4 w4 T4.b (T4.lv 3 rfl) (T4.lv 4 rfl) (Below.refl _ _)
                    rw [hgg] at hgo
                    have Hg := Lib.hid hgo
                    have Hgg := Lib.hid hgg
                    have e0 := (T4.lv 0 rfl).all
                    have HT4 := Lib.hid T4
                    clear hgo hgg T4
                    go_wp2_with fail
                    refine (Hg.out).mono ?_
                    rintro e w5 ⟨rfl, rfl⟩
                    clear Hg
                    cases gg
                    · have hg2 := Hgg.out
                      rw [Bool.or_eq_false_iff] at hg2
                      have HZ2 := Lib.hid (HZ.out.add Hq.out Hno.out (hasId_no hg2.1) (hasId_no hg2.2))
                      have hYw : w.heap.size ≤ w4.heap.size := HT4.out.b.size
                      clear hg2
                      go_upto_region 26 with fail
                      have T5 := HT4.out
                      clear HT4 e0
                      refine wp_region_mixT [10] (fun wx => LV wx ZB (rlgCs K l.length ck (.slice Az zs.length cz) (.slice Ag gz.length cg)) 39 ∧ LV wx E (evCs q.e q.A q.c) 47) (.p 0 (.p 1 (.p 2 (.p 3 (.q 4 (.q 5 (.e 6 (.e 7 (.p 8 (.p 9 (.b 10 .z))))))))))) (by kernel_rfl) (by kernel_rfl) (fun _ hd => ⟨(T5.below (hd.below _)).lv 5 rfl, (T5.below (hd.below _)).lv 0 rfl⟩) (fun KK hKK we hd => ?_)
                      have S2 := T5.below (hd.below _)
                      clear hd T5
                      refine mpT ?_
                      refine mixT_loadR (.slice Az zs.length cz) rfl rfl rfl rfl (fun w' h => loadC1 rfl (h.1.cell 1 _ rfl)) ?_
                      refine mpT ?_
                      refine mixT_loadR (.agg (evCs q.e q.A q.c)) rfl rfl rfl rfl (fun w' h => loadEvA h.2) ?_
                      refine mixT_l rfl rfl (fun K9 hK9 => ?_)
                      obtain ⟨Z9, hZ9⟩ : ∃ Z9, Z9 = we.heap.size := ⟨_, rfl⟩
                      have S5 := (S2.newAt (evCs q.e q.A q.c) 47 Z9 hZ9).front
                      go_wp2_with fail
                      rw [← hZ9]
                      clear hZ9 S2
                      generalize World.alloc _ _ = w6 at S5 ⊢
                      refine ⟨⟨S5.lv 6 rfl, S5.lv 1 rfl⟩, ?_⟩
                      refine mixT_l rfl rfl (fun K9 hK9 => ?_)
                      have HC9 := Lib.hid (rowCellsE (x := q) (S5.lv 0 rfl))
                      refine S5.appN flatEQ 2 rfl tyEvt rfl _ _ rfl [q] 1 1 rfl rfl ⟨Z9, 0, none⟩ rfl HC9.out (fun y _ => oneEQ y) (fun _ => rfl) S5.b.size (by simp only [List.length_singleton]; omega) (by decide) ?_
                      intro v5 w7 S6
                      obtain ⟨vs, hvs⟩ : ∃ vs, zs ++ [q] = vs := ⟨_, rfl⟩
                      rw [hvs] at S6 HZ2
                      obtain ⟨A5, c5, e5⟩ := (S6.ow 2 rfl).len
                      subst e5
                      clear S5 HC9 hvs
                      have hC := (⟨S6.lv 6 rfl, S6.lv 1 rfl⟩ : LV w7 ZB (rlgCs K l.length ck (.slice Az zs.length cz) (.slice Ag gz.length cg)) 39 ∧ LV w7 E (evCs q.e q.A q.c) 47)
                      have HS6 := Lib.hid S6
                      have t0 := hC.1.all
                      clear S6
                      go_wp2_with fail
                      refine ⟨hC, ?_⟩
                      clear hC
                      refine mpT ?_
                      refine mixT_b rfl rfl (fun K9 hK9 => ?_)
                      have S8 := HS6.out.set 6 1 (.slice A5 vs.length c5) rfl
                      have S9 : Mem w _ [.loc Z9 (evCs q.e q.A q.c) 47, .loc E (evCs q.e q.A q.c) 47, .own rEQ w.heap.size 47 (.slice A5 vs.length c5) vs, .own rStr w.heap.size 9 (.slice Ag gz.length cg) gz, .loc bx (pbx Y) 35, .loc bz (pbx Y2) 35, .loc ZB (rlgCs K l.length ck (.slice A5 vs.length c5) (.slice Ag gz.length cg)) 39, .sl rEQ (some ⟨blk, off, none⟩) (ps ++ p2)] := S8
                      have HS9 := Lib.hid ((S9.del 0).del 0)
                      clear S8 S9 HS6
                      go_wp2_with fail
                      refine ⟨trivial, ?_⟩
                      refine mixT_nil ?_
                      simp only [Exit.then]
                      refine hKK _ _ ?_
                      clear hKK KK t0
                      generalize World.setCell _ _ _ = w8 at HS9 ⊢
                      go_wp2_with fail
                      go_roundw
                      case rel => exact ⟨k4 + 1, _, vs, by omega, by go_num, HZ2, HS9.out⟩
                      case measure => simp [intOf]; omega
                    · have hg2 := Hgg.out
                      rw [Bool.or_eq_true] at hg2
                      have HZ2 := Lib.hid (HZ.out.skip Hpn.out Hp2.out Hap.out Hap2.out Hq.out (.inr (hg2.elim (fun h => .inl ((hasId_iff _ _).1 h)) (fun h => .inr ((hasId_iff _ _).1 h)))))
                      have HT6 := Lib.hid (HT4.out.del 0)
                      clear hg2 HT4 e0
                      go_wp2_with fail
                      go_roundw
                      case rel => exact ⟨k4 + 1, _, zs, by omega, by go_num, HZ2, HT6.out⟩
                      case measure => simp [intOf]; omega
                  · have HZ2 := Lib.hid (HZ.out.skip Hpn.out Hp2.out Hap.out Hap2.out Hq.out (.inl ⟨p, List.mem_of_getElem? hk, idIs_iff.1 hp⟩))
                    have HT6 := Lib.hid (T4.del 0)
                    clear hk hp T4
                    go_wp2_with fail
                    go_roundw
                    case rel => exact ⟨k4 + 1, _, zs, by omega, by go_num, HZ2, HT6.out⟩
                    case measure => simp [intOf]; omega
                · have hkn : k4 = n4 := by omega
                  subst hkn
                  have Hj : Hid (JoinedR ps gn p2 gn2 zs gz) := ZP.joined (by have h1 := HZ.out; rw [Hn4.out] at h1; exact h1) Hgf.out
                  have z0 := (T.lv 4 rfl).all
                  have hf1 : ((5000 : Int) < (zs.length : Int)) = False := by simp; omega
                  have hf2 : ((5000 : Int) < (gz.length : Int)) = False := by simp; omega
                  have hYw : Y < w.heap.size := (HS.out.lv 0 rfl).lt
                  have HT := Lib.hid T
                  clear T HZ
                  go_upto_region 30 with fail
                  have S1 := (HS.out.join HT.out).perm List.perm_append_comm
                  clear HT z0 hf1 hf2
                  refine wp_region_mixT [5] (fun wx => LV wx bx (pbx Y) 35 ∧ LV wx ZB (rlgCs K l.length ck (.slice Az zs.length cz) (.slice Ag gz.length cg)) 39) (.q 0 (.p 1 (.p 2 (.q 3 (.p 4 (.b 5 .z)))))) (by kernel_rfl) (by kernel_rfl) (fun _ hd => ⟨(S1.below (hd.below _)).lv 2 rfl, (S1.below (hd.below _)).lv 4 rfl⟩) (fun KK hKK we hd => ?_)
                  have S2 := S1.below (hd.below _)
                  clear hd S1
                  refine mixT_loadR (.pointer (some ⟨Y, 0, none⟩)) rfl rfl rfl rfl (fun w' h => loadC1 rfl (h.1.cell 0 _ rfl)) ?_
                  refine mpT ?_
                  refine mixT_loadR (.agg #[.slice K l.length ck, .slice Az zs.length cz, .slice Ag gz.length cg]) rfl rfl rfl rfl (fun w' h => loadRlA h.2) ?_
                  refine mpT ?_
                  refine mixT_b rfl rfl (fun K9 hK9 => ?_)
                  have y0 := (S2.lv 6 rfl).all
                  have S3 := ((S2.set 6 0 (.slice K l.length ck) rfl).set 6 1 (.slice Az zs.length cz) rfl).set 6 2 (.slice Ag gz.length cg) rfl
                  have S4 : Mem w0 _ (.own rEQ w.heap.size 47 (.slice Az zs.length cz) zs :: .own rStr w.heap.size 9 (.slice Ag gz.length cg) gz :: .loc bx (pbx Y) 35 :: .loc bz (pbx Y2) 35 :: .loc ZB (rlgCs K l.length ck (.slice Az zs.length cz) (.slice Ag gz.length cg)) 39 :: .sl rEQ Ae (ps ++ p2) :: .loc Y (rlgCs K l.length ck (.slice Az zs.length cz) (.slice Ag gz.length cg)) 39 :: .own rEQ B 47 (.slice A0 ps.length c0) ps :: .flds fs :: .own rStr B2 9 (.slice A3 gn.length c3) gn :: rlgP Y2 K2 n2 ck2 (.slice A2 p2.length c2) B3 p2 f2 (.slice A4 gn2.length c4) B4 gn2 ch) := S3
                  have HS4 := Lib.hid S4
                  clear S2 S3 S4
                  go_wp2_with fail
                  refine ⟨trivial, ?_⟩
                  refine mixT_nil ?_
                  simp only [Exit.then]
                  refine hKK _ _ ?_
                  clear hKK KK y0
                  generalize World.setCell _ _ _ = w8 at HS4 ⊢
                  have x0 := (HS4.out.lv 2 rfl).all
                  have y0 := (HS4.out.lv 6 rfl).all
                  have S5 := ((HS4.out.ownBase flatEQ 0 rfl (Nat.le_of_lt (Nat.lt_of_le_of_lt HB.out hYw))).ownBase flatStr 1 rfl (Nat.le_of_lt (Nat.lt_of_le_of_lt HB2.out hYw)))
                  have S6 := S5.turn 8 rfl (.flds (fs ++ f2)) rfl (fun q hq => by
                    rcases List.mem_append.1 hq with h | h
                    · exact S5.fl 8 rfl q h
                    · exact S5.fl 12 rfl q h)
                  have S7 : Mem w0 w8 (.own rEQ B 47 (.slice Az zs.length cz) zs :: .own rStr B2 9 (.slice Ag gz.length cg) gz :: .loc Y (rlgCs K l.length ck (.slice Az zs.length cz) (.slice Ag gz.length cg)) 39 :: .flds (fs ++ f2) :: rlgP Y2 K2 n2 ck2 (.slice A2 p2.length c2) B3 p2 f2 (.slice A4 gn2.length c4) B4 gn2 ch) := (((((S6.del 9).del 7).del 5).del 4).del 3).del 2
                  have HS8 := Lib.hid (S7.perm (perm_fin _ _ _ _ _))
                  clear S5 S6 S7 HS4
                  go_wp2_with fail
                  go_ret2
                  exact ⟨(zs.length : Int), 0, rfl, Hto.out, .inr ⟨rfl, _, zs, _, gz, rfl, Hj.out, HS8.out⟩⟩
end Go.Proofs.YtmlpkejeglpciaaGreatDoor

/- What slices.Backward over shifts hands out, and what handref2.Clock returns. -/
namespace Go.Proofs.YtmlpkejeglpciaaGreatDoor
open Go.RowKit Go.Shelf
attribute [local go_sem] Oper.semAt_some

def back (xs : List Sft) (k : Nat) : List (Nat × Sft) := (List.range k).map fun j => (xs.length - 1 - j, (xs[xs.length - 1 - j]?).getD ⟨0, 0⟩)
end Go.Proofs.YtmlpkejeglpciaaGreatDoor

/- What event.LocalAt, DayAt, Local and Day, and handref2.down and DayOf return. -/
namespace Go.Proofs.YtmlpkejeglpciaaGreatDoor
open Go.RowKit
set_option maxHeartbeats 4000000 in
set_option maxRecDepth 100000 in
theorem local1_any (N : Nat → Prop) (A : Option Addr) (nm : ByteArray) (xs : List Sft) (c Zb Mb k : Nat) (m : Int) (s : Sft) (w : World) (hS : Sl rSft N w A xs) (_hn : xs.length ≤ 1000) (hZ : LV w Zb #[.string nm, .slice A xs.length c] 91) (hM : LV w Mb #[.int .i64 m] 3) (hk : xs[k]? = some s) :
    Calls Tryz.prog 231 #[.int .i64 (k : Int), .pointer (some ⟨Zb, 0, none⟩), .pointer (some ⟨Mb, 0, none⟩)] w fun e w' => e = .returned (.bool (decide (m < s.at'))) ∧ Below w.heap.size w w' := by
  obtain ⟨blk, off, rfl, hblk, c0, c1⟩ := hS.sft k s hk
  have hlt : k < xs.length := (List.getElem?_eq_some_iff.1 hk).1
  have z1 : w.cell? ⟨Zb, 1, none⟩ = some (.slice (some ⟨blk, off, none⟩) xs.length c) := hZ.cell 1 _ rfl
  have m0 : w.cell? ⟨Mb, 0, none⟩ = some (.int .i64 m) := hM.cell 0 _ rfl
  clear hS hZ hM hk c1
  go_enter Tryz.func231, Tryz.ntmps231
  go_wp2_with fail
  go_quiet (fail)
  go_wp2_with fail
  go_ret
  exact ⟨rfl, below_drewN _ _ _⟩
def GivesCut (xs : List Sft) (m : Int) (w : World) (e : Ending) (w' : World) : Prop :=
  ∃ i : Nat, e = .returned (.int .i64 (i : Int)) ∧ i ≤ xs.length ∧ (∀ (p : Nat) (s : Sft), p < i → xs[p]? = some s → s.at' ≤ m) ∧ (∀ (p : Nat) (s : Sft), i ≤ p → xs[p]? = some s → m < s.at') ∧ Below w.heap.size w w'
set_option maxHeartbeats 4000000 in
set_option maxRecDepth 100000 in
theorem search_any (N : Nat → Prop) (A : Option Addr) (nm : ByteArray) (xs : List Sft) (c Zb Mb : Nat) (m : Int) (w : World) (hS : Sl rSft N w A xs) (hz : GoodZ xs) (hZ : LV w Zb #[.string nm, .slice A xs.length c] 91) (hM : LV w Mb #[.int .i64 m] 3) :
    Calls Tryz.prog 230 #[.int .i64 (xs.length : Int), .func (.func 231) #[] #[.pointer (some ⟨Zb, 0, none⟩), .pointer (some ⟨Mb, 0, none⟩)]] w (GivesCut xs m w) := by
  have hn := hz.len
  have Hz := Lib.hid hz
  have HS := Lib.hid hS
  clear hS hz
  go_enter Tryz.func230, Tryz.ntmps230
  go_wp2_with fail
  go_loopw [5, 6] (fun a b wr => ∃ i j : Nat, i ≤ j ∧ j ≤ xs.length ∧ a = .int .i64 i ∧ b = .int .i64 j ∧ (∀ (p : Nat) (s : Sft), p < i → xs[p]? = some s → s.at' ≤ m) ∧ (∀ (p : Nat) (s : Sft), j ≤ p → xs[p]? = some s → m < s.at') ∧ Below w.heap.size w wr) (fun a b _ => (intOf b - intOf a).toNat)
  case atStart => exact ⟨0, xs.length, by omega, by omega, rfl, rfl, (fun p f h => by omega), (fun p f h hp => by rw [List.getElem?_eq_none h] at hp; cases hp), Below.refl _ _⟩
  case round =>
    obtain ⟨i, j, hij, hj, rfl, rfl, hlo, hhi, hbl⟩ := hrel
    have Hlo := Lib.hid hlo
    have Hhi := Lib.hid hhi
    have hsz := hbl.size
    have hZr := LV.kb hZ hbl hZ.lt
    have hMr := LV.kb hM hbl hM.lt
    have HSr := Lib.hid (HS.out.keepB hbl)
    clear hlo hhi hZ hM
    by_cases hlt : i < j
    · obtain ⟨h, hh⟩ : ∃ h : Nat, h = (i + j) / 2 := ⟨_, rfl⟩
      have h1 : i ≤ h := by omega
      have h2 : h < j := by omega
      have eh : ((i : Int) + (j : Int)) / 2 = (h : Int) := by omega
      clear hh
      obtain ⟨s, hs⟩ : ∃ s, xs[h]? = some s := ⟨_, List.getElem?_eq_getElem (by omega)⟩
      have Hs := Lib.hid hs
      have Hc : Hid (Calls Tryz.prog 231 #[.int .i64 (h : Int), .pointer (some ⟨Zb, 0, none⟩), .pointer (some ⟨Mb, 0, none⟩)] wr fun e w' => e = .returned (.bool (decide (m < s.at'))) ∧ Below wr.heap.size wr w') := local1_any N A nm xs c Zb Mb h m s wr HSr.out (by omega) hZr hMr hs
      clear hs HSr hZr hMr
      go_wp2_with fail
      refine (Hc.out).mono ?_
      rintro e w1 ⟨rfl, hl_w1⟩
      have Hb1 : Hid (Below w.heap.size w w1) := hbl.trans (hl_w1.mono hsz)
      clear hl_w1 Hc
      by_cases hc : m < s.at'
      · have hc' : decide (m < s.at') = true := by simpa using hc
        rw [hc']
        have Hl : Hid (∀ (p : Nat) (t : Sft), h ≤ p → xs[p]? = some t → m < t.at') := fun p t hp ht => by
          by_cases hph : p = h
          · subst hph
            rw [Hs.out] at ht
            cases ht
            exact hc
          · have := Hz.out.rise h p s t (by omega) Hs.out ht
            omega
        clear hc hc'
        go_wp2_with fail
        go_roundw
        case rel => exact ⟨i, h, by omega, by omega, rfl, rfl, Hlo.out, Hl.out, Hb1.out⟩
        case measure => simp [intOf]; omega
      · have hc' : decide (m < s.at') = false := by simpa using hc
        rw [hc']
        have Hl : Hid (∀ (p : Nat) (t : Sft), p < h + 1 → xs[p]? = some t → t.at' ≤ m) := fun p t hp ht => by
          by_cases hph : p = h
          · subst hph
            rw [Hs.out] at ht
            cases ht
            omega
          · have := Hz.out.rise p h t s (by omega) ht Hs.out
            omega
        clear hc hc'
        go_wp2_with fail
        go_roundw
        case rel => exact ⟨h + 1, j, by omega, by omega, by go_num, rfl, Hl.out, Hhi.out, Hb1.out⟩
        case measure => simp [intOf]; omega
    · obtain rfl : i = j := by omega
      go_wp2_with fail
      go_ret
      exact ⟨i, rfl, by omega, Hlo.out, Hhi.out, hbl⟩
set_option maxHeartbeats 4000000 in
set_option maxRecDepth 100000 in
theorem localAt_any (N : Nat → Prop) (A : Option Addr) (nm : ByteArray) (xs : List Sft) (c : Nat) (m : Int) (w : World) (hS : Sl rSft N w A xs) (hz : GoodZ xs) (hm : 0 ≤ m ∧ m < 4321440) :
    Calls Tryz.prog 165 #[.agg #[.string nm, .slice A xs.length c], .int .i64 m] w fun e w' => e = .returned (.int .i64 (clk xs m)) ∧ Below w.heap.size w w' := by
  have hn := hz.len
  have Hz := Lib.hid hz
  have Hb0 : Hid (Below w.heap.size w ((w.alloc (.cells #[.string nm, .slice A xs.length c] 91)).alloc (.cells #[.int .i64 m] 3))) := ((Below.refl _ _).alloc (Nat.le_refl _) _).alloc (by simp) _
  have HS0 := Lib.hid (hS.keepB Hb0.out)
  have lvZ := (LV.new w w.heap.size #[.string nm, .slice A xs.length c] 91 rfl).alloc (.cells #[.int .i64 m] 3)
  have lvM := LV.new (w.alloc (.cells #[.string nm, .slice A xs.length c] 91)) (w.heap.size + 1) #[.int .i64 m] 3 (by simp)
  clear hS hz
  go_enter Tryz.func165, Tryz.ntmps165
  go_wp2_with fail
  refine (search_any N A nm xs c w.heap.size (w.heap.size + 1) m _ HS0.out Hz.out lvZ lvM).mono ?_
  rintro e w1 ⟨i, rfl, hi, hlo, hhi, hl1⟩
  have HS1 := Lib.hid (HS0.out.keepB hl1)
  have Hb1 := Lib.hid (Hb0.out.trans (hl1.mono (by simp; omega)))
  have lvZ1 := LV.kb lvZ hl1 lvZ.lt
  have lvM1 := LV.kb lvM hl1 lvM.lt
  have hi0 : i ≠ 0 := by
    rintro rfl
    have hlt : 0 < xs.length := Hz.out.ne
    have hk : xs[0]? = some xs[0] := List.getElem?_eq_getElem hlt
    have h1 := hhi 0 _ (Nat.le_refl _) hk
    have h2 := Hz.out.zero _ hk
    omega
  obtain ⟨j, rfl⟩ : ∃ j, i = j + 1 := ⟨i - 1, by omega⟩
  obtain ⟨s, hs⟩ : ∃ s, xs[j]? = some s := ⟨_, List.getElem?_eq_getElem (by omega)⟩
  obtain ⟨blk, off, rfl, hblk, c0, c1⟩ := HS1.out.sft j s hs
  have z1 : w1.cell? ⟨w.heap.size, 1, none⟩ = some (.slice (some ⟨blk, off, none⟩) xs.length c) := lvZ1.cell 1 _ rfl
  have m0 : w1.cell? ⟨w.heap.size + 1, 0, none⟩ = some (.int .i64 m) := lvM1.cell 0 _ rfl
  have Hr : Hid (clk xs m = m + s.off) := clk_at xs m j s hs (hlo j s (by omega) hs) (fun p t hp ht => hhi p t (by omega) ht)
  have hoff := (Hz.out.rng s (List.mem_of_getElem? hs)).2
  have hk3 : (j : Int) + 1 - 1 = (j : Int) := by omega
  have hk4 : ((j + 1 : Nat) : Int) - 1 = (j : Int) := by omega
  have hsum : IntKind.i64.wrap (m + s.off) = m + s.off := IntWalk.i64_in _ (by omega)
  clear hlo hhi hl1 hs c0 lvZ1 lvM1 lvZ lvM HS0 HS1 Hb0 hi0
  go_wp2_with fail
  go_quiet (fail)
  go_wp2_with fail
  go_ret
  exact ⟨ret_i Hr.out.symm, Hb1.out.trans (below_drewN _ _ _)⟩
def dayIn (c : Int) : Int := c / 1440
set_option maxHeartbeats 4000000 in
set_option maxRecDepth 100000 in
theorem dayAt_any (N : Nat → Prop) (A : Option Addr) (nm : ByteArray) (xs : List Sft) (c : Nat) (m : Int) (w : World) (hS : Sl rSft N w A xs) (hz : GoodZ xs) (hm : 0 ≤ m ∧ m < 4321440) :
    Calls Tryz.prog 112 #[.agg #[.string nm, .slice A xs.length c], .int .i64 m] w fun e w' => e = .returned (.int .i64 (dayIn (clk xs m))) ∧ Below w.heap.size w w' := by
  have Hb0 : Hid (Below w.heap.size w (w.alloc (.cells #[.string nm, .slice A xs.length c] 91))) := (Below.refl _ _).alloc (Nat.le_refl _) _
  have Hc := Lib.hid (localAt_any N A nm xs c m _ (hS.keepB Hb0.out) hz hm)
  have hle := clk_le xs m (fun s hs => (hz.rng s hs).2)
  generalize clk xs m = cl at *
  have Hr : Hid ((cl + 1440) / 1440 - 1 = dayIn cl) := by
    show _ = _
    unfold dayIn
    omega
  clear hS hz
  go_enter Tryz.func112, Tryz.ntmps112
  go_wp2_with fail
  refine (Hc.out).mono ?_
  rintro e w1 ⟨rfl, hl_w1⟩
  have hz_w1 := hl_w1.size
  have Hb1 := Lib.hid (Hb0.out.trans (hl_w1.mono (by simp)))
  clear Hc hl_w1 hz_w1
  go_wp2_with fail
  go_ret
  exact ⟨ret_i (by rw [← Hr.out]), Hb1.out⟩
def readV (f at' v : Int) : Value := if f ≠ 0 then .tuple #[.int .i64 0, .int .i64 f] else if ¬ (0 ≤ at' ∧ at' ≤ 4321439) then .tuple #[.int .i64 0, .int .i64 1] else .tuple #[.int .i64 v, .int .i64 0]
set_option maxHeartbeats 4000000 in
set_option maxRecDepth 100000 in
theorem day_any (N : Nat → Prop) (A : Option Addr) (nm : ByteArray) (xs : List Sft) (c : Nat) (m : Int) (w : World) (hS : Sl rSft N w A xs) (hnm : nm.size ≤ 1000000000) (hn : xs.length ≤ 1000000000) (hsm : ∀ s ∈ xs, s.small) :
    Calls Tryz.prog 44 #[.agg #[.string nm, .slice A xs.length c], .int .i64 m] w fun e w' => e = .returned (readV (zoneFault nm xs) m (dayIn (clk xs m))) ∧ Below w.heap.size w w' := by
  have Hb0 : Hid (Below w.heap.size w (w.alloc (.cells #[.string nm, .slice A xs.length c] 91))) := (Below.refl _ _).alloc (Nat.le_refl _) _
  have lvZ := LV.new w w.heap.size #[.string nm, .slice A xs.length c] 91 rfl
  have HS := Lib.hid (hS.keepB Hb0.out)
  have Hc := Lib.hid (checkZone_any N A nm xs c _ HS.out hnm hn hsm)
  have Hg : Hid (zoneFault nm xs = 0 → GoodZ xs) := fun h => zone_good h
  clear hS hsm
  generalize zoneFault nm xs = f at *
  obtain ⟨R, HR⟩ : ∃ R, Hid (readV f m (dayIn (clk xs m)) = R) := ⟨_, Lib.hid rfl⟩
  rw [HR.out]
  go_enter Tryz.func44, Tryz.ntmps44
  go_wp2_with fail
  refine (Hc.out).mono ?_
  rintro e w1 ⟨rfl, hl_w1⟩
  have hz_w1 := hl_w1.size
  have Hb1 := Lib.hid (Hb0.out.trans (hl_w1.mono (by simp)))
  have lv1 := LV.kb lvZ hl_w1 lvZ.lt
  have HS1 := Lib.hid (HS.out.keepB hl_w1)
  have z0 : w1.cell? ⟨w.heap.size, 0, none⟩ = some (.string nm) := lv1.cell 0 _ rfl
  have z1 : w1.cell? ⟨w.heap.size, 1, none⟩ = some (.slice A xs.length c) := lv1.cell 1 _ rfl
  clear Hc hl_w1 hz_w1 lvZ lv1 HS
  by_cases hf : f = 0
  · have Hgz := Lib.hid (Hg.out hf)
    subst hf
    clear Hg
    by_cases hm : 0 ≤ m ∧ m ≤ 4321439
    · have em : decide ((0 : Int) ≤ m ∧ m ≤ 4321439) = true := by simpa using hm
      have HR2 : Hid (.tuple #[.int .i64 (dayIn (clk xs m)), .int .i64 0] = R) := by show _ = _; rw [← HR.out, readV, if_neg (by simp), if_neg (not_not_intro hm)]
      clear HR
      have Hv : Hid (Calls Tryz.prog _ _ _ _) := Lib.hid (dayAt_any N A nm xs c m w1 HS1.out Hgz.out (by omega))
      generalize dayIn (clk xs m) = v at *
      go_wp2_with fail
      refine (ewithin_any _ _ _ _).mono ?_
      rintro e _ ⟨rfl, rfl⟩
      rw [em]
      go_wp2_with fail
      refine (Hv.out).mono ?_
      rintro e w2 ⟨rfl, hl_w2⟩
      have Hb2 := Lib.hid (Hb1.out.trans (hl_w2.mono Hb1.out.size))
      clear Hv hl_w2
      go_wp2_with fail
      go_ret2
      exact ⟨by rw [← HR2.out]; rfl, Hb2.out⟩
    · have em : decide ((0 : Int) ≤ m ∧ m ≤ 4321439) = false := by simpa using hm
      have HR2 : Hid (.tuple #[.int .i64 0, .int .i64 1] = R) := by show _ = _; rw [← HR.out, readV, if_neg (by simp), if_pos hm]
      clear HR
      go_wp2_with fail
      refine (ewithin_any _ _ _ _).mono ?_
      rintro e _ ⟨rfl, rfl⟩
      rw [em]
      go_wp2_with fail
      go_ret2
      exact ⟨by rw [← HR2.out]; rfl, Hb1.out⟩
  · have e0 : (f != 0) = true := by simpa using hf
    have HR2 : Hid (.tuple #[.int .i64 0, .int .i64 f] = R) := by show _ = _; rw [← HR.out, readV, if_pos hf]
    clear HR hf
    go_wp2_with fail
    go_ret2
    exact ⟨by rw [← HR2.out]; rfl, Hb1.out⟩
end Go.Proofs.YtmlpkejeglpciaaGreatDoor
