/- Several texts in one: LogRAdd, EvsChk, NamedOf, EvsLaw, NamedChk, Map. -/
import Derived.Test.YtmlpkejeglpciaaGreatDoorPkAK
import Derived.Test.YtmlpkejeglpciaaGreatDoorPkAQ
import Derived.Test.YtmlpkejeglpciaaGreatDoorPkAP
import Derived.Test.YtmlpkejeglpciaaGreatDoorPkAS
import Derived.Test.YtmlpkejeglpciaaGreatDoorPkAL
import Derived.Test.YtmlpkejeglpciaaGreatDoorPkAH
import Derived.Test.YtmlpkejeglpciaaGreatDoorPkAG
import Derived.Deep.DeepCutAuto
import Derived.Test.YtmlpkejeglpciaaGreatDoorPkAE
import Derived.Maps.OwnOps
import Derived.Carry
/- handref2.(*Log).Add: an event is added to what came, or it is told why not. -/
namespace Go.Proofs.YtmlpkejeglpciaaGreatDoor
open Go Go.RowKit
abbrev rlgP (Y : Nat) (K : Option Addr) (n ck : Nat) (v : Value) (B : Nat) (ps fs : List EQ) (g : Value) (B2 : Nat) (gn : List ByteArray) (ch : List Chunk) : List Chunk :=
  .loc Y (rlgCs K n ck v g) 39 :: .own rEQ B 47 v ps :: .flds fs :: .own rStr B2 9 g gn :: ch
theorem containsS_has (l : List ByteArray) (x : ByteArray) : Lib.containsS l x = hasId l x := by
  rw [Bool.eq_iff_iff, Lib.containsS_iff, hasId_iff]
theorem contG_any {M : Nat → Prop} {w : World} {B : Nat} {g : Value} {gn : List ByteArray} (h : Own rStr M B 9 w g gn) (x : ByteArray) (hl : gn.length ≤ 1000000) (w' : World) (hb : Below w.heap.size w w') :
    Calls Tryz.prog 58 #[g, .string x] w' fun e w'' => e = .returned (.bool (hasId gn x)) ∧ w' = w'' := by
  obtain ⟨A, c, rfl⟩ := h.len
  have h1 := containsStr_any (fun _ => False) A gn c gn.length x w' ((h.slF flatStr).keepB hb) (Nat.le_refl _) hl
  rw [List.take_length, containsS_has] at h1
  exact h1
def GivesAddR (Y : Nat) (K : Option Addr) (n ck : Nat) (v : Value) (B : Nat) (ps fs : List EQ) (g : Value) (B2 : Nat) (gn : List ByteArray) (F : Int) (q : EQ) (w0 : World) (ch : List Chunk) (e : Ending) (w' : World) : Prop :=
  ∃ (ok : Bool) (er : Int), e = .returned (.tuple #[.bool ok, .int .i64 er]) ∧ AddTo (ps.map EQ.e) gn q.e F ok er ∧
    ((ok = false ∧ Mem w0 w' (rlgP Y K n ck v B ps fs g B2 gn ch)) ∨ (ok = true ∧ ∃ v' : Value, Mem w0 w' (rlgP Y K n ck v' B (ps ++ [q]) fs g B2 gn ch)))
set_option maxHeartbeats 8000000 in
set_option maxRecDepth 100000 in
theorem add_rlg {w0 w : World} (ch : List Chunk) (Y : Nat) (l : List Scm) (K : Option Addr) (ck : Nat) (v : Value) (B : Nat) (ps fs : List EQ) (g : Value) (B2 : Nat) (gn : List ByteArray) (q : EQ) (S : Mem w0 w (rlgP Y K l.length ck v B ps fs g B2 gn ch))
    (hS : Sl rScm (fun _ => False) w K l) (hso : ScmOk l) (hqf : q ∈ fs) (hsub : ∀ p ∈ ps, p ∈ fs) (hok : ∀ p ∈ fs, EvSm p.e) (hT : Tabs w) (hM : MaxL w) (hl : ps.length ≤ 900) (hgl : gn.length ≤ 900) (hB : B ≤ Y) :
    Calls Tryz.prog 15 #[.pointer (some ⟨Y, 0, none⟩), .agg (evCs q.e q.A q.c)] w (GivesAddR Y K l.length ck v B ps fs g B2 gn (evFault l q.e) q w0 ch) := by
  have hFd : FldsOk (fun _ => False) w fs := fun p hp => (S.fl 2 rfl p hp).mono (fun _ _ h => h.elim)
  obtain ⟨F, hFF⟩ : ∃ F, evFault l q.e = F := ⟨_, rfl⟩
  have Hef : Hid (∀ w', Below w.heap.size w w' → Calls Tryz.prog 55 #[.slice K l.length ck, .agg (evCs q.e q.A q.c)] w' fun e w'' => e = .returned (.int .i64 F) ∧ Below w'.heap.size w' w'') := fun w' h => by
    rw [← hFF]
    exact eventFault_any (fun _ => False) K q.A l ck q.c q.e w' (hS.keepB h) hso ((hFd q hqf).keepB h) (hok q hqf).ok (Utf8Tabs_below hT h) (hM.below h)
  rw [hFF]
  obtain ⟨A0, c0, rfl⟩ := (S.ow 1 rfl).len
  have hSq := (S.ow 1 rfl).slF flatEQ
  have hSg := S.ow 3 rfl
  obtain ⟨E, hE⟩ : ∃ E, E = w.heap.size := ⟨_, rfl⟩
  have S1 : Mem w0 _ (.loc E (evCs q.e q.A q.c) 47 :: rlgP Y K l.length ck (.slice A0 ps.length c0) B ps fs g B2 gn ch) := (S.newAt (evCs q.e q.A q.c) 47 E hE).front
  have hb1 : Below w.heap.size w (w.alloc (.cells (evCs q.e q.A q.c) 47)) := (Below.refl _ _).alloc (Nat.le_refl _) _
  have Hpl : Hid (∀ w', Below w.heap.size w w' → LV w' Y (rlgCs K l.length ck (.slice A0 ps.length c0) g) 39 → Calls Tryz.prog 56 #[.pointer (some ⟨Y, 0, none⟩), .string q.e.id] w' (GivesIF (idIs q.e.id) ps w')) := fun w' h hY =>
    place_log (fun _ => False) Y K l.length ck A0 c0 g ps q.e.id w' hY (hSq.keepB h) (Nat.le_trans hl (by decide))
  have Hsm : Hid (∀ p ∈ ps, ∀ w', Below w.heap.size w w' → Calls Tryz.prog 57 #[.agg (evCs p.e p.A p.c), .agg (evCs q.e q.A q.c)] w' (GivesEq (p.e = q.e) w')) := fun p hp w' h =>
    sameEvG_any (fun _ => False) (fun _ => False) p.e q.e p.A q.A p.c q.c w' ((hFd p (hsub p hp)).keepB h) ((hFd q hqf).keepB h) (Nat.le_trans (hok p (hsub p hp)).fl (by decide)) (Nat.le_trans (hok q hqf).fl (by decide))
  have Hct : Hid (∀ w', Below w.heap.size w w' → Calls Tryz.prog 58 #[g, .string q.e.id] w' fun e w'' => e = .returned (.bool (hasId gn q.e.id)) ∧ w' = w'') := fun w' h => contG_any hSg q.e.id (Nat.le_trans hgl (by decide)) w' h
  have Hrw : Hid (∀ w', Below w.heap.size w w' → Sl rEQ (fun _ => False) w' A0 ps) := fun w' h => hSq.keepB h
  have Hl := Lib.hid hl
  have HB := Lib.hid hB
  clear hS hso hok hT hM hB hSq hSg hFd hFF S hl hgl hqf hsub
  go_enter Tryz.func15, Tryz.ntmps15
  go_upto_region 1 with fail
  rw [← hE]
  clear hE
  generalize w.alloc (.cells (evCs q.e q.A q.c) 47) = w1 at *
  refine wp_region_mixT [] (fun wx => LV wx Y (rlgCs K l.length ck (.slice A0 ps.length c0) g) 39 ∧ LV wx E (evCs q.e q.A q.c) 47) (.p 0 (.p 1 (.p 2 (.q 3 (.q 4 (.e 5 (.p 6 .z))))))) (by kernel_rfl) (by kernel_rfl) (fun _ hd => ⟨(S1.below (hd.below _)).lv 1 rfl, (S1.below (hd.below _)).lv 0 rfl⟩) (fun KK hKK wd hd => ?_)
  have S := S1.below (hd.below _)
  have hbd := hb1.trans ((hd.below w1.heap.size).mono hb1.size)
  clear hd S1 hb1
  refine mpT ?_
  refine mixT_loadR (.slice K l.length ck) rfl rfl rfl rfl (fun w' h => loadC1 rfl (h.1.cell 0 _ rfl)) ?_
  refine mpT ?_
  refine mixT_loadR (.agg (evCs q.e q.A q.c)) rfl rfl rfl rfl (fun w' h => loadEvA h.2) ?_
  refine mixT_l rfl rfl (fun K9 hK9 => ?_)
  have HS := Lib.hid S
  have Hbd := Lib.hid hbd
  have Hb := Lib.hid (Hef.out wd hbd)
  clear S hbd Hef
  go_wp2_with fail
  refine (Hb.out).mono ?_
  rintro e w3 ⟨rfl, hb⟩
  have S := HS.out.below hb
  have Hb3 := Lib.hid (Hbd.out.trans (hb.mono Hbd.out.size))
  have hC := (⟨S.lv 1 rfl, S.lv 0 rfl⟩ : LV w3 Y (rlgCs K l.length ck (.slice A0 ps.length c0) g) 39 ∧ LV w3 E (evCs q.e q.A q.c) 47)
  clear HS hb Hb Hbd
  go_wp2_with fail
  refine ⟨hC, ?_⟩
  clear hC
  refine mpT ?_
  refine mixT_nil ?_
  simp only [Exit.then]
  refine hKK _ _ ?_
  clear hKK KK
  by_cases hF0 : F = 0
  · subst hF0
    have y0 := (S.lv 0 rfl).all
    have Hf := Lib.hid (Hpl.out w3 Hb3.out (S.lv 1 rfl))
    have HS := Lib.hid S
    clear S Hpl
    go_wp2_with fail
    refine (Hf.out).mono ?_
    rintro e w4 ⟨i, rfl, hb4, hi⟩
    have S4 := HS.out.below hb4
    have Hb4 := Lib.hid (Hb3.out.trans (hb4.mono Hb3.out.size))
    clear Hf hb4 HS y0 Hb3
    rcases hi with ⟨rfl, hno⟩ | ⟨j, p, rfl, hj, hp, _⟩
    · have Hno : Hid (∀ y ∈ ps.map EQ.e, y.id ≠ q.e.id) := fun y hy e => by
        obtain ⟨p, hpm, rfl⟩ := List.mem_map.1 hy
        have h1 := hno p hpm
        rw [idIs_iff.2 e] at h1
        cases h1
      clear hno
      go_upto_region 9 with fail
      refine wp_region_mixT [] (fun wx => LV wx Y (rlgCs K l.length ck (.slice A0 ps.length c0) g) 39 ∧ LV wx E (evCs q.e q.A q.c) 47) (.p 0 (.p 1 (.p 2 (.q 3 (.p 4 (.q 5 (.e 6 .z))))))) (by kernel_rfl) (by kernel_rfl) (fun _ hd => ⟨(S4.below (hd.below _)).lv 1 rfl, (S4.below (hd.below _)).lv 0 rfl⟩) (fun KK hKK wd hd => ?_)
      have S := S4.below (hd.below _)
      have hbd := Hb4.out.trans ((hd.below w4.heap.size).mono Hb4.out.size)
      clear hd S4 Hb4
      refine mpT ?_
      refine mixT_loadR g rfl rfl rfl rfl (fun w' h => loadC1 rfl (h.1.cell 2 _ rfl)) ?_
      refine mpT ?_
      refine mixT_loadR (.string q.e.id) rfl rfl rfl rfl (fun w' h => loadC1 rfl (h.2.cell 0 _ rfl)) ?_
      refine mixT_l rfl rfl (fun K9 hK9 => ?_)
      have HS := Lib.hid S
      have Hbd := Lib.hid hbd
      have Hb := Lib.hid (Hct.out wd hbd)
      clear S hbd Hct
      obtain ⟨gg, hgg⟩ : ∃ gg, hasId gn q.e.id = gg := ⟨_, rfl⟩
      rw [hgg] at Hb
      have Hg := Lib.hid hgg
      clear hgg
      go_wp2_with fail
      refine (Hb.out).mono ?_
      rintro e w5 ⟨rfl, rfl⟩
      have hC := (⟨HS.out.lv 1 rfl, HS.out.lv 0 rfl⟩ : LV wd Y (rlgCs K l.length ck (.slice A0 ps.length c0) g) 39 ∧ LV wd E (evCs q.e q.A q.c) 47)
      clear Hb
      go_wp2_with fail
      refine ⟨hC, ?_⟩
      clear hC
      refine mixT_nil ?_
      simp only [Exit.then]
      refine hKK _ _ ?_
      clear hKK KK
      have S := HS.out
      clear HS
      cases gg
      · have Hgn0 : Hid (q.e.id ∉ gn) := hasId_no Hg.out
        have l0 := (S.lv 1 rfl).all
        have hln : ((5000 : Int) ≤ (ps.length : Int)) = False := by have := Hl.out; simp; omega
        have hBd : B ≤ wd.heap.size := Nat.le_trans HB.out (Nat.le_of_lt (S.lv 1 rfl).lt)
        have HBd := Lib.hid hBd
        have HS := Lib.hid S
        clear S hBd
        go_upto_region 13 with fail
        have S := HS.out
        clear HS l0 hln
        refine wp_region_mixT [10] (fun wx => LV wx Y (rlgCs K l.length ck (.slice A0 ps.length c0) g) 39 ∧ LV wx E (evCs q.e q.A q.c) 47) (.p 0 (.p 1 (.p 2 (.p 3 (.q 4 (.q 5 (.e 6 (.e 7 (.p 8 (.p 9 (.b 10 .z))))))))))) (by kernel_rfl) (by kernel_rfl) (fun _ hd => ⟨(S.below (hd.below _)).lv 1 rfl, (S.below (hd.below _)).lv 0 rfl⟩) (fun KK hKK we hd => ?_)
        have S2 := S.below (hd.below _)
        have hBe : B ≤ we.heap.size := Nat.le_trans HBd.out (hd.below wd.heap.size).size
        clear hd S HBd
        refine mpT ?_
        refine mixT_loadR (.slice A0 ps.length c0) rfl rfl rfl rfl (fun w' h => loadC1 rfl (h.1.cell 1 _ rfl)) ?_
        refine mpT ?_
        refine mixT_loadR (.agg (evCs q.e q.A q.c)) rfl rfl rfl rfl (fun w' h => loadEvA h.2) ?_
        refine mixT_l rfl rfl (fun K9 hK9 => ?_)
        obtain ⟨Z, hZ⟩ : ∃ Z, Z = we.heap.size := ⟨_, rfl⟩
        have S5 := (S2.newAt (evCs q.e q.A q.c) 47 Z hZ).front
        have hB5 : B ≤ (we.alloc (.cells (evCs q.e q.A q.c) 47)).heap.size := by rw [World.size_alloc]; omega
        go_wp2_with fail
        rw [← hZ]
        clear hZ S2 hBe
        generalize we.alloc (.cells (evCs q.e q.A q.c) 47) = w6 at *
        refine ⟨⟨S5.lv 2 rfl, S5.lv 1 rfl⟩, ?_⟩
        refine mixT_l rfl rfl (fun K9 hK9 => ?_)
        have HC9 := Lib.hid (rowCellsE (x := q) (S5.lv 0 rfl))
        refine S5.appN flatEQ 3 rfl tyEvt rfl _ _ rfl [q] 1 1 rfl rfl ⟨Z, 0, none⟩ rfl HC9.out (fun y _ => oneEQ y) (fun _ => rfl) hB5 (by have := Hl.out; simp only [List.length_singleton]; omega) (by decide) ?_
        intro v5 w7 S6
        obtain ⟨vs, hvs⟩ : ∃ vs, ps ++ [q] = vs := ⟨_, rfl⟩
        rw [hvs] at S6
        have Hvs := Lib.hid hvs
        obtain ⟨A5, c5, e5⟩ := (S6.ow 3 rfl).len
        subst e5
        clear S5 HC9 hB5 hvs
        have hC := (⟨S6.lv 2 rfl, S6.lv 1 rfl⟩ : LV w7 Y (rlgCs K l.length ck (.slice A0 ps.length c0) g) 39 ∧ LV w7 E (evCs q.e q.A q.c) 47)
        have HS6 := Lib.hid S6
        have t0 := hC.1.all
        clear S6
        go_wp2_with fail
        refine ⟨hC, ?_⟩
        clear hC
        refine mpT ?_
        refine mixT_b rfl rfl (fun K9 hK9 => ?_)
        have S8 := HS6.out.set 2 1 (.slice A5 vs.length c5) rfl
        have S9 : Mem w0 _ (.loc Z (evCs q.e q.A q.c) 47 :: .loc E (evCs q.e q.A q.c) 47 :: rlgP Y K l.length ck (.slice A5 vs.length c5) B vs fs g B2 gn ch) := S8
        have HS9 := Lib.hid ((S9.del 0).del 0)
        clear S8 S9 HS6
        go_wp2_with fail
        refine ⟨trivial, ?_⟩
        refine mixT_nil ?_
        simp only [Exit.then]
        refine hKK _ _ ?_
        clear hKK KK t0
        generalize w7.setCell _ _ = w8 at HS9 ⊢
        go_wp2_with fail
        go_ret2
        exact ⟨true, 0, rfl, .inr (.inr (.inr (.inr ⟨rfl, Hno.out, Hgn0.out, rfl, rfl⟩))), .inr ⟨rfl, _, by rw [Hvs.out]; exact HS9.out⟩⟩
      · have Hgn1 : Hid (q.e.id ∈ gn) := (hasId_iff _ _).1 Hg.out
        have HS10 := Lib.hid (S.del 0)
        clear S
        go_wp2_with fail
        go_ret2
        exact ⟨false, 0, rfl, .inr (.inr (.inr (.inl ⟨rfl, Hno.out, Hgn1.out, rfl, rfl⟩))), .inl ⟨rfl, HS10.out⟩⟩
    · have hid : p.e.id = q.e.id := idIs_iff.1 hp
      have Hid' := Lib.hid hid
      have Hpm := Lib.hid (List.mem_of_getElem? hj)
      have Hj := Lib.hid hj
      have hjl : j < ps.length := (List.getElem?_eq_some_iff.1 hj).1
      clear hp hid hj
      have l0 := (S4.lv 1 rfl).all
      have HS4 := Lib.hid S4
      clear S4
      go_upto_region 6 with fail
      have S4 := HS4.out
      clear HS4 l0
      have hb00 := Hb4.out
      refine wp_region_mixT [] (fun wx => LV wx Y (rlgCs K l.length ck (.slice A0 ps.length c0) g) 39 ∧ LV wx E (evCs q.e q.A q.c) 47 ∧ Below w.heap.size w wx) (.p 0 (.p 1 (.p 2 (.q 3 (.p 4 (.p 5 (.q 6 (.q 7 (.e 8 .z))))))))) (by kernel_rfl) (by kernel_rfl) (fun _ hd => ⟨(S4.below (hd.below _)).lv 1 rfl, (S4.below (hd.below _)).lv 0 rfl, hb00.trans ((hd.below w4.heap.size).mono hb00.size)⟩) (fun KK hKK wd hd => ?_)
      have S := S4.below (hd.below _)
      have hbd := Hb4.out.trans ((hd.below w4.heap.size).mono Hb4.out.size)
      obtain ⟨blk, off, hA0, _⟩ := hrowE (Hrw.out wd hbd) Hj.out
      subst hA0
      clear hd S4 Hb4 hb00
      refine mpT ?_
      refine mixT_loadR (.slice (some ⟨blk, off, none⟩) ps.length c0) rfl rfl rfl rfl (fun w' h => loadC1 rfl (h.1.cell 1 _ rfl)) ?_
      refine mpT ?_
      refine mixT_loadR (.agg (evCs p.e p.A p.c)) rfl rfl rfl rfl (fun w' h => by
        obtain ⟨b2, o2, e2, _, d0, d1, d2, d3, d4, d5⟩ := hrowE (Hrw.out w' h.2.2) Hj.out
        cases e2
        go_simp) ?_
      refine mpT ?_
      refine mixT_loadR (.agg (evCs q.e q.A q.c)) rfl rfl rfl rfl (fun w' h => loadEvA h.2.1) ?_
      refine mixT_l rfl rfl (fun K9 hK9 => ?_)
      have HS := Lib.hid S
      have Hbd := Lib.hid hbd
      have Hb := Lib.hid (Hsm.out p Hpm.out wd hbd)
      clear S hbd Hsm
      go_wp2_with fail
      refine (Hb.out).mono ?_
      rintro e w5 ⟨bb, rfl, hbb, hb5⟩
      have S5 := HS.out.below hb5
      have Hbb := Lib.hid hbb
      have hC := (⟨S5.lv 1 rfl, S5.lv 0 rfl, Hbd.out.trans (hb5.mono Hbd.out.size)⟩ : LV w5 Y (rlgCs K l.length ck (.slice (some ⟨blk, off, none⟩) ps.length c0) g) 39 ∧ LV w5 E (evCs q.e q.A q.c) 47 ∧ Below w.heap.size w w5)
      have HS5 := Lib.hid (S5.del 0)
      clear HS Hb hbb hb5 S5 Hbd
      go_wp2_with fail
      refine ⟨hC, ?_⟩
      clear hC
      refine mixT_nil ?_
      simp only [Exit.then]
      refine hKK _ _ ?_
      clear hKK KK
      cases bb
      · have Hne : Hid (p.e ≠ q.e) := fun e => by have := Hbb.out.2 e; cases this
        go_wp2_with fail
        go_ret2
        exact ⟨false, 13, rfl, .inr (.inr (.inl ⟨rfl, ⟨p.e, List.mem_map_of_mem Hpm.out, Hid'.out, Hne.out⟩, rfl, rfl⟩)), .inl ⟨rfl, HS5.out⟩⟩
      · have He : Hid (p.e = q.e) := Hbb.out.1 rfl
        go_wp2_with fail
        go_ret2
        exact ⟨false, 0, rfl, .inr (.inl ⟨rfl, by rw [← He.out]; exact List.mem_map_of_mem Hpm.out, rfl, rfl⟩), .inl ⟨rfl, HS5.out⟩⟩
  · have Hn : Hid (¬ F = 0) := hF0
    have HS := Lib.hid (S.del 0)
    clear S
    go_wp2_with fail
    go_ret2
    exact ⟨false, F, rfl, .inl ⟨Hn.out, rfl, rfl⟩, .inl ⟨rfl, HS.out⟩⟩
end Go.Proofs.YtmlpkejeglpciaaGreatDoor

/- What event.Check and handref2.EventsFault return. -/
namespace Go.Proofs.YtmlpkejeglpciaaGreatDoor
open Go Go.RowKit
end Go.Proofs.YtmlpkejeglpciaaGreatDoor

/- What handref2.NamedOf returns. -/
namespace Go.Proofs.YtmlpkejeglpciaaGreatDoor
open Go Go.RowKit
end Go.Proofs.YtmlpkejeglpciaaGreatDoor

/- Right lists of events in plain words: each is right, and they rise. -/
namespace Go.Proofs.YtmlpkejeglpciaaGreatDoor
open Go.RowKit
structure GoodEvs (l : List Evt) : Prop where
  len : l.length ≤ 5000
  ok : ∀ e ∈ l, evtFault e = 0
  ord : l.Pairwise (fun a b => befE a b = true)
end Go.Proofs.YtmlpkejeglpciaaGreatDoor

/- What event.checkNamed returns. -/
namespace Go.Proofs.YtmlpkejeglpciaaGreatDoor
open Go Go.RowKit
end Go.Proofs.YtmlpkejeglpciaaGreatDoor

/- A map of the call's own, keyed by numbers: a piece of memory. -/
namespace Go.Proofs.YtmlpkejeglpciaaGreatDoor
open Go Go.RowKit Go.MapKept
section
variable {P : Program}
end
section
variable {ops : Array Oper} {rest : List Oper} {o : Oper} {a : Act} {Q : Exit → Act → World → Prop}
end
end Go.Proofs.YtmlpkejeglpciaaGreatDoor
