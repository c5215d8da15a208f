/- Several texts in one: EvRef, SuitRef, Contains. -/
import Derived.Test.YtmlpkejeglpciaaGreatDoorPkAD
import Derived.Test.YtmlpkejeglpciaaGreatDoorPkAR
import Derived.Test.YtmlpkejeglpciaaGreatDoorPkAH
import Derived.Test.YtmlpkejeglpciaaGreatDoorPkAE
import Derived.Deep.DeepCutAuto
import Derived.Test.YtmlpkejeglpciaaGreatDoorPkAP
import Derived.Test.YtmlpkejeglpciaaGreatDoorPkAF
import Derived.Test.YtmlpkejeglpciaaGreatDoorPkAC
import Derived.Test.YtmlpkejeglpciaaGreatDoorShelf
/- What handref2.SchemasFault, first and eventFault return. -/
namespace Go.Proofs.YtmlpkejeglpciaaGreatDoor
open Go.RowKit
theorem key_le {o : Option ByteArray} {nm : ByteArray} (h : L.isKey nm = true) : o.any (fun p => leS nm p) = leS nm (o.getD ⟨#[]⟩) := by
  cases o with
  | none => rw [show (none : Option ByteArray).getD ⟨#[]⟩ = ⟨#[]⟩ from rfl, leS_nil nm h]; rfl
  | some q => rfl
structure Clo where
  g : Nat
  caps : Array Value
  err : Int
def Clo.val (c : Clo) : Value := .func (.func c.g) #[] c.caps
set_option maxHeartbeats 1000000 in
theorem first_any (blk n : Nat) (cs : List Clo) (w : World) (hnn : n = cs.length) (h : LV w blk (cs.map Clo.val).toArray 172) (hn : cs.length ≤ 1000) (he : ∀ c ∈ cs, ∀ args w, (callFunc c.g args).run Tryz.prog w = .ok (.enter c.g args) w)
    (hc : ∀ c ∈ cs, ∀ w', Below w.heap.size w w' → Calls Tryz.prog c.g c.caps w' fun e w'' => e = .returned (.int .i64 c.err) ∧ Below w'.heap.size w' w'') :
    Calls Tryz.prog 129 #[.slice (some ⟨blk, 0, none⟩) n n] w fun e w' => e = .returned (.int .i64 (firstErr (cs.map Clo.err))) ∧ Below w.heap.size w w' := by
  subst hnn
  have He := Lib.hid he
  have Hc := Lib.hid hc
  have Hh := Lib.hid h
  clear he hc h
  obtain ⟨R, HR⟩ : ∃ R, Hid (firstErr (cs.map Clo.err) = R) := ⟨_, Lib.hid rfl⟩
  rw [HR.out]
  go_enter Tryz.func129, Tryz.ntmps129
  go_wp2_with fail
  go_loopw [8] (fun i wr => ∃ k : Nat, k ≤ cs.length ∧ i = .int .i64 k ∧ firstErr ((cs.drop k).map Clo.err) = R ∧ Below w.heap.size w wr) (fun i _ => cs.length - (intOf i).toNat)
  case atStart => exact ⟨0, Nat.zero_le _, rfl, HR.out, Below.refl _ _⟩
  case round =>
    clear HR
    obtain ⟨k, hk, rfl, hr, hbl⟩ := hrel
    have Hr := Lib.hid hr
    clear hr
    by_cases hlt : k < cs.length
    · obtain ⟨c, hck⟩ : ∃ c, cs[k]? = some c := ⟨_, List.getElem?_eq_getElem hlt⟩
      have hcm := List.mem_of_getElem? hck
      have hrun := He.out c hcm
      have Hcall := Lib.hid (Hc.out c hcm wr hbl)
      have c0 : wr.cell? ⟨blk, k, none⟩ = some (.func (.func c.g) #[] c.caps) := (LV.kb3 Hh.out hbl Hh.out.lt).cell k _ (by simp [hck, Clo.val])
      have Hs : Hid ((if c.err ≠ 0 then c.err else firstErr ((cs.drop (k + 1)).map Clo.err)) = R) := by show _ = _; rw [← Hr.out, drop_at3 hck]; rfl
      have Hb := Lib.hid hbl
      clear Hr hck hcm hbl
      obtain ⟨g, caps, x⟩ := c
      simp only at hrun c0 Hcall Hs
      go_wp2_with fail
      refine (Hcall.out).mono ?_
      rintro e w1 ⟨rfl, hl1⟩
      have Hb1 : Hid (Below w.heap.size w w1) := Hb.out.trans (hl1.mono Hb.out.size)
      clear Hcall hl1 c0 hrun
      by_cases hx : x = 0
      · have Hn := Lib.hid (step_go Hs.out hx)
        subst hx
        go_wp2_with fail
        go_roundw
        case rel => exact ⟨k + 1, by omega, by go_num, Hn.out, Hb1.out⟩
        case measure => simp [intOf]; omega
      · have hx' : (x != 0) = true := by simpa using hx
        have Hn := Lib.hid (step_no Hs.out hx)
        clear Hs hx
        go_wp2_with fail
        go_ret
        exact ⟨ret_i Hn.out, Hb1.out⟩
    · have Hn : Hid (0 = R) := by show _ = _; rw [← Hr.out, List.drop_eq_nil_of_le (by omega)]; rfl
      clear Hr
      go_wp2_with fail
      go_ret
      exact ⟨ret_i Hn.out, hbl⟩
set_option maxHeartbeats 4000000 in
set_option maxRecDepth 100000 in
theorem refSchemas_any (N : Nat → Prop) (A : Option Addr) (xs : List Scm) (c : Nat) (w : World) (hS : Sl rScm N w A xs) (hok : ScmOk xs) :
    Calls Tryz.prog 9 #[.slice A xs.length c] w fun e w' => e = .returned (.int .i64 (scmsFault xs)) ∧ Below w.heap.size w w' := by
  have HS := Lib.hid hS
  have Hok := Lib.hid hok
  have hln := hok.len
  clear hS hok
  obtain ⟨R, HR⟩ : ∃ R, Hid (scmsFault xs = R) := ⟨_, Lib.hid rfl⟩
  rw [HR.out]
  by_cases h20 : 60 < xs.length
  · go_enter Tryz.func9, Tryz.ntmps9
    go_wp2_with fail
    go_ret
    exact ⟨ret_i (by rw [← HR.out, scmsFault, if_pos h20]), Below.refl _ _⟩
  · have HR2 : Hid (scmsGo none xs = R) := by show _ = _; rw [← HR.out, scmsFault, if_neg h20]
    clear HR
    go_enter Tryz.func9, Tryz.ntmps9
    go_wp2_with fail
    go_loopw [3, 14] (fun la i wr => ∃ k : Nat, k ≤ xs.length ∧ i = .int .i64 k ∧ la = .string (((ahd xs k).map Scm.name).getD ⟨#[]⟩) ∧ scmsGo ((ahd xs k).map Scm.name) (xs.drop k) = R ∧ Below w.heap.size w wr) (fun _ i _ => xs.length - (intOf i).toNat)
    case atStart => exact ⟨0, Nat.zero_le _, rfl, rfl, HR2.out, Below.refl _ _⟩
    case round =>
      clear HR2
      obtain ⟨k, hk, rfl, rfl, hr, hbl⟩ := hrel
      have Hr := Lib.hid hr
      clear hr
      by_cases hlt : k < xs.length
      · obtain ⟨p, hf⟩ : ∃ p, xs[k]? = some p := ⟨_, List.getElem?_eq_getElem hlt⟩
        have hSr := HS.out.keepB hbl
        have hfs1 : p.name.size ≤ 1000000 := Hok.out.nm p (List.mem_of_getElem? hf)
        have hnl : p.needs.length ≤ 1000000 := Hok.out.nl p (List.mem_of_getElem? hf)
        have Hnn := Lib.hid (Hok.out.nn p (List.mem_of_getElem? hf))
        obtain ⟨K, HK⟩ : ∃ K, Hid (L.isKey p.name = K) := ⟨_, Lib.hid rfl⟩
        obtain ⟨B, HB⟩ : ∃ B, Hid (((ahd xs k).map Scm.name).any (fun q => leS p.name q) = B) := ⟨_, Lib.hid rfl⟩
        have Hstep : Hid ((if scmE K B (ndsFault p.needs) ≠ 0 then scmE K B (ndsFault p.needs) else scmsGo (some p.name) (xs.drop (k + 1))) = R) := by show _ = _; rw [← Hr.out, drop_at3 hf, scmsGo, scmF, HK.out, HB.out]
        have Hf := Lib.hid hf
        obtain ⟨blk, off, At, ct, rfl, hblk, d0, d1, hst⟩ := hSr.scm k p hf
        clear Hr hf
        have hb0 : Below wr.heap.size wr (wr.alloc (.cells #[.string p.name, .slice At p.needs.length ct] 73)) := (Below.refl _ _).alloc (Nat.le_refl _) _
        have Hb1 : Hid (Below w.heap.size w (wr.alloc (.cells #[.string p.name, .slice At p.needs.length ct] 73))) := hbl.alloc hbl.size _
        have HKc : Hid (∀ w, Calls Tryz.prog 42 #[.string p.name] w fun e w' => e = .returned (.bool K) ∧ Below w.heap.size w w') := fun w => HK.out ▸ Key_any p.name w (by omega)
        have lvY : LV _ wr.heap.size _ _ := LV.new wr wr.heap.size #[.string p.name, .slice At p.needs.length ct] 73 rfl
        have Hst := Lib.hid (Sl.keepB hst hb0)
        clear hSr hst hb0
        go_upto_region 7 with fail
        clear d0 d1
        generalize wr.alloc (.cells #[.string p.name, .slice At p.needs.length ct] 73) = w1 at *
        obtain ⟨Y, hY⟩ : ∃ Y, Y = wr.heap.size := ⟨_, rfl⟩
        rw [← hY] at lvY ⊢
        have c0 := lvY.all
        clear hY hbl
        obtain ⟨la, hla⟩ : ∃ la, ((ahd xs k).map Scm.name).getD ⟨#[]⟩ = la := ⟨_, rfl⟩
        rw [hla]
        go_wp2_with fail
        refine (HKc.out w1).mono ?_
        rintro e w2 ⟨rfl, hl2⟩
        have Hb2 : Hid (Below w.heap.size w w2) := Hb1.out.trans (hl2.mono Hb1.out.size)
        replace lvY := LV.kb3 lvY hl2 lvY.lt
        have Hst2 := Lib.hid (Sl.keepB Hst.out hl2)
        replace c0 := lvY.all
        clear hl2 Hst Hb1 HKc
        cases K
        · have Hn : Hid (5 = R) := step_is Hstep.out rfl (by decide)
          go_wp2_with fail
          go_ret
          exact ⟨ret_i Hn.out, Hb2.out⟩
        · have hB : leS p.name la = B := by rw [← HB.out, key_le HK.out, hla]
          have hB2 : (Op.bytesLess p.name.toList la.toList || (p.name.toList == la.toList)) = B := hB
          clear hB hla
          cases B
          · have hB3 : Op.bytesLess p.name.toList la.toList = false := (Bool.or_eq_false_iff.1 hB2).1
            have hB4 : (p.name.toList == la.toList) = false := (Bool.or_eq_false_iff.1 hB2).2
            clear hB2
            have Hn : Hid ((if ndsFault p.needs ≠ 0 then ndsFault p.needs else scmsGo (some p.name) (xs.drop (k + 1))) = R) := Hstep.out
            clear Hstep
            by_cases h30 : 30 < p.needs.length
            · have Hn2 : Hid (2 = R) := step_is Hn.out (by rw [ndsFault, if_pos h30]) (by decide)
              go_wp2_with fail
              go_ret
              exact ⟨ret_i Hn2.out, Hb2.out⟩
            · have Hn2 : Hid ((if ndsGo none p.needs ≠ 0 then ndsGo none p.needs else scmsGo (some p.name) (xs.drop (k + 1))) = R) := by
                show _ = _
                rw [← Hn.out, ndsFault, if_neg h30]
              go_wp2_with fail
              clear hB3 hB4 Hn HB HK
              go_loopw [6, 38] (fun la i wr => ∃ j : Nat, j ≤ p.needs.length ∧ i = .int .i64 j ∧ la = .string (((ahd p.needs j).map Nd.name).getD ⟨#[]⟩) ∧ (if ndsGo ((ahd p.needs j).map Nd.name) (p.needs.drop j) ≠ 0 then ndsGo ((ahd p.needs j).map Nd.name) (p.needs.drop j) else scmsGo (some p.name) (xs.drop (k + 1))) = R ∧ Below w2.heap.size w2 wr) (fun _ i _ => p.needs.length - (intOf i).toNat)
              case atStart => exact ⟨0, Nat.zero_le _, rfl, rfl, Hn2.out, Below.refl _ _⟩
              case round =>
                clear Hn2
                obtain ⟨j, hj, rfl, rfl, hr, hbl⟩ := hrel
                have Hr := Lib.hid hr
                have Hbr : Hid (Below w.heap.size w wr) := Hb2.out.trans (hbl.mono Hb2.out.size)
                clear hr
                by_cases hltj : j < p.needs.length
                · obtain ⟨n, hnj⟩ : ∃ n, p.needs[j]? = some n := ⟨_, List.getElem?_eq_getElem hltj⟩
                  have hns : n.name.size ≤ 1000000 := Hnn.out n (List.mem_of_getElem? hnj)
                  obtain ⟨K, HK⟩ : ∃ K, Hid (L.isKey n.name = K) := ⟨_, Lib.hid rfl⟩
                  obtain ⟨C, HC⟩ : ∃ C, Hid (isCh n.kind = C) := ⟨_, Lib.hid rfl⟩
                  obtain ⟨B, HB⟩ : ∃ B, Hid (((ahd p.needs j).map Nd.name).any (fun q => leS n.name q) = B) := ⟨_, Lib.hid rfl⟩
                  have Hstep : Hid ((if (if ndE K C B ≠ 0 then ndE K C B else ndsGo (some n.name) (p.needs.drop (j + 1))) ≠ 0 then (if ndE K C B ≠ 0 then ndE K C B else ndsGo (some n.name) (p.needs.drop (j + 1))) else scmsGo (some p.name) (xs.drop (k + 1))) = R) := by show _ = _; rw [← Hr.out, drop_at3 hnj, ndsGo, ndF, HK.out, HC.out, HB.out]
                  have Hnj := Lib.hid hnj
                  obtain ⟨blk, off, rfl, hblk, d0, d1, d2⟩ := (Sl.keepB Hst2.out hbl).nd j n hnj
                  clear Hr hnj
                  have hb0 : Below wr.heap.size wr (wr.alloc (.cells #[.string n.name, .int .i64 n.kind, .bool n.must] 76)) := (Below.refl _ _).alloc (Nat.le_refl _) _
                  have Hbz : Hid (Below w2.heap.size w2 (wr.alloc (.cells #[.string n.name, .int .i64 n.kind, .bool n.must] 76))) := hbl.alloc hbl.size _
                  have HKc : Hid (∀ w, Calls Tryz.prog 42 #[.string n.name] w fun e w' => e = .returned (.bool K) ∧ Below w.heap.size w w') := fun w => HK.out ▸ Key_any n.name w (by omega)
                  have HCc : Hid (∀ w, Calls Tryz.prog 43 #[.int .i64 n.kind, .int .i64 1, .int .i64 4] w fun e w' => e = .returned (.bool C) ∧ w = w') := fun w => HC.out ▸ in_any n.kind 1 4 w
                  have lvZ : LV _ wr.heap.size _ _ := LV.new wr wr.heap.size #[.string n.name, .int .i64 n.kind, .bool n.must] 76 rfl
                  clear hb0 c0
                  go_upto_region 18 with fail
                  clear d0 d1 d2
                  generalize wr.alloc (.cells #[.string n.name, .int .i64 n.kind, .bool n.must] 76) = w3 at *
                  obtain ⟨Z, hZ⟩ : ∃ Z, Z = wr.heap.size := ⟨_, rfl⟩
                  rw [← hZ] at lvZ ⊢
                  have c0 := lvZ.all
                  clear hZ hbl Hbr
                  obtain ⟨la, hla⟩ : ∃ la, ((ahd p.needs j).map Nd.name).getD ⟨#[]⟩ = la := ⟨_, rfl⟩
                  rw [hla]
                  go_wp2_with fail
                  refine (HKc.out w3).mono ?_
                  rintro e w4 ⟨rfl, hl4⟩
                  have Hb4 : Hid (Below w2.heap.size w2 w4) := Hbz.out.trans (hl4.mono Hbz.out.size)
                  have Hb5 : Hid (Below w.heap.size w w4) := Hb2.out.trans (Hb4.out.mono Hb2.out.size)
                  replace lvZ := LV.kb3 lvZ hl4 lvZ.lt
                  replace c0 := lvZ.all
                  clear hl4 Hbz HKc
                  cases K
                  · have Hn : Hid (5 = R) := Hstep.out
                    go_wp2_with fail
                    go_ret
                    exact ⟨ret_i Hn.out, Hb5.out⟩
                  · have hB : leS n.name la = B := by rw [← HB.out, key_le HK.out, hla]
                    have hB2 : (Op.bytesLess n.name.toList la.toList || (n.name.toList == la.toList)) = B := hB
                    clear hB hla
                    cases C
                    · have Hn : Hid (4 = R) := Hstep.out
                      go_wp2_with fail
                      refine (HCc.out _).mono ?_
                      rintro e _ ⟨rfl, rfl⟩
                      go_wp2_with fail
                      go_ret
                      exact ⟨ret_i Hn.out, Hb5.out⟩
                    · cases B
                      · have hB3 : Op.bytesLess n.name.toList la.toList = false := (Bool.or_eq_false_iff.1 hB2).1
                        have hB4 : (n.name.toList == la.toList) = false := (Bool.or_eq_false_iff.1 hB2).2
                        clear hB2
                        have Hn : Hid ((if ndsGo (some n.name) (p.needs.drop (j + 1)) ≠ 0 then ndsGo (some n.name) (p.needs.drop (j + 1)) else scmsGo (some p.name) (xs.drop (k + 1))) = R) := Hstep.out
                        clear Hstep
                        go_wp2_with fail
                        refine (HCc.out _).mono ?_
                        rintro e _ ⟨rfl, rfl⟩
                        go_wp2_with fail
                        go_roundw
                        case rel => exact ⟨j + 1, by omega, by go_num, by rw [ahd_succ p.needs j n Hnj.out]; rfl, by rw [ahd_succ p.needs j n Hnj.out]; exact Hn.out, Hb4.out⟩
                        case measure => simp [intOf]; omega
                      · have Hn : Hid (7 = R) := Hstep.out
                        go_wp2_with fail
                        refine (HCc.out _).mono ?_
                        rintro e _ ⟨rfl, rfl⟩
                        go_wp2_with fail
                        all_goals
                          go_ret
                          exact ⟨ret_i Hn.out, Hb5.out⟩
                · have Hn : Hid (scmsGo (some p.name) (xs.drop (k + 1)) = R) := by
                    show _ = _
                    have h := Hr.out
                    rw [List.drop_eq_nil_of_le (by omega : p.needs.length ≤ j)] at h
                    exact h
                  clear c0
                  go_wp2_with fail
                  go_roundw
                  case rel => exact ⟨k + 1, by omega, by go_num, by rw [ahd_succ xs k p Hf.out]; rfl, by rw [ahd_succ xs k p Hf.out]; exact Hn.out, Hbr.out⟩
                  case measure => simp [intOf]; omega
          · have Hn : Hid (7 = R) := step_is Hstep.out rfl (by decide)
            go_wp2_with fail
            all_goals
              go_ret
              exact ⟨ret_i Hn.out, Hb2.out⟩
      · go_wp2_with fail
        go_ret
        exact ⟨ret_i (by rw [← Hr.out, List.drop_eq_nil_of_le (by omega)]; rfl), hbl⟩
theorem ef1_any (Y : Nat) (x : Evt) (A : Option Addr) (c : Nat) (w : World) (hY : LV w Y (evCs x A c) 47) (ht : x.text.size ≤ 1000000) (hM : MaxL w) :
    Calls Tryz.prog 179 #[.pointer (some ⟨Y, 0, none⟩)] w fun e w' => e = .returned (.int .i64 (L.idFault x.kind x.text)) ∧ Below w.heap.size w w' := by
  have c3 : w.cell? ⟨Y, 3, none⟩ = some (.int .i64 x.kind) := hY.cell 3 _ rfl
  have c4 : w.cell? ⟨Y, 4, none⟩ = some (.string x.text) := hY.cell 4 _ rfl
  have Hc := Lib.hid (refId_any x.kind x.text w ht hM)
  clear hM
  go_enter Tryz.func179, Tryz.ntmps179
  go_wp2_with fail
  refine (Hc.out).mono ?_
  rintro e w1 ⟨rfl, hl1⟩
  go_wp2_with fail
  go_ret
  exact ⟨rfl, hl1⟩
theorem ef2_any (Y : Nat) (x : Evt) (N : Nat → Prop) (A : Option Addr) (c : Nat) (w : World) (hY : LV w Y (evCs x A c) 47) (hS : Sl rFld N w A x.flds) (hf : ∀ f ∈ x.flds, f.small) (hl : x.flds.length ≤ 1000000) (hT : Tabs w) :
    Calls Tryz.prog 181 #[.pointer (some ⟨Y, 0, none⟩)] w fun e w' => e = .returned (.int .i64 (fldsFault x.flds)) ∧ Below w.heap.size w w' := by
  have c5 : w.cell? ⟨Y, 5, none⟩ = some (.slice A x.flds.length c) := hY.cell 5 _ rfl
  have Hc := Lib.hid (refFields_any N A x.flds c w hS hf (by omega) hT)
  clear hS hf hT
  go_enter Tryz.func181, Tryz.ntmps181
  go_wp2_with fail
  refine (Hc.out).mono ?_
  rintro e w1 ⟨rfl, hl1⟩
  go_wp2_with fail
  go_ret
  exact ⟨rfl, hl1⟩
set_option maxHeartbeats 4000000 in
set_option maxRecDepth 100000 in
theorem refEvent_any (N : Nat → Prop) (A : Option Addr) (c : Nat) (x : Evt) (w : World) (hS : Sl rFld N w A x.flds) (hok : EvtOk x) (hT : Tabs w) (hM : MaxL w) :
    Calls Tryz.prog 132 #[.agg (evCs x A c)] w fun e w' => e = .returned (.int .i64 (evtFault x)) ∧ Below w.heap.size w w' := by
  have hb0 : Below w.heap.size w (w.alloc (.cells (evCs x A c) 47)) := (Below.refl _ _).alloc (Nat.le_refl _) _
  have lv0 := LV.new w w.heap.size (evCs x A c) 47 rfl
  have HS := Lib.hid hS
  have HT := Lib.hid hT
  have HM := Lib.hid hM
  have Hok := Lib.hid hok
  obtain ⟨R, HR⟩ : ∃ R, Hid (evtFault x = R) := ⟨_, Lib.hid rfl⟩
  rw [HR.out]
  obtain ⟨K1, HK1⟩ : ∃ K, Hid (L.isKey x.id = K) := ⟨_, Lib.hid rfl⟩
  obtain ⟨K2, HK2⟩ : ∃ K, Hid (L.isKey x.name = K) := ⟨_, Lib.hid rfl⟩
  obtain ⟨D, HD⟩ : ∃ D, Hid (decide (0 ≤ x.at' ∧ x.at' ≤ 4321439) = D) := ⟨_, Lib.hid rfl⟩
  unfold evtFault at HR
  rw [HK1.out, HK2.out, HD.out] at HR
  have h1 := hok.id
  have h2 := hok.nm
  have C1 : Hid (∀ w, Calls Tryz.prog 42 #[.string x.id] w fun e w' => e = .returned (.bool K1) ∧ Below w.heap.size w w') := fun w => HK1.out ▸ Key_any x.id w (by omega)
  have C2 : Hid (∀ w, Calls Tryz.prog 42 #[.string x.name] w fun e w' => e = .returned (.bool K2) ∧ Below w.heap.size w w') := fun w => HK2.out ▸ Key_any x.name w (by omega)
  have C3 : Hid (∀ w, Calls Tryz.prog 43 #[.int .i64 x.at', .int .i64 0, .int .i64 4321439] w fun e w' => e = .returned (.bool D) ∧ w = w') := fun w => HD.out ▸ in_any x.at' 0 4321439 w
  clear HK1 HK2 HD hS hok hT hM h1 h2
  have Hb0 := Lib.hid hb0
  go_enter Tryz.func132, Tryz.ntmps132
  go_upto_region 1 with fail
  generalize w.alloc (.cells (evCs x A c) 47) = w1 at *
  obtain ⟨Y, hY⟩ : ∃ Y, Y = w.heap.size := ⟨_, rfl⟩
  rw [← hY] at lv0 ⊢
  have c0 := lv0.all
  clear hb0 hY
  go_wp2_with fail
  refine (C1.out w1).mono ?_
  rintro e w2 ⟨rfl, hl2⟩
  have Hb2 : Hid (Below w.heap.size w w2) := Hb0.out.trans (hl2.mono Hb0.out.size)
  replace lv0 := LV.kb3 lv0 hl2 lv0.lt
  replace c0 := lv0.all
  clear hl2 C1 Hb0
  cases K1
  · have Hn : Hid (5 = R) := by show _ = _; rw [← HR.out]; simp [evtE]
    go_wp2_with fail
    go_ret
    exact ⟨ret_i Hn.out, Hb2.out⟩
  · go_wp2_with fail
    refine (C2.out w2).mono ?_
    rintro e w3 ⟨rfl, hl3⟩
    have Hb3 : Hid (Below w.heap.size w w3) := Hb2.out.trans (hl3.mono Hb2.out.size)
    replace lv0 := LV.kb3 lv0 hl3 lv0.lt
    replace c0 := lv0.all
    clear hl3 C2 Hb2
    cases K2
    · have Hn : Hid (5 = R) := by show _ = _; rw [← HR.out]; simp [evtE]
      go_wp2_with fail
      go_ret
      exact ⟨ret_i Hn.out, Hb3.out⟩
    · cases D
      · have Hn : Hid (1 = R) := by show _ = _; rw [← HR.out]; simp [evtE]
        go_wp2_with fail
        refine (C3.out _).mono ?_
        rintro e _ ⟨rfl, rfl⟩
        go_wp2_with fail
        go_ret
        exact ⟨ret_i Hn.out, Hb3.out⟩
      · have Hn : Hid (firstErr [L.idFault x.kind x.text, fldsFault x.flds] = R) := by
          show _ = _
          rw [← HR.out]
          simp only [firstErr, evtE]
          split <;> simp_all
        go_wp2_with fail
        refine (C3.out _).mono ?_
        rintro e _ ⟨rfl, rfl⟩
        have hb4 : Below w3.heap.size w3 (w3.alloc (.cells #[.func (.func 179) #[] #[.pointer (some ⟨Y, 0, none⟩)], .func (.func 181) #[] #[.pointer (some ⟨Y, 0, none⟩)]] 172)) := (Below.refl _ _).alloc (Nat.le_refl _) _
        have Hb4 : Hid (Below w.heap.size w (w3.alloc (.cells #[.func (.func 179) #[] #[.pointer (some ⟨Y, 0, none⟩)], .func (.func 181) #[] #[.pointer (some ⟨Y, 0, none⟩)]] 172))) := Hb3.out.alloc Hb3.out.size _
        have lvX := LV.new w3 w3.heap.size #[.func (.func 179) #[] #[.pointer (some ⟨Y, 0, none⟩)], .func (.func 181) #[] #[.pointer (some ⟨Y, 0, none⟩)]] 172 rfl
        have lvY := LV.kb3 lv0 hb4 lv0.lt
        clear hb4 c0
        have Hf := Lib.hid (first_any w3.heap.size 2 [⟨179, #[.pointer (some ⟨Y, 0, none⟩)], L.idFault x.kind x.text⟩, ⟨181, #[.pointer (some ⟨Y, 0, none⟩)], fldsFault x.flds⟩] _ rfl lvX (by simp)
          (fun c hc => by
            rcases List.mem_cons.1 hc with rfl | hc
            · exact enters_of Tryz.func179 (by kernel_rfl) rfl
            · rw [List.mem_singleton.1 hc]; exact enters_of Tryz.func181 (by kernel_rfl) rfl)
          (fun c hc w' hw => by
            have hB : Below w.heap.size w w' := Hb4.out.trans (hw.mono Hb4.out.size)
            have lvw := LV.kb3 lvY hw lvY.lt
            rcases List.mem_cons.1 hc with rfl | hc
            · exact ef1_any Y x A _ w' lvw Hok.out.tx (HM.out.below hB)
            · rw [List.mem_singleton.1 hc]; exact ef2_any Y x N A _ w' lvw (HS.out.keepB hB) Hok.out.fs Hok.out.fl (Utf8Tabs_below HT.out hB)))
        go_wp2_with fail
        refine (Hf.out).mono ?_
        rintro e w5 ⟨rfl, hl5⟩
        go_wp2_with fail
        go_ret
        exact ⟨ret_i Hn.out, Hb4.out.trans (hl5.mono Hb4.out.size)⟩
end Go.Proofs.YtmlpkejeglpciaaGreatDoor

/- What handref2.schemaFault and EventFault return. -/
namespace Go.Proofs.YtmlpkejeglpciaaGreatDoor
open Go.RowKit
theorem idxGo_find {α : Type} (p : α → Bool) : ∀ (l : List α) (k : Nat), (idxGo p k l = -1 ∧ l.find? p = none) ∨ ∃ (j : Nat) (s : α), idxGo p k l = (k + j : Nat) ∧ l[j]? = some s ∧ l.find? p = some s
  | [], k => .inl ⟨rfl, rfl⟩
  | x :: r, k => by
    rw [idxGo, List.find?_cons]
    cases hx : p x
    · rcases idxGo_find p r (k + 1) with ⟨h1, h2⟩ | ⟨j, s, h1, h2, h3⟩
      · exact .inl ⟨by rw [if_neg (by simp)]; exact h1, h2⟩
      · exact .inr ⟨j + 1, s, by rw [if_neg (by simp), h1]; congr 1; omega, by simpa using h2, h3⟩
    · exact .inr ⟨0, x, by rw [if_pos rfl]; rfl, rfl, rfl⟩
theorem sf1_any (Y : Nat) (x : Evt) (Af : Option Addr) (cf : Nat) (q : Scm) (A : Option Addr) (n c : Nat) (w : World) (hY : LV w Y (evCs x Af cf) 47) : Calls Tryz.prog 184 #[.agg #[.string q.name, .slice A n c], .pointer (some ⟨Y, 0, none⟩)] w fun e w' => e = .returned (.bool (scmIs x.name q)) ∧ Below w.heap.size w w' := by
  have hb := (Below.refl w.heap.size w).alloc (Nat.le_refl _) (.cells #[.string q.name, .slice A n c] 73)
  have c0 := (LV.kb3 hY hb hY.lt).all
  unfold scmIs
  go_enter Tryz.func184, Tryz.ntmps184
  go_wp2_with fail
  go_ret
  exact ⟨rfl, hb⟩
theorem sf3_any (Z : Nat) (n : Nd) (f : Fld) (w : World) (hZ : LV w Z #[.string n.name, .int .i64 n.kind, .bool n.must] 76) : Calls Tryz.prog 187 #[.agg #[.string f.name, .int .i64 f.kind, .string f.text, .int .i64 f.num], .pointer (some ⟨Z, 0, none⟩)] w fun e w' => e = .returned (.bool (fldIs n.name f)) ∧ Below w.heap.size w w' := by
  have hb := (Below.refl w.heap.size w).alloc (Nat.le_refl _) (.cells #[.string f.name, .int .i64 f.kind, .string f.text, .int .i64 f.num] 123)
  have c0 := (LV.kb3 hZ hb hZ.lt).all
  unfold fldIs
  go_enter Tryz.func187, Tryz.ntmps187
  go_wp2_with fail
  go_ret
  exact ⟨rfl, hb⟩
set_option maxHeartbeats 4000000 in
set_option maxRecDepth 100000 in
theorem idxScm_any (Y : Nat) (x : Evt) (Af : Option Addr) (cf : Nat) (N : Nat → Prop) (A : Option Addr) (xs : List Scm) (c : Nat) (w : World) (hS : Sl rScm N w A xs) (hl : xs.length ≤ 1000000) (hY : LV w Y (evCs x Af cf) 47) :
    Calls Tryz.prog 183 #[.slice A xs.length c, .func (.func 184) #[] #[.pointer (some ⟨Y, 0, none⟩)]] w fun e w' => e = .returned (.int .i64 (idxGo (scmIs x.name) 0 xs)) ∧ Below w.heap.size w w' := by
  have HS := Lib.hid hS
  clear hS
  obtain ⟨R, HR⟩ : ∃ R, Hid (idxGo (scmIs x.name) 0 xs = R) := ⟨_, Lib.hid rfl⟩
  rw [HR.out]
  go_enter Tryz.func183, Tryz.ntmps183
  go_wp2_with fail
  go_loopw [8] (fun i wr => ∃ k : Nat, k ≤ xs.length ∧ i = .int .i64 k ∧ idxGo (scmIs x.name) k (xs.drop k) = R ∧ Below w.heap.size w wr) (fun i _ => xs.length - (intOf i).toNat)
  case atStart => exact ⟨0, Nat.zero_le _, rfl, HR.out, Below.refl _ _⟩
  case round =>
    clear HR
    obtain ⟨k, hk, rfl, hr, hbl⟩ := hrel
    have Hr := Lib.hid hr
    clear hr
    by_cases hlt : k < xs.length
    · obtain ⟨q, hq⟩ : ∃ q, xs[k]? = some q := ⟨_, List.getElem?_eq_getElem (by omega)⟩
      obtain ⟨blk, off, At, ct, rfl, hblk, d0, d1, _⟩ := (HS.out.keepB hbl).scm k q hq
      have Hs : Hid ((if scmIs x.name q = true then (k : Int) else idxGo (scmIs x.name) (k + 1) (xs.drop (k + 1))) = R) := by
        show _ = _
        rw [← Hr.out, drop_at3 hq]
        rfl
      have Hc := Lib.hid (sf1_any Y x Af cf q At q.needs.length ct wr (LV.kb3 hY hbl hY.lt))
      clear Hr hq
      generalize scmIs x.name q = b at *
      go_wp2_with fail
      refine (Hc.out).mono ?_
      rintro e w1 ⟨rfl, hl1⟩
      have Hb1 := Lib.hid (hbl.trans (hl1.mono hbl.size))
      clear d0 d1
      clear hl1 Hc
      cases b
      · have Hn : Hid (idxGo (scmIs x.name) (k + 1) (xs.drop (k + 1)) = R) := Hs.out
        go_wp2_with fail
        go_roundw
        case rel => exact ⟨k + 1, by omega, by go_num, Hn.out, Hb1.out⟩
        case measure => simp [intOf]; omega
      · have Hn : Hid ((k : Int) = R) := Hs.out
        go_wp2_with fail
        go_ret
        exact ⟨ret_i Hn.out, Hb1.out⟩
    · have Hn : Hid (-1 = R) := by show _ = _; rw [← Hr.out, List.drop_eq_nil_of_le (by omega)]; rfl
      clear Hr
      go_wp2_with fail
      go_ret
      exact ⟨ret_i Hn.out, hbl⟩
set_option maxHeartbeats 4000000 in
set_option maxRecDepth 100000 in
theorem idxFld_any (Z : Nat) (n : Nd) (N : Nat → Prop) (A : Option Addr) (xs : List Fld) (c : Nat) (w : World) (hS : Sl rFld N w A xs) (hl : xs.length ≤ 1000000) (hZ : LV w Z #[.string n.name, .int .i64 n.kind, .bool n.must] 76) :
    Calls Tryz.prog 245 #[.slice A xs.length c, .func (.func 187) #[] #[.pointer (some ⟨Z, 0, none⟩)]] w fun e w' => e = .returned (.int .i64 (idxGo (fldIs n.name) 0 xs)) ∧ Below w.heap.size w w' := by
  have HS := Lib.hid hS
  clear hS
  obtain ⟨R, HR⟩ : ∃ R, Hid (idxGo (fldIs n.name) 0 xs = R) := ⟨_, Lib.hid rfl⟩
  rw [HR.out]
  go_enter Tryz.func245, Tryz.ntmps245
  go_wp2_with fail
  go_loopw [8] (fun i wr => ∃ k : Nat, k ≤ xs.length ∧ i = .int .i64 k ∧ idxGo (fldIs n.name) k (xs.drop k) = R ∧ Below w.heap.size w wr) (fun i _ => xs.length - (intOf i).toNat)
  case atStart => exact ⟨0, Nat.zero_le _, rfl, HR.out, Below.refl _ _⟩
  case round =>
    clear HR
    obtain ⟨k, hk, rfl, hr, hbl⟩ := hrel
    have Hr := Lib.hid hr
    clear hr
    by_cases hlt : k < xs.length
    · obtain ⟨q, hq⟩ : ∃ q, xs[k]? = some q := ⟨_, List.getElem?_eq_getElem (by omega)⟩
      obtain ⟨blk, off, rfl, hblk, d0, d1, d2, d3⟩ := (HS.out.keepB hbl).fld k q hq
      have Hs : Hid ((if fldIs n.name q = true then (k : Int) else idxGo (fldIs n.name) (k + 1) (xs.drop (k + 1))) = R) := by
        show _ = _
        rw [← Hr.out, drop_at3 hq]
        rfl
      have Hc := Lib.hid (sf3_any Z n q wr (LV.kb3 hZ hbl hZ.lt))
      clear Hr hq
      generalize fldIs n.name q = b at *
      go_wp2_with fail
      refine (Hc.out).mono ?_
      rintro e w1 ⟨rfl, hl1⟩
      have Hb1 := Lib.hid (hbl.trans (hl1.mono hbl.size))
      clear d0 d1 d2 d3
      clear hl1 Hc
      cases b
      · have Hn : Hid (idxGo (fldIs n.name) (k + 1) (xs.drop (k + 1)) = R) := Hs.out
        go_wp2_with fail
        go_roundw
        case rel => exact ⟨k + 1, by omega, by go_num, Hn.out, Hb1.out⟩
        case measure => simp [intOf]; omega
      · have Hn : Hid ((k : Int) = R) := Hs.out
        go_wp2_with fail
        go_ret
        exact ⟨ret_i Hn.out, Hb1.out⟩
    · have Hn : Hid (-1 = R) := by show _ = _; rw [← Hr.out, List.drop_eq_nil_of_le (by omega)]; rfl
      clear Hr
      go_wp2_with fail
      go_ret
      exact ⟨ret_i Hn.out, hbl⟩
theorem conFld_any (Z : Nat) (n : Nd) (N : Nat → Prop) (A : Option Addr) (xs : List Fld) (c : Nat) (w : World) (hS : Sl rFld N w A xs) (hl : xs.length ≤ 1000000) (hZ : LV w Z #[.string n.name, .int .i64 n.kind, .bool n.must] 76) :
    Calls Tryz.prog 186 #[.slice A xs.length c, .func (.func 187) #[] #[.pointer (some ⟨Z, 0, none⟩)]] w fun e w' => e = .returned (.bool (xs.any (fldIs n.name))) ∧ Below w.heap.size w w' := by
  have Hi := Lib.hid (idxFld_any Z n N A xs c w hS hl hZ)
  rw [← idxGo_any (fldIs n.name) xs 0]
  generalize idxGo (fldIs n.name) 0 xs = ix at *
  clear hS hZ
  go_enter Tryz.func186, Tryz.ntmps186
  go_wp2_with fail
  refine (Hi.out).mono ?_
  rintro e w2 ⟨rfl, hl_w2⟩
  have hz_w2 := hl_w2.size
  go_wp2_with fail
  go_ret
  exact ⟨by first | rfl | simp, hl_w2⟩
theorem loadNd {w : World} {X : Nat} {a b c : Value} (h : LV w X #[a, b, c] 76) : (loadVar 76 ⟨X, 0, none⟩).run Tryz.prog w = .ok (.agg #[a, b, c]) w := by
  have c0 := h.all
  go_simp
def GivesNd (o : Option Nd) (w : World) (e : Ending) (w' : World) : Prop :=
  ∃ n : Nd, e = .returned (.tuple #[.agg #[.string n.name, .int .i64 n.kind, .bool n.must], .bool o.isSome]) ∧ (∀ m, o = some m → n = m) ∧ Below w.heap.size w w'
set_option maxHeartbeats 4000000 in
set_option maxRecDepth 100000 in
theorem sf2_any (Bx Ix : Nat) (N : Nat → Prop) (A : Option Addr) (l : List Scm) (c i : Nat) (s : Scm) (nm : ByteArray) (w : World) (hS : Sl rScm N w A l) (hi : l[i]? = some s) (hn : s.needs.length ≤ 1000000) (hB : LV w Bx #[.slice A l.length c] 26) (hI : LV w Ix #[.int .i64 i] 3) :
    Calls Tryz.prog 185 #[.string nm, .pointer (some ⟨Bx, 0, none⟩), .pointer (some ⟨Ix, 0, none⟩)] w (GivesNd (ndAt s.needs nm) w) := by
  have S := (Mem.start w).new' #[.string ⟨#[]⟩, .int .i64 0, .bool false] 76
  have hb0 := S.b
  have b0 := (LV.kb3 hB hb0 hB.lt).all
  have i0 := (LV.kb3 hI hb0 hI.lt).all
  obtain ⟨blk, off, An, cn, rfl, hblk, d0, d1, hst⟩ := (hS.keepB hb0).scm i s hi
  have Hst := Lib.hid (fun w' (h : Below w.heap.size w w') => ((hS.keepB h).scm i s hi))
  have hil := lt_of_get hi
  obtain ⟨R, HR⟩ : ∃ R, Hid (s.needs.find? (ndIs nm) = R) := ⟨_, Lib.hid rfl⟩
  have hR : ndAt s.needs nm = R := HR.out
  rw [hR]
  have HS1 := Lib.hid hst
  clear hS hB hI hb0 hi hst hR
  obtain ⟨X, hX⟩ : ∃ X, X = w.heap.size := ⟨_, rfl⟩
  go_enter Tryz.func185, Tryz.ntmps185
  go_upto_region 1 with fail
  replace S : Mem w (w.alloc (.cells #[.string ⟨#[]⟩, .int .i64 0, .bool false] 76)) [.loc w.heap.size #[.string ⟨#[]⟩, .int .i64 0, .bool false] 76] := S
  generalize w.alloc (.cells #[.string ⟨#[]⟩, .int .i64 0, .bool false] 76) = w1 at *
  rw [← hX] at S ⊢
  clear hX
  go_wp2_with fail
  clear d0 d1 b0 i0
  have HSn : Hid (∀ w', Below w1.heap.size w1 w' → Sl rNd N w' An s.needs) := fun w' h => HS1.out.keepB h
  clear Hst HS1
  go_loopw [14] (fun i wr => ∃ j : Nat, j ≤ s.needs.length ∧ i = .int .i64 j ∧ (s.needs.drop j).find? (ndIs nm) = R ∧ Below w1.heap.size w1 wr ∧ Mem w wr [.loc X #[.string ⟨#[]⟩, .int .i64 0, .bool false] 76]) (fun i _ => s.needs.length - (intOf i).toNat)
  case atStart => exact ⟨0, Nat.zero_le _, rfl, HR.out, Below.refl _ _, S⟩
  case round =>
    clear S HR
    obtain ⟨j, hj, rfl, hr, hbl, S⟩ := hrel
    have Hr := Lib.hid hr
    clear hr
    by_cases hlt : j < s.needs.length
    · obtain ⟨n, hnj⟩ : ∃ n, s.needs[j]? = some n := ⟨_, List.getElem?_eq_getElem hlt⟩
      obtain ⟨blk, off, rfl, hblk, d0, d1, d2⟩ := (HSn.out wr hbl).nd j n hnj
      have Hs : Hid ((if ndIs nm n = true then some n else (s.needs.drop (j + 1)).find? (ndIs nm)) = R) := by
        show _ = _
        rw [← Hr.out, drop_at3 hnj, List.find?_cons]
        cases ndIs nm n <;> rfl
      have hb4 := hbl.alloc hbl.size (.cells #[.string n.name, .int .i64 n.kind, .bool n.must] 76)
      obtain ⟨Z, hZ⟩ : ∃ Z, Z = wr.heap.size := ⟨_, rfl⟩
      replace S := S.newAt #[.string n.name, .int .i64 n.kind, .bool n.must] 76 Z hZ
      clear Hr hnj hbl
      go_upto_region 4 with fail
      rw [← hZ]
      clear hZ d0 d1 d2
      generalize wr.alloc (.cells #[.string n.name, .int .i64 n.kind, .bool n.must] 76) = w4 at *
      have z0 := (S.lv 1 rfl).all
      unfold ndIs at Hs
      cases hb : (n.name.toList == nm.toList)
      · have Hn : Hid ((s.needs.drop (j + 1)).find? (ndIs nm) = R) := by show _ = _; rw [← Hs.out, hb]; rfl
        clear Hs
        go_wp2_with fail
        go_roundw
        case rel => exact ⟨j + 1, by omega, by go_num, Hn.out, hb4, S.del 1⟩
        case measure => simp [intOf]; omega
      · obtain rfl : some n = R := by rw [← Hs.out, hb]; rfl
        clear Hs
        have x0 := (S.lv 0 rfl).all
        go_wp2_with fail
        have S2 := ((S.set 0 0 (.string n.name) rfl).set 0 1 (.int .i64 n.kind) rfl).set 0 2 (.bool n.must) rfl
        exact bodyPost_ret (results_cs rfl rfl rfl (loadNd (S2.lv 0 rfl))) rfl ⟨n, rfl, fun m h => Option.some.inj h, S2.b⟩
    · obtain rfl : none = R := by rw [← Hr.out, List.drop_eq_nil_of_le (by omega)]; rfl
      clear Hr
      have x0 := (S.lv 0 rfl).all
      go_wp2_with fail
      have S2 := ((S.set 0 0 (.string ⟨#[]⟩) rfl).set 0 1 (.int .i64 0) rfl).set 0 2 (.bool false) rfl
      exact bodyPost_ret (results_cs rfl rfl rfl (loadNd (S2.lv 0 rfl))) rfl ⟨⟨⟨#[]⟩, 0, false⟩, rfl, (fun m h => by cases h), S2.b⟩
set_option maxHeartbeats 8000000 in
set_option maxRecDepth 100000 in
theorem schemaFault_any (N : Nat → Prop) (A Af : Option Addr) (l : List Scm) (c cf : Nat) (x : Evt) (w : World) (hS : Sl rScm N w A l) (hso : ScmOk l) (hF : Sl rFld N w Af x.flds) (hok : EvtOk x) :
    Calls Tryz.prog 134 #[.slice A l.length c, .agg (evCs x Af cf)] w fun e w' => e = .returned (.int .i64 (suit l x)) ∧ Below w.heap.size w w' := by
  have S := ((Mem.start w).new' #[.slice A l.length c] 26).newAt (evCs x Af cf) 47 (w.heap.size + 1) (by simp)
  replace S : Mem w ((w.alloc (.cells #[.slice A l.length c] 26)).alloc (.cells (evCs x Af cf) 47)) [.loc w.heap.size #[.slice A l.length c] 26, .loc (w.heap.size + 1) (evCs x Af cf) 47] := S
  obtain ⟨R, HR⟩ : ∃ R, Hid (suit l x = R) := ⟨_, Lib.hid rfl⟩
  rw [HR.out]
  have HSl := Lib.hid (fun w' (h : Below w.heap.size w w') => hS.keepB h)
  have HFl := Lib.hid (fun w' (h : Below w.heap.size w w') => hF.keepB h)
  have hfl := hok.fl
  have hll := hso.len
  have Hso := Lib.hid hso
  clear hS hF hok hso
  go_enter Tryz.func134, Tryz.ntmps134
  go_upto_region 1 with fail
  generalize (w.alloc (.cells #[.slice A l.length c] 26)).alloc (.cells (evCs x Af cf) 47) = w1 at *
  obtain ⟨Y, hY⟩ : ∃ Y, Y = w.heap.size + 1 := ⟨_, rfl⟩
  obtain ⟨Bx, hBx⟩ : ∃ Bx, Bx = w.heap.size := ⟨_, rfl⟩
  rw [← hY, ← hBx] at S
  rw [← hY, ← hBx]
  clear hY hBx
  have b0 := (S.lv 0 rfl).all
  have Hi := Lib.hid (idxScm_any Y x Af cf N A l c w1 (HSl.out w1 S.b) hll (S.lv 1 rfl))
  have hfind := idxGo_find (scmIs x.name) l 0
  unfold suit scmAt at HR
  generalize idxGo (scmIs x.name) 0 l = ix at *
  go_wp2_with fail
  refine (Hi.out).mono ?_
  rintro e w2 ⟨rfl, hl2⟩
  replace S := S.below hl2
  clear Hi hl2 b0
  go_upto_region 2 with fail
  obtain ⟨I, hI⟩ : ∃ I, I = w2.heap.size := ⟨_, rfl⟩
  replace S := S.newAt #[.int .i64 ix] 3 I hI
  replace S : Mem w (w2.alloc (.cells #[.int .i64 ix] 3)) [.loc Bx #[.slice A l.length c] 26, .loc Y (evCs x Af cf) 47, .loc I #[.int .i64 ix] 3] := S
  rw [← hI]
  clear hI
  generalize w2.alloc (.cells #[.int .i64 ix] 3) = w3 at *
  have i0 := (S.lv 2 rfl).all
  rcases hfind with ⟨rfl, hf⟩ | ⟨i, s, hix, hi, hf⟩
  · have Hn : Hid (8 = R) := by show _ = _; rw [← HR.out, hf]
    clear HR hf
    go_wp2_with fail
    go_ret
    exact ⟨ret_i Hn.out, S.b⟩
  · rw [Nat.zero_add] at hix
    subst hix
    have Hn : Hid ((if suitFs s.needs x.flds ≠ 0 then suitFs s.needs x.flds else suitNs x.flds s.needs) = R) := by show _ = _; rw [← HR.out, hf]; rfl
    have Hi := Lib.hid hi
    have hnl := Hso.out.nl s (List.mem_of_getElem? hi)
    have hil := lt_of_get hi
    clear HR hf hi
    have y0 := (S.lv 1 rfl).all
    go_wp2_with fail
    clear y0 i0
    go_loopw [22] (fun ix wr => ∃ k : Nat, k ≤ x.flds.length ∧ ix = .int .i64 k ∧ (if suitFs s.needs (x.flds.drop k) ≠ 0 then suitFs s.needs (x.flds.drop k) else suitNs x.flds s.needs) = R ∧ Mem w wr [.loc Bx #[.slice A l.length c] 26, .loc Y (evCs x Af cf) 47, .loc I #[.int .i64 i] 3]) (fun i _ => x.flds.length - (intOf i).toNat)
    case atStart => exact ⟨0, Nat.zero_le _, rfl, Hn.out, S⟩
    case round =>
      clear Hn S
      obtain ⟨k, hk, rfl, hr, S⟩ := hrel
      have Hr := Lib.hid hr
      clear hr
      by_cases hlt : k < x.flds.length
      · obtain ⟨f, hf⟩ : ∃ f, x.flds[k]? = some f := ⟨_, List.getElem?_eq_getElem hlt⟩
        have Hs : Hid ((if (if suitF s.needs f ≠ 0 then suitF s.needs f else suitFs s.needs (x.flds.drop (k + 1))) ≠ 0 then (if suitF s.needs f ≠ 0 then suitF s.needs f else suitFs s.needs (x.flds.drop (k + 1))) else suitNs x.flds s.needs) = R) := by show _ = _; rw [← suitFs_at hf]; exact Hr.out
        obtain ⟨blk, off, rfl, hblk, d0, d1, d2, d3⟩ := (HFl.out wr S.b).fld k f hf
        obtain ⟨Z, hZ⟩ : ∃ Z, Z = wr.heap.size := ⟨_, rfl⟩
        replace S := S.newAt #[.string f.name, .int .i64 f.kind, .string f.text, .int .i64 f.num] 123 Z hZ
        clear Hr hf
        go_upto_region 8 with fail
        rw [← hZ]
        clear d0 d1 d2 d3 hZ
        generalize wr.alloc (.cells #[.string f.name, .int .i64 f.kind, .string f.text, .int .i64 f.num] 123) = w4 at *
        have z0 := (S.lv 3 rfl).all
        have Hq := Lib.hid (sf2_any Bx I N A l c i s f.name w4 (HSl.out w4 S.b) Hi.out hnl (S.lv 0 rfl) (S.lv 2 rfl))
        unfold suitF at Hs
        generalize ndAt s.needs f.name = o at *
        go_wp2_with fail
        refine (Hq.out).mono ?_
        rintro e w5 ⟨n, rfl, hn, hl5⟩
        replace S := S.below hl5
        clear hl5 Hq z0
        go_upto_region 9 with fail
        obtain ⟨V, hV⟩ : ∃ V, V = w5.heap.size := ⟨_, rfl⟩
        replace S := S.newAt #[.string n.name, .int .i64 n.kind, .bool n.must] 76 V hV
        rw [← hV]
        clear hV
        generalize w5.alloc (.cells #[.string n.name, .int .i64 n.kind, .bool n.must] 76) = w6 at *
        have z0 := (S.lv 3 rfl).all
        have v0 := (S.lv 4 rfl).all
        cases o with
        | none =>
          have Hn3 : Hid (8 = R) := Hs.out
          simp only [Option.isSome]
          go_wp2_with fail
          go_ret
          exact ⟨ret_i Hn3.out, S.b⟩
        | some m =>
          obtain rfl := hn m rfl
          have Hs2 : Hid ((if (if (if n.kind = f.kind then (0 : Int) else 10) ≠ 0 then (if n.kind = f.kind then (0 : Int) else 10) else suitFs s.needs (x.flds.drop (k + 1))) ≠ 0 then (if (if n.kind = f.kind then (0 : Int) else 10) ≠ 0 then (if n.kind = f.kind then (0 : Int) else 10) else suitFs s.needs (x.flds.drop (k + 1))) else suitNs x.flds s.needs) = R) := Hs.out
          clear Hs hn
          simp only [Option.isSome]
          by_cases hkk : n.kind = f.kind
          · have Hn3 : Hid ((if suitFs s.needs (x.flds.drop (k + 1)) ≠ 0 then suitFs s.needs (x.flds.drop (k + 1)) else suitNs x.flds s.needs) = R) := by
              show _ = _
              rw [← Hs2.out, if_pos hkk]; rfl
            have hkb : (n.kind != f.kind) = false := by simpa using hkk
            clear Hs2 hkk
            go_wp2_with fail
            go_roundw
            case rel => exact ⟨k + 1, by omega, by go_num, Hn3.out, (S.del 4).del 3⟩
            case measure => simp [intOf]; omega
          · have Hn3 : Hid (10 = R) := by
              show _ = _
              rw [← Hs2.out, if_neg hkk]; rfl
            have hkb : (n.kind != f.kind) = true := by simpa using hkk
            clear Hs2 hkk
            go_wp2_with fail
            go_ret
            exact ⟨ret_i Hn3.out, S.b⟩
      · have Hn3 : Hid (suitNs x.flds s.needs = R) := by
          show _ = _
          have h := Hr.out
          rw [List.drop_eq_nil_of_le (by omega : x.flds.length ≤ k)] at h
          exact h
        have b0 := (S.lv 0 rfl).all
        have i0 := (S.lv 2 rfl).all
        obtain ⟨blk, off, An, cn, rfl, hblk, d0, d1, hst⟩ := (HSl.out wr S.b).scm i s Hi.out
        have Hst := Lib.hid (fun w' (h : Below wr.heap.size wr w') => hst.keepB h)
        clear Hr hst
        go_wp2_with fail
        clear b0 i0 d0 d1
        go_loopw [48] (fun i wx => ∃ j : Nat, j ≤ s.needs.length ∧ i = .int .i64 j ∧ suitNs x.flds (s.needs.drop j) = R ∧ Below wr.heap.size wr wx ∧ Mem w wx [.loc Bx #[.slice (some ⟨blk, off, none⟩) l.length c] 26, .loc Y (evCs x Af cf) 47]) (fun i _ => s.needs.length - (intOf i).toNat)
        case atStart => exact ⟨0, Nat.zero_le _, rfl, Hn3.out, Below.refl _ _, S.del 2⟩
        case round =>
          clear Hn3 S
          obtain ⟨j, hj, rfl, hr, hbl, S⟩ := hrel
          have Hr := Lib.hid hr
          clear hr
          by_cases hltj : j < s.needs.length
          · obtain ⟨n, hn⟩ : ∃ n, s.needs[j]? = some n := ⟨_, List.getElem?_eq_getElem hltj⟩
            have hs : (if suitN x.flds n ≠ 0 then suitN x.flds n else suitNs x.flds (s.needs.drop (j + 1))) = R := by rw [← suitNs_at hn]; exact Hr.out
            obtain ⟨blk, off, rfl, hblk, d0, d1, d2⟩ := (Hst.out wr hbl).nd j n hn
            obtain ⟨nn, nk, M⟩ := n
            replace d0 : wr.cell? ⟨blk, off + j * 3, none⟩ = some (.string nn) := d0
            replace d1 : wr.cell? ⟨blk, off + j * 3 + 1, none⟩ = some (.int .i64 nk) := d1
            replace d2 : wr.cell? ⟨blk, off + j * 3 + 2, none⟩ = some (.bool M) := d2
            have Hs : Hid ((if (if (M && !x.flds.any (fldIs nn)) = true then (3 : Int) else 0) ≠ 0 then (if (M && !x.flds.any (fldIs nn)) = true then (3 : Int) else 0) else suitNs x.flds (s.needs.drop (j + 1))) = R) := hs
            obtain ⟨Z, hZ⟩ : ∃ Z, Z = wr.heap.size := ⟨_, rfl⟩
            have hb4 := hbl.alloc hbl.size (.cells #[.string nn, .int .i64 nk, .bool M] 76)
            replace S := S.newAt #[.string nn, .int .i64 nk, .bool M] 76 Z hZ
            clear Hr hn hs hbl
            go_upto_region 17 with fail
            rw [← hZ]
            clear d0 d1 d2 hZ
            generalize wr.alloc (.cells #[.string nn, .int .i64 nk, .bool M] 76) = w4 at *
            have y0 := (S.lv 1 rfl).all
            have z0 := (S.lv 2 rfl).all
            have Hq := Lib.hid (conFld_any Z ⟨nn, nk, M⟩ N Af x.flds cf w4 (HFl.out w4 S.b) (by omega) (S.lv 2 rfl))
            generalize x.flds.any (fldIs nn) = hA at *
            cases M with
            | false =>
              have Hn4 : Hid (suitNs x.flds (s.needs.drop (j + 1)) = R) := Hs.out
              go_wp2_with fail
              go_roundw
              case rel => exact ⟨j + 1, by omega, by go_num, Hn4.out, hb4, S.del 2⟩
              case measure => simp [intOf]; omega
            | true =>
              go_wp2_with fail
              refine (Hq.out).mono ?_
              rintro e w5 ⟨rfl, hl5⟩
              replace S := S.below hl5
              replace hb4 := hb4.trans (hl5.mono hb4.size)
              clear Hq hl5
              cases hA with
              | false =>
                have Hn4 : Hid (3 = R) := Hs.out
                go_wp2_with fail
                go_ret
                exact ⟨ret_i Hn4.out, S.b⟩
              | true =>
                have Hn4 : Hid (suitNs x.flds (s.needs.drop (j + 1)) = R) := Hs.out
                go_wp2_with fail
                go_roundw
                case rel => exact ⟨j + 1, by omega, by go_num, Hn4.out, hb4, S.del 2⟩
                case measure => simp [intOf]; omega
          · go_wp2_with fail
            go_ret
            exact ⟨ret_i (by rw [← Hr.out, List.drop_eq_nil_of_le (by omega)]; rfl), S.b⟩
theorem evf1_any (Bx : Nat) (N : Nat → Prop) (A : Option Addr) (l : List Scm) (c : Nat) (w : World) (hB : LV w Bx #[.slice A l.length c] 26) (hS : Sl rScm N w A l) (hso : ScmOk l) :
    Calls Tryz.prog 130 #[.pointer (some ⟨Bx, 0, none⟩)] w fun e w' => e = .returned (.int .i64 (scmsFault l)) ∧ Below w.heap.size w w' := by
  have c0 := hB.all
  have Hc := Lib.hid (refSchemas_any N A l c w hS hso)
  clear hS
  go_enter Tryz.func130, Tryz.ntmps130
  go_wp2_with fail
  refine (Hc.out).mono ?_
  rintro e w1 ⟨rfl, hl1⟩
  go_wp2_with fail
  go_ret
  exact ⟨rfl, hl1⟩
theorem evf2_any (Y : Nat) (N : Nat → Prop) (A : Option Addr) (c : Nat) (x : Evt) (w : World) (hY : LV w Y (evCs x A c) 47) (hS : Sl rFld N w A x.flds) (hok : EvtOk x) (hT : Tabs w) (hM : MaxL w) :
    Calls Tryz.prog 131 #[.pointer (some ⟨Y, 0, none⟩)] w fun e w' => e = .returned (.int .i64 (evtFault x)) ∧ Below w.heap.size w w' := by
  have c0 := hY.all
  have Hc := Lib.hid (refEvent_any N A c x w hS hok hT hM)
  clear hS hT hM
  go_enter Tryz.func131, Tryz.ntmps131
  go_wp2_with fail
  refine (Hc.out).mono ?_
  rintro e w1 ⟨rfl, hl1⟩
  go_wp2_with fail
  go_ret
  exact ⟨rfl, hl1⟩
theorem evf3_any (Bx Y : Nat) (N : Nat → Prop) (A Af : Option Addr) (l : List Scm) (c cf : Nat) (x : Evt) (w : World) (hB : LV w Bx #[.slice A l.length c] 26) (hY : LV w Y (evCs x Af cf) 47) (hS : Sl rScm N w A l) (hso : ScmOk l) (hF : Sl rFld N w Af x.flds) (hok : EvtOk x) :
    Calls Tryz.prog 133 #[.pointer (some ⟨Bx, 0, none⟩), .pointer (some ⟨Y, 0, none⟩)] w fun e w' => e = .returned (.int .i64 (suit l x)) ∧ Below w.heap.size w w' := by
  have c0 := hY.all
  have b0 := hB.all
  have Hc := Lib.hid (schemaFault_any N A Af l c cf x w hS hso hF hok)
  clear hS hF
  go_enter Tryz.func133, Tryz.ntmps133
  go_wp2_with fail
  refine (Hc.out).mono ?_
  rintro e w1 ⟨rfl, hl1⟩
  go_wp2_with fail
  go_ret
  exact ⟨rfl, hl1⟩
set_option maxHeartbeats 4000000 in
set_option maxRecDepth 100000 in
theorem eventFault_any (N : Nat → Prop) (A Af : Option Addr) (l : List Scm) (c cf : Nat) (x : Evt) (w : World) (hS : Sl rScm N w A l) (hso : ScmOk l) (hF : Sl rFld N w Af x.flds) (hok : EvtOk x) (hT : Tabs w) (hM : MaxL w) :
    Calls Tryz.prog 55 #[.slice A l.length c, .agg (evCs x Af cf)] w fun e w' => e = .returned (.int .i64 (evFault l x)) ∧ Below w.heap.size w w' := by
  have S := ((Mem.start w).new' #[.slice A l.length c] 26).newAt (evCs x Af cf) 47 (w.heap.size + 1) (by simp)
  replace S : Mem w ((w.alloc (.cells #[.slice A l.length c] 26)).alloc (.cells (evCs x Af cf) 47)) [.loc w.heap.size #[.slice A l.length c] 26, .loc (w.heap.size + 1) (evCs x Af cf) 47] := S
  obtain ⟨R, HR⟩ : ∃ R, Hid (evFault l x = R) := ⟨_, Lib.hid rfl⟩
  rw [HR.out]
  have Hn : Hid (firstErr [scmsFault l, evtFault x, suit l x] = R) := by
    show _ = _
    rw [← HR.out]
    unfold evFault first3
    simp only [firstErr]
    split
    · rfl
    · split
      · rfl
      · split <;> simp_all
  have H1 := Lib.hid (fun Bx w' (h : Below w.heap.size w w') hB => evf1_any Bx N A l c w' hB (hS.keepB h) hso)
  have H2 := Lib.hid (fun Y w' (h : Below w.heap.size w w') hY => evf2_any Y N Af cf x w' hY (hF.keepB h) hok (Utf8Tabs_below hT h) (hM.below h))
  have H3 := Lib.hid (fun Bx Y w' (h : Below w.heap.size w w') hB hY => evf3_any Bx Y N A Af l c cf x w' hB hY (hS.keepB h) hso (hF.keepB h) hok)
  clear hS hso hF hok hT hM HR
  go_enter Tryz.func55, Tryz.ntmps55
  go_upto_region 1 with fail
  generalize (w.alloc (.cells #[.slice A l.length c] 26)).alloc (.cells (evCs x Af cf) 47) = w1 at *
  obtain ⟨Y, hY⟩ : ∃ Y, Y = w.heap.size + 1 := ⟨_, rfl⟩
  obtain ⟨Bx, hBx⟩ : ∃ Bx, Bx = w.heap.size := ⟨_, rfl⟩
  rw [← hY, ← hBx] at S
  rw [← hY, ← hBx]
  clear hY hBx
  have S2 := S.new' #[.func (.func 130) #[] #[.pointer (some ⟨Bx, 0, none⟩)], .func (.func 131) #[] #[.pointer (some ⟨Y, 0, none⟩)], .func (.func 133) #[] #[.pointer (some ⟨Bx, 0, none⟩), .pointer (some ⟨Y, 0, none⟩)]] 172
  have Hf := Lib.hid (first_any w1.heap.size 3 [⟨130, #[.pointer (some ⟨Bx, 0, none⟩)], scmsFault l⟩, ⟨131, #[.pointer (some ⟨Y, 0, none⟩)], evtFault x⟩, ⟨133, #[.pointer (some ⟨Bx, 0, none⟩), .pointer (some ⟨Y, 0, none⟩)], suit l x⟩] _ rfl (S2.lv 2 rfl) (by simp)
    (fun c hc => by
      rcases List.mem_cons.1 hc with rfl | hc
      · exact enters_of Tryz.func130 (by kernel_rfl) rfl
      · rcases List.mem_cons.1 hc with rfl | hc
        · exact enters_of Tryz.func131 (by kernel_rfl) rfl
        · rw [List.mem_singleton.1 hc]; exact enters_of Tryz.func133 (by kernel_rfl) rfl)
    (fun c hc w' hw => by
      have S3 := S2.below hw
      rcases List.mem_cons.1 hc with rfl | hc
      · exact H1.out Bx w' S3.b (S3.lv 0 rfl)
      · rcases List.mem_cons.1 hc with rfl | hc
        · exact H2.out Y w' S3.b (S3.lv 1 rfl)
        · rw [List.mem_singleton.1 hc]; exact H3.out Bx Y w' S3.b (S3.lv 0 rfl) (S3.lv 1 rfl)))
  have Hb2 := Lib.hid S2.b
  clear H1 H2 H3 S S2
  go_wp2_with fail
  refine (Hf.out).mono ?_
  rintro e w5 ⟨rfl, hl5⟩
  go_wp2_with fail
  go_ret
  exact ⟨ret_i Hn.out, Hb2.out.trans (hl5.mono Hb2.out.size)⟩
end Go.Proofs.YtmlpkejeglpciaaGreatDoor

/- slices.Contains of numbers and of strings. -/
namespace Go.Proofs.YtmlpkejeglpciaaGreatDoor
open Go.RowKit
theorem containsStr_any (N : Nat → Prop) (A : Option Addr) (xs : List ByteArray) (c n : Nat) (x : ByteArray) (w : World) (hS : Sl rStr N w A xs) (hn : n ≤ xs.length) (hl : xs.length ≤ 1000000) :
    Calls Tryz.prog 58 #[.slice A n c, .string x] w fun e w' => e = .returned (.bool (Lib.containsS (xs.take n) x)) ∧ w = w' := by
  cases n with
  | zero => exact (Tryz.slices_Contains_string_empty A c x w).mono fun e w' ⟨h1, h2⟩ => ⟨by rw [h1]; rfl, h2.symm⟩
  | succ n =>
    obtain ⟨blk, off, rfl, _, _⟩ := hS.str 0 xs[0] (List.getElem?_eq_getElem (by omega))
    refine (Tryz.slices_Contains_string blk off (n + 1) c xs x w hn (by omega) (fun j hj => ?_)).mono fun e w' ⟨h1, h2⟩ => ⟨h1, h2.symm⟩
    obtain ⟨_, _, e, _, hc⟩ := hS.str j xs[j] (List.getElem?_eq_getElem hj)
    cases e
    rw [hc]
    simp [hj]
end Go.Proofs.YtmlpkejeglpciaaGreatDoor
