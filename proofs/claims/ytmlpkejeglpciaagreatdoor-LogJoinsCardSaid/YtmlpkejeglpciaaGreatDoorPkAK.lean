/- Several texts in one: EvChk, BsE, LogFind, LogEvR, LogPlc, Copy, IdV. -/
import Derived.Test.YtmlpkejeglpciaaGreatDoorPkAD
import Derived.Test.YtmlpkejeglpciaaGreatDoorPkAJ
import Derived.Test.YtmlpkejeglpciaaGreatDoorPkAC
import Derived.Test.YtmlpkejeglpciaaGreatDoorPkAE
import Derived.Deep.DeepCutAuto
import Derived.Test.YtmlpkejeglpciaaGreatDoorPkAH
import Derived.Test.YtmlpkejeglpciaaGreatDoorPkAG
import Derived.Test.YtmlpkejeglpciaaGreatDoorPkAI
import Derived.Laws.CopyOwn
/- What the checks of events and schemas in package event return: within, checkNeeds, CheckSchemas, CheckOne. -/
namespace Go.Proofs.YtmlpkejeglpciaaGreatDoor
open Go.RowKit
theorem loadAtEv {w : World} {X : Nat} {a b c d e f : Value} (h : LV w X #[a, b, c, d, e, f] 47) : (Instr.loadAt 47 (.pointer (some ⟨X, 0, none⟩))).run Tryz.prog w = .ok (.agg #[a, b, c, d, e, f]) w := by
  have c0 := h.all
  go_simp
set_option maxHeartbeats 4000000 in
set_option maxRecDepth 100000 in
theorem checkNeeds_any (N : Nat → Prop) (A : Option Addr) (xs : List Nd) (c : Nat) (w : World) (hS : Sl rNd N w A xs) (hl : xs.length ≤ 1000000) (hn : ∀ n ∈ xs, n.name.size ≤ 1000000) :
    Calls Tryz.prog 108 #[.slice A xs.length c] w fun e w' => e = .returned (.int .i64 (ndsFault xs)) ∧ Below w.heap.size w w' := by
  have HS := Lib.hid hS
  have Hnm := Lib.hid hn
  clear hS hn
  obtain ⟨R, HR⟩ : ∃ R, Hid (ndsFault xs = R) := ⟨_, Lib.hid rfl⟩
  rw [HR.out]
  by_cases h30 : 30 < xs.length
  · go_enter Tryz.func108, Tryz.ntmps108
    go_wp2_with fail
    go_ret
    exact ⟨ret_i (by rw [← HR.out, ndsFault, if_pos h30]), Below.refl _ _⟩
  · have HR2 : Hid (ndsGo none xs = R) := by show _ = _; rw [← HR.out, ndsFault, if_neg h30]
    clear HR
    go_enter Tryz.func108, Tryz.ntmps108
    go_wp2_with fail
    go_loopw [10] (fun i wr => ∃ k : Nat, k ≤ xs.length ∧ i = .int .i64 k ∧ ndsGo ((ahd xs k).map Nd.name) (xs.drop k) = R ∧ Below w.heap.size w wr) (fun i _ => xs.length - (intOf i).toNat)
    case atStart => exact ⟨0, Nat.zero_le _, rfl, HR2.out, Below.refl _ _⟩
    case round =>
      clear HR2
      obtain ⟨k, hk, rfl, hr, hbl⟩ := hrel
      have Hr := Lib.hid hr
      clear hr
      by_cases hlt : k < xs.length
      · obtain ⟨p, hf⟩ : ∃ p, xs[k]? = some p := ⟨_, List.getElem?_eq_getElem hlt⟩
        have hSr := HS.out.keepB hbl
        have hfs1 : p.name.size ≤ 1000000 := Hnm.out p (List.mem_of_getElem? hf)
        obtain ⟨K, HK⟩ : ∃ K, Hid (L.isKey p.name = K) := ⟨_, Lib.hid rfl⟩
        obtain ⟨C, HC⟩ : ∃ C, Hid (isCh p.kind = C) := ⟨_, Lib.hid rfl⟩
        obtain ⟨B, HB⟩ : ∃ B, Hid (((ahd xs k).map Nd.name).any (fun q => leS p.name q) = B) := ⟨_, Lib.hid rfl⟩
        have Hstep : Hid ((if ndE K C B ≠ 0 then ndE K C B else ndsGo (some p.name) (xs.drop (k + 1))) = R) := by show _ = _; rw [← Hr.out, drop_at3 hf, ndsGo, ndF, HK.out, HC.out, HB.out]
        have Hf := Lib.hid hf
        obtain ⟨blk, off, rfl, hblk, d0, d1, d2⟩ := hSr.nd k p hf
        clear Hr hf
        have hb0 : Below wr.heap.size wr (wr.alloc (.cells #[.string p.name, .int .i64 p.kind, .bool p.must] 76)) := (Below.refl _ _).alloc (Nat.le_refl _) _
        have Hb1 : Hid (Below w.heap.size w (wr.alloc (.cells #[.string p.name, .int .i64 p.kind, .bool p.must] 76))) := hbl.alloc hbl.size _
        have HKc : Hid (∀ w, Calls Tryz.prog 107 #[.string p.name] w fun e w' => e = .returned (.bool K) ∧ w = w') := fun w => HK.out ▸ isKey_any p.name w (by omega)
        have HCc : Hid (∀ w, Calls Tryz.prog 111 #[.int .i64 p.kind, .int .i64 1, .int .i64 4] w fun e w' => e = .returned (.bool C) ∧ w = w') := fun w => HC.out ▸ ewithin_any p.kind 1 4 w
        have lvY : LV _ wr.heap.size _ _ := LV.new wr wr.heap.size #[.string p.name, .int .i64 p.kind, .bool p.must] 76 rfl
        have HSr := Lib.hid (Sl.keepB hSr hb0)
        clear hSr hb0
        go_upto_region 6 with fail
        clear d0 d1 d2
        generalize wr.alloc (.cells #[.string p.name, .int .i64 p.kind, .bool p.must] 76) = w1 at *
        obtain ⟨Y, hY⟩ : ∃ Y, Y = wr.heap.size := ⟨_, rfl⟩
        rw [← hY] at lvY ⊢
        have c0 := lvY.all
        clear hY hbl lvY
        cases K
        · have Hn : Hid (5 = R) := step_is Hstep.out rfl (by decide)
          go_wp2_with fail
          refine (HKc.out _).mono ?_
          rintro e _ ⟨rfl, rfl⟩
          go_wp2_with fail
          go_ret
          exact ⟨ret_i Hn.out, Hb1.out⟩
        · go_wp2_with fail
          refine (HKc.out _).mono ?_
          rintro e _ ⟨rfl, rfl⟩
          cases C
          · have Hn : Hid (4 = R) := step_is Hstep.out rfl (by decide)
            go_wp2_with fail
            refine (HCc.out _).mono ?_
            rintro e _ ⟨rfl, rfl⟩
            go_wp2_with fail
            go_ret
            exact ⟨ret_i Hn.out, Hb1.out⟩
          · go_wp2_with fail
            refine (HCc.out _).mono ?_
            rintro e _ ⟨rfl, rfl⟩
            go_upto_region 10 with fail
            go_cut [25] (fun s25 wx => s25 = .bool B ∧ Below w1.heap.size w1 wx)
            case first =>
              by_cases hk0 : k = 0
              · subst hk0
                obtain rfl : false = B := HB.out
                go_wp2_with fail
                go_quiet (fail)
                first | go_meet | (go_wp2_with fail; go_meet) | trace_state
                exact ⟨rfl, below_drewN _ _ _⟩
              · obtain ⟨q, rfl⟩ : ∃ q, k = q + 1 := ⟨k - 1, by omega⟩
                obtain ⟨p', hp⟩ : ∃ p', xs[q]? = some p' := ⟨_, List.getElem?_eq_getElem (by omega)⟩
                have HB2 : Hid (leS p.name p'.name = B) := by
                  show _ = _
                  rw [← HB.out, ahd_succ xs q p' hp]
                  simp
                obtain ⟨_, _, e, _, e0, _, _⟩ := HSr.out.nd q p' hp
                cases e
                clear HB hp
                go_wp2_with fail
                go_quiet (fail)
                first | go_meet | (go_wp2_with fail; go_meet) | trace_state
                exact ⟨by rw [← HB2.out]; rfl, below_drewN _ _ _⟩
            case rest =>
              obtain ⟨rfl, hbc⟩ := hcut
              have Hb2 : Hid (Below w.heap.size w wc) := Hb1.out.trans (hbc.mono Hb1.out.size)
              cases B
              · have Hn : Hid (ndsGo (some p.name) (xs.drop (k + 1)) = R) := step_go Hstep.out rfl
                clear c0 hbc HSr
                go_wp2_with fail
                go_roundw
                case rel => exact ⟨k + 1, by omega, by go_num, by rw [ahd_succ xs k p Hf.out]; exact Hn.out, Hb2.out⟩
                case measure => simp [intOf]; omega
              · have Hn : Hid (7 = R) := step_is Hstep.out rfl (by decide)
                go_wp2_with fail
                go_ret
                exact ⟨ret_i Hn.out, Hb2.out⟩
      · go_wp2_with fail
        go_ret
        exact ⟨ret_i (by rw [← Hr.out, List.drop_eq_nil_of_le (by omega)]; rfl), hbl⟩
set_option maxHeartbeats 4000000 in
set_option maxRecDepth 100000 in
theorem checkSchemas_any (N : Nat → Prop) (A : Option Addr) (xs : List Scm) (c : Nat) (w : World) (hS : Sl rScm N w A xs) (hok : ScmOk xs) :
    Calls Tryz.prog 39 #[.slice A xs.length c] w fun e w' => e = .returned (.int .i64 (scmsFault xs)) ∧ Below w.heap.size w w' := by
  have HS := Lib.hid hS
  have Hok := Lib.hid hok
  have hln := hok.len
  clear hS hok
  obtain ⟨R, HR⟩ : ∃ R, Hid (scmsFault xs = R) := ⟨_, Lib.hid rfl⟩
  rw [HR.out]
  by_cases h20 : 60 < xs.length
  · go_enter Tryz.func39, Tryz.ntmps39
    go_wp2_with fail
    go_ret
    exact ⟨ret_i (by rw [← HR.out, scmsFault, if_pos h20]), Below.refl _ _⟩
  · have HR2 : Hid (scmsGo none xs = R) := by show _ = _; rw [← HR.out, scmsFault, if_neg h20]
    clear HR
    go_enter Tryz.func39, Tryz.ntmps39
    go_wp2_with fail
    go_loopw [11] (fun i wr => ∃ k : Nat, k ≤ xs.length ∧ i = .int .i64 k ∧ scmsGo ((ahd xs k).map Scm.name) (xs.drop k) = R ∧ Below w.heap.size w wr) (fun i _ => xs.length - (intOf i).toNat)
    case atStart => exact ⟨0, Nat.zero_le _, rfl, HR2.out, Below.refl _ _⟩
    case round =>
      clear HR2
      obtain ⟨k, hk, rfl, hr, hbl⟩ := hrel
      have Hr := Lib.hid hr
      clear hr
      by_cases hlt : k < xs.length
      · obtain ⟨p, hf⟩ : ∃ p, xs[k]? = some p := ⟨_, List.getElem?_eq_getElem hlt⟩
        have hSr := HS.out.keepB hbl
        have hfs1 : p.name.size ≤ 1000000 := Hok.out.nm p (List.mem_of_getElem? hf)
        obtain ⟨K, HK⟩ : ∃ K, Hid (L.isKey p.name = K) := ⟨_, Lib.hid rfl⟩
        obtain ⟨B, HB⟩ : ∃ B, Hid (((ahd xs k).map Scm.name).any (fun q => leS p.name q) = B) := ⟨_, Lib.hid rfl⟩
        obtain ⟨F, HF⟩ : ∃ F, Hid (ndsFault p.needs = F) := ⟨_, Lib.hid rfl⟩
        have Hstep : Hid ((if scmE K B F ≠ 0 then scmE K B F else scmsGo (some p.name) (xs.drop (k + 1))) = R) := by show _ = _; rw [← Hr.out, drop_at3 hf, scmsGo, scmF, HK.out, HB.out, HF.out]
        have Hf := Lib.hid hf
        obtain ⟨blk, off, At, ct, rfl, hblk, d0, d1, hst⟩ := hSr.scm k p hf
        clear Hr hf
        have hb0 : Below wr.heap.size wr (wr.alloc (.cells #[.string p.name, .slice At p.needs.length ct] 73)) := (Below.refl _ _).alloc (Nat.le_refl _) _
        have Hb1 : Hid (Below w.heap.size w (wr.alloc (.cells #[.string p.name, .slice At p.needs.length ct] 73))) := hbl.alloc hbl.size _
        have HKc : Hid (∀ w, Calls Tryz.prog 107 #[.string p.name] w fun e w' => e = .returned (.bool K) ∧ w = w') := fun w => HK.out ▸ isKey_any p.name w (by omega)
        have lvY : LV _ wr.heap.size _ _ := LV.new wr wr.heap.size #[.string p.name, .slice At p.needs.length ct] 73 rfl
        have Hst := Lib.hid (Sl.keepB hst hb0)
        have HSr := Lib.hid (Sl.keepB hSr hb0)
        clear hSr hst hb0
        go_upto_region 6 with fail
        clear d0 d1
        generalize wr.alloc (.cells #[.string p.name, .slice At p.needs.length ct] 73) = w1 at *
        obtain ⟨Y, hY⟩ : ∃ Y, Y = wr.heap.size := ⟨_, rfl⟩
        rw [← hY] at lvY ⊢
        have c0 : w1.cell? ⟨Y, 0, none⟩ = some (.string p.name) := lvY.cell 0 _ rfl
        have c1 : w1.cell? ⟨Y, 1, none⟩ = some (.slice At p.needs.length ct) := lvY.cell 1 _ rfl
        clear hY hbl lvY
        cases K
        · have Hn : Hid (5 = R) := step_is Hstep.out rfl (by decide)
          go_wp2_with fail
          refine (HKc.out _).mono ?_
          rintro e _ ⟨rfl, rfl⟩
          go_wp2_with fail
          go_ret
          exact ⟨ret_i Hn.out, Hb1.out⟩
        · go_wp2_with fail
          refine (HKc.out _).mono ?_
          rintro e _ ⟨rfl, rfl⟩
          go_upto_region 8 with fail
          go_cut [21] (fun s26 wx => s26 = .bool B ∧ Below w1.heap.size w1 wx)
          case first =>
            by_cases hk0 : k = 0
            · subst hk0
              obtain rfl : false = B := HB.out
              go_wp2_with fail
              go_quiet (fail)
              first | go_meet | (go_wp2_with fail; go_meet) | trace_state
              exact ⟨rfl, below_drewN _ _ _⟩
            · obtain ⟨q, rfl⟩ : ∃ q, k = q + 1 := ⟨k - 1, by omega⟩
              obtain ⟨p', hp⟩ : ∃ p', xs[q]? = some p' := ⟨_, List.getElem?_eq_getElem (by omega)⟩
              have HB2 : Hid (leS p.name p'.name = B) := by
                show _ = _
                rw [← HB.out, ahd_succ xs q p' hp]
                simp
              obtain ⟨_, _, _, _, e, _, e0, _, _⟩ := HSr.out.scm q p' hp
              cases e
              clear HB hp
              go_wp2_with fail
              go_quiet (fail)
              first | go_meet | (go_wp2_with fail; go_meet) | trace_state
              exact ⟨by rw [← HB2.out]; rfl, below_drewN _ _ _⟩
          case rest =>
            obtain ⟨rfl, hbc⟩ := hcut
            have Hb2 : Hid (Below w.heap.size w wc) := Hb1.out.trans (hbc.mono Hb1.out.size)
            cases B
            · have Hn : Hid ((if F ≠ 0 then F else scmsGo (some p.name) (xs.drop (k + 1))) = R) := Hstep.out
              have e1 := (hbc.cell (p := ⟨Y, 1, none⟩) (by exact World.block_lt_of_cell? w1 _ c1)).trans c1
              have Ht := Lib.hid (checkNeeds_any N At p.needs ct wc (Sl.keepB Hst.out hbc) (Hok.out.nl p (List.mem_of_getElem? Hf.out)) (Hok.out.nn p (List.mem_of_getElem? Hf.out)))
              rw [HF.out] at Ht
              clear c0 c1 hbc Hst HSr HF
              go_wp2_with fail
              refine (Ht.out).mono ?_
              rintro e w2 ⟨rfl, hl2⟩
              have Hb3 : Hid (Below w.heap.size w w2) := Hb2.out.trans (hl2.mono Hb2.out.size)
              clear hl2 Ht e1
              by_cases hF : F = 0
              · have Hn2 := Lib.hid (step_go Hn.out hF)
                subst hF
                go_wp2_with fail
                go_roundw
                case rel => exact ⟨k + 1, by omega, by go_num, by rw [ahd_succ xs k p Hf.out]; exact Hn2.out, Hb3.out⟩
                case measure => simp [intOf]; omega
              · have Hn2 := Lib.hid (step_no Hn.out hF)
                have hF' : (F != 0) = true := by simpa using hF
                go_wp2_with fail
                go_ret
                exact ⟨ret_i Hn2.out, Hb3.out⟩
            · have Hn : Hid (7 = R) := step_is Hstep.out rfl (by decide)
              go_wp2_with fail
              go_ret
              exact ⟨ret_i Hn.out, Hb2.out⟩
      · go_wp2_with fail
        go_ret
        exact ⟨ret_i (by rw [← Hr.out, List.drop_eq_nil_of_le (by omega)]; rfl), hbl⟩
set_option maxHeartbeats 4000000 in
set_option maxRecDepth 100000 in
theorem checkOne_any (N : Nat → Prop) (A : Option Addr) (c : Nat) (x : Evt) (w : World) (hS : Sl rFld N w A x.flds) (hok : EvtOk x) (hT : Tabs w) (hM : MaxL w) :
    Calls Tryz.prog 117 #[.agg (evCs x A c)] w fun e w' => e = .returned (.int .i64 (evtFault x)) ∧ Below w.heap.size w w' := by
  have hb0 : Below w.heap.size w (w.alloc (.cells (evCs x A c) 47)) := (Below.refl _ _).alloc (Nat.le_refl _) _
  have lv0 := LV.new w w.heap.size (evCs x A c) 47 rfl
  have HS := Lib.hid hS
  have HT := Lib.hid hT
  have HM := Lib.hid hM
  obtain ⟨R, HR⟩ : ∃ R, Hid (evtFault x = R) := ⟨_, Lib.hid rfl⟩
  rw [HR.out]
  obtain ⟨K1, HK1⟩ : ∃ K, Hid (L.isKey x.id = K) := ⟨_, Lib.hid rfl⟩
  obtain ⟨K2, HK2⟩ : ∃ K, Hid (L.isKey x.name = K) := ⟨_, Lib.hid rfl⟩
  obtain ⟨D, HD⟩ : ∃ D, Hid (decide (0 ≤ x.at' ∧ x.at' ≤ 4321439) = D) := ⟨_, Lib.hid rfl⟩
  obtain ⟨F, HF⟩ : ∃ F, Hid (L.idFault x.kind x.text = F) := ⟨_, Lib.hid rfl⟩
  obtain ⟨G, HG⟩ : ∃ G, Hid (fldsFault x.flds = G) := ⟨_, Lib.hid rfl⟩
  unfold evtFault at HR
  rw [HK1.out, HK2.out, HD.out, HF.out, HG.out] at HR
  have h1 := hok.id
  have h2 := hok.nm
  have h3 := hok.tx
  have C1 : Hid (∀ w, Calls Tryz.prog 107 #[.string x.id] w fun e w' => e = .returned (.bool K1) ∧ w = w') := fun w => HK1.out ▸ isKey_any x.id w (by omega)
  have C2 : Hid (∀ w, Calls Tryz.prog 107 #[.string x.name] w fun e w' => e = .returned (.bool K2) ∧ w = w') := fun w => HK2.out ▸ isKey_any x.name w (by omega)
  have C3 : Hid (∀ w, Calls Tryz.prog 111 #[.int .i64 x.at', .int .i64 0, .int .i64 4321439] w fun e w' => e = .returned (.bool D) ∧ w = w') := fun w => HD.out ▸ ewithin_any x.at' 0 4321439 w
  have C4 : Hid (∀ w, MaxL w → Calls Tryz.prog 169 #[.agg #[.int .i64 x.kind, .string x.text]] w fun e w' => e = .returned (.int .i64 F) ∧ Below w.heap.size w w') := fun w h => HF.out ▸ checkId_any x.kind x.text w (by omega) h
  have C5 : Hid (∀ w', Below w.heap.size w w' → Calls Tryz.prog 170 #[.slice A x.flds.length c] w' fun e w'' => e = .returned (.int .i64 G) ∧ Below w'.heap.size w' w'') := fun w' h => HG.out ▸ checkFields_any N A x.flds c w' (hS.keepB h) hok.fs (by have := hok.fl; omega) (Utf8Tabs_below hT h)
  clear HK1 HK2 HD HF HG hS hok hT hM h1 h2 h3
  have Hb0 := Lib.hid hb0
  go_enter Tryz.func117, Tryz.ntmps117
  go_upto_region 1 with fail
  generalize w.alloc (.cells (evCs x A c) 47) = w1 at *
  obtain ⟨Y, hY⟩ : ∃ Y, Y = w.heap.size := ⟨_, rfl⟩
  rw [← hY] at lv0 ⊢
  have c0 : w1.cell? ⟨Y, 0, none⟩ = some (.string x.id) := lv0.cell 0 _ rfl
  have c1 : w1.cell? ⟨Y, 1, none⟩ = some (.string x.name) := lv0.cell 1 _ rfl
  have c2 : w1.cell? ⟨Y, 2, none⟩ = some (.int .i64 x.at') := lv0.cell 2 _ rfl
  have c3 : w1.cell? ⟨Y, 3, none⟩ = some (.int .i64 x.kind) := lv0.cell 3 _ rfl
  have c4 : w1.cell? ⟨Y, 4, none⟩ = some (.string x.text) := lv0.cell 4 _ rfl
  clear hb0 hY
  cases K1
  · have Hn : Hid (5 = R) := by show _ = _; rw [← HR.out]; simp [evtE]
    go_wp2_with fail
    refine (C1.out _).mono ?_
    rintro e _ ⟨rfl, rfl⟩
    go_wp2_with fail
    go_ret
    exact ⟨ret_i Hn.out, Hb0.out⟩
  · cases K2
    · have Hn : Hid (5 = R) := by show _ = _; rw [← HR.out]; simp [evtE]
      go_wp2_with fail
      refine (C1.out _).mono ?_
      rintro e _ ⟨rfl, rfl⟩
      go_wp2_with fail
      refine (C2.out _).mono ?_
      rintro e _ ⟨rfl, rfl⟩
      go_wp2_with fail
      go_ret
      exact ⟨ret_i Hn.out, Hb0.out⟩
    · cases D
      · have Hn : Hid (1 = R) := by show _ = _; rw [← HR.out]; simp [evtE]
        go_wp2_with fail
        refine (C1.out _).mono ?_
        rintro e _ ⟨rfl, rfl⟩
        go_wp2_with fail
        refine (C2.out _).mono ?_
        rintro e _ ⟨rfl, rfl⟩
        go_wp2_with fail
        refine (C3.out _).mono ?_
        rintro e _ ⟨rfl, rfl⟩
        go_wp2_with fail
        go_ret
        exact ⟨ret_i Hn.out, Hb0.out⟩
      · have Hn : Hid ((if F ≠ 0 then F else G) = R) := by show _ = _; rw [← HR.out]; simp [evtE]
        go_wp2_with fail
        refine (C1.out _).mono ?_
        rintro e _ ⟨rfl, rfl⟩
        go_wp2_with fail
        refine (C2.out _).mono ?_
        rintro e _ ⟨rfl, rfl⟩
        go_wp2_with fail
        refine (C3.out _).mono ?_
        rintro e _ ⟨rfl, rfl⟩
        go_wp2_with fail
        refine (C4.out w1 (HM.out.below Hb0.out)).mono ?_
        rintro e w2 ⟨rfl, hl2⟩
        have lv2 := LV.kb3 lv0 hl2 lv0.lt
        have Hb2 : Hid (Below w.heap.size w w2) := Hb0.out.trans (hl2.mono Hb0.out.size)
        clear c0 c1 c2 c3 c4 lv0 hl2
        by_cases hF : F = 0
        · have Hn2 := Lib.hid (step_go Hn.out hF)
          subst hF
          have c5 : w2.cell? ⟨Y, 5, none⟩ = some (.slice A x.flds.length c) := lv2.cell 5 _ rfl
          go_wp2_with fail
          refine (C5.out w2 Hb2.out).mono ?_
          rintro e w3 ⟨rfl, hl3⟩
          go_wp2_with fail
          go_ret
          exact ⟨ret_i Hn2.out, Hb2.out.trans (hl3.mono Hb2.out.size)⟩
        · have Hn2 := Lib.hid (step_no Hn.out hF)
          have hF' : (F != 0) = true := by simpa using hF
          go_wp2_with fail
          go_ret
          exact ⟨ret_i Hn2.out, Hb2.out⟩
end Go.Proofs.YtmlpkejeglpciaaGreatDoor

/- slices.BinarySearchFunc of events by their order. -/
namespace Go.Proofs.YtmlpkejeglpciaaGreatDoor
open Go Go.RowKit
theorem ordE_lt_lt {a b y : Evt} (h1 : ordE a b < 0) (h2 : ordE b y < 0) : ordE a y < 0 := by
  have h3 := ordE_ok.trans a b y (by omega) (by omega)
  have h4 : ordE a y ≠ 0 := fun e0 => by
    have h5 := ordE_ok.anti a y
    have h6 := ordE_ok.trans y a b (by have := ordE_ok.anti y a; omega) (by omega)
    have h7 := ordE_ok.anti b y
    have h8 := ordE_ok.anti y b
    omega
  omega
theorem hrowE {N : Nat → Prop} {w : World} {A : Option Addr} {xs : List EQ} (h : Sl rEQ N w A xs) {j : Nat} {q : EQ} (hq : xs[j]? = some q) :
    ∃ blk off, A = some ⟨blk, off, none⟩ ∧ blk < w.heap.size ∧ w.cell? ⟨blk, off + j * 6, none⟩ = some (.string q.e.id) ∧ w.cell? ⟨blk, off + j * 6 + 1, none⟩ = some (.string q.e.name) ∧ w.cell? ⟨blk, off + j * 6 + 2, none⟩ = some (.int .i64 q.e.at') ∧ w.cell? ⟨blk, off + j * 6 + 3, none⟩ = some (.int .i64 q.e.kind) ∧ w.cell? ⟨blk, off + j * 6 + 4, none⟩ = some (.string q.e.text) ∧ w.cell? ⟨blk, off + j * 6 + 5, none⟩ = some (.slice q.A q.e.flds.length q.c) := by
  obtain ⟨blk, off, l, hA, hblk, _, hrow, hcs⟩ := h j q hq
  obtain rfl : l = EQ.cells q := hrow
  exact ⟨blk, off, hA, hblk, hcs 0 _ rfl, hcs 1 _ rfl, hcs 2 _ rfl, hcs 3 _ rfl, hcs 4 _ rfl, hcs 5 _ rfl⟩
theorem loadAtE6 {w : World} {blk o : Nat} {a b c d e f : Value} (c0 : w.cell? ⟨blk, o, none⟩ = some a) (c1 : w.cell? ⟨blk, o + 1, none⟩ = some b) (c2 : w.cell? ⟨blk, o + 2, none⟩ = some c) (c3 : w.cell? ⟨blk, o + 3, none⟩ = some d) (c4 : w.cell? ⟨blk, o + 4, none⟩ = some e) (c5 : w.cell? ⟨blk, o + 5, none⟩ = some f) : (Instr.loadAt 47 (.pointer (some ⟨blk, o, none⟩))).run Tryz.prog w = .ok (.agg #[a, b, c, d, e, f]) w := by
  go_simp
set_option maxHeartbeats 4000000 in
set_option maxRecDepth 100000 in
theorem bsEv_any (N : Nat → Prop) (A : Option Addr) (xs : List EQ) (y : Evt) (Ay : Option Addr) (cy : Nat) (c : Nat) (w : World) (hS : Sl rEQ N w A xs) (hn : xs.length ≤ 1000000) (hri : xs.Pairwise (fun a b => ordE a.e b.e < 0)) :
    Calls Tryz.prog 124 #[.slice A xs.length c, .agg (evCs y Ay cy), .func (.func 125) #[] #[]] w (GivesBy (fun x : EQ => ordE x.e y) xs w) := by
  have hb0 : Below w.heap.size w (w.alloc (.cells (evCs y Ay cy) 47)) := (Below.refl _ _).alloc (Nat.le_refl _) _
  have lvY : LV _ w.heap.size _ _ := LV.new w w.heap.size (evCs y Ay cy) 47 rfl
  have HS := Lib.hid (fun w' (h : Below w.heap.size w w') => hS.keepB h)
  have Hri : Hid (∀ (i j : Nat) (a b : EQ), i < j → xs[i]? = some a → xs[j]? = some b → ordE b.e y < 0 → ordE a.e y < 0) := fun i j a b hij ha hb h => by
    obtain ⟨hi, rfl⟩ := List.getElem?_eq_some_iff.1 ha
    obtain ⟨hj, rfl⟩ := List.getElem?_eq_some_iff.1 hb
    exact ordE_lt_lt (List.pairwise_iff_getElem.1 hri i j hi hj hij) h
  obtain ⟨cf, Hcf⟩ : ∃ cf : EQ → Int, Hid ((fun x : EQ => ordE x.e y) = cf) := ⟨_, Lib.hid rfl⟩
  rw [Hcf.out]
  have Hce : Hid (∀ f : EQ, ordE f.e y = cf f) := fun f => by rw [← Hcf.out]
  have Hri2 : Hid (∀ (i j : Nat) (a b : EQ), i < j → xs[i]? = some a → xs[j]? = some b → cf b < 0 → cf a < 0) := fun i j a b hij ha hb h => by
    rw [← Hcf.out] at h ⊢; exact Hri.out i j a b hij ha hb h
  have Hb0 := Lib.hid hb0
  clear hS hri Hri Hcf hb0
  have Hri := Hri2
  clear Hri2
  go_enter Tryz.func124, Tryz.ntmps124
  go_upto_region 1 with fail
  generalize w.alloc (.cells (evCs y Ay cy) 47) = w1 at *
  obtain ⟨Y, hY⟩ : ∃ Y, Y = w.heap.size := ⟨_, rfl⟩
  rw [← hY] at lvY ⊢
  clear hY
  go_wp2_with fail
  go_loopw [9, 10] (fun a b wr => ∃ i j : Nat, i ≤ j ∧ j ≤ xs.length ∧ a = .int .i64 i ∧ b = .int .i64 j ∧ Hid (∀ p f, p < i → xs[p]? = some f → cf f < 0) ∧ Hid (∀ p f, j ≤ p → xs[p]? = some f → 0 ≤ cf f) ∧ Below w1.heap.size w1 wr) (fun a b _ => (intOf b).toNat - (intOf a).toNat)
  case atStart => exact ⟨0, xs.length, by omega, by omega, rfl, rfl, (fun p f h => by omega), (fun p f h hp => by rw [List.getElem?_eq_none h] at hp; cases hp), Below.refl _ _⟩
  case round =>
    obtain ⟨i, j, hij, hj, rfl, rfl, Hlo, Hhi, hbl⟩ := hrel
    have Hbl := Lib.hid hbl
    have lvR := Lib.hid (LV.kb3 lvY hbl lvY.lt)
    have HSr := Lib.hid (HS.out wr (Hb0.out.trans (hbl.mono Hb0.out.size)))
    clear hbl
    by_cases hlt : i < j
    · obtain ⟨h, hh⟩ : ∃ h : Nat, h = (i + j) / 2 := ⟨_, rfl⟩
      have h1 : i ≤ h := by omega
      have h2 : h < j := by omega
      have eh : ((i : Int) + (j : Int)) / 2 = (h : Int) := by omega
      clear hh
      obtain ⟨f, hf⟩ : ∃ f, xs[h]? = some f := ⟨_, List.getElem?_eq_getElem (by omega)⟩
      have Hf := Lib.hid hf
      obtain ⟨blk, off, rfl, hblk, d0, d1, d2, d3, d4, d5⟩ := hrowE HSr.out hf
      obtain ⟨cm, Hcm⟩ : ∃ cm, Hid (cf f = cm) := ⟨_, Lib.hid rfl⟩
      have Hld := Lib.hid (fun w' (h' : Below wr.heap.size wr w') => loadAtE6 ((h'.cell (p := ⟨blk, off + h * 6, none⟩) hblk).trans d0) ((h'.cell (p := ⟨blk, off + h * 6 + 1, none⟩) hblk).trans d1) ((h'.cell (p := ⟨blk, off + h * 6 + 2, none⟩) hblk).trans d2) ((h'.cell (p := ⟨blk, off + h * 6 + 3, none⟩) hblk).trans d3) ((h'.cell (p := ⟨blk, off + h * 6 + 4, none⟩) hblk).trans d4) ((h'.cell (p := ⟨blk, off + h * 6 + 5, none⟩) hblk).trans d5))
      clear d0 d1 d2 d3 d4 d5 hf
      go_upto_region 5 with fail
      go_wp2_with fail
      refine wp_region_mix (fun w' => Below wr.heap.size wr w') [(true, 0), (true, 1), (true, 2), (true, 3), (true, 4), (true, 5), (false, 6), (true, 7)] (by kernel_rfl) (by kernel_rfl) (fun w' hd => hd.below _) (fun KK hKK wd hd_wd => ?_)
      have hC := hd_wd.below wr.heap.size
      clear hd_wd
      refine mpR ?_
      refine mix_loadH (.agg (evCs f.e f.A f.c)) rfl rfl rfl (fun w' h => Hld.out w' h) ?_
      refine mpR ?_
      refine mix_loadH (.agg (evCs y Ay cy)) rfl rfl rfl (fun w' h => loadAtEv (LV.kb3 lvR.out h lvR.out.lt)) ?_
      refine mpR ?_
      refine mix_l rfl (fun K hK => ?_) hC
      have Ho := Lib.hid (orderEv_any f.e y f.A Ay f.c cy wd)
      rw [show ordE f.e y = cm from (Hce.out f).trans Hcm.out] at Ho
      go_wp2_with fail
      refine (Ho.out).mono ?_
      rintro e w3 ⟨rfl, hl3⟩
      have hC3 := hC.trans (hl3.mono hC.size)
      clear Ho hl3
      go_wp2_with fail
      refine ⟨hC3, ?_⟩
      refine mpR ?_
      refine mix_nil ?_
      simp only [Exit.then]
      refine hKK _ _ ?_
      have Hb1 : Hid (Below w1.heap.size w1 w3) := Hbl.out.trans (hC3.mono Hbl.out.size)
      clear hC3 hC Hld
      by_cases hc : cm < 0
      · have Hl : Hid (∀ p g, p < h + 1 → xs[p]? = some g → cf g < 0) := fun p g hp hg => by
          by_cases hph : p = h
          · subst hph
            rw [Hf.out] at hg
            cases hg
            rw [Hcm.out]; exact hc
          · exact Hri.out p h g f (by omega) hg Hf.out (by rw [Hcm.out]; omega)
        go_wp2_with fail
        go_roundw
        case rel => exact ⟨h + 1, j, by omega, by omega, by go_num, rfl, Hl.out, Hhi.out, Hb1.out⟩
        case measure => simp [intOf]; omega
      · have Hl : Hid (∀ p g, h ≤ p → xs[p]? = some g → 0 ≤ cf g) := fun p g hp hg => by
          by_cases hph : p = h
          · subst hph
            rw [Hf.out] at hg
            cases hg
            rw [Hcm.out]; omega
          · refine Int.not_lt.1 fun hn => ?_
            have := Hri.out h p f g (by omega) Hf.out hg (by omega)
            rw [Hcm.out] at this
            exact hc this
        go_wp2_with fail
        go_roundw
        case rel => exact ⟨i, h, by omega, by omega, rfl, rfl, Hlo.out, Hl.out, Hb1.out⟩
        case measure => simp [intOf]; omega
    · obtain rfl : i = j := by omega
      obtain ⟨h, hh⟩ : ∃ h : Nat, h = i := ⟨_, rfl⟩
      by_cases hlen : h < xs.length
      · obtain ⟨f, hf⟩ : ∃ f, xs[h]? = some f := ⟨_, List.getElem?_eq_getElem hlen⟩
        subst hh
        have Hf := Lib.hid hf
        obtain ⟨blk, off, rfl, hblk, d0, d1, d2, d3, d4, d5⟩ := hrowE HSr.out hf
        obtain ⟨cm, Hcm⟩ : ∃ cm, Hid (cf f = cm) := ⟨_, Lib.hid rfl⟩
        have Hld := Lib.hid (fun w' (h' : Below wr.heap.size wr w') => loadAtE6 ((h'.cell (p := ⟨blk, off + h * 6, none⟩) hblk).trans d0) ((h'.cell (p := ⟨blk, off + h * 6 + 1, none⟩) hblk).trans d1) ((h'.cell (p := ⟨blk, off + h * 6 + 2, none⟩) hblk).trans d2) ((h'.cell (p := ⟨blk, off + h * 6 + 3, none⟩) hblk).trans d3) ((h'.cell (p := ⟨blk, off + h * 6 + 4, none⟩) hblk).trans d4) ((h'.cell (p := ⟨blk, off + h * 6 + 5, none⟩) hblk).trans d5))
        clear d0 d1 d2 d3 d4 d5 hf
        go_upto_region 8 with fail
        go_wp2_with fail
        refine wp_region_mix (fun w' => Below wr.heap.size wr w') [(true, 0), (true, 1), (true, 2), (true, 3), (true, 4), (true, 5), (true, 6), (true, 7), (true, 8), (true, 9), (true, 10), (false, 11), (true, 12), (true, 13), (true, 14), (true, 15)] (by kernel_rfl) (by kernel_rfl) (fun w' hd => hd.below _) (fun KK hKK wd hd_wd => ?_)
        have hC := hd_wd.below wr.heap.size
        clear hd_wd
        refine mpR ?_
        refine mix_loadH (.agg (evCs f.e f.A f.c)) rfl rfl rfl (fun w' h => Hld.out w' h) ?_
        refine mpR ?_
        refine mix_loadH (.agg (evCs y Ay cy)) rfl rfl rfl (fun w' h => loadAtEv (LV.kb3 lvR.out h lvR.out.lt)) ?_
        refine mpR ?_
        refine mix_l rfl (fun K hK => ?_) hC
        have Ho := Lib.hid (orderEv_any f.e y f.A Ay f.c cy wd)
        rw [show ordE f.e y = cm from (Hce.out f).trans Hcm.out] at Ho
        go_wp2_with fail
        refine (Ho.out).mono ?_
        rintro e w3 ⟨rfl, hl3⟩
        have hC3 := hC.trans (hl3.mono hC.size)
        clear Ho hl3
        go_wp2_with fail
        refine ⟨hC3, ?_⟩
        refine mpR ?_
        refine mix_nil ?_
        simp only [Exit.then]
        refine hKK _ _ ?_
        have Hb1 : Hid (Below w.heap.size w w3) := Hb0.out.trans ((Hbl.out.trans (hC3.mono Hbl.out.size)).mono Hb0.out.size)
        go_wp2_with fail
        go_ret2
        refine ⟨h, (cm == 0), rfl, by omega, Hlo.out, Hhi.out, ?_, Hb1.out⟩
        rw [beq_iff_eq]
        exact ⟨fun h0 => ⟨f, Hf.out, by rw [Hcm.out, h0]⟩, fun ⟨g, hg, h0⟩ => by rw [Hf.out] at hg; cases hg; rw [← Hcm.out, h0]⟩
      · subst hh
        have hl1 : decide ((h : Int) < (xs.length : Int)) = false := by simp; omega
        go_upto_region 8 with fail
        go_wp2_with fail
        refine wp_region_mix (fun w' => Below wr.heap.size wr w') [(true, 0), (true, 1), (true, 2), (true, 3), (true, 4), (true, 5), (true, 6), (true, 7), (true, 8), (true, 9), (true, 10), (false, 11), (true, 12), (true, 13), (true, 14), (true, 15)] (by kernel_rfl) (by kernel_rfl) (fun w' hd => hd.below _) (fun KK hKK wd hd_wd => ?_)
        have hC := hd_wd.below wr.heap.size
        clear hd_wd
        refine mpR ?_
        refine mix_l rfl (fun K hK => ?_) hC
        go_wp2_with fail
        refine ⟨hC, ?_⟩
        refine mpR ?_
        refine mix_nil ?_
        simp only [Exit.then]
        refine hKK _ _ ?_
        go_wp2_with fail
        go_ret2
        exact ⟨h, false, rfl, by omega, Hlo.out, Hhi.out, ⟨(fun h => by cases h), (fun ⟨g, hg, _⟩ => by rw [List.getElem?_eq_none (by omega)] at hg; cases hg)⟩, Hb0.out.trans ((Hbl.out.trans (hC.mono Hbl.out.size)).mono Hb0.out.size)⟩
end Go.Proofs.YtmlpkejeglpciaaGreatDoor

/- (*Log).find: the event with an id. -/
namespace Go.Proofs.YtmlpkejeglpciaaGreatDoor
open Go Go.RowKit
abbrev zqE : EQ := ⟨⟨⟨#[]⟩, ⟨#[]⟩, 0, 0, ⟨#[]⟩, []⟩, none, 0⟩
theorem zeroIntL (w : World) : (zeroValue 3).run Tryz.prog w = .ok (.int .i64 0) w := by kernel_rfl
theorem zeroBoolL (w : World) : (zeroValue 4).run Tryz.prog w = .ok (.bool false) w := by kernel_rfl
theorem loadEvL {w : World} {X : Nat} {a b c d e f : Value} (h : LV w X #[a, b, c, d, e, f] 47) : (loadVar 47 ⟨X, 0, none⟩).run Tryz.prog w = .ok (.agg #[a, b, c, d, e, f]) w := by
  have c0 := h.all
  go_simp
section
variable {κ : Type} [DecidableEq κ] {w : World} {ops : Array Oper} {rest : List Oper} {o : Oper} {a : Act} {Q : Exit → Act → World → Prop}
theorem look_wp {K : KeyL κ} {X : Nat} {L : List (κ × Value)} (hM : MapG K w X L) {T E : TypeId} (hT : Tryz.prog.underlying T = some (.map K.ty E)) {z : Value} (hz : ∀ w, (zeroValue E).run Tryz.prog w = .ok z w)
    (hgd : o.guard = none) (m x : Operand) (ok : Bool) (hop : o.op = .lookup T m x ok) (hm : a.eval m = .map (some X)) (y : κ) (hx : a.eval x = K.kv y) (h : wpList Tryz.prog ops Q rest (a.put o.dst (if ok then .tuple #[(getG y L).getD z, .bool (getG y L).isSome] else (getG y L).getD z)) w) : wpList Tryz.prog ops Q (o :: rest) a w := by
  have hrun := look_g hM hT (hz w) y ok
  refine wpList_plain hgd fun K' hK' => ?_
  unfold Oper.wp
  simp only [execOp, hop, hm, hx, hrun, Sem.run_bind, Sem.run_pure, Result.andThen_ok]
  exact hK' _ _ h
end
theorem MapG.keepB {κ : Type} {K : KeyL κ} {w w' : World} {X : Nat} {L : List (κ × Value)} (h : MapG K w X L) (hb : Below w.heap.size w w') : MapG K w' X L := by
  obtain ⟨es, cl, h1, h2⟩ := h
  exact ⟨es, cl, (hb.block X (Array.getElem?_eq_some_iff.1 h1).1).trans h1, h2⟩
def GivesFnd (s : ByteArray) (qs : List EQ) (w : World) (e : Ending) (w' : World) : Prop :=
  ∃ (q : EQ) (b : Bool), e = .returned (.tuple #[.agg (evCs q.e q.A q.c), .bool b]) ∧ Below w.heap.size w w' ∧ ((b = true ∧ hasE s qs = some q) ∨ (b = false ∧ hasE s qs = none ∧ q = zqE))
set_option maxHeartbeats 4000000 in
set_option maxRecDepth 100000 in
theorem find_log (N : Nat → Prop) (X : Nat) (K : Option Addr) (n ck : Nat) (A : Option Addr) (c AT GN : Nat) (qs : List EQ) (La : List (ByteArray × Value)) (s : ByteArray) (w : World) (hX : LV w X (logCs K n ck (.slice A qs.length c) AT GN) 83)
    (hm : MapG keyStr w AT La) (hS : Sl rEQ N w A qs) (hat : AtOk qs La) (hlo : LogE (qs.map EQ.e)) (hl : qs.length ≤ 1000000) :
    Calls Tryz.prog 52 #[.pointer (some ⟨X, 0, none⟩), .string s] w (GivesFnd s qs w) := by
  have HS := Lib.hid (fun w' (h : Below w.heap.size w w') => hS.keepB h)
  have HX := Lib.hid (fun w' (h : Below w.heap.size w w') => (LV.kb3 hX h hX.lt).all)
  have HM := Lib.hid (fun w' (h : Below w.heap.size w w') => hm.keepB h)
  have Hlo : Hid (LogE (qs.map EQ.e)) := hlo
  have Hat := Lib.hid (hat s)
  obtain ⟨R, hR⟩ : ∃ R, R = w.heap.size := ⟨_, rfl⟩
  have S : Mem w (w.alloc (.cells (evCs zqE.e none 0) 47)) [.loc R (evCs zqE.e none 0) 47] := (Mem.start w).newAt _ _ R hR
  clear hS hX hm hat hlo
  go_enter Tryz.func52, Tryz.ntmps52
  go_upto_region 1 with fail
  rw [← hR]
  clear hR
  generalize w.alloc (.cells (evCs zqE.e none 0) 47) = w1 at *
  have x0 := HX.out w1 S.b
  have HM1 := Lib.hid (HM.out w1 S.b)
  have HS1 := Lib.hid S
  have HSl1 := Lib.hid (HS.out w1 S.b)
  have r0 := (S.lv 0 rfl).all
  clear HS HM S
  cases hh : hasE s qs with
  | none =>
    have hg : getG s La = none := by rw [Hat.out, hh]; rfl
    have Hh := Lib.hid hh
    clear hh Hat
    go_wp2_with (at_lookup; refine look_wp HM1.out (T := 80) (E := 3) (by kernel_rfl) zeroIntL rfl _ _ true rfl rfl s rfl ?_; rw [if_pos rfl, hg])
    have S8 := (((((HS1.out.set 0 0 (.string ⟨#[]⟩) rfl).set 0 1 (.string ⟨#[]⟩) rfl).set 0 2 (.int .i64 0) rfl).set 0 3 (.int .i64 0) rfl).set 0 4 (.string ⟨#[]⟩) rfl).set 0 5 (.slice none 0 0) rfl
    have S9 : Mem w _ [.loc R (evCs zqE.e none 0) 47] := S8
    exact bodyPost_ret (results_cs rfl rfl rfl (loadEvL (S9.lv 0 rfl))) rfl ⟨zqE, false, rfl, S9.b, .inr ⟨rfl, Hh.out, rfl⟩⟩
  | some q =>
    obtain ⟨j, hj, hid⟩ := hasE_some hh
    have hg : getG s La = some (.int .i64 q.e.at') := by rw [Hat.out, hh]; rfl
    have Hh := Lib.hid hh
    have Hj := Lib.hid hj
    have Hbs := Lib.hid (bsEv_any N A qs ⟨s, ⟨#[]⟩, q.e.at', 0, ⟨#[]⟩, []⟩ none 0 c w1 HSl1.out hl (logE_q Hlo.out))
    have Hid' := Lib.hid hid
    clear hh Hat hj hid
    go_wp2_with (at_lookup; refine look_wp HM1.out (T := 80) (E := 3) (by kernel_rfl) zeroIntL rfl _ _ true rfl rfl s rfl ?_; rw [if_pos rfl, hg])
    refine (Hbs.out).mono ?_
    rintro e w2 ⟨i, b, rfl, hil, hlo, hhi, _, hb⟩
    obtain rfl : j = i := (at_own Hlo.out (y := ⟨s, ⟨#[]⟩, q.e.at', 0, ⟨#[]⟩, []⟩) Hj.out rfl Hid'.out.symm hlo hhi).symm
    obtain ⟨blk, off, rfl, hblk, d0, d1, d2, d3, d4, d5⟩ := hrowE (HSl1.out.keepB hb) Hj.out
    have S2 := HS1.out.below hb
    have x2 := HX.out w2 (HS1.out.b.trans (hb.mono HS1.out.b.size))
    have r2 := (S2.lv 0 rfl).all
    have hjl : j < qs.length := (List.getElem?_eq_some_iff.1 Hj.out).1
    clear Hbs hlo hhi hb HX HS1 x0 r0
    go_wp2_with fail
    have S8 := (((((S2.set 0 0 (.string q.e.id) rfl).set 0 1 (.string q.e.name) rfl).set 0 2 (.int .i64 q.e.at') rfl).set 0 3 (.int .i64 q.e.kind) rfl).set 0 4 (.string q.e.text) rfl).set 0 5 (.slice q.A q.e.flds.length q.c) rfl
    have S9 : Mem w _ [.loc R (evCs q.e q.A q.c) 47] := S8
    exact bodyPost_ret (results_cs rfl rfl rfl (loadEvL (S9.lv 0 rfl))) rfl ⟨q, true, rfl, S9.b, .inl ⟨rfl, Hh.out⟩⟩
end Go.Proofs.YtmlpkejeglpciaaGreatDoor

/- handref2.(*Log).Events: what came, in order. -/
namespace Go.Proofs.YtmlpkejeglpciaaGreatDoor
open Go Go.RowKit Go.Sort Go.Shelf
set_option maxHeartbeats 2000000 in
set_option maxRecDepth 100000 in
theorem beforeG_any (a b : Evt) (A B : Option Addr) (c d : Nat) (w : World) :
    Calls Tryz.prog 69 #[.agg (evCs a A c), .agg (evCs b B d)] w fun e w' => e = .returned (.bool (befE a b)) ∧ Grew w w' := by
  obtain ⟨R, HR⟩ : ∃ R, Hid (befE a b = R) := ⟨_, Lib.hid rfl⟩
  rw [HR.out]
  have hC := two_evts w a b A B c d
  have Hb : Hid (Grew w ((w.alloc (.cells (evCs a A c) 47)).alloc (.cells (evCs b B d) 47))) := ((Grew.refl _).alloc _).alloc _
  go_enter Tryz.func69, Tryz.ntmps69
  go_upto_region 1 with fail
  generalize (w.alloc (.cells (evCs a A c) 47)).alloc (.cells (evCs b B d) 47) = w1 at *
  obtain ⟨Y, hY⟩ : ∃ Y, Y = w.heap.size + 1 := ⟨_, rfl⟩
  obtain ⟨X, hX⟩ : ∃ X, X = w.heap.size := ⟨_, rfl⟩
  rw [← hY, ← hX] at hC
  rw [← hY, ← hX]
  clear hY hX
  have c0 := LV.all hC.1
  have d0 := LV.all hC.2
  unfold befE ltS at HR
  by_cases h1 : a.at' < b.at'
  · have Hn : Hid (true = R) := by show _ = _; rw [← HR.out, decide_eq_true h1]; rfl
    clear HR hC
    go_wp2_with fail
    go_ret
    exact ⟨ret_b Hn.out, Hb.out⟩
  · by_cases h2 : a.at' = b.at'
    · have Hn : Hid (Op.bytesLess a.id.toList b.id.toList = R) := by show _ = _; rw [← HR.out, decide_eq_false h1, decide_eq_true h2]; rfl
      have h2' : (a.at' == b.at') = true := by simpa using h2
      clear HR hC h2
      go_wp2_with fail
      go_ret
      exact ⟨ret_b Hn.out, Hb.out⟩
    · have Hn : Hid (false = R) := by show _ = _; rw [← HR.out, decide_eq_false h1, decide_eq_false h2]; rfl
      have h2' : (a.at' == b.at') = false := by simpa using h2
      clear HR hC h2
      go_wp2_with fail
      go_ret
      exact ⟨ret_b Hn.out, Hb.out⟩
set_option maxHeartbeats 2000000 in
set_option maxRecDepth 100000 in
theorem rlgEv1_any (a b : EQ) (w : World) :
    Calls Tryz.prog 68 #[.agg (EQ.cells a).toArray, .agg (EQ.cells b).toArray] w fun e w' => e = .returned (.int .i64 (cfE a b)) ∧ Grew w w' := by
  obtain ⟨a, Aa, ca⟩ := a
  obtain ⟨b, Ab, cb⟩ := b
  show Calls Tryz.prog 68 #[.agg (evCs a Aa ca), .agg (evCs b Ab cb)] w fun e w' => e = .returned (.int .i64 (if befE a b = true then -1 else 1)) ∧ Grew w w'
  obtain ⟨R, HR⟩ : ∃ R, Hid (befE a b = R) := ⟨_, Lib.hid rfl⟩
  have Ho : Hid (∀ w', Calls Tryz.prog 69 #[.agg (evCs a Aa ca), .agg (evCs b Ab cb)] w' fun e w'' => e = .returned (.bool R) ∧ Grew w' w'') := fun w' => by
    rw [← HR.out]
    exact beforeG_any a b Aa Ab ca cb w'
  rw [HR.out]
  have Hb : Hid (Grew w ((w.alloc (.cells (evCs a Aa ca) 47)).alloc (.cells (evCs b Ab cb) 47))) := ((Grew.refl _).alloc _).alloc _
  go_enter Tryz.func68, Tryz.ntmps68
  go_wp2_with fail
  refine (Ho.out _).mono ?_
  rintro e w2 ⟨rfl, hg⟩
  have Hg := Lib.hid (Hb.out.trans hg)
  clear hg Ho HR
  cases R
  · go_wp2_with fail
    go_ret
    exact ⟨rfl, Hg.out⟩
  · go_wp2_with fail
    go_ret
    exact ⟨rfl, Hg.out⟩
theorem sortLE_any {w0 w : World} {cs : List Chunk} (S : Mem w0 w cs) (i : Nat) {B : Nat} {v : Value} {xs : List EQ} (hi : cs[i]? = some (.own rEQ B 47 v xs)) (hl : xs.length ≤ 1000000) :
    Calls Tryz.prog 67 #[v, .func (.func 68) #[] #[]] w (GivesSorted rEQ ordQ w0 cs i B 47 v xs) :=
  haveI : Inhabited EQ := ⟨⟨⟨⟨#[]⟩, ⟨#[]⟩, 0, 0, ⟨#[]⟩, []⟩, none, 0⟩⟩
  sortFn_own flatEQ (by decide) (fun _ => rfl) oneEQ Tryz.laysSf67 Tryz.isAgg47 Tryz.sizeOf47 (fun _ => True) cfE ordQ ordQ_ok cfE_neg 68 (enters_of Tryz.func68 (by kernel_rfl) rfl) (fun a b _ _ w => rlgEv1_any a b w) S i hi (fun _ _ => trivial) hl
abbrev rlgCs (K : Option Addr) (n ck : Nat) (v g : Value) : Array Value := #[.slice K n ck, v, g]
def GivesLEv (qs : List EQ) (w : World) (e : Ending) (w' : World) : Prop := ∃ A c ys, e = .returned (.slice A ys.length c) ∧ ys.Perm qs ∧ (ys.map EQ.e).Pairwise (fun a b => ordE a b ≤ 0) ∧ Mem w w' [.sl rEQ A ys]
set_option maxHeartbeats 4000000 in
set_option maxRecDepth 100000 in
theorem rlgEvents_any (Y : Nat) (K : Option Addr) (n ck : Nat) (g : Value) (A : Option Addr) (c : Nat) (qs : List EQ) (w : World) (hY : LV w Y (rlgCs K n ck (.slice A qs.length c) g) 39) (hL : Sl rEQ (fun _ => False) w A qs) (hl : qs.length ≤ 1000) (hc : A = none → c = 0) :
    Calls Tryz.prog 20 #[.pointer (some ⟨Y, 0, none⟩)] w (GivesLEv qs w) := by
  have Hcl := Lib.hid (cloneE_any A qs c w hL hl hc)
  have y0 := hY.all
  have Hl := Lib.hid hl
  clear hY hL hc
  go_enter Tryz.func20, Tryz.ntmps20
  go_wp2_with fail
  refine (Hcl.out).mono ?_
  rintro e w2 ⟨v, rfl, S2⟩
  have Hs := Lib.hid (sortLE_any S2 0 rfl (Nat.le_trans Hl.out (by decide)))
  clear S2 Hcl y0
  go_wp2_with fail
  refine (Hs.out).mono ?_
  rintro e w3 ⟨rfl, ys, hp, ho, S3⟩
  obtain ⟨A3, c3, e3, S4⟩ := S3.frz 0 rfl
  subst e3
  have HS := Lib.hid S4
  have Hp := Lib.hid hp
  have Ho : Hid ((ys.map EQ.e).Pairwise (fun a b => ordE a b ≤ 0)) := by
    show List.Pairwise _ _
    rw [List.pairwise_map]
    exact ho
  clear S3 S4 hp ho Hs
  go_wp2_with fail
  go_ret
  exact ⟨A3, c3, ys, rfl, Hp.out, Ho.out, HS.out⟩
end Go.Proofs.YtmlpkejeglpciaaGreatDoor

/- Where an event with an id stands, in what came: slices.IndexFunc of events, and handref2's place. -/
namespace Go.Proofs.YtmlpkejeglpciaaGreatDoor
open Go Go.RowKit
theorem Sl.eqr {N : Nat → Prop} {w : World} {A : Option Addr} {xs : List EQ} (h : Sl rEQ N w A xs) (k : Nat) (x : EQ) (hk : xs[k]? = some x) : ∃ blk off, A = some ⟨blk, off, none⟩ ∧ blk < w.heap.size ∧
    w.cell? ⟨blk, off + k * 6, none⟩ = some (.string x.e.id) ∧ w.cell? ⟨blk, off + k * 6 + 1, none⟩ = some (.string x.e.name) ∧ w.cell? ⟨blk, off + k * 6 + 2, none⟩ = some (.int .i64 x.e.at') ∧ w.cell? ⟨blk, off + k * 6 + 3, none⟩ = some (.int .i64 x.e.kind) ∧ w.cell? ⟨blk, off + k * 6 + 4, none⟩ = some (.string x.e.text) ∧ w.cell? ⟨blk, off + k * 6 + 5, none⟩ = some (.slice x.A x.e.flds.length x.c) := hrowE h hk
set_option maxHeartbeats 4000000 in
set_option maxRecDepth 100000 in
theorem idxFE_any (f : Nat) (caps : Array Value) (ef : ∀ args w, (callFunc f args).run Tryz.prog w = .ok (.enter f args) w) (P : EQ → Bool) (N : Nat → Prop) (A : Option Addr) (c : Nat) (xs : List EQ) (w : World) (hS : Sl rEQ N w A xs) (hl : xs.length ≤ 1000000)
    (hf : ∀ y ∈ xs, ∀ w', Below w.heap.size w w' → Calls Tryz.prog f (#[.agg (evCs y.e y.A y.c)] ++ caps) w' fun e w'' => e = .returned (.bool (P y)) ∧ Below w'.heap.size w' w'') :
    Calls Tryz.prog 49 #[.slice A xs.length c, .func (.func f) #[] caps] w (GivesIF P xs w) := by
  have HF := Lib.hid hf
  have HS := Lib.hid (fun w' (h : Below w.heap.size w w') => hS.keepB h)
  clear hf hS
  go_enter Tryz.func49, Tryz.ntmps49
  go_wp2_with fail
  go_loopw [8] (fun i wr => ∃ j : Nat, j ≤ xs.length ∧ i = .int .i64 j ∧ Hid (∀ z ∈ xs.take j, P z = false) ∧ Below w.heap.size w wr) (fun i _ => xs.length - (intOf i).toNat)
  case atStart => exact ⟨0, Nat.zero_le _, rfl, (by show ∀ z ∈ _, _; simp), Below.refl _ _⟩
  case round =>
    obtain ⟨j, hj, rfl, HP, hb⟩ := hrel
    by_cases hlt : j < xs.length
    · obtain ⟨x, hx⟩ : ∃ x, xs[j]? = some x := ⟨_, List.getElem?_eq_getElem hlt⟩
      obtain ⟨b1, o1, rfl, hb1, d0, d1, d2, d3, d4, d5⟩ := (HS.out wr hb).eqr j x hx
      have Hx := Lib.hid hx
      clear hx
      go_wp2_with fail
      refine (HF.out x (List.mem_of_getElem? Hx.out) wr hb).mono ?_
      rintro e w2 ⟨rfl, hl2⟩
      have hb2 := hb.trans (hl2.mono hb.size)
      clear hl2 d0 d1 d2 d3 d4 d5 hb
      cases hp : P x with
      | false =>
        have HP2 : Hid (∀ z ∈ xs.take (j + 1), P z = false) := fun z hz => by
          rw [take_snoc Hx.out] at hz
          rcases List.mem_append.1 hz with hz | hz
          · exact HP.out z hz
          · rw [List.mem_singleton.1 hz]; exact hp
        clear hp
        go_wp2_with fail
        go_roundw
        case rel => exact ⟨j + 1, by omega, by go_num, HP2, hb2⟩
        case measure => simp [intOf]; omega
      | true =>
        have Hp := Lib.hid hp
        clear hp
        go_wp2_with fail
        go_ret
        exact ⟨j, rfl, hb2, .inr ⟨j, x, rfl, Hx.out, Hp.out, HP.out⟩⟩
    · have HP2 : Hid (∀ z ∈ xs, P z = false) := by
        have h1 := HP.out
        rw [List.take_of_length_le (by omega)] at h1
        exact h1
      go_wp2_with fail
      go_ret
      exact ⟨-1, rfl, hb, .inl ⟨rfl, HP2.out⟩⟩
set_option maxHeartbeats 1000000 in
theorem plcR_any (y : EQ) (s : ByteArray) (Z : Nat) (w : World) (hZ : LV w Z #[.string s] 9) :
    Calls Tryz.prog 135 (#[.agg (evCs y.e y.A y.c)] ++ #[.pointer (some ⟨Z, 0, none⟩)]) w fun e w' => e = .returned (.bool (y.e.id.toList == s.toList)) ∧ Below w.heap.size w w' := by
  show Calls Tryz.prog 135 #[.agg (evCs y.e y.A y.c), .pointer (some ⟨Z, 0, none⟩)] w _
  obtain ⟨y, Ay, cy⟩ := y
  have S := (Mem.start w).newAt (evCs y Ay cy) 47 w.heap.size rfl
  have z0 := (LV.kb3 hZ S.b hZ.lt).all
  have y0 := (S.lv 0 rfl).all
  have Hb := Lib.hid S.b
  obtain ⟨X, hX⟩ : ∃ X, X = w.heap.size := ⟨_, rfl⟩
  rw [← hX] at y0
  clear S hZ
  go_enter Tryz.func135, Tryz.ntmps135
  go_upto_region 1 with fail
  rw [← hX]
  clear hX
  generalize w.alloc (.cells (evCs y Ay cy) 47) = w1 at *
  go_wp2_with fail
  go_ret
  exact ⟨rfl, Hb.out⟩
set_option maxHeartbeats 1000000 in
theorem plcF_any (y : EQ) (s : ByteArray) (Z : Nat) (w : World) (hZ : LV w Z #[.string s] 9) :
    Calls Tryz.prog 50 (#[.agg (evCs y.e y.A y.c)] ++ #[.pointer (some ⟨Z, 0, none⟩)]) w fun e w' => e = .returned (.bool (y.e.id.toList == s.toList)) ∧ Below w.heap.size w w' := by
  show Calls Tryz.prog 50 #[.agg (evCs y.e y.A y.c), .pointer (some ⟨Z, 0, none⟩)] w _
  obtain ⟨y, Ay, cy⟩ := y
  have S := (Mem.start w).newAt (evCs y Ay cy) 47 w.heap.size rfl
  have z0 := (LV.kb3 hZ S.b hZ.lt).all
  have y0 := (S.lv 0 rfl).all
  have Hb := Lib.hid S.b
  obtain ⟨X, hX⟩ : ∃ X, X = w.heap.size := ⟨_, rfl⟩
  rw [← hX] at y0
  clear S hZ
  go_enter Tryz.func50, Tryz.ntmps50
  go_upto_region 1 with fail
  rw [← hX]
  clear hX
  generalize w.alloc (.cells (evCs y Ay cy) 47) = w1 at *
  go_wp2_with fail
  go_ret
  exact ⟨rfl, Hb.out⟩
def idIs (s : ByteArray) (q : EQ) : Bool := q.e.id.toList == s.toList
theorem idIs_iff {s : ByteArray} {q : EQ} : idIs s q = true ↔ q.e.id = s := beqS
set_option maxHeartbeats 4000000 in
set_option maxRecDepth 100000 in
theorem place_log (N : Nat → Prop) (Y : Nat) (K : Option Addr) (n ck : Nat) (A : Option Addr) (c : Nat) (g : Value) (ps : List EQ) (s : ByteArray) (w : World) (hY : LV w Y (rlgCs K n ck (.slice A ps.length c) g) 39) (hS : Sl rEQ N w A ps) (hl : ps.length ≤ 1000000) :
    Calls Tryz.prog 56 #[.pointer (some ⟨Y, 0, none⟩), .string s] w (GivesIF (idIs s) ps w) := by
  obtain ⟨Z, hZ⟩ : ∃ Z, Z = w.heap.size := ⟨_, rfl⟩
  have lvZ := LV.new w w.heap.size #[.string s] 9 rfl
  rw [← hZ] at lvZ
  have hb1 : Below w.heap.size w (w.alloc (.cells #[.string s] 9)) := (Below.refl _ _).alloc (Nat.le_refl _) _
  have y0 := (LV.kb3 hY hb1 hY.lt).all
  have Hi := Lib.hid (idxFE_any 135 #[.pointer (some ⟨Z, 0, none⟩)] (enters_of Tryz.func135 (by kernel_rfl) rfl) (idIs s) N A c ps _ (hS.keepB hb1) hl (fun y _ w' h => plcR_any y s Z w' (LV.kb3 lvZ h lvZ.lt)))
  have Hb1 := Lib.hid hb1
  clear hY hS hl lvZ hb1
  go_enter Tryz.func56, Tryz.ntmps56
  go_upto_region 1 with fail
  rw [← hZ]
  clear hZ
  generalize w.alloc (.cells #[.string s] 9) = w1 at *
  go_wp2_with fail
  refine (Hi.out).mono ?_
  rintro e w2 ⟨i, rfl, hb, hc⟩
  have Hb2 := Lib.hid (Hb1.out.trans (hb.mono Hb1.out.size))
  have Hc := Lib.hid hc
  clear hb hc Hi
  go_wp2_with fail
  go_ret
  exact ⟨i, rfl, Hb2.out, Hc.out⟩
end Go.Proofs.YtmlpkejeglpciaaGreatDoor

/- copy of elements of several cells. -/
namespace Go.Proofs.YtmlpkejeglpciaaGreatDoor
open Go Go.RowKit
theorem run_copy_rowK (w : World) (dT sT ty elem : TypeId) (k g o dLen dCap : Nat) (a : Addr) (sLen sCap : Nat) (cur : Array Value) (t : TypeId) (cs : List Value)
    (hu : Tryz.prog.underlying dT = some (.slice elem)) (hs : (Tryz.prog.info? elem).map (·.size) = some k)
    (hg : w.heap[g]? = some (.cells cur t (0, 0))) (hn : cs.length = Nat.min sLen dLen * k)
    (hsrc : ∀ j v, cs[j]? = some v → w.cell? (a.add j) = some v) (hfit : o + cs.length ≤ cur.size) (h1 : ∀ v ∈ cs, v.oneCell' = true) :
    (Builtin.copy_ #[dT, sT] ty #[.slice (some ⟨g, o, none⟩) dLen dCap, .slice (some a) sLen sCap]).run Tryz.prog w =
      .ok (goInt (Nat.min sLen dLen)) (w.setRow g (cur.toList.take o ++ cs ++ cur.toList.drop (o + cs.length)).toArray) := by
  have hl := run_loadCells_list (P := Tryz.prog) w a cs hsrc
  have hst := run_storeCells_at Tryz.prog g o t cs 0 cur w hg (by simpa using hfit) h1
  cases hq : Tryz.prog.info? elem with
  | none => simp [hq] at hs
  | some i =>
    have hi : i.size = k := by simpa [hq] using hs
    rw [hn] at hl
    simp [Builtin.copy_, run_underlying hu, Builtin.lenOf, Builtin.firstCells, sizeOf, typeInfo, hq, hi, hl, hst]
end Go.Proofs.YtmlpkejeglpciaaGreatDoor

/- Ids in a list: slices.Contains and slices.Index of ids. -/
namespace Go.Proofs.YtmlpkejeglpciaaGreatDoor
open Go Go.RowKit
structure IdV where
  k : Int
  t : ByteArray
def IdV.cells (x : IdV) : List Value := [.int .i64 x.k, .string x.t]
instance : DecidableEq IdV := fun a b => if h : a.k = b.k ∧ a.t = b.t then .isTrue (by cases a; cases b; simp_all) else .isFalse (fun e => h (by rw [e]; exact ⟨rfl, rfl⟩))
theorem Own.slF {α : Type} {r : Rep α} {f : α → List Value} (hf : r.Flat f) {M : Nat → Prop} {B E n c : Nat} {A : Option Addr} {w : World} {xs : List α} (h : Own r M B E w (.slice A n c) xs) : Sl r (fun _ => False) w A xs := by
  obtain ⟨A2, c2, e, _, hS⟩ := (h.flatM hf (M' := fun _ => False)).toSlC (fun _ _ h => h)
  simp only [Value.slice.injEq] at e
  obtain ⟨rfl, _, _⟩ := e
  exact hS
end Go.Proofs.YtmlpkejeglpciaaGreatDoor
