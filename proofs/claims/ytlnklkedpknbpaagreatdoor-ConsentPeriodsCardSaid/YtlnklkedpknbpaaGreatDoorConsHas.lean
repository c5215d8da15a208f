/- What handref2.hasPurpose, termOf and TermOf return. -/
import Derived.Test.YtlnklkedpknbpaaGreatDoorConsTermOf
import Derived.Test.YtlnklkedpknbpaaGreatDoorConsRef
namespace Go.Proofs.YtlnklkedpknbpaaGreatDoor
open Go.RowKit
theorem has1_any (X : Nat) (nm : ByteArray) (q : Purp) (A : Option Addr) (n c : Nat) (w : World) (hX : LV w X #[.string nm] 9) : Calls Tryz.prog 121 #[.agg #[.string q.name, .slice A n c], .pointer (some ⟨X, 0, none⟩)] w fun e w' => e = .returned (.bool (byNm nm q)) ∧ Below w.heap.size w w' := by
  have c0 : w.cell? ⟨X, 0, none⟩ = some (.string nm) := hX.cell 0 _ rfl
  have hlt := hX.lt
  have c1 : (w.alloc (.cells #[.string q.name, .slice A n c] 58)).cell? ⟨X, 0, none⟩ = some (.string nm) := by rw [World.cell?_alloc_past _ _ _ hlt]; exact c0
  unfold byNm
  go_enter Tryz.func121, Tryz.ntmps121
  go_wp2_with fail
  go_ret
  exact ⟨rfl, (Below.refl _ _).alloc (Nat.le_refl _) _⟩
set_option maxHeartbeats 4000000 in
set_option maxRecDepth 100000 in
theorem idxHas_any (X : Nat) (nm : ByteArray) (N : Nat → Prop) (A : Option Addr) (xs : List Purp) (c : Nat) (w : World) (hS : Sl rPurp N w A xs) (hl : xs.length ≤ 1000000) (hX : LV w X #[.string nm] 9) :
    Calls Tryz.prog 168 #[.slice A xs.length c, .func (.func 121) #[] #[.pointer (some ⟨X, 0, none⟩)]] w fun e w' => e = .returned (.int .i64 (idxGo (byNm nm) 0 xs)) ∧ Below w.heap.size w w' := by
  have HS := Lib.hid hS
  clear hS
  obtain ⟨R, HR⟩ : ∃ R, Hid (idxGo (byNm nm) 0 xs = R) := ⟨_, Lib.hid rfl⟩
  rw [HR.out]
  go_enter Tryz.func168, Tryz.ntmps168
  go_wp2_with fail
  go_loopw [8] (fun i wr => ∃ k : Nat, k ≤ xs.length ∧ i = .int .i64 k ∧ idxGo (byNm nm) k (xs.drop k) = R ∧ Below w.heap.size w wr) (fun i _ => xs.length - (intOf i).toNat)
  case atStart => exact ⟨0, Nat.zero_le _, rfl, HR.out, Below.refl _ _⟩
  case round =>
    clear HR
    obtain ⟨k, hk, rfl, hr, hbl⟩ := hrel
    have Hr := Lib.hid hr
    clear hr
    by_cases hlt : k < xs.length
    · obtain ⟨q, hq⟩ : ∃ q, xs[k]? = some q := ⟨_, List.getElem?_eq_getElem (by omega)⟩
      obtain ⟨blk, off, At, ct, rfl, hblk, d0, d1, _⟩ := (HS.out.keepB hbl).purp k q hq
      have Hs : Hid ((if byNm nm q = true then (k : Int) else idxGo (byNm nm) (k + 1) (xs.drop (k + 1))) = R) := by
        show _ = _
        rw [← Hr.out, drop_at3 hq]
        rfl
      have Hc := Lib.hid (has1_any X nm q At q.terms.length ct wr (LV.kb3 hX hbl hX.lt))
      clear Hr hq
      generalize byNm nm q = b at *
      go_wp2_with fail
      ((with_reducible refine (Hc.out).mono ?_); rintro e w1 ⟨rfl, hl1⟩)
      have Hb1 := Lib.hid (hbl.trans (hl1.mono hbl.size))
      clear d0 d1 hl1 Hc
      cases b
      · have Hn : Hid (idxGo (byNm nm) (k + 1) (xs.drop (k + 1)) = R) := Hs.out
        go_wp2_with fail
        go_roundw
        case rel => exact ⟨k + 1, by omega, by go_num, Hn.out, Hb1.out⟩
        case measure => simp [intOf]; omega
      · have Hn : Hid ((k : Int) = R) := Hs.out
        go_wp2_with fail
        go_ret
        exact ⟨ret_i Hn.out, Hb1.out⟩
    · have Hn : Hid (-1 = R) := by show _ = _; rw [← Hr.out, List.drop_eq_nil_of_le (by omega)]; rfl
      clear Hr
      go_wp2_with fail
      go_ret
      exact ⟨ret_i Hn.out, hbl⟩
theorem hasPurpose_any (N : Nat → Prop) (A : Option Addr) (xs : List Purp) (nm : ByteArray) (c : Nat) (w : World) (hS : Sl rPurp N w A xs) (hl : xs.length ≤ 1000000) :
    Calls Tryz.prog 67 #[.slice A xs.length c, .string nm] w fun e w' => e = .returned (.bool (hasP xs nm)) ∧ Below w.heap.size w w' := by
  have hb0 : Below w.heap.size w (w.alloc (.cells #[.string nm] 9)) := (Below.refl _ _).alloc (Nat.le_refl _) _
  have Hi := Lib.hid (idxHas_any w.heap.size nm N A xs c _ (hS.keepB hb0) hl (LV.new w w.heap.size #[.string nm] 9 rfl))
  have Hc : Hid (Calls Tryz.prog 120 #[.slice A xs.length c, .func (.func 121) #[] #[.pointer (some ⟨w.heap.size, 0, none⟩)]] (w.alloc (.cells #[.string nm] 9)) fun e w' => e = .returned (.bool (hasP xs nm)) ∧ Below (w.alloc (.cells #[.string nm] 9)).heap.size (w.alloc (.cells #[.string nm] 9)) w') := by
    show Calls _ _ _ _ _
    unfold hasP
    rw [← idxGo_any (byNm nm) xs 0]
    generalize idxGo (byNm nm) 0 xs = ix at *
    generalize w.alloc (.cells #[.string nm] 9) = w1 at *
    generalize w.heap.size = X at *
    clear hS hb0
    go_enter Tryz.func120, Tryz.ntmps120
    go_wp2_with fail
    ((with_reducible refine (Hi.out).mono ?_); rintro e w2 ⟨rfl, hl_w2⟩)
    have hz_w2 := hl_w2.size
    go_wp2_with fail
    go_ret
    exact ⟨by first | rfl | simp, hl_w2⟩
  generalize hasP xs nm = R at *
  clear Hi hS
  go_enter Tryz.func67, Tryz.ntmps67
  go_wp2_with fail
  ((with_reducible refine (Hc.out).mono ?_); rintro e w1 ⟨rfl, hl1⟩)
  go_wp2_with fail
  go_ret
  exact ⟨rfl, hb0.trans (hl1.mono hb0.size)⟩
/-- the reference looks through all terms of all purposes -/
def scanP (nm rg : ByteArray) (ch : Int) : List Purp → Option PTerm
  | [] => none
  | p :: r => (if byNm nm p = true then findT p.terms rg ch else none).or (scanP nm rg ch r)
theorem scanP_none {nm rg : ByteArray} {ch : Int} : ∀ {l : List Purp}, (∀ p ∈ l, byNm nm p = false) → scanP nm rg ch l = none
  | [], _ => rfl
  | p :: r, h => by
    rw [scanP, if_neg (by simp [h p (by simp)]), scanP_none (fun q hq => h q (by simp [hq]))]
    rfl
theorem scanP_is {nm rg : ByteArray} {ch : Int} : ∀ {l : List Purp}, RiseP l → scanP nm rg ch l = termAt l nm rg ch
  | [], _ => rfl
  | p :: r, h => by
    have hr : RiseP r := fun i j s t hij hs ht => h (i + 1) (j + 1) s t (by omega) (by simpa using hs) (by simpa using ht)
    unfold termAt purpAt
    rw [scanP, List.find?_cons]
    cases hb : byNm nm p
    · rw [if_neg (by simp), scanP_is hr]
      rfl
    · rw [if_pos rfl, scanP_none (fun q hq => ?_)]
      · simp
      · obtain ⟨k, hk⟩ := List.mem_iff_getElem?.1 hq
        rw [Bool.eq_false_iff]
        intro h2
        have := h 0 (k + 1) p q (by omega) rfl (by simpa using hk)
        rw [(byNm_iff _ _).1 hb, (byNm_iff _ _).1 h2, ltS_irr] at this
        cases this
set_option maxHeartbeats 4000000 in
set_option maxRecDepth 100000 in
theorem refTermIn_any (N : Nat → Prop) (A : Option Addr) (xs : List Purp) (nm rg : ByteArray) (ch : Int) (c : Nat) (w : World) (hS : Sl rPurp N w A xs) (hg : GoodPol xs) :
    Calls Tryz.prog 69 #[.slice A xs.length c, .string nm, .string rg, .int .i64 ch] w fun e w' => e = .returned (.tuple #[tVal ((termAt xs nm rg ch).getD tZero), .bool (termAt xs nm rg ch).isSome]) ∧ Below w.heap.size w w' := by
  have hb0 : Below w.heap.size w (w.alloc (.cells #[.string ⟨#[]⟩, .int .i64 0, .bool false, .int .i64 0, .int .i64 0] 34)) := (Below.refl _ _).alloc (Nat.le_refl _) _
  have lv0 : tLV _ w.heap.size tZero := LV.new w w.heap.size #[.string ⟨#[]⟩, .int .i64 0, .bool false, .int .i64 0, .int .i64 0] 34 rfl
  have HS := Lib.hid (hS.keepB hb0)
  have hln := hg.len
  have Hl : Hid (∀ p ∈ xs, p.terms.length ≤ 160) := fun p hp => (hg.ps p hp).len
  obtain ⟨o, HO⟩ : ∃ o, Hid (termAt xs nm rg ch = o) := ⟨_, Lib.hid rfl⟩
  have HO2 : Hid (scanP nm rg ch xs = o) := by show _ = _; rw [← HO.out, scanP_is hg.rise]
  rw [HO.out]
  clear HO hS hg
  go_enter Tryz.func69, Tryz.ntmps69
  go_wp2_with fail
  generalize w.alloc (.cells #[.string ⟨#[]⟩, .int .i64 0, .bool false, .int .i64 0, .int .i64 0] 34) = W at *
  go_loopw [16] (fun i wr => ∃ k : Nat, k ≤ xs.length ∧ i = .int .i64 k ∧ scanP nm rg ch (xs.drop k) = o ∧ Below W.heap.size W wr) (fun i _ => xs.length - (intOf i).toNat)
  case atStart => exact ⟨0, Nat.zero_le _, rfl, HO2.out, Below.refl _ _⟩
  case round =>
    clear HO2
    obtain ⟨k, hk, rfl, hr, hbl⟩ := hrel
    have Hr := Lib.hid hr
    clear hr
    by_cases hlt : k < xs.length
    · obtain ⟨p, hp⟩ : ∃ p, xs[k]? = some p := ⟨_, List.getElem?_eq_getElem (by omega)⟩
      obtain ⟨blk, off, At, ct, rfl, hblk, d0, d1, hst⟩ := (HS.out.keepB hbl).purp k p hp
      have hlp := Hl.out p (List.mem_of_getElem? hp)
      have Hs : Hid (((if byNm nm p = true then findT p.terms rg ch else none).or (scanP nm rg ch (xs.drop (k + 1)))) = o) := by
        show _ = _
        rw [← Hr.out, drop_at3 hp]
        rfl
      have hb1 : Below wr.heap.size wr (wr.alloc (.cells #[.string p.name, .slice At p.terms.length ct] 58)) := (Below.refl _ _).alloc (Nat.le_refl _) _
      have Hb1 : Hid (Below W.heap.size W (wr.alloc (.cells #[.string p.name, .slice At p.terms.length ct] 58))) := hbl.alloc hbl.size _
      have lvY := LV.new wr wr.heap.size #[.string p.name, .slice At p.terms.length ct] 58 rfl
      have Hst := Lib.hid (hst.keepB hb1)
      clear Hr hp hst hb1
      obtain ⟨Y, hY⟩ : ∃ Y, Y = wr.heap.size := ⟨_, rfl⟩
      go_upto_region 4 with fail
      clear d0 d1
      rw [← hY] at lvY ⊢
      generalize wr.alloc (.cells #[.string p.name, .slice At p.terms.length ct] 58) = w1 at *
      clear hY hbl
      have c1 : w1.cell? ⟨Y, 1, none⟩ = some (.slice At p.terms.length ct) := lvY.cell 1 _ rfl
      go_wp2_with fail
      clear c1
      go_loopw [23] (fun i wr => ∃ j : Nat, j ≤ p.terms.length ∧ i = .int .i64 j ∧ ((if byNm nm p = true then findT (p.terms.drop j) rg ch else none).or (scanP nm rg ch (xs.drop (k + 1)))) = o ∧ Below w1.heap.size w1 wr) (fun i _ => p.terms.length - (intOf i).toNat)
      case atStart => exact ⟨0, Nat.zero_le _, rfl, Hs.out, Below.refl _ _⟩
      case round =>
        clear Hs
        obtain ⟨j, hj, rfl, hr, hbl⟩ := hrel
        have Hr := Lib.hid hr
        clear hr
        have HbW : Hid (Below W.heap.size W wr) := Hb1.out.trans (hbl.mono Hb1.out.size)
        by_cases hjt : j < p.terms.length
        · obtain ⟨t, ht⟩ : ∃ t, p.terms[j]? = some t := ⟨_, List.getElem?_eq_getElem (by omega)⟩
          obtain ⟨blk2, off2, rfl, hblk2, d0, d1, d2, d3, d4⟩ := (Hst.out.keepB hbl).term j t ht
          have m1 := LV.kb3 lvY hbl lvY.lt
          have hmY := m1.lt
          have hd := drop_at3 ht
          have c0 : (wr.alloc (.cells #[.string t.region, .int .i64 t.channel, .bool t.free, .int .i64 t.days, .int .i64 t.wait] 34)).cell? ⟨Y, 0, none⟩ = some (.string p.name) := by rw [World.cell?_alloc_past _ _ _ hmY]; exact m1.cell 0 _ rfl
          have Hb2 : Hid (Below w1.heap.size w1 (wr.alloc (.cells #[.string t.region, .int .i64 t.channel, .bool t.free, .int .i64 t.days, .int .i64 t.wait] 34))) := hbl.alloc hbl.size _
          have Hb3 : Hid (Below W.heap.size W (wr.alloc (.cells #[.string t.region, .int .i64 t.channel, .bool t.free, .int .i64 t.days, .int .i64 t.wait] 34))) := HbW.out.alloc HbW.out.size _
          have HNo : Hid (byNm nm p = false → ((if byNm nm p = true then findT (p.terms.drop (j + 1)) rg ch else none).or (scanP nm rg ch (xs.drop (k + 1)))) = o) := fun h => by
            rw [← Hr.out, h]
            rfl
          have HNt : Hid (byT rg ch t = false → ((if byNm nm p = true then findT (p.terms.drop (j + 1)) rg ch else none).or (scanP nm rg ch (xs.drop (k + 1)))) = o) := fun h => by
            rw [← Hr.out, hd, findT, findT, List.find?_cons, h]
          have HYe : Hid (byNm nm p = true → byT rg ch t = true → o = some t) := fun h1 h2 => by
            rw [← Hr.out, hd, findT, List.find?_cons, h1, h2]
            rfl
          clear hd Hr ht
          cases hA : (p.name.toList == nm.toList)
          · have Hn := Lib.hid (HNo.out hA)
            clear HNo HNt HYe
            go_wp2_with fail
            go_roundw
            case rel => exact ⟨j + 1, by omega, by go_num, Hn.out, Hb2.out⟩
            case measure => simp [intOf]; omega
          · cases hE : (t.region.toList == rg.toList)
            · have Hn := Lib.hid (HNt.out (by rw [byT, hE]; rfl))
              clear HNo HNt HYe
              go_wp2_with fail
              go_roundw
              case rel => exact ⟨j + 1, by omega, by go_num, Hn.out, Hb2.out⟩
              case measure => simp [intOf]; omega
            · by_cases hG : t.channel = ch
              · obtain rfl : o = some t := HYe.out hA (by rw [byT, hE, decide_eq_true hG]; rfl)
                clear HNo HNt HYe
                have hG' : (t.channel == ch) = true := by simpa using hG
                have lvr : tLV _ w.heap.size tZero := LV.kb3 lv0 Hb3.out lv0.lt
                have HBf := Lib.hid (hb0.trans (Hb3.out.mono hb0.size))
                have lvN : tLV _ wr.heap.size t := LV.new wr wr.heap.size #[.string t.region, .int .i64 t.channel, .bool t.free, .int .i64 t.days, .int .i64 t.wait] 34 rfl
                clear hG m1 lvY Hst lv0
                obtain ⟨Z, hZ⟩ : ∃ Z, Z = wr.heap.size := ⟨_, rfl⟩
                go_upto_region 7 with fail
                clear d0 d1 d2 d3 d4
                rw [← hZ] at lvN ⊢
                generalize wr.alloc (.cells #[.string t.region, .int .i64 t.channel, .bool t.free, .int .i64 t.days, .int .i64 t.wait] 34) = w2 at *
                clear hZ hbl
                have y0 : w2.cell? ⟨Z, 0, none⟩ = some (.string t.region) := lvN.cell 0 _ rfl
                have y1 : w2.cell? ⟨Z, 1, none⟩ = some (.int .i64 t.channel) := lvN.cell 1 _ rfl
                have y2 : w2.cell? ⟨Z, 2, none⟩ = some (.bool t.free) := lvN.cell 2 _ rfl
                have y3 : w2.cell? ⟨Z, 3, none⟩ = some (.int .i64 t.days) := lvN.cell 3 _ rfl
                have y4 : w2.cell? ⟨Z, 4, none⟩ = some (.int .i64 t.wait) := lvN.cell 4 _ rfl
                clear lvN
                have x0 : w2.cell? ⟨w.heap.size, 0, none⟩ = some (.string ⟨#[]⟩) := lvr.cell 0 _ rfl
                have x1 : w2.cell? ⟨w.heap.size, 1, none⟩ = some (.int .i64 0) := lvr.cell 1 _ rfl
                have x2 : w2.cell? ⟨w.heap.size, 2, none⟩ = some (.bool false) := lvr.cell 2 _ rfl
                have x3 : w2.cell? ⟨w.heap.size, 3, none⟩ = some (.int .i64 0) := lvr.cell 3 _ rfl
                have x4 : w2.cell? ⟨w.heap.size, 4, none⟩ = some (.int .i64 0) := lvr.cell 4 _ rfl
                have f0 := lvr.free 0
                have f1 := lvr.free 1
                have f2 := lvr.free 2
                have f3 := lvr.free 3
                have f4 := lvr.free 4
                go_wp2_with fail
                exact bodyPost_ret (results_cs rfl rfl rfl (loadT (tLV.fill lvr t))) rfl ⟨rfl, below_fillT HBf.out (Nat.le_refl _) t⟩
              · have Hn := Lib.hid (HNt.out (by rw [byT, decide_eq_false hG, Bool.and_false]))
                have hG' : (t.channel == ch) = false := by simpa using hG
                clear HNo HNt HYe hG
                go_wp2_with fail
                go_roundw
                case rel => exact ⟨j + 1, by omega, by go_num, Hn.out, Hb2.out⟩
                case measure => simp [intOf]; omega
        · have Hn : Hid (scanP nm rg ch (xs.drop (k + 1)) = o) := by
            show _ = _
            rw [← Hr.out, List.drop_eq_nil_of_le (show p.terms.length ≤ j by omega)]
            cases byNm nm p <;> rfl
          go_wp2_with fail
          go_roundw
          case rel => exact ⟨k + 1, by omega, by go_num, Hn.out, HbW.out⟩
          case measure => simp [intOf]; omega
    · obtain rfl : o = none := by rw [← Hr.out, List.drop_eq_nil_of_le (by omega)]; rfl
      have lvr : tLV wr w.heap.size tZero := LV.kb3 lv0 hbl lv0.lt
      have HBf := Lib.hid (hb0.trans (hbl.mono hb0.size))
      have x0 : wr.cell? ⟨w.heap.size, 0, none⟩ = some (.string ⟨#[]⟩) := lvr.cell 0 _ rfl
      have x1 : wr.cell? ⟨w.heap.size, 1, none⟩ = some (.int .i64 0) := lvr.cell 1 _ rfl
      have x2 : wr.cell? ⟨w.heap.size, 2, none⟩ = some (.bool false) := lvr.cell 2 _ rfl
      have x3 : wr.cell? ⟨w.heap.size, 3, none⟩ = some (.int .i64 0) := lvr.cell 3 _ rfl
      have x4 : wr.cell? ⟨w.heap.size, 4, none⟩ = some (.int .i64 0) := lvr.cell 4 _ rfl
      have f0 := lvr.free 0
      have f1 := lvr.free 1
      have f2 := lvr.free 2
      have f3 := lvr.free 3
      have f4 := lvr.free 4
      go_wp2_with fail
      exact bodyPost_ret (results_cs rfl rfl rfl (loadT (tLV.fill lvr tZero))) rfl ⟨rfl, below_fillT HBf.out (Nat.le_refl _) tZero⟩
set_option maxHeartbeats 4000000 in
set_option maxRecDepth 100000 in
theorem refTermOf_any (N : Nat → Prop) (A : Option Addr) (xs : List Purp) (nm rg : ByteArray) (ch : Int) (c : Nat) (w : World) (hS : Sl rPurp N w A xs) (hok : PolOk xs) :
    Calls Tryz.prog 15 #[.slice A xs.length c, .string nm, .string rg, .int .i64 ch] w fun e w' => e = .returned (.tuple #[tVal (termRes xs nm rg ch), .int .i64 (termErr xs nm rg ch)]) ∧ Below w.heap.size w w' := by
  have hb0 : Below w.heap.size w (w.alloc (.cells #[.string ⟨#[]⟩, .int .i64 0, .bool false, .int .i64 0, .int .i64 0] 34)) := (Below.refl _ _).alloc (Nat.le_refl _) _
  have lv0 : tLV _ w.heap.size tZero := LV.new w w.heap.size #[.string ⟨#[]⟩, .int .i64 0, .bool false, .int .i64 0, .int .i64 0] 34 rfl
  have HS := Lib.hid hS
  have hln := hok.len
  have Hc := Lib.hid (policyFault_any N A xs c _ (hS.keepB hb0) hok)
  have Hg : Hid (policyFault xs = 0 → GoodPol xs) := fun h => policy_good h
  have Hsay := Lib.hid (termSays xs nm rg ch)
  have Hch := Lib.hid (fun w => in_any ch 1 4 w)
  have HchC : Hid (decide (1 ≤ ch ∧ ch ≤ 4) = isCh ch) := Lib.hid rfl
  rw [HchC.out] at Hch
  generalize hF : policyFault xs = F at *
  generalize hE : termErr xs nm rg ch = E at *
  generalize hT : termRes xs nm rg ch = T at *
  clear hS hok hF hE hT HchC
  go_enter Tryz.func15, Tryz.ntmps15
  go_wp2_with fail
  ((with_reducible refine (Hc.out).mono ?_); rintro e w1 ⟨rfl, hbl⟩)
  have lv1 : tLV w1 w.heap.size tZero := LV.kb3 lv0 hbl lv0.lt
  have HB1 : Hid (Below w.heap.size w w1) := hb0.trans (hbl.mono hb0.size)
  clear lv0 hb0 Hc hbl
  by_cases hF : F = 0
  · subst hF
    have hg := Hg.out rfl
    have Hp := Lib.hid (hasPurpose_any N A xs nm c w1 (HS.out.keepB HB1.out) (by omega))
    have Ht := Lib.hid (fun w' (h : Below w.heap.size w w') => refTermIn_any N A xs nm rg ch c w' (HS.out.keepB h) hg)
    clear hg Hg HS
    generalize hasP xs nm = P at *
    generalize termAt xs nm rg ch = o at *
    go_wp2_with fail
    ((with_reducible refine (Hp.out).mono ?_); rintro e w3 ⟨rfl, hbl⟩)
    have lv3 : tLV w3 w.heap.size tZero := LV.kb3 lv1 hbl lv1.lt
    have HB3 : Hid (Below w.heap.size w w3) := HB1.out.trans (hbl.mono HB1.out.size)
    clear hbl lv1 Hp HB1
    cases P
    · obtain ⟨rfl, rfl⟩ := Hsay.out.two
      have x0 : w3.cell? ⟨w.heap.size, 0, none⟩ = some (.string ⟨#[]⟩) := lv3.cell 0 _ rfl
      have x1 : w3.cell? ⟨w.heap.size, 1, none⟩ = some (.int .i64 0) := lv3.cell 1 _ rfl
      have x2 : w3.cell? ⟨w.heap.size, 2, none⟩ = some (.bool false) := lv3.cell 2 _ rfl
      have x3 : w3.cell? ⟨w.heap.size, 3, none⟩ = some (.int .i64 0) := lv3.cell 3 _ rfl
      have x4 : w3.cell? ⟨w.heap.size, 4, none⟩ = some (.int .i64 0) := lv3.cell 4 _ rfl
      have f0 := lv3.free 0
      have f1 := lv3.free 1
      have f2 := lv3.free 2
      have f3 := lv3.free 3
      have f4 := lv3.free 4
      go_wp2_with fail
      exact bodyPost_ret (results_cs rfl rfl rfl (loadT (tLV.fill lv3 tZero))) rfl ⟨rfl, below_fillT HB3.out (Nat.le_refl _) tZero⟩
    · generalize isCh ch = C at *
      go_wp2_with fail
      ((with_reducible refine (Hch.out _).mono ?_); rintro e _ ⟨rfl, rfl⟩)
      clear Hch
      cases C
      · obtain ⟨rfl, rfl⟩ := Hsay.out.three
        have x0 : w3.cell? ⟨w.heap.size, 0, none⟩ = some (.string ⟨#[]⟩) := lv3.cell 0 _ rfl
        have x1 : w3.cell? ⟨w.heap.size, 1, none⟩ = some (.int .i64 0) := lv3.cell 1 _ rfl
        have x2 : w3.cell? ⟨w.heap.size, 2, none⟩ = some (.bool false) := lv3.cell 2 _ rfl
        have x3 : w3.cell? ⟨w.heap.size, 3, none⟩ = some (.int .i64 0) := lv3.cell 3 _ rfl
        have x4 : w3.cell? ⟨w.heap.size, 4, none⟩ = some (.int .i64 0) := lv3.cell 4 _ rfl
        have f0 := lv3.free 0
        have f1 := lv3.free 1
        have f2 := lv3.free 2
        have f3 := lv3.free 3
        have f4 := lv3.free 4
        go_wp2_with fail
        exact bodyPost_ret (results_cs rfl rfl rfl (loadT (tLV.fill lv3 tZero))) rfl ⟨rfl, below_fillT HB3.out (Nat.le_refl _) tZero⟩
      · go_wp2_with fail
        ((with_reducible refine (Ht.out w3 HB3.out).mono ?_); rintro e w4 ⟨rfl, hbl⟩)
        have lv4 : tLV w4 w.heap.size tZero := LV.kb3 lv3 hbl lv3.lt
        have HB4 : Hid (Below w.heap.size w w4) := HB3.out.trans (hbl.mono HB3.out.size)
        clear Ht hbl lv3
        cases o with
        | none =>
          obtain ⟨rfl, rfl⟩ := Hsay.out.four
          have hb2 : Below w4.heap.size w4 (w4.alloc (.cells #[.string ⟨#[]⟩, .int .i64 0, .bool false, .int .i64 0, .int .i64 0] 34)) := (Below.refl _ _).alloc (Nat.le_refl _) _
          have lv5 : tLV _ w.heap.size tZero := LV.kb3 lv4 hb2 lv4.lt
          have HB5 : Hid (Below w.heap.size w (w4.alloc (.cells #[.string ⟨#[]⟩, .int .i64 0, .bool false, .int .i64 0, .int .i64 0] 34))) := HB4.out.alloc HB4.out.size _
          clear hb2 lv4
          simp only [Option.getD_none, Option.isSome_none]
          go_upto_region 9 with fail
          generalize w4.alloc (.cells #[.string ⟨#[]⟩, .int .i64 0, .bool false, .int .i64 0, .int .i64 0] 34) = w5 at *
          have x0 : w5.cell? ⟨w.heap.size, 0, none⟩ = some (.string ⟨#[]⟩) := lv5.cell 0 _ rfl
          have x1 : w5.cell? ⟨w.heap.size, 1, none⟩ = some (.int .i64 0) := lv5.cell 1 _ rfl
          have x2 : w5.cell? ⟨w.heap.size, 2, none⟩ = some (.bool false) := lv5.cell 2 _ rfl
          have x3 : w5.cell? ⟨w.heap.size, 3, none⟩ = some (.int .i64 0) := lv5.cell 3 _ rfl
          have x4 : w5.cell? ⟨w.heap.size, 4, none⟩ = some (.int .i64 0) := lv5.cell 4 _ rfl
          have f0 := lv5.free 0
          have f1 := lv5.free 1
          have f2 := lv5.free 2
          have f3 := lv5.free 3
          have f4 := lv5.free 4
          go_wp2_with fail
          exact bodyPost_ret (results_cs rfl rfl rfl (loadT (tLV.fill lv5 tZero))) rfl ⟨rfl, below_fillT HB5.out (Nat.le_refl _) tZero⟩
        | some t =>
          obtain ⟨rfl, rfl⟩ := Hsay.out.five
          have hb2 : Below w4.heap.size w4 (w4.alloc (.cells #[.string T.region, .int .i64 T.channel, .bool T.free, .int .i64 T.days, .int .i64 T.wait] 34)) := (Below.refl _ _).alloc (Nat.le_refl _) _
          have lvN : tLV _ w4.heap.size T := LV.new w4 w4.heap.size #[.string T.region, .int .i64 T.channel, .bool T.free, .int .i64 T.days, .int .i64 T.wait] 34 rfl
          have lv5 : tLV _ w.heap.size tZero := LV.kb3 lv4 hb2 lv4.lt
          have HB5 : Hid (Below w.heap.size w (w4.alloc (.cells #[.string T.region, .int .i64 T.channel, .bool T.free, .int .i64 T.days, .int .i64 T.wait] 34))) := HB4.out.alloc HB4.out.size _
          clear hb2 lv4
          simp only [Option.getD_some, Option.isSome_some]
          go_upto_region 9 with fail
          generalize w4.alloc (.cells #[.string T.region, .int .i64 T.channel, .bool T.free, .int .i64 T.days, .int .i64 T.wait] 34) = w5 at *
          obtain ⟨Y, hY⟩ : ∃ Y, Y = w4.heap.size := ⟨_, rfl⟩
          rw [← hY] at lvN ⊢
          clear hY
          have y0 : w5.cell? ⟨Y, 0, none⟩ = some (.string T.region) := lvN.cell 0 _ rfl
          have y1 : w5.cell? ⟨Y, 1, none⟩ = some (.int .i64 T.channel) := lvN.cell 1 _ rfl
          have y2 : w5.cell? ⟨Y, 2, none⟩ = some (.bool T.free) := lvN.cell 2 _ rfl
          have y3 : w5.cell? ⟨Y, 3, none⟩ = some (.int .i64 T.days) := lvN.cell 3 _ rfl
          have y4 : w5.cell? ⟨Y, 4, none⟩ = some (.int .i64 T.wait) := lvN.cell 4 _ rfl
          clear lvN
          have x0 : w5.cell? ⟨w.heap.size, 0, none⟩ = some (.string ⟨#[]⟩) := lv5.cell 0 _ rfl
          have x1 : w5.cell? ⟨w.heap.size, 1, none⟩ = some (.int .i64 0) := lv5.cell 1 _ rfl
          have x2 : w5.cell? ⟨w.heap.size, 2, none⟩ = some (.bool false) := lv5.cell 2 _ rfl
          have x3 : w5.cell? ⟨w.heap.size, 3, none⟩ = some (.int .i64 0) := lv5.cell 3 _ rfl
          have x4 : w5.cell? ⟨w.heap.size, 4, none⟩ = some (.int .i64 0) := lv5.cell 4 _ rfl
          have f0 := lv5.free 0
          have f1 := lv5.free 1
          have f2 := lv5.free 2
          have f3 := lv5.free 3
          have f4 := lv5.free 4
          go_wp2_with fail
          exact bodyPost_ret (results_cs rfl rfl rfl (loadT (tLV.fill lv5 T))) rfl ⟨rfl, below_fillT HB5.out (Nat.le_refl _) T⟩
  · obtain ⟨rfl, rfl⟩ := Hsay.out.one hF
    have hF' : (E != 0) = true := by simpa using hF
    have x0 : w1.cell? ⟨w.heap.size, 0, none⟩ = some (.string ⟨#[]⟩) := lv1.cell 0 _ rfl
    have x1 : w1.cell? ⟨w.heap.size, 1, none⟩ = some (.int .i64 0) := lv1.cell 1 _ rfl
    have x2 : w1.cell? ⟨w.heap.size, 2, none⟩ = some (.bool false) := lv1.cell 2 _ rfl
    have x3 : w1.cell? ⟨w.heap.size, 3, none⟩ = some (.int .i64 0) := lv1.cell 3 _ rfl
    have x4 : w1.cell? ⟨w.heap.size, 4, none⟩ = some (.int .i64 0) := lv1.cell 4 _ rfl
    have f0 := lv1.free 0
    have f1 := lv1.free 1
    have f2 := lv1.free 2
    have f3 := lv1.free 3
    have f4 := lv1.free 4
    go_wp2_with fail
    exact bodyPost_ret (results_cs rfl rfl rfl (loadT (tLV.fill lv1 tZero))) rfl ⟨rfl, below_fillT HB1.out (Nat.le_refl _) tZero⟩
end Go.Proofs.YtlnklkedpknbpaaGreatDoor
