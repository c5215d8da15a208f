/- What consent.CheckPolicy returns. -/
import Derived.Test.YtlnklkedpknbpaaGreatDoorConsChk
namespace Go.Proofs.YtlnklkedpknbpaaGreatDoor
open Go.RowKit
theorem policyGo_key {prev : Option ByteArray} {p : Purp} {r : List Purp} (h : L.isKey p.name = false) : policyGo prev (p :: r) = 5 := by rw [policyGo, if_pos h]
theorem policyGo_ord {prev : Option ByteArray} {p : Purp} {r : List Purp} (h : L.isKey p.name = true) (h2 : prev.any (fun q => leS p.name q) = true) : policyGo prev (p :: r) = 7 := by rw [policyGo, if_neg (by simp [h]), if_pos h2]
theorem policyGo_go {prev : Option ByteArray} {p : Purp} {r : List Purp} (h : L.isKey p.name = true) (h2 : prev.any (fun q => leS p.name q) = false) : policyGo prev (p :: r) = if termsFault p.terms ≠ 0 then termsFault p.terms else policyGo (some p.name) r := by rw [policyGo, if_neg (by simp [h]), if_neg (by simp [h2])]
/-- a policy of moderate size -/
structure PolOk (xs : List Purp) : Prop where
  len : xs.length ≤ 1000000
  nm : ∀ p ∈ xs, p.name.size ≤ 1000000000
  tl : ∀ p ∈ xs, p.terms.length ≤ 1000000
  rg : ∀ p ∈ xs, ∀ t ∈ p.terms, t.region.size ≤ 1000000000
set_option maxHeartbeats 4000000 in
set_option maxRecDepth 100000 in
theorem checkPolicy_any (N : Nat → Prop) (A : Option Addr) (xs : List Purp) (c : Nat) (w : World) (hS : Sl rPurp N w A xs) (hok : PolOk xs) :
    Calls Tryz.prog 16 #[.slice A xs.length c] w fun e w' => e = .returned (.int .i64 (policyFault xs)) ∧ Below w.heap.size w w' := by
  have HS := Lib.hid hS
  have Hok := Lib.hid hok
  have hln := hok.len
  clear hS hok
  obtain ⟨R, HR⟩ : ∃ R, Hid (policyFault xs = R) := ⟨_, Lib.hid rfl⟩
  rw [HR.out]
  by_cases h0 : xs.length = 0
  · go_enter Tryz.func16, Tryz.ntmps16
    have h0' : ((xs.length : Int) == 0) = true := by simpa using h0
    go_wp2_with fail
    go_ret
    exact ⟨ret_i (by rw [← HR.out, policyFault, if_pos h0]), Below.refl _ _⟩
  have h0' : ((xs.length : Int) == 0) = false := by simpa using h0
  by_cases h20 : 30 < xs.length
  · go_enter Tryz.func16, Tryz.ntmps16
    go_wp2_with fail
    go_ret
    exact ⟨ret_i (by rw [← HR.out, policyFault, if_neg h0, if_pos h20]), Below.refl _ _⟩
  · have HR2 : Hid (policyGo none xs = R) := by show _ = _; rw [← HR.out, policyFault, if_neg h0, if_neg h20]
    clear HR
    go_enter Tryz.func16, Tryz.ntmps16
    go_wp2_with fail
    go_loopw [16] (fun i wr => ∃ k : Nat, k ≤ xs.length ∧ i = .int .i64 k ∧ policyGo ((ahd xs k).map Purp.name) (xs.drop k) = R ∧ Below w.heap.size w wr) (fun i _ => xs.length - (intOf i).toNat)
    case atStart => exact ⟨0, Nat.zero_le _, rfl, HR2.out, Below.refl _ _⟩
    case round =>
      clear HR2
      obtain ⟨k, hk, rfl, hr, hbl⟩ := hrel
      have Hr := Lib.hid hr
      clear hr
      by_cases hlt : k < xs.length
      · obtain ⟨p, hf⟩ : ∃ p, xs[k]? = some p := ⟨_, List.getElem?_eq_getElem hlt⟩
        have hSr := HS.out.keepB hbl
        have hfs1 : p.name.size ≤ 1000000000 := Hok.out.nm p (List.mem_of_getElem? hf)
        have Hstep : Hid (policyGo ((ahd xs k).map Purp.name) (p :: xs.drop (k + 1)) = R) := by show _ = _; rw [← Hr.out, drop_at3 hf]
        have Hf := Lib.hid hf
        obtain ⟨blk, off, At, ct, rfl, hblk, d0, d1, hst⟩ := hSr.purp k p hf
        clear Hr hf
        have hb0 : Below wr.heap.size wr (wr.alloc (.cells #[.string p.name, .slice At p.terms.length ct] 58)) := (Below.refl _ _).alloc (Nat.le_refl _) _
        have Hb1 : Hid (Below w.heap.size w (wr.alloc (.cells #[.string p.name, .slice At p.terms.length ct] 58))) := hbl.alloc hbl.size _
        have hsz := hbl.size
        obtain ⟨K, HK⟩ : ∃ K, Hid (L.isKey p.name = K) := ⟨_, Lib.hid rfl⟩
        have HKc : Hid (∀ w, Calls Tryz.prog 70 #[.string p.name] w fun e w' => e = .returned (.bool K) ∧ w = w') := fun w => HK.out ▸ isKey_any p.name w hfs1
        have lvY : LV _ wr.heap.size _ _ := LV.new wr wr.heap.size #[.string p.name, .slice At p.terms.length ct] 58 rfl
        have Hst := Lib.hid (Sl.keepB hst hb0)
        have HSr := Lib.hid (Sl.keepB hSr hb0)
        clear hSr hst hb0
        go_upto_region 8 with fail
        clear d0 d1
        generalize wr.alloc (.cells #[.string p.name, .slice At p.terms.length ct] 58) = w1 at *
        obtain ⟨Y, hY⟩ : ∃ Y, Y = wr.heap.size := ⟨_, rfl⟩
        rw [← hY] at lvY ⊢
        have c0 : w1.cell? ⟨Y, 0, none⟩ = some (.string p.name) := lvY.cell 0 _ rfl
        have c1 : w1.cell? ⟨Y, 1, none⟩ = some (.slice At p.terms.length ct) := lvY.cell 1 _ rfl
        clear hY hbl lvY
        cases K
        · have Hn : Hid (5 = R) := (policyGo_key HK.out).symm.trans Hstep.out
          go_wp2_with fail
          ((with_reducible refine (HKc.out _).mono ?_); rintro e _ ⟨rfl, rfl⟩)
          go_wp2_with fail
          go_ret
          exact ⟨ret_i Hn.out, Hb1.out⟩
        · go_wp2_with fail
          ((with_reducible refine (HKc.out _).mono ?_); rintro e _ ⟨rfl, rfl⟩)
          obtain ⟨B, HB⟩ : ∃ B, Hid (((ahd xs k).map Purp.name).any (fun q => leS p.name q) = B) := ⟨_, Lib.hid rfl⟩
          go_upto_region 10 with fail
          go_cut [26] (fun s26 wx => s26 = .bool B ∧ Below w1.heap.size w1 wx)
          case first =>
            by_cases hk0 : k = 0
            · subst hk0
              obtain rfl : false = B := HB.out
              go_wp2_with fail
              go_quiet (fail)
              first | go_meet | (go_wp2_with fail; go_meet) | trace_state
              exact ⟨rfl, below_drewN _ _ _⟩
            · obtain ⟨q, rfl⟩ : ∃ q, k = q + 1 := ⟨k - 1, by omega⟩
              obtain ⟨p', hp⟩ : ∃ p', xs[q]? = some p' := ⟨_, List.getElem?_eq_getElem (by omega)⟩
              have HB2 : Hid (leS p.name p'.name = B) := by
                show _ = _
                rw [← HB.out, ahd_succ xs q p' hp]
                simp
              obtain ⟨_, _, _, _, e, _, e0, _, _⟩ := HSr.out.purp q p' hp
              cases e
              clear HB hp
              go_wp2_with fail
              go_quiet (fail)
              first | go_meet | (go_wp2_with fail; go_meet) | trace_state
              exact ⟨by rw [← HB2.out]; rfl, below_drewN _ _ _⟩
          case rest =>
            obtain ⟨rfl, hbc⟩ := hcut
            have Hb2 : Hid (Below w.heap.size w wc) := Hb1.out.trans (hbc.mono Hb1.out.size)
            cases B
            · have Hn : Hid ((if termsFault p.terms ≠ 0 then termsFault p.terms else policyGo (some p.name) (xs.drop (k + 1))) = R) := (policyGo_go HK.out HB.out).symm.trans Hstep.out
              have e1 := (hbc.cell (p := ⟨Y, 1, none⟩) (by exact World.block_lt_of_cell? w1 _ c1)).trans c1
              have Ht := Lib.hid (checkTerms_any N At p.terms ct wc (Sl.keepB Hst.out hbc) (Hok.out.rg p (List.mem_of_getElem? Hf.out)) (Hok.out.tl p (List.mem_of_getElem? Hf.out)))
              obtain ⟨F, HF⟩ : ∃ F, Hid (termsFault p.terms = F) := ⟨_, Lib.hid rfl⟩
              rw [HF.out] at Ht Hn
              clear c0 c1 hbc Hst HSr
              go_wp2_with fail
              ((with_reducible refine (Ht.out).mono ?_); rintro e w2 ⟨rfl, hl2⟩)
              have Hb3 : Hid (Below w.heap.size w w2) := Hb2.out.trans (hl2.mono Hb2.out.size)
              clear hl2 Ht e1
              by_cases hF : F = 0
              · have Hn2 := Lib.hid (step_go Hn.out hF)
                subst hF
                go_wp2_with fail
                go_roundw
                case rel => exact ⟨k + 1, by omega, by go_num, by rw [ahd_succ xs k p Hf.out]; exact Hn2.out, Hb3.out⟩
                case measure => simp [intOf]; omega
              · have Hn2 := Lib.hid (step_no Hn.out hF)
                have hF' : (F != 0) = true := by simpa using hF
                go_wp2_with fail
                go_ret
                exact ⟨ret_i Hn2.out, Hb3.out⟩
            · have Hn : Hid (7 = R) := (policyGo_ord HK.out HB.out).symm.trans Hstep.out
              go_wp2_with fail
              go_ret
              exact ⟨ret_i Hn.out, Hb2.out⟩
      · go_wp2_with fail
        go_ret
        exact ⟨ret_i (by rw [← Hr.out, List.drop_eq_nil_of_le (by omega)]; rfl), hbl⟩
end Go.Proofs.YtlnklkedpknbpaaGreatDoor
