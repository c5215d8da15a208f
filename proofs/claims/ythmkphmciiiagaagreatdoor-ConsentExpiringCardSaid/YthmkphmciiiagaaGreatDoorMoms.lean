/- What consent's moments returns. -/
import Derived.Test.YthmkphmciiiagaaGreatDoorInts
import Derived.Test.YthmkphmciiiagaaGreatDoorPerLaw
import Derived.Test.YthmkphmciiiagaaGreatDoorPackH
namespace Go.Proofs.YthmkphmciiiagaaGreatDoor
open Go Go.RowKit
/-- the moments that one statement brings -/
def momS (tm : PTerm) (pu : ByteArray) (s : Stm) : List Int := s.at' :: (if kindB 1 pu s = true then [s.at' + tm.wait + 1, s.at' + tm.days * 1440] else [])
def rawP (tm : PTerm) (pu : ByteArray) (U : List Stm) : List Int := U.flatMap (momS tm pu)
theorem momS_len (tm : PTerm) (pu : ByteArray) (s : Stm) : (momS tm pu s).length ≤ 3 := by unfold momS; split <;> simp
theorem flatMap_len {α β : Type} (f : α → List β) (k : Nat) (h : ∀ x, (f x).length ≤ k) : ∀ l : List α, (l.flatMap f).length ≤ k * l.length
  | [] => by simp
  | x :: r => by
    have := h x
    have := flatMap_len f k h r
    rw [List.flatMap_cons, List.length_append, List.length_cons, Nat.mul_succ]
    omega
def GivesL (xs : List Int) (w : World) (e : Ending) (w' : World) : Prop := ∃ A c, e = .returned (.slice A xs.length c) ∧ Sl rInt (Lt w.heap.size) w' A xs ∧ Below w.heap.size w w'
theorem endP : EndIs 199 := fun m w => by
  go_enter Tryz.func199, Tryz.ntmps199
  go_wp2_with fail
  go_ret
  refine ⟨ret_b ?_, rfl⟩
  unfold belowE
  rw [Bool.eq_iff_iff]
  simp
theorem oneI (y : Int) : ∀ u ∈ ([.int .i64 y] : List Value), u.oneCell' = true := fun u hu => by rw [List.mem_singleton.1 hu]; rfl
set_option maxHeartbeats 8000000 in
set_option maxRecDepth 100000 in
theorem moments_any (N : Nat → Prop) (A : Option Addr) (tm : PTerm) (is : Bool) (pu : ByteArray) (U : List Stm) (c : Nat) (w : World) (hS : Sl rStm N w A U) (hl : U.length ≤ 1000) (hg : ∀ s ∈ U, 0 ≤ s.at' ∧ s.at' ≤ 4321439) (hd : 0 ≤ tm.days ∧ tm.days ≤ 2000) (hw : 0 ≤ tm.wait ∧ tm.wait ≤ 100000) :
    Calls Tryz.prog 116 #[.agg (askCs tm is pu A U.length c)] w (GivesL (momL (rawP tm pu U)) w) := by
  have HL := Lib.hid (fun w' (h : Below w.heap.size w w') => hS.keepB h)
  have Hg := Lib.hid hg
  obtain ⟨R, HR⟩ : ∃ R, Hid (rawP tm pu U = R) := ⟨_, Lib.hid rfl⟩
  rw [HR.out]
  have hwd : IntKind.i64.wrap (tm.days * 1440) = tm.days * 1440 := IntWalk.i64_in _ (by omega)
  have S := ((Mem.start w).new' (askCs tm is pu A U.length c) 102).nil rInt w.heap.size 3
  replace S : Mem w (w.alloc (.cells (askCs tm is pu A U.length c) 102)) [.loc w.heap.size (askCs tm is pu A U.length c) 102, .own rInt w.heap.size 3 (.slice none 0 0) []] := S
  replace S := S.swap
  clear hS hg
  go_enter Tryz.func116, Tryz.ntmps116
  go_upto_region 2 with fail
  generalize w.alloc (.cells (askCs tm is pu A U.length c) 102) = w1 at *
  have c1 := (S.lv 1 rfl).all
  go_wp2_with fail
  clear c1
  go_loopw [3, 9] (fun v i wr => ∃ (j : Nat) (out : List Int), j ≤ U.length ∧ i = .int .i64 j ∧ Hid ((U.take j).flatMap (momS tm pu) = out) ∧ Mem w wr [.own rInt w.heap.size 3 v out, .loc w.heap.size (askCs tm is pu A U.length c) 102]) (fun _ i _ => U.length - (intOf i).toNat)
  case atStart => exact ⟨0, [], Nat.zero_le _, rfl, Lib.hid rfl, S⟩
  case round =>
    clear S
    obtain ⟨j, out, hj, rfl, HO, S⟩ := hrel
    have hol : out.length ≤ 3000 := by
      rw [← HO.out]
      have := flatMap_len (momS tm pu) 3 (momS_len tm pu) (U.take j)
      rw [List.length_take] at this
      omega
    by_cases hlt : j < U.length
    · obtain ⟨Ao, co, rfl⟩ := (S.ow 0 rfl).len
      obtain ⟨s, hf⟩ : ∃ s, U[j]? = some s := ⟨_, List.getElem?_eq_getElem hlt⟩
      obtain ⟨blk, off, rfl, hblk, d0, d1, d2, d3, d4, d5, d6, d7⟩ := (HL.out wr S.b).stm j s hf
      have hsat := Hg.out s (List.mem_of_getElem? hf)
      have HO2 := Lib.hid (flatMap_take (momS tm pu) U j s hf)
      rw [HO.out] at HO2
      clear hf HO
      go_upto_region 5 with fail
      clear d0 d1 d2 d3 d4 d5 d6 d7
      obtain ⟨Y, hY⟩ : ∃ Y, Y = wr.heap.size := ⟨_, rfl⟩
      replace S := S.newAt (stmCs s) 38 Y hY
      rw [← hY]
      clear hY
      generalize wr.alloc (.cells (stmCs s) 38) = w2 at *
      have c2 := (S.lv 2 rfl).all
      have hsz := S.b.size
      go_upto_region 6 with (at_builtin; refine S.app 0 rfl tyIntP rfl _ _ rfl s.at' 1 rfl rfl rfl (oneI s.at') hsz (by omega) (by decide) ?_; intro v1 w3 S3)
      clear c2 S
      replace S3 : Mem w w3 [.own rInt w.heap.size 3 v1 (out ++ [s.at']), .loc w.heap.size (askCs tm is pu (some ⟨blk, off, none⟩) U.length c) 102, .loc Y (stmCs s) 38] := S3
      obtain ⟨o1, ho1⟩ : ∃ o1, o1 = out ++ [s.at'] := ⟨_, rfl⟩
      rw [← ho1] at S3
      have hol1 : o1.length ≤ 3001 := by rw [ho1]; simp; omega
      have HO1 := Lib.hid ho1
      clear ho1
      obtain ⟨A1, c1', rfl⟩ := (S3.ow 0 rfl).len
      have c1 := (S3.lv 1 rfl).all
      have c2 := (S3.lv 2 rfl).all
      obtain ⟨B, HB⟩ : ∃ B, Hid (kindB 1 pu s = B) := ⟨_, Lib.hid rfl⟩
      go_cut [27] (fun s27 wx => s27 = .bool B ∧ w3 = wx)
      case first =>
        clear HO2 HO1
        go_wp2_with fail
        all_goals (go_meet; exact ⟨by rw [← HB.out]; clear HB c1 c2; unfold kindB puB; first | rfl | (simp [*]; done) | (simp [*]; rfl) | (simp [*]; intros; omega), rfl⟩)
      case rest =>
        obtain ⟨rfl, rfl⟩ := hcut
        have HO3 : Hid ((U.take (j + 1)).flatMap (momS tm pu) = o1 ++ (if B = true then [s.at' + tm.wait + 1, s.at' + tm.days * 1440] else [])) := by
          show _ = _
          rw [HO2.out, momS, HB.out, HO1.out, List.append_assoc]
          rfl
        clear HO2 HO1 HB
        cases B with
        | false =>
          have HO4 : Hid ((U.take (j + 1)).flatMap (momS tm pu) = o1) := by show _ = _; rw [HO3.out]; simp
          go_wp2_with fail
          go_roundw
          case rel => exact ⟨j + 1, o1, by omega, by go_num, HO4, S3.del 2⟩
          case measure => simp [intOf]; omega
        | true =>
          have HO4 : Hid ((U.take (j + 1)).flatMap (momS tm pu) = o1 ++ [s.at' + tm.wait + 1, s.at' + tm.days * 1440]) := by show _ = _; rw [HO3.out]; simp
          clear HO3
          have hw1 : IntKind.i64.wrap (s.at' + tm.wait) = s.at' + tm.wait := IntWalk.i64_in _ (by omega)
          have hw2 : IntKind.i64.wrap (s.at' + tm.wait + 1) = s.at' + tm.wait + 1 := IntWalk.i64_in _ (by omega)
          have hw3 : IntKind.i64.wrap (s.at' + tm.days * 1440) = s.at' + tm.days * 1440 := IntWalk.i64_in _ (by omega)
          have hcs : ∀ (x y : Int), ∀ j u, (([x, y] : List Int).map (fun n => [Value.int .i64 n])).flatten[j]? = some u → (w3.alloc (.cells #[.int .i64 x, .int .i64 y] 3)).cell? ((⟨w3.heap.size, 0, none⟩ : Addr).add j) = some u := fun x y j u h => new_cells rfl j u h
          have S4 := S3.alloc (.cells #[.int .i64 (s.at' + tm.wait + 1), .int .i64 (s.at' + tm.days * 1440)] 3)
          have hsz4 := S4.b.size
          go_wp2_with (at_builtin; refine S4.appN flatInt 0 rfl tyIntP rfl _ _ rfl [s.at' + tm.wait + 1, s.at' + tm.days * 1440] 2 2 rfl rfl ⟨w3.heap.size, 0, none⟩ rfl (hcs _ _) (fun y _ => oneI y) (fun _ => rfl) hsz4 (by simp; omega) (by decide) ?_; intro v5 w5 S5)
          go_roundw
          case rel => exact ⟨j + 1, _, by omega, by go_num, HO4, S5.del 2⟩
          case measure => simp [intOf]; omega
    · obtain rfl : out = R := by
        rw [← HO.out, ← HR.out, List.take_of_length_le (by omega)]; rfl
      clear HO
      have hml := momL_len out
      rcases (S.ow 0 rfl).shape with ⟨rfl, rfl⟩ | ⟨g, cap, rfl⟩
      · go_wp2_with fail
        ((with_reducible refine (sortNilI_any wr).mono ?_); rintro e w2 ⟨rfl, rfl⟩)
        go_wp2_with fail
        ((with_reducible refine (Tryz.slices_Compact_int_empty none 0 wr).mono ?_); rintro e w2 ⟨rfl, rfl⟩)
        go_wp2_with fail
        ((with_reducible refine (delNilI_any _ _).mono ?_); rintro e w3 ⟨rfl, rfl⟩)
        go_wp2_with fail
        go_ret
        have hm0 : momL [] = [] := List.eq_nil_of_length_eq_zero (by have := momL_len []; simpa using this)
        rw [hm0]
        exact ⟨none, 0, rfl, Sl.nil, S.b⟩
      · have hcap : out.length ≤ cap := by
          by_cases h0 : 1 ≤ out.length
          · obtain ⟨g2, cap2, e2, h2⟩ := (S.ow 0 rfl).form h0
            simp only [Value.slice.injEq] at e2
            omega
          · omega
        have Hs := Lib.hid (S.sortI 0 rfl rfl (by omega))
        have hsl := srtI_len out
        have hcl := compact_len (srtI out)
        go_wp2_with fail
        ((with_reducible refine (Hs.out).mono ?_); rintro e w2 ⟨rfl, S2⟩)
        have Hc := Lib.hid (S2.compI 0 rfl hsl.symm (by omega) hcap)
        clear Hs S
        go_wp2_with fail
        ((with_reducible refine (Hc.out).mono ?_); rintro e w3 ⟨rfl, S3⟩)
        have Hd := Lib.hid (delIP_any S3 rfl (by omega) (by omega) endP)
        clear Hc S2
        go_wp2_with fail
        ((with_reducible refine (Hd.out).mono ?_); rintro e w4 ⟨rfl, S4⟩)
        clear Hd S3
        rw [show (Lib.compact (srtI out)).filter belowE = momL out from rfl] at S4 ⊢
        obtain ⟨A2, c2, e2, hS⟩ := ((S4.ow 0 rfl).flatM flatInt (M' := Lt w.heap.size)).toSlC (fun k h1 h2 => by unfold Lt at h2; omega)
        have He := Lib.hid e2
        have HS2 := Lib.hid hS.2
        clear hS e2
        go_wp2_with fail
        go_ret
        exact ⟨A2, c2, congrArg Ending.returned He.out, HS2.out, S4.b⟩
end Go.Proofs.YthmkphmciiiagaaGreatDoor
