/- What consent's grants, confirmation, stateOf and rank return. -/
import Derived.Test.YtlnklkedpknbpaaGreatDoorObj
namespace Go.Proofs.YtlnklkedpknbpaaGreatDoor
open Go Go.RowKit
theorem heap_fillS {w : World} {X k : Nat} (h : k ≠ X) (s : Stm) : (fillS w X s).heap[k]? = w.heap[k]? := by
  unfold fillS
  rw [Below.heap_setCell _ _ _ _ h, Below.heap_setCell _ _ _ _ h, Below.heap_setCell _ _ _ _ h, Below.heap_setCell _ _ _ _ h, Below.heap_setCell _ _ _ _ h, Below.heap_setCell _ _ _ _ h, Below.heap_setCell _ _ _ _ h, Below.heap_setCell _ _ _ _ h]
theorem Mem.fillStm {w0 w : World} {cs : List Chunk} (S : Mem w0 w cs) (i : Nat) {X : Nat} {s0 : Stm} (hi : cs[i]? = some (.loc X (stmCs s0) 84)) (s : Stm) : Mem w0 (fillS w X s) (cs.set i (.loc X (stmCs s) 84)) := by
  have h1 := S.ge i hi
  refine S.upd i hi _ ⟨by simp [World.setCell], fun k _ hn => heap_fillS (fun e => hn (by rw [e]; rfl)) s⟩ (fillS_below S.b h1.1 s) (fun k e => .inl e) (fillS_lv (S.lv i hi) s)
def GivesGr (R : Stm × Bool) (G : List Stm) (w : World) (e : Ending) (w' : World) : Prop :=
  ∃ A c, e = .returned (.tuple #[.slice A G.length c, .agg (stmCs R.1), .bool R.2]) ∧ Sl rStm (Lt w.heap.size) w' A G ∧ Below w.heap.size w w'
set_option maxHeartbeats 8000000 in
set_option maxRecDepth 100000 in
theorem grants_any (N : Nat → Prop) (A : Option Addr) (U : List Stm) (c : Nat) (pu : ByteArray) (w : World) (hS : Sl rStm N w A U) (hl : U.length ≤ 1000000) :
    Calls Tryz.prog 177 #[.slice A U.length c, .string pu] w (GivesGr (wdGo pu stmZ false U) (grP pu (wdGo pu stmZ false U).1 (wdGo pu stmZ false U).2 U) w) := by
  have HL := Lib.hid hS
  have S := (Mem.start w).new' (stmCs stmZ) 84
  clear hS
  obtain ⟨R, HR⟩ : ∃ R, Hid (wdGo pu stmZ false U = R) := ⟨_, Lib.hid rfl⟩
  rw [HR.out]
  obtain ⟨GG, HGG⟩ : ∃ GG, Hid (grP pu R.1 R.2 U = GG) := ⟨_, Lib.hid rfl⟩
  rw [HGG.out]
  go_enter Tryz.func177, Tryz.ntmps177
  go_wp2_with fail
  generalize w.alloc (.cells (stmCs stmZ) 84) = w1 at *
  go_loopw [6, 13] (fun b i wr => ∃ (j : Nat) (W : Stm) (has : Bool), j ≤ U.length ∧ i = .int .i64 j ∧ b = .bool has ∧ Hid (wdGo pu W has (U.drop j) = R) ∧ Mem w wr [.loc w.heap.size (stmCs W) 84]) (fun _ i _ => U.length - (intOf i).toNat)
  case atStart => exact ⟨0, stmZ, false, Nat.zero_le _, rfl, rfl, HR, S⟩
  case round =>
    clear S HR
    obtain ⟨j, W, has, hj, rfl, rfl, HR, S⟩ := hrel
    by_cases hlt : j < U.length
    · obtain ⟨s, hf⟩ : ∃ s, U[j]? = some s := ⟨_, List.getElem?_eq_getElem hlt⟩
      obtain ⟨blk, off, rfl, hblk, d0, d1, d2, d3, d4, d5, d6, d7⟩ := (HL.out.keepB S.b).stm j s hf
      have Hf := Lib.hid hf
      clear hf
      go_upto_region 4 with fail
      clear d0 d1 d2 d3 d4 d5 d6 d7
      obtain ⟨Y, hY⟩ : ∃ Y, Y = wr.heap.size := ⟨_, rfl⟩
      replace S := (S.newAt (stmCs s) 84 Y hY).front
      rw [← hY]
      clear hY
      generalize wr.alloc (.cells (stmCs s) 84) = w2 at *
      have HR2 : Hid (wdGo pu W has (s :: U.drop (j + 1)) = R) := by show _ = _; rw [← HR.out, drop_at3 Hf.out]
      have c0 := (S.lv 0 rfl).all
      have c1 := (S.lv 1 rfl).all
      obtain ⟨B, HB⟩ : ∃ B, Hid (decide (s.what = 3 ∧ puB pu s = true ∧ (has = false ∨ W.at' < s.at')) = B) := ⟨_, Lib.hid rfl⟩
      go_cut [36] (fun s36 wx => s36 = .bool B ∧ w2 = wx)
      case first =>
        clear HR HR2 Hf HL
        cases has
        all_goals go_wp2_with fail
        all_goals (go_meet; exact ⟨by rw [← HB.out]; clear HB c0 c1; simp [puB, *], rfl⟩)
      case rest =>
        obtain ⟨rfl, rfl⟩ := hcut
        have HR3 : Hid ((if B = true then wdGo pu s true (U.drop (j + 1)) else wdGo pu W has (U.drop (j + 1))) = R) := by show _ = _; rw [← HR2.out, wdGo, ← HB.out]; simp only [decide_eq_true_eq]
        clear HR HR2 HB
        cases B
        · go_wp2_with fail
          go_roundw
          case rel => exact ⟨j + 1, W, has, by omega, by go_num, rfl, HR3, S.del 0⟩
          case measure => simp [intOf]; omega
        · go_wp2_with fail
          have S2 := (S.fillStm 1 rfl s).del 0
          go_roundw
          case rel => exact ⟨j + 1, s, true, by omega, by go_num, rfl, HR3, S2⟩
          case measure => simp [intOf]; omega
    · obtain rfl : (W, has) = R := by rw [← HR.out, List.drop_eq_nil_of_le (by omega)]; rfl
      clear HR
      replace S := (S.nil rStm w.heap.size 84).swap
      (try dsimp only)
      go_wp2_with fail
      go_loopw [4, 41] (fun v i wr => ∃ (j : Nat) (G : List Stm), j ≤ U.length ∧ i = .int .i64 j ∧ Hid (G = (U.take j).filter (fun s => kindB 1 pu s && (!has || decide (W.at' < s.at')))) ∧ Mem w wr [.own rStm w.heap.size 84 v G, .loc w.heap.size (stmCs W) 84]) (fun _ i _ => U.length - (intOf i).toNat)
      case atStart => exact ⟨0, [], Nat.zero_le _, rfl, Lib.hid rfl, S⟩
      case round =>
        clear S hlt hj
        obtain ⟨j, G, hj, rfl, HG, S⟩ := hrel
        have hGl : G.length ≤ 1000000 := by rw [HG.out]; exact Nat.le_trans (List.length_filter_le ..) (by rw [List.length_take]; omega)
        obtain ⟨Ag, cg, rfl⟩ := (S.ow 0 rfl).len
        by_cases hlt : j < U.length
        · obtain ⟨s, hf⟩ : ∃ s, U[j]? = some s := ⟨_, List.getElem?_eq_getElem hlt⟩
          obtain ⟨blk, off, rfl, hblk, d0, d1, d2, d3, d4, d5, d6, d7⟩ := (HL.out.keepB S.b).stm j s hf
          have Hf := Lib.hid hf
          clear hf
          go_upto_region 10 with fail
          clear d0 d1 d2 d3 d4 d5 d6 d7
          obtain ⟨Y, hY⟩ : ∃ Y, Y = wr.heap.size := ⟨_, rfl⟩
          replace S := (S.newAt (stmCs s) 84 Y hY).front
          rw [← hY]
          clear hY
          generalize wr.alloc (.cells (stmCs s) 84) = w2 at *
          have c0 := (S.lv 0 rfl).all
          have c1 := (S.lv 2 rfl).all
          obtain ⟨B, HB⟩ : ∃ B, Hid ((kindB 1 pu s && (!has || decide (W.at' < s.at'))) = B) := ⟨_, Lib.hid rfl⟩
          go_cut [64] (fun s64 wx => s64 = .bool B ∧ w2 = wx)
          case first =>
            clear HG Hf HL
            cases has
            all_goals go_wp2_with fail
            all_goals (go_meet; exact ⟨by rw [← HB.out]; clear HB c0 c1; simp [kindB, puB, *], rfl⟩)
          case rest =>
            obtain ⟨rfl, rfl⟩ := hcut
            have HG2 : Hid ((U.take (j + 1)).filter (fun s => kindB 1 pu s && (!has || decide (W.at' < s.at'))) = if B = true then G ++ [s] else G) := by
              show _ = _
              rw [take_snoc Hf.out, List.filter_append, ← HG.out, List.filter_cons, List.filter_nil, HB.out]
              cases B <;> simp
            clear HB
            cases B
            · go_wp2_with fail
              go_roundw
              case rel => exact ⟨j + 1, G, by omega, by go_num, HG2.out.symm, S.del 0⟩
              case measure => simp [intOf]; omega
            · have hsz := S.b.size
              go_wp2_with (at_builtin; refine S.app 1 rfl tySaid rfl _ _ rfl s 1 rfl rfl rfl (oneStmS s) hsz (by omega) (by decide) ?_; intro v' w10 S6)
              go_roundw
              case rel => exact ⟨j + 1, G ++ [s], by omega, by go_num, HG2.out.symm, S6.del 0⟩
              case measure => simp [intOf]; omega
        · have c1 := (S.lv 1 rfl).all
          have HG2 : Hid (G = grP pu W has U) := by show _ = _; rw [HG.out, List.take_of_length_le (by omega)]; rfl
          clear HG
          go_wp2_with fail
          have HS := Lib.hid S
          clear S
          go_region
          go_wp2_with fail
          have S2 := HS.out.fillStm 1 rfl W
          have hd : Drewn (fillS wr w.heap.size W) (fillS wr w.heap.size W).drew := rfl
          have S3 := S2.below (hd.below _)
          obtain ⟨A2, c2, e2, hS⟩ := ((S3.ow 0 rfl).flatM flatStm (M' := Lt w.heap.size)).toSlC (fun k h1 h2 => by unfold Lt at h2; omega)
          obtain rfl : G = GG := HG2.out.trans HGG.out
          exact bodyPost_ret (results_tct rfl rfl rfl rfl (loadStm (S3.lv 1 rfl))) rfl ⟨A2, c2, congrArg (fun x => Ending.returned (.tuple #[x, .agg (stmCs W), .bool has])) e2, hS.2, S3.b⟩
def GivesStm (o : Option Stm) (w : World) (e : Ending) (w' : World) : Prop := e = .returned (.tuple #[.agg (stmCs (o.getD stmZ)), .bool o.isSome]) ∧ Below w.heap.size w w'
set_option maxHeartbeats 4000000 in
set_option maxRecDepth 100000 in
theorem confirmation_any (N : Nat → Prop) (A : Option Addr) (U : List Stm) (c : Nat) (pu : ByteArray) (a b : Int) (w : World) (hS : Sl rStm N w A U) (hl : U.length ≤ 1000000) :
    Calls Tryz.prog 106 #[.slice A U.length c, .string pu, .int .i64 a, .int .i64 b] w (GivesStm (confP pu a b U) w) := by
  have HL := Lib.hid hS
  have S := (Mem.start w).new' (stmCs stmZ) 84
  clear hS
  obtain ⟨R, HR⟩ : ∃ R, Hid (confP pu a b U = R) := ⟨_, Lib.hid rfl⟩
  rw [HR.out]
  go_enter Tryz.func106, Tryz.ntmps106
  go_wp2_with fail
  generalize w.alloc (.cells (stmCs stmZ) 84) = w1 at *
  go_loopw [14] (fun i wr => ∃ (j : Nat), j ≤ U.length ∧ i = .int .i64 j ∧ Hid (confP pu a b (U.drop j) = R) ∧ Mem w wr [.loc w.heap.size (stmCs stmZ) 84]) (fun i _ => U.length - (intOf i).toNat)
  case atStart => exact ⟨0, Nat.zero_le _, rfl, HR, S⟩
  case round =>
    clear S HR
    obtain ⟨j, hj, rfl, HR, S⟩ := hrel
    by_cases hlt : j < U.length
    · obtain ⟨s, hf⟩ : ∃ s, U[j]? = some s := ⟨_, List.getElem?_eq_getElem hlt⟩
      obtain ⟨blk, off, rfl, hblk, d0, d1, d2, d3, d4, d5, d6, d7⟩ := (HL.out.keepB S.b).stm j s hf
      have Hf := Lib.hid hf
      clear hf
      go_upto_region 4 with fail
      clear d0 d1 d2 d3 d4 d5 d6 d7
      obtain ⟨Y, hY⟩ : ∃ Y, Y = wr.heap.size := ⟨_, rfl⟩
      replace S := (S.newAt (stmCs s) 84 Y hY).front
      rw [← hY]
      clear hY
      generalize wr.alloc (.cells (stmCs s) 84) = w2 at *
      have HR2 : Hid (confP pu a b (s :: U.drop (j + 1)) = R) := by show _ = _; rw [← HR.out, drop_at3 Hf.out]
      have c0 := (S.lv 0 rfl).all
      have c1 := (S.lv 1 rfl).all
      obtain ⟨B, HB⟩ : ∃ B, Hid ((kindB 2 pu s && decide (a ≤ s.at' ∧ s.at' ≤ b)) = B) := ⟨_, Lib.hid rfl⟩
      obtain ⟨D, HD⟩ : ∃ D, Hid (decide (a ≤ s.at' ∧ s.at' ≤ b) = D) := ⟨_, Lib.hid rfl⟩
      have C2 : Hid (∀ w, Calls Tryz.prog 75 #[.int .i64 s.at', .int .i64 a, .int .i64 b] w fun e w' => e = .returned (.bool D) ∧ w = w') := fun w => HD.out ▸ cwithin_any s.at' a b w
      have HB2 : Hid ((kindB 2 pu s && D) = B) := by show _ = _; rw [← HD.out]; exact HB.out
      have HR3 : Hid ((if B = true then some s else confP pu a b (U.drop (j + 1))) = R) := by
        show _ = _
        rw [← HR2.out]
        unfold confP
        rw [List.find?_cons, HB.out]
        cases B <;> rfl
      clear HR HR2 HB HD
      go_cut [33] (fun s33 wx => s33 = .bool B ∧ w2 = wx)
      case first =>
        clear HR3 Hf HL
        go_wp2_with (go_at_call 75; refine (C2.out _).mono ?_; rintro e _ ⟨rfl, rfl⟩)
        all_goals (go_meet; exact ⟨by rw [← HB2.out]; clear HB2 C2 c0 c1; simp [kindB, puB, *], rfl⟩)
      case rest =>
        obtain ⟨rfl, rfl⟩ := hcut
        clear HB2 C2
        cases B
        · go_wp2_with fail
          go_roundw
          case rel => exact ⟨j + 1, by omega, by go_num, HR3, S.del 0⟩
          case measure => simp [intOf]; omega
        · obtain rfl : some s = R := HR3.out
          go_wp2_with fail
          have S2 := S.fillStm 1 rfl s
          exact bodyPost_ret (results_cs rfl rfl rfl (loadStm (S2.lv 1 rfl))) rfl ⟨rfl, S2.b⟩
    · obtain rfl : none = R := by rw [← HR.out, List.drop_eq_nil_of_le (by omega)]; rfl
      have c1 := (S.lv 0 rfl).all
      clear HR
      go_wp2_with fail
      have S2 := S.fillStm 0 rfl stmZ
      exact bodyPost_ret (results_cs rfl rfl rfl (loadStm (S2.lv 0 rfl))) rfl ⟨rfl, S2.b⟩
theorem rank_any (n : Int) (w : World) : Calls Tryz.prog 179 #[.int .i64 n] w fun e w' => e = .returned (.int .i64 (rankP n)) ∧ Below w.heap.size w w' := by
  have hcon := Tryz.slices_Index_int w.heap.size 0 4 4 [2, 8, 9, 7] n (w.alloc (.cells #[.int .i64 2, .int .i64 8, .int .i64 9, .int .i64 7] 3)) (by decide) (by decide) (fun j hj => by
    rw [World.cell?_alloc_at _ _ _ _ rfl]
    obtain rfl | rfl | rfl | rfl : j = 0 ∨ j = 1 ∨ j = 2 ∨ j = 3 := by simp at hj; omega
    all_goals rfl)
  have hr : Lib.idxOf ([2, 8, 9, 7].take 4) n = rankP n := by
    unfold rankP
    by_cases h2 : n = 2
    · subst h2; rfl
    · by_cases h8 : n = 8
      · subst h8; rfl
      · by_cases h9 : n = 9
        · subst h9; rfl
        · by_cases h7 : n = 7
          · subst h7; rfl
          · simp [Lib.idxOf, Lib.idxFrom, h2, h8, h9, h7, Ne.symm h2, Ne.symm h8, Ne.symm h9, Ne.symm h7]
  rw [hr] at hcon
  generalize rankP n = R at *
  go_enter Tryz.func179, Tryz.ntmps179
  go_wp2_with fail
  ((with_reducible refine (hcon).mono ?_); rintro e w2 ⟨rfl, rfl⟩)
  go_wp2_with fail
  go_ret
  exact ⟨rfl, (Below.refl _ _).alloc (Nat.le_refl _) _⟩
set_option maxHeartbeats 4000000 in
set_option maxRecDepth 100000 in
theorem stateOf_any (N : Nat → Prop) (A : Option Addr) (U : List Stm) (c : Nat) (tm : PTerm) (g : Stm) (at' : Int) (w : World) (hS : Sl rStm N w A U) (hl : U.length ≤ 1000000) (hg : 0 ≤ g.at' ∧ g.at' ≤ 4321439) (hd : 0 ≤ tm.days ∧ tm.days ≤ 2000) (hw : 0 ≤ tm.wait ∧ tm.wait ≤ 100000) :
    Calls Tryz.prog 178 #[.slice A U.length c, tVal tm, .agg (stmCs g), .int .i64 at'] w fun e w' => e = .returned (.int .i64 (stP tm U at' g)) ∧ Below w.heap.size w w' := by
  have S := ((Mem.start w).new' #[.string tm.region, .int .i64 tm.channel, .bool tm.free, .int .i64 tm.days, .int .i64 tm.wait] 34).new' (stmCs g) 84
  have hm : IntKind.i64.wrap (tm.days * 1440) = tm.days * 1440 := IntWalk.i64_in _ (by omega)
  have ha : IntKind.i64.wrap (g.at' + tm.days * 1440) = g.at' + tm.days * 1440 := IntWalk.i64_in _ (by omega)
  have hb : IntKind.i64.wrap (g.at' + tm.wait) = g.at' + tm.wait := IntWalk.i64_in _ (by omega)
  have Hc := Lib.hid (fun w' (h : Below w.heap.size w w') => confirmation_any N A U c g.purpose g.at' (g.at' + tm.wait) w' (hS.keepB h) hl)
  obtain ⟨K, HK⟩ : ∃ K, Hid (confP g.purpose g.at' (g.at' + tm.wait) U = K) := ⟨_, Lib.hid rfl⟩
  rw [HK.out] at Hc
  have HR : Hid (stP tm U at' g = if tm.days ≠ 0 ∧ g.at' + tm.days * 1440 ≤ at' then 7 else if tm.wait = 0 then 2 else if K.isSome = true then 2 else if at' ≤ g.at' + tm.wait then 8 else 9) := by show _ = _; rw [stP, HK.out]
  generalize stP tm U at' g = R at *
  clear hS HK hg hd hw
  go_enter Tryz.func178, Tryz.ntmps178
  go_upto_region 1 with fail
  replace S : Mem w ((w.alloc (.cells #[.string tm.region, .int .i64 tm.channel, .bool tm.free, .int .i64 tm.days, .int .i64 tm.wait] 34)).alloc (.cells (stmCs g) 84)) [.loc w.heap.size #[.string tm.region, .int .i64 tm.channel, .bool tm.free, .int .i64 tm.days, .int .i64 tm.wait] 34, .loc (w.heap.size + 1) (stmCs g) 84] := by simpa using S
  generalize (w.alloc (.cells #[.string tm.region, .int .i64 tm.channel, .bool tm.free, .int .i64 tm.days, .int .i64 tm.wait] 34)).alloc (.cells (stmCs g) 84) = w1 at *
  have c0 := (S.lv 0 rfl).all
  have c1 := (S.lv 1 rfl).all
  by_cases h7 : tm.days ≠ 0 ∧ g.at' + tm.days * 1440 ≤ at'
  · have hn : (tm.days != 0) = true := by simpa using h7.1
    have hle := h7.2
    obtain rfl : R = 7 := by rw [HR.out, if_pos h7]
    clear HR h7
    go_wp2_with fail
    go_ret
    exact ⟨rfl, S.b⟩
  · have HR2 : Hid (R = if tm.wait = 0 then 2 else if K.isSome = true then 2 else if at' ≤ g.at' + tm.wait then 8 else 9) := by show _ = _; rw [HR.out, if_neg h7]
    go_cut [23] (fun s23 wx => s23 = .bool false ∧ w1 = wx)
    case first =>
      clear HR HR2
      by_cases hn : tm.days = 0
      · have hn' : (tm.days != 0) = false := by simpa using hn
        have h0 := Lib.hid hn
        clear hn h7
        go_wp2_with fail
        go_meet
        exact ⟨rfl, rfl⟩
      · have hn' : (tm.days != 0) = true := by simpa using hn
        have hle : ¬ (g.at' + tm.days * 1440 ≤ at') := fun h => h7 ⟨hn, h⟩
        clear hn h7
        go_wp2_with fail
        go_meet
        exact ⟨by simp, rfl⟩
    case rest =>
      obtain ⟨rfl, rfl⟩ := hcut
      clear HR h7 hm ha
      by_cases h0' : tm.wait = 0
      · obtain rfl : R = 2 := by rw [HR2.out, if_pos h0']
        have h0 : (tm.wait == 0) = true := by simpa using h0'
        clear HR2 h0'
        go_wp2_with fail
        go_ret
        exact ⟨rfl, S.b⟩
      · have h0 : (tm.wait == 0) = false := by simpa using h0'
        have HR3 : Hid (R = if K.isSome = true then 2 else if at' ≤ g.at' + tm.wait then 8 else 9) := by show _ = _; rw [HR2.out, if_neg h0']
        clear HR2 h0'
        go_wp2_with fail
        ((with_reducible refine (Hc.out w1 S.b).mono ?_); rintro e w2 ⟨rfl, hl2⟩)
        replace S := S.below hl2
        clear Hc c0 c1 hl2
        go_upto_region 6 with fail
        replace S := S.new' (stmCs (K.getD stmZ)) 84
        generalize w2.alloc (.cells (stmCs (K.getD stmZ)) 84) = w3 at *
        have c0 := (S.lv 0 rfl).all
        have c1 := (S.lv 1 rfl).all
        cases K with
        | some s =>
          obtain rfl : R = 2 := HR3.out
          go_wp2_with fail
          go_ret
          exact ⟨rfl, S.b⟩
        | none =>
          by_cases h8 : at' ≤ g.at' + tm.wait
          · obtain rfl : R = 8 := by rw [HR3.out]; simp [h8]
            go_wp2_with fail
            go_ret
            exact ⟨rfl, S.b⟩
          · obtain rfl : R = 9 := by rw [HR3.out]; simp [h8]
            go_wp2_with fail
            go_ret
            exact ⟨rfl, S.b⟩
end Go.Proofs.YtlnklkedpknbpaaGreatDoor
