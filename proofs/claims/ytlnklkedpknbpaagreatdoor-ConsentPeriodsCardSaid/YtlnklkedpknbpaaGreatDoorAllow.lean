/- What consent's upTo, allowed and answer return. -/
import Derived.Test.YtlnklkedpknbpaaGreatDoorGrants
namespace Go.Proofs.YtlnklkedpknbpaaGreatDoor
open Go Go.RowKit
theorem upTo1_any (s : Stm) (t : Int) (w : World) : Calls Tryz.prog 153 #[.agg (stmCs s), .int .i64 t] w fun e w' => e = .returned (.int .i64 (Lib.compareInt s.at' t)) ∧ Below w.heap.size w w' := by
  have Hb : Hid (Below w.heap.size w (w.alloc (.cells (stmCs s) 84))) := (Below.refl _ _).alloc (Nat.le_refl _) _
  go_enter Tryz.func153, Tryz.ntmps153
  go_wp2_with fail
  ((with_reducible refine (cmpInt_any s.at' t _).mono ?_); rintro e _ ⟨rfl, rfl⟩)
  go_wp2_with fail
  go_ret
  exact ⟨rfl, Hb.out⟩
def GivesAt (U : List Stm) (t : Int) (w : World) (e : Ending) (w' : World) : Prop :=
  ∃ (i : Nat) (b : Bool), e = .returned (.tuple #[.int .i64 i, .bool b]) ∧ i ≤ U.length ∧ (∀ (p : Nat) s, p < i → U[p]? = some s → s.at' < t) ∧ (∀ (p : Nat) s, i ≤ p → U[p]? = some s → t ≤ s.at') ∧ Below w.heap.size w w'
set_option maxHeartbeats 4000000 in
set_option maxRecDepth 100000 in
theorem searchAt_any (N : Nat → Prop) (A : Option Addr) (U : List Stm) (t : Int) (c : Nat) (w : World) (hS : Sl rStm N w A U) (hn : U.length ≤ 1000000) (hri : U.Pairwise ahead) :
    Calls Tryz.prog 152 #[.slice A U.length c, .int .i64 t, .func (.func 153) #[] #[]] w (GivesAt U t w) := by
  have HS := Lib.hid hS
  have Hri : Hid (∀ (i j : Nat) p q, i < j → U[i]? = some p → U[j]? = some q → p.at' ≤ q.at') := fun i j p q hij hi hj => by
    obtain ⟨hi', rfl⟩ := List.getElem?_eq_some_iff.1 hi
    obtain ⟨hj', rfl⟩ := List.getElem?_eq_some_iff.1 hj
    have := List.pairwise_iff_getElem.1 hri i j hi' hj' hij
    unfold ahead at this; omega
  clear hS hri
  go_enter Tryz.func152, Tryz.ntmps152
  go_wp2_with fail
  go_loopw [9, 10] (fun a b wr => ∃ i j : Nat, i ≤ j ∧ j ≤ U.length ∧ a = .int .i64 i ∧ b = .int .i64 j ∧ (∀ (p : Nat) f, p < i → U[p]? = some f → f.at' < t) ∧ (∀ (p : Nat) f, j ≤ p → U[p]? = some f → t ≤ f.at') ∧ Below w.heap.size w wr) (fun a b _ => (intOf b - intOf a).toNat)
  case atStart => exact ⟨0, U.length, by omega, by omega, rfl, rfl, (fun p f h => by omega), (fun p f h hp => by rw [List.getElem?_eq_none h] at hp; cases hp), Below.refl _ _⟩
  case round =>
    obtain ⟨i, j, hij, hj, rfl, rfl, hlo, hhi, hbl⟩ := hrel
    have Hlo := Lib.hid hlo
    have Hhi := Lib.hid hhi
    have hsz := hbl.size
    clear hlo hhi
    by_cases hlt : i < j
    · obtain ⟨h, hh⟩ : ∃ h : Nat, h = (i + j) / 2 := ⟨_, rfl⟩
      have h1 : i ≤ h := by omega
      have h2 : h < j := by omega
      have eh : ((i : Int) + (j : Int)) / 2 = (h : Int) := by omega
      clear hh
      obtain ⟨s, hf⟩ : ∃ s, U[h]? = some s := ⟨_, List.getElem?_eq_getElem (by omega)⟩
      obtain ⟨blk, off, rfl, hblk, d0, d1, d2, d3, d4, d5, d6, d7⟩ := (HS.out.keepB hbl).stm h s hf
      have Hf := Lib.hid hf
      clear hf
      go_wp2_with fail
      ((with_reducible refine (upTo1_any s t _).mono ?_); rintro e w1 ⟨rfl, hl_w1⟩)
      have hz_w1 := hl_w1.size
      have Hb1 : Hid (Below w.heap.size w w1) := hbl.trans (hl_w1.mono hsz)
      have Hcn := Lib.hid (cmpI_neg s.at' t).1
      generalize Lib.compareInt s.at' t = cm at *
      clear hl_w1 hz_w1 d0 d1 d2 d3 d4 d5 d6 d7
      by_cases hc : cm < 0
      · have Hl : Hid (∀ (p : Nat) g, p < h + 1 → U[p]? = some g → g.at' < t) := fun p g hp hg => by
          have h5 := Hcn.out.1 hc
          by_cases hph : p = h
          · subst hph
            rw [Hf.out] at hg
            cases hg
            exact h5
          · have := Hri.out p h g s (by omega) hg Hf.out; omega
        go_wp2_with fail
        go_roundw
        case rel => exact ⟨h + 1, j, by omega, by omega, by go_num, rfl, Hl.out, Hhi.out, Hb1.out⟩
        case measure => simp [intOf]; omega
      · have Hl : Hid (∀ (p : Nat) g, h ≤ p → U[p]? = some g → t ≤ g.at') := fun p g hp hg => by
          have h5 : ¬ s.at' < t := fun e => hc (Hcn.out.2 e)
          by_cases hph : p = h
          · subst hph
            rw [Hf.out] at hg
            cases hg
            omega
          · have := Hri.out h p s g (by omega) Hf.out hg; omega
        go_wp2_with fail
        go_roundw
        case rel => exact ⟨i, h, by omega, by omega, rfl, rfl, Hlo.out, Hl.out, Hb1.out⟩
        case measure => simp [intOf]; omega
    · obtain rfl : i = j := by omega
      by_cases hli : i < U.length
      · obtain ⟨s, hf⟩ : ∃ s, U[i]? = some s := ⟨_, List.getElem?_eq_getElem hli⟩
        obtain ⟨blk, off, rfl, hblk, d0, d1, d2, d3, d4, d5, d6, d7⟩ := (HS.out.keepB hbl).stm i s hf
        clear hf
        go_wp2_with fail
        ((with_reducible refine (upTo1_any s t _).mono ?_); rintro e w1 ⟨rfl, hl_w1⟩)
        have hz_w1 := hl_w1.size
        have Hb1 : Hid (Below w.heap.size w w1) := hbl.trans (hl_w1.mono hsz)
        clear hl_w1 hz_w1 d0 d1 d2 d3 d4 d5 d6 d7
        go_wp2_with fail
        go_ret2
        exact ⟨i, _, rfl, hj, Hlo.out, Hhi.out, Hb1.out⟩
      · go_wp2_with fail
        go_ret2
        exact ⟨i, _, rfl, hj, Hlo.out, Hhi.out, hbl⟩
/-- what was said up to the moment -/
def upS (at' : Int) (U : List Stm) : List Stm := U.filter (fun s => decide (s.at' ≤ at'))
theorem upS_take {at' : Int} {U : List Stm} {i : Nat} (h1 : ∀ (p : Nat) s, p < i → U[p]? = some s → s.at' < at' + 1) (h2 : ∀ (p : Nat) s, i ≤ p → U[p]? = some s → at' + 1 ≤ s.at') : U.take i = upS at' U := by
  have e := List.take_append_drop i U
  have f1 : (U.take i).filter (fun s => decide (s.at' ≤ at')) = U.take i := List.filter_eq_self.2 fun s hs => by
    obtain ⟨p, hp⟩ := List.mem_iff_getElem?.1 hs
    rw [List.getElem?_take] at hp
    split at hp
    · rename_i h
      have := h1 p s h hp
      simp; omega
    · cases hp
  have f2 : (U.drop i).filter (fun s => decide (s.at' ≤ at')) = [] := List.filter_eq_nil_iff.2 fun s hs => by
    obtain ⟨p, hp⟩ := List.mem_iff_getElem?.1 hs
    rw [List.getElem?_drop] at hp
    have := h2 (i + p) s (by omega) hp
    simp; omega
  unfold upS
  conv => rhs; rw [← e, List.filter_append, f1, f2, List.append_nil]
set_option maxRecDepth 100000 in
theorem upTo_any (N : Nat → Prop) (A : Option Addr) (U : List Stm) (c : Nat) (at' : Int) (w : World) (hS : Sl rStm N w A U) (hn : U.length ≤ 1000000) (hri : U.Pairwise ahead) (hc : U.length ≤ c ∧ (A = none → c = 0) ∧ ∀ a, A = some a → a.spot = none) (hat : -1 ≤ at' ∧ at' ≤ 100000000) :
    Calls Tryz.prog 105 #[.slice A U.length c, .int .i64 at'] w fun e w' => e = .returned (.slice A (upS at' U).length c) ∧ Sl rStm N w' A (upS at' U) ∧ Below w.heap.size w w' := by
  have hw : IntKind.i64.wrap (at' + 1) = at' + 1 := IntWalk.i64_in _ (by omega)
  have Hs := Lib.hid (searchAt_any N A U (at' + 1) c w hS hn hri)
  have HS := Lib.hid hS
  have Hc := Lib.hid hc
  clear hS hri hc
  go_enter Tryz.func105, Tryz.ntmps105
  go_wp2_with fail
  ((with_reducible refine (Hs.out).mono ?_); rintro e w2 ⟨i, b, rfl, hi, h1, h2, hl2⟩)
  have HT : Hid (U.take i = upS at' U) := upS_take h1 h2
  have HB := Lib.hid hl2
  have hlen : (upS at' U).length = i := by rw [← HT.out, List.length_take]; omega
  have HO : Hid (Sl rStm N w2 A (upS at' U)) := by show Sl rStm N w2 A _; rw [← HT.out]; exact (HS.out.keepB hl2).take i
  have Hlen := Lib.hid hlen
  clear Hs HS h1 h2 hl2 HT hlen
  have hic : i ≤ c := Nat.le_trans hi Hc.out.1
  cases A with
  | none =>
    obtain rfl : c = 0 := Hc.out.2.1 rfl
    obtain rfl : i = 0 := by omega
    go_wp2_with fail
    go_ret
    exact ⟨congrArg (fun n : Nat => Ending.returned (.slice _ n _)) Hlen.out.symm, HO.out, HB.out⟩
  | some a =>
    obtain ⟨blk, off, sp⟩ := a
    obtain rfl : sp = none := Hc.out.2.2 _ rfl
    go_wp2_with fail
    go_ret
    exact ⟨congrArg (fun n : Nat => Ending.returned (.slice _ n _)) Hlen.out.symm, HO.out, HB.out⟩
theorem Mem.fillAns {w0 w : World} {cs : List Chunk} (S : Mem w0 w cs) (i : Nat) {X : Nat} {m0 : Bool} {a0 b0 : Int} (hi : cs[i]? = some (.loc X (aCs m0 a0 b0) 48)) (may : Bool) (why no : Int) : Mem w0 (fillA w X may why no) (cs.set i (.loc X (aCs may why no) 48)) := by
  have h1 := S.ge i hi
  refine S.upd i hi _ ⟨by simp [World.setCell], fun k _ hn => ?_⟩ (fillA_below S.b h1.1 may why no) (fun k e => .inl e) (fillA_lv (S.lv i hi) may why no)
  have h : k ≠ X := fun e => hn (by rw [e]; rfl)
  unfold fillA
  rw [Below.heap_setCell _ _ _ _ h, Below.heap_setCell _ _ _ _ h, Below.heap_setCell _ _ _ _ h]
abbrev aVal (x : Bool × Int × Int) : Value := .agg (aCs x.1 x.2.1 x.2.2)
abbrev tCs (tm : PTerm) : Array Value := #[.string tm.region, .int .i64 tm.channel, .bool tm.free, .int .i64 tm.days, .int .i64 tm.wait]
set_option maxHeartbeats 8000000 in
set_option maxRecDepth 100000 in
theorem allowed_any (N : Nat → Prop) (A : Option Addr) (U : List Stm) (c : Nat) (tm : PTerm) (pu : ByteArray) (at' : Int) (w : World) (hS : Sl rStm N w A U) (hl : U.length ≤ 1000000) (hg : ∀ s ∈ U, 0 ≤ s.at' ∧ s.at' ≤ 4321439) (hd : 0 ≤ tm.days ∧ tm.days ≤ 2000) (hw : 0 ≤ tm.wait ∧ tm.wait ≤ 100000) :
    Calls Tryz.prog 135 #[.slice A U.length c, tVal tm, .string pu, .int .i64 at'] w fun e w' => e = .returned (aVal (allowP tm pu at' U)) ∧ Below w.heap.size w w' := by
  have S := ((Mem.start w).new' (tCs tm) 34).new' (aCs false 0 0) 48
  have HS := Lib.hid hS
  have Hg := Lib.hid hg
  obtain ⟨R, HR⟩ : ∃ R, Hid (allowP tm pu at' U = R) := ⟨_, Lib.hid rfl⟩
  rw [HR.out]
  have Hgr := Lib.hid (fun w' (h : Below w.heap.size w w') => grants_any N A U c pu w' (hS.keepB h) hl)
  have Hgs : Hid (∀ s ∈ grP pu (wdGo pu stmZ false U).1 (wdGo pu stmZ false U).2 U, s ∈ U) := fun s hs => (List.mem_filter.1 hs).1
  obtain ⟨WH, HWH⟩ : ∃ WH, Hid (wdGo pu stmZ false U = WH) := ⟨_, Lib.hid rfl⟩
  rw [HWH.out] at Hgr Hgs
  obtain ⟨G, HG⟩ : ∃ G, Hid (grP pu WH.1 WH.2 U = G) := ⟨_, Lib.hid rfl⟩
  rw [HG.out] at Hgr Hgs
  have HR2 : Hid (R = if WH.2 = true ∧ G.length = 0 then (false, 5, WH.1.no) else if tm.free = true then (true, 1, 0) else if G.length = 0 then (false, 4, 0) else (decide ((bestGo (stP tm U at') stmZ 0 G).2 = 2), (bestGo (stP tm U at') stmZ 0 G).2, (bestGo (stP tm U at') stmZ 0 G).1.no)) := by
    show _ = _
    rw [← HR.out, allowP, HWH.out, HG.out]
  have hGl : G.length ≤ 1000000 := by rw [← HG.out]; exact Nat.le_trans (List.length_filter_le ..) hl
  have Hst := Lib.hid (fun (g : Stm) (hg : g ∈ G) w' (h : Below w.heap.size w w') => stateOf_any N A U c tm g at' w' (hS.keepB h) hl (Hg.out g (Hgs.out g hg)) hd hw)
  generalize stP tm U at' = st at *
  obtain ⟨W, has⟩ := WH
  dsimp only at HR2 Hgr
  clear hS hg hd hw HR HWH HG Hgs Hg HS
  go_enter Tryz.func135, Tryz.ntmps135
  go_wp2_with fail
  replace S : Mem w ((w.alloc (.cells (tCs tm) 34)).alloc (.cells (aCs false 0 0) 48)) [.loc w.heap.size (tCs tm) 34, .loc (w.heap.size + 1) (aCs false 0 0) 48] := by simpa using S
  generalize (w.alloc (.cells (tCs tm) 34)).alloc (.cells (aCs false 0 0) 48) = w1 at *
  ((with_reducible refine (Hgr.out w1 S.b).mono ?_); rintro e w2 ⟨Ag, cg, rfl, hG, hl2⟩)
  replace S := S.call hl2 (.sl rStm Ag G) hG (fun k e => by cases e)
  clear Hgr hl2 hG
  dsimp only
  go_upto_region 2 with fail
  obtain ⟨X, hX⟩ : ∃ X, X = w2.heap.size := ⟨_, rfl⟩
  replace S := S.newAt (stmCs W) 84 X hX
  rw [← hX]
  clear hX
  generalize w2.alloc (.cells (stmCs W) 84) = w3 at *
  have c0 := (S.lv 0 rfl).all
  have c1 := (S.lv 1 rfl).all
  have c3 := (S.lv 3 rfl).all
  by_cases h1 : has = true ∧ G.length = 0
  · obtain rfl : R = (false, 5, W.no) := by rw [HR2.out, if_pos h1]
    obtain ⟨rfl, h0⟩ := h1
    rw [h0]
    clear HR2 h0
    go_wp2_with fail
    have S2 := S.fillAns 1 rfl false 5 W.no
    exact bodyPost_ret (results_cell1 rfl rfl (loadA (S2.lv 1 rfl))) rfl ⟨rfl, S2.b⟩
  · have HR3 : Hid (R = if tm.free = true then (true, 1, 0) else if G.length = 0 then (false, 4, 0) else (decide ((bestGo st stmZ 0 G).2 = 2), (bestGo st stmZ 0 G).2, (bestGo st stmZ 0 G).1.no)) := by show _ = _; rw [HR2.out, if_neg h1]
    clear HR2
    go_cut [24] (fun s24 wx => s24 = .bool false ∧ w3 = wx)
    case first =>
      clear HR3
      cases has
      · go_wp2_with fail
        go_meet
        exact ⟨rfl, rfl⟩
      · have h0 : ¬ G.length = 0 := fun e => h1 ⟨rfl, e⟩
        have h0' : ((G.length : Int) == 0) = false := by simpa using h0
        clear h0 h1
        go_wp2_with fail
        go_meet
        exact ⟨rfl, rfl⟩
    case rest =>
      obtain ⟨rfl, rfl⟩ := hcut
      clear h1
      cases hf : tm.free with
      | true =>
        obtain rfl : R = (true, 1, 0) := by rw [HR3.out, if_pos hf]
        clear HR3
        go_wp2_with fail
        have S2 := S.fillAns 1 rfl true 1 0
        exact bodyPost_ret (results_cell1 rfl rfl (loadA (S2.lv 1 rfl))) rfl ⟨rfl, S2.b⟩
      | false =>
        have HR4 : Hid (R = if G.length = 0 then (false, 4, 0) else (decide ((bestGo st stmZ 0 G).2 = 2), (bestGo st stmZ 0 G).2, (bestGo st stmZ 0 G).1.no)) := by show _ = _; rw [HR3.out, if_neg (by simp [hf])]
        clear HR3
        by_cases h0 : G.length = 0
        · obtain rfl : R = (false, 4, 0) := by rw [HR4.out, if_pos h0]
          have h0' : ((G.length : Int) == 0) = true := by simpa using h0
          clear HR4 h0
          go_wp2_with fail
          have S2 := S.fillAns 1 rfl false 4 0
          exact bodyPost_ret (results_cell1 rfl rfl (loadA (S2.lv 1 rfl))) rfl ⟨rfl, S2.b⟩
        · have h0' : ((G.length : Int) == 0) = false := by simpa using h0
          have HR5 : Hid (R = (decide ((bestGo st stmZ 0 G).2 = 2), (bestGo st stmZ 0 G).2, (bestGo st stmZ 0 G).1.no)) := by show _ = _; rw [HR4.out, if_neg h0]
          clear HR4 h0
          obtain ⟨Q, HQ⟩ : ∃ Q, Hid (bestGo st stmZ 0 G = Q) := ⟨_, Lib.hid rfl⟩
          rw [HQ.out] at HR5
          go_upto_region 10 with fail
          clear c0 c1 c3 hf
          obtain ⟨Z, hZ⟩ : ∃ Z, Z = w3.heap.size := ⟨_, rfl⟩
          replace S := S.newAt (stmCs stmZ) 84 Z hZ
          rw [← hZ]
          clear hZ
          generalize w3.alloc (.cells (stmCs stmZ) 84) = w4 at *
          go_wp2_with fail
          go_loopw [13, 45] (fun y i wr => ∃ (j : Nat) (best : Stm) (why : Int), j ≤ G.length ∧ i = .int .i64 j ∧ y = .int .i64 why ∧ Hid (bestGo st best why (G.drop j) = Q) ∧ Mem w wr [.loc w.heap.size (tCs tm) 34, .loc (w.heap.size + 1) (aCs false 0 0) 48, .sl rStm Ag G, .loc X (stmCs W) 84, .loc Z (stmCs best) 84]) (fun _ i _ => G.length - (intOf i).toNat)
          case atStart => exact ⟨0, stmZ, 0, Nat.zero_le _, rfl, rfl, HQ, S⟩
          case round =>
            clear S HQ
            obtain ⟨j, best, why, hj, rfl, rfl, HQ, S⟩ := hrel
            by_cases hlt : j < G.length
            · obtain ⟨s, hf⟩ : ∃ s, G[j]? = some s := ⟨_, List.getElem?_eq_getElem hlt⟩
              obtain ⟨blk, off, rfl, hblk, d0, d1, d2, d3, d4, d5, d6, d7⟩ := (S.slc 2 rfl).stm j s hf
              have HQ2 : Hid (bestGo st best why (s :: G.drop (j + 1)) = Q) := by show _ = _; rw [← HQ.out, drop_at3 hf]
              have Hs := Lib.hid (Hst.out s (List.mem_of_getElem? hf))
              clear hf HQ
              go_upto_region 13 with fail
              clear d0 d1 d2 d3 d4 d5 d6 d7
              obtain ⟨Y, hY⟩ : ∃ Y, Y = wr.heap.size := ⟨_, rfl⟩
              replace S := S.newAt (stmCs s) 84 Y hY
              rw [← hY]
              clear hY
              generalize wr.alloc (.cells (stmCs s) 84) = w5 at *
              obtain ⟨q, Hq⟩ : ∃ q, Hid (st s = q) := ⟨_, Lib.hid rfl⟩
              rw [Hq.out] at Hs
              have HQ3 : Hid ((if why = 0 ∨ rankP q < rankP why ∨ (q = why ∧ best.at' < s.at') then bestGo st s q (G.drop (j + 1)) else bestGo st best why (G.drop (j + 1))) = Q) := by show _ = _; rw [← HQ2.out, bestGo, Hq.out]
              clear HQ2 Hq
              have c0 := (S.lv 0 rfl).all
              have c5 := (S.lv 5 rfl).all
              go_wp2_with fail
              ((with_reducible refine (Hs.out w5 S.b).mono ?_); rintro e w6 ⟨rfl, hl6⟩)
              replace S := S.below hl6
              clear hl6 c0 c5 Hs
              go_upto_region 14 with fail
              obtain ⟨B, HB⟩ : ∃ B, Hid (decide (why = 0 ∨ rankP q < rankP why ∨ (q = why ∧ best.at' < s.at')) = B) := ⟨_, Lib.hid rfl⟩
              have HQ4 : Hid ((if B = true then bestGo st s q (G.drop (j + 1)) else bestGo st best why (G.drop (j + 1))) = Q) := by show _ = _; rw [← HQ3.out, ← HB.out]; simp only [decide_eq_true_eq]
              clear HQ3
              have HS0 := Lib.hid S
              clear S
              go_cut [74] (fun s74 wx => s74 = .bool B ∧ Mem w wx [.loc w.heap.size (tCs tm) 34, .loc (w.heap.size + 1) (aCs false 0 0) 48, .sl rStm (some ⟨blk, off, none⟩) G, .loc X (stmCs W) 84, .loc Z (stmCs best) 84, .loc Y (stmCs s) 84])
              case first =>
                have S := HS0.out
                clear HS0 HQ4
                by_cases hw0 : why = 0
                · have hw0' : (why == 0) = true := by simpa using hw0
                  obtain rfl : true = B := by rw [← HB.out]; simp [hw0]
                  clear HB hw0
                  go_wp2_with fail
                  go_meet
                  exact ⟨rfl, S⟩
                · have hw0' : (why == 0) = false := by simpa using hw0
                  have HB2 : Hid (decide (rankP q < rankP why ∨ (q = why ∧ best.at' < s.at')) = B) := by show _ = _; rw [← HB.out]; simp [hw0]
                  have R1 := Lib.hid (fun w => rank_any q w)
                  have R2 := Lib.hid (fun w => rank_any why w)
                  generalize rankP q = r1 at *
                  generalize rankP why = r2 at *
                  clear HB hw0
                  go_wp2_with fail
                  ((with_reducible refine (R1.out _).mono ?_); rintro e w7 ⟨rfl, hl7⟩)
                  replace S := S.below hl7
                  go_wp2_with fail
                  ((with_reducible refine (R2.out _).mono ?_); rintro e w8 ⟨rfl, hl8⟩)
                  replace S := S.below hl8
                  clear hl7 hl8 R1 R2
                  have c4 := (S.lv 4 rfl).all
                  have c5 := (S.lv 5 rfl).all
                  by_cases hr : r1 < r2
                  · obtain rfl : true = B := by rw [← HB2.out]; simp [hr]
                    clear HB2
                    go_wp2_with fail
                    go_meet
                    exact ⟨rfl, S⟩
                  · by_cases hq : q = why
                    · have hq' : (q == why) = true := by simpa using hq
                      have HB3 : Hid (decide (best.at' < s.at') = B) := by show _ = _; rw [← HB2.out]; simp [hr, hq]
                      clear HB2 hq
                      go_wp2_with fail
                      go_meet
                      exact ⟨by rw [← HB3.out]; simp; intro h; omega, S⟩
                    · have hq' : (q == why) = false := by simpa using hq
                      obtain rfl : false = B := by rw [← HB2.out]; simp [hr, hq]
                      clear HB2 hq
                      go_wp2_with fail
                      go_meet
                      exact ⟨by simp [hr], S⟩
              case rest =>
                clear HS0 HB
                obtain ⟨rfl, S⟩ := hcut
                cases B
                · go_wp2_with fail
                  go_roundw
                  case rel => exact ⟨j + 1, best, why, by omega, by go_num, rfl, HQ4, S.del 5⟩
                  case measure => simp [intOf]; omega
                · have c4 := (S.lv 4 rfl).all
                  have c5 := (S.lv 5 rfl).all
                  go_wp2_with fail
                  have S2 := (S.fillStm 4 rfl s).del 5
                  go_roundw
                  case rel => exact ⟨j + 1, s, q, by omega, by go_num, rfl, HQ4, S2⟩
                  case measure => simp [intOf]; omega
            · obtain rfl : (best, why) = Q := by rw [← HQ.out, List.drop_eq_nil_of_le (by omega)]; rfl
              have c1 := (S.lv 1 rfl).all
              have c4 := (S.lv 4 rfl).all
              dsimp only at HR5
              by_cases h2 : why = 2
              · have h2' : (why == 2) = true := by simpa using h2
                obtain rfl : R = (true, why, best.no) := by rw [HR5.out]; simp [h2]
                clear HR5 h2
                go_wp2_with fail
                have S2 := S.fillAns 1 rfl true why best.no
                exact bodyPost_ret (results_cell1 rfl rfl (loadA (S2.lv 1 rfl))) rfl ⟨rfl, S2.b⟩
              · have h2' : (why == 2) = false := by simpa using h2
                obtain rfl : R = (false, why, best.no) := by rw [HR5.out]; simp [h2]
                clear HR5 h2
                go_wp2_with fail
                have S2 := S.fillAns 1 rfl false why best.no
                exact bodyPost_ret (results_cell1 rfl rfl (loadA (S2.lv 1 rfl))) rfl ⟨rfl, S2.b⟩
end Go.Proofs.YtlnklkedpknbpaaGreatDoor
