/- What an id has said through a channel, in order: consent.saidBy. -/
import Derived.Test.YtlnklkedpknbpaaGreatDoorAskLaw
import Derived.Test.YtlnklkedpknbpaaGreatDoorPackM
import Derived.Test.YtlnklkedpknbpaaGreatDoorIns
import Derived.Test.YtlnklkedpknbpaaGreatDoorConsChk
import Derived.Test.YtlnklkedpknbpaaGreatDoorMayNil
namespace Go.Proofs.YtlnklkedpknbpaaGreatDoor
open Go Go.RowKit Go.Sort
instance instStm : Inhabited Stm := ⟨stmZ⟩
/-- by moment, then by number -/
def cfS (a b : Stm) : Int := if Lib.compareInt a.at' b.at' ≠ 0 then Lib.compareInt a.at' b.at' else Lib.compareInt a.no b.no
theorem cmpI_neg (x y : Int) : (Lib.compareInt x y < 0 ↔ x < y) ∧ (Lib.compareInt x y = 0 ↔ x = y) := by
  unfold Lib.compareInt
  split
  · simp; omega
  · split <;> simp <;> omega
theorem ltS_iff (a b : Stm) : ltOf cfS a b = true ↔ ahead a b := by
  unfold ltOf cfS ahead
  have h1 := cmpI_neg a.at' b.at'
  have h2 := cmpI_neg a.no b.no
  rw [decide_eq_true_eq]
  split <;> omega
theorem swoS : SWO (ltOf cfS) where
  irrefl := fun x => by
    rw [Bool.eq_false_iff]; intro h
    have := (ltS_iff x x).1 h
    unfold ahead at this; omega
  trans := fun x y z h1 h2 => by
    rw [ltS_iff] at h1 h2 ⊢
    unfold ahead at *; omega
  ntrans := fun x y z h1 h2 => by
    rw [Bool.eq_false_iff, ne_eq, ltS_iff] at h1 h2 ⊢
    unfold ahead at *; omega
def TwoStms (X Y : Nat) (a b : Stm) (w : World) : Prop := LV w X (stmCs a) 84 ∧ LV w Y (stmCs b) 84
set_option maxHeartbeats 2000000 in
set_option maxRecDepth 100000 in
theorem saidOrder_any (a b : Stm) (w : World) :
    Calls Tryz.prog 176 #[.agg (stmCs a), .agg (stmCs b)] w fun e w' => e = .returned (.int .i64 (cfS a b)) ∧ ∃ q os, w' = grow (w.drewN q) os := by
  obtain ⟨R, HR⟩ : ∃ R, Hid (cfS a b = R) := ⟨_, Lib.hid rfl⟩
  rw [HR.out]
  have lv1 := (LV.new w w.heap.size (stmCs a) 84 rfl).alloc (.cells (stmCs b) 84)
  have lv2 := LV.new (w.alloc (.cells (stmCs a) 84)) (w.heap.size + 1) (stmCs b) 84 (by simp)
  go_enter Tryz.func176, Tryz.ntmps176
  go_wp2_with fail
  refine wp_region_mix (TwoStms w.heap.size (w.heap.size + 1) a b) [(true, 0), (true, 1), (true, 2), (true, 3), (true, 5), (true, 6), (true, 7), (true, 8), (false, 4), (false, 9), (false, 10), (false, 11), (true, 12)] (by kernel_rfl) (by kernel_rfl) (fun w' hd => ⟨LV.keep (b := w.heap.size + 2) lv1 (SK.ofBelow (hd.below _)) (by omega), LV.keep (b := w.heap.size + 2) lv2 (SK.ofBelow (hd.below _)) (by omega)⟩) (fun KK hKK wd hd => ?_)
  have hC : TwoStms w.heap.size (w.heap.size + 1) a b wd := ⟨LV.keep (b := w.heap.size + 2) lv1 (SK.ofBelow (hd.below _)) (by omega), LV.keep (b := w.heap.size + 2) lv2 (SK.ofBelow (hd.below _)) (by omega)⟩
  have Hd : Hid (wd = ((w.alloc (.cells (stmCs a) 84)).alloc (.cells (stmCs b) 84)).drew) := hd
  clear lv1 lv2 hd
  repeat (refine mix_p rfl (fun K hK => ?_); go_simp; (try go_bits); (try simp (disch := omega) only [if_pos]); (try simp (disch := omega) only [if_neg]); (try simp (disch := omega) only [dif_pos]); (try simp (disch := omega) only [dif_neg]); (try go_simp); (refine hK _ ?_; clear hK K))
  refine mix_load (.int .i64 a.at') rfl rfl rfl rfl (fun _ => rfl) (fun w' h => h.1.cell 1 _ rfl) ?_
  repeat (refine mix_p rfl (fun K hK => ?_); go_simp; (try go_bits); (try simp (disch := omega) only [if_pos]); (try simp (disch := omega) only [if_neg]); (try simp (disch := omega) only [dif_pos]); (try simp (disch := omega) only [dif_neg]); (try go_simp); (refine hK _ ?_; clear hK K))
  refine mix_load (.int .i64 b.at') rfl rfl rfl rfl (fun _ => rfl) (fun w' h => h.2.cell 1 _ rfl) ?_
  repeat (refine mix_p rfl (fun K hK => ?_); go_simp; (try go_bits); (try simp (disch := omega) only [if_pos]); (try simp (disch := omega) only [if_neg]); (try simp (disch := omega) only [dif_pos]); (try simp (disch := omega) only [dif_neg]); (try go_simp); (refine hK _ ?_; clear hK K))
  refine mix_load (.int .i64 a.no) rfl rfl rfl rfl (fun _ => rfl) (fun w' h => h.1.cell 0 _ rfl) ?_
  repeat (refine mix_p rfl (fun K hK => ?_); go_simp; (try go_bits); (try simp (disch := omega) only [if_pos]); (try simp (disch := omega) only [if_neg]); (try simp (disch := omega) only [dif_pos]); (try simp (disch := omega) only [dif_neg]); (try go_simp); (refine hK _ ?_; clear hK K))
  refine mix_load (.int .i64 b.no) rfl rfl rfl rfl (fun _ => rfl) (fun w' h => h.2.cell 0 _ rfl) ?_
  refine mix_l rfl (fun K hK => ?_) hC
  go_wp2_with fail
  ((with_reducible refine (cmpInt_any a.at' b.at' _).mono ?_); rintro e _ ⟨rfl, rfl⟩)
  go_wp2_with fail
  refine ⟨hC, ?_⟩
  refine mix_l rfl (fun K hK => ?_) hC
  go_wp2_with fail
  ((with_reducible refine (cmpInt_any a.no b.no _).mono ?_); rintro e _ ⟨rfl, rfl⟩)
  go_wp2_with fail
  refine ⟨hC, ?_⟩
  refine mix_l rfl (fun K hK => ?_) hC
  go_wp2_with fail
  have hC2 : TwoStms w.heap.size (w.heap.size + 1) a b (wd.alloc (.cells #[.int .i64 (Lib.compareInt a.at' b.at'), .int .i64 (Lib.compareInt a.no b.no)] 3)) := ⟨hC.1.alloc _, hC.2.alloc _⟩
  refine ⟨hC2, ?_⟩
  refine mix_l rfl (fun K hK => ?_) hC2
  have c0 : (wd.alloc (.cells #[.int .i64 (Lib.compareInt a.at' b.at'), .int .i64 (Lib.compareInt a.no b.no)] 3)).cell? ⟨wd.heap.size, 0, none⟩ = some (.int .i64 (Lib.compareInt a.at' b.at')) := by rw [World.cell?_alloc_at _ _ _ _ rfl]; rfl
  have c1 : (wd.alloc (.cells #[.int .i64 (Lib.compareInt a.at' b.at'), .int .i64 (Lib.compareInt a.no b.no)] 3)).cell? ⟨wd.heap.size, 1, none⟩ = some (.int .i64 (Lib.compareInt a.no b.no)) := by rw [World.cell?_alloc_at _ _ _ _ rfl]; rfl
  have Hor := Lib.hid (or_any wd.heap.size _ _ _ c0 c1)
  clear c0 c1
  have HR2 : Hid ((if Lib.compareInt a.at' b.at' ≠ 0 then Lib.compareInt a.at' b.at' else Lib.compareInt a.no b.no) = R) := HR
  rw [HR2.out] at Hor
  clear HR HR2
  go_wp2_with fail
  ((with_reducible refine (Hor.out).mono ?_); rintro e _ ⟨rfl, rfl⟩)
  go_wp2_with fail
  refine ⟨hC2, ?_⟩
  repeat (refine mix_p rfl (fun K hK => ?_); go_simp; (try go_bits); (try simp (disch := omega) only [if_pos]); (try simp (disch := omega) only [if_neg]); (try simp (disch := omega) only [dif_pos]); (try simp (disch := omega) only [dif_neg]); (try go_simp); (refine hK _ ?_; clear hK K))
  refine mix_nil ?_
  simp only [Exit.then]
  refine hKK _ _ ?_
  go_wp2_with fail
  go_ret
  refine ⟨rfl, 1, #[.cells (stmCs a) 84, .cells (stmCs b) 84, .cells #[.int .i64 (Lib.compareInt a.at' b.at'), .int .i64 (Lib.compareInt a.no b.no)] 3], ?_⟩
  rw [Hd.out]
  generalize Obj.cells (stmCs a) 84 = o1
  generalize Obj.cells (stmCs b) 84 = o2
  generalize Obj.cells #[.int .i64 (Lib.compareInt a.at' b.at'), .int .i64 (Lib.compareInt a.no b.no)] 3 = o3
  unfold grow
  rw [show (w.drewN 1).heap ++ #[o1, o2, o3] = ((w.heap.push o1).push o2).push o3 by
    show w.heap ++ #[o1, o2, o3] = _
    rw [show #[o1, o2, o3] = ((#[].push o1).push o2).push o3 from rfl, Array.append_push, Array.append_push, Array.append_push, Array.append_empty]]
  rfl
theorem insS_any {w0 w : World} {cs : List Chunk} {B g n cap : Nat} {l : List Stm} (S : Mem w0 w (.own rStm B 84 (.slice (some ⟨g, 0, none⟩) n cap) l :: cs)) (hn : n = l.length) (hl : l.length ≤ 1000000) :
    Calls Tryz.prog 223 #[.slice (some ⟨g, 0, none⟩) n cap, .int .i64 0, .int .i64 n, .func (.func 176) #[] #[]] w fun e w' => e = .returned (.tuple #[]) ∧ ∃ l' : List Stm, l'.Perm l ∧ l'.Pairwise (fun a b => ¬ ahead b a) ∧ Mem w0 w' (.own rStm B 84 (.slice (some ⟨g, 0, none⟩) n cap) l' :: cs) := by
  have eg : ∀ args w, (callFunc 176 args).run Tryz.prog w = .ok (.enter 176 args) w := enters_of Tryz.func176 (by kernel_rfl) rfl
  have hg : g < w.heap.size := S.lt (List.mem_cons_self ..) rfl
  have hcon := AnyQ.insertionSortCmpFunc Tryz.laysIns223 8 Tryz.isAgg84 Tryz.sizeOf84 Stm.cells (fun _ => rfl) (fun x v hv => by
    simp only [Stm.cells, List.mem_cons, List.not_mem_nil, or_false] at hv
    rcases hv with rfl | rfl | rfl | rfl | rfl | rfl | rfl | rfl <;> rfl) cfS 176 #[] g 0 cap 0 n l.toArray w eg (fun m os dk hs x y => saidOrder_any x y _) (Own.holdsK flatStm (by decide) (S.ow 0 rfl) hn (fun _ => rfl)) hg (Nat.zero_le _) (by simp [hn]) (by simp; omega)
  have hsort := insertionSort_holds swoS l.toArray 0 n (Nat.zero_le _) (by simp [hn])
  subst hn
  rw [show l.toArray.size = l.length by simp] at hcon
  refine hcon.mono fun e w' => ?_
  rintro ⟨rfl, m, os, rfl⟩
  obtain ⟨hp, hso⟩ := hsort
  generalize Sort.insertionSort (ltOf cfS) l.toArray 0 l.length = d' at hp hso ⊢
  have hsz : d'.size = l.length := by rw [hp.1]; simp
  have hperm : d'.toList.Perm l := by
    have := hp.2.2
    rw [show d'.extract 0 l.length = d' by rw [← hsz]; simp] at this
    simpa using this
  refine ⟨rfl, d'.toList, hperm, ?_, ?_⟩
  · refine List.pairwise_iff_getElem.2 fun i j hi hj hij => ?_
    have h1 := hso i j (Nat.zero_le _) hij (by simpa [hsz] using hj)
    have hi' : i < d'.size := by simpa using hi
    have hj' : j < d'.size := by simpa using hj
    rw [getElem!_pos d' i hi', getElem!_pos d' j hj'] at h1
    intro h
    rw [Bool.eq_false_iff, ne_eq, ltS_iff] at h1
    exact h1 (by simpa using h)
  · have := S.sortedK flatStm (by decide) (fun _ => rfl) 0 rfl (m := m) (os := os) (ts := d'.toList) (by simpa using hsz)
    rw [show rStm.size = 8 from rfl] at this
    simpa using this
theorem insNone_any (v : Value) (w : World) : Calls Tryz.prog 205 #[.slice none 0 0, .int .i64 0, v] w fun e w' => e = .returned (.tuple #[]) ∧ w = w' := stableNil_any v w
set_option maxRecDepth 100000 in
theorem sortS_any {w0 w : World} {cs : List Chunk} {B : Nat} {v : Value} {l : List Stm} (S : Mem w0 w (.own rStm B 84 v l :: cs)) (hl : l.length ≤ 19) (hv : l = [] → v = .slice none 0 0) :
    Calls Tryz.prog 175 #[v, .func (.func 176) #[] #[]] w fun e w' => e = .returned (.tuple #[]) ∧ ∃ l' : List Stm, l'.Perm l ∧ l'.Pairwise (fun a b => ¬ ahead b a) ∧ Mem w0 w' (.own rStm B 84 v l' :: cs) := by
  by_cases h0 : l.length = 0
  · obtain rfl := List.length_eq_zero_iff.1 h0
    obtain rfl := hv rfl
    exact (sortNil_any _ w).mono fun e w' ⟨h1, h2⟩ => ⟨h1, [], List.Perm.refl _, List.Pairwise.nil, h2 ▸ S⟩
  · obtain ⟨g, cap, rfl, hcap⟩ := (S.ow 0 rfl).form (by omega)
    have Hi := Lib.hid (insS_any S rfl (by omega))
    clear S
    go_enter Tryz.func175, Tryz.ntmps175
    go_wp2_with fail
    have Hs : Calls Tryz.prog 205 #[.slice (some ⟨g, 0, none⟩) l.length cap, .int .i64 l.length, .func (.func 176) #[] #[]] w fun e w' => e = .returned (.tuple #[]) ∧ ∃ l' : List Stm, l'.Perm l ∧ l'.Pairwise (fun a b => ¬ ahead b a) ∧ Mem w0 w' (.own rStm B 84 (.slice (some ⟨g, 0, none⟩) l.length cap) l' :: cs) := by
      go_enter Tryz.func205, Tryz.ntmps205
      go_wp2_with fail
      go_loopw [7, 8] (fun a b wr => a = .int .i64 0 ∧ b = .int .i64 20 ∧ w = wr) (fun _ _ _ => 0)
      case atStart => exact ⟨rfl, rfl, rfl⟩
      case round =>
        obtain ⟨rfl, rfl, rfl⟩ := hrel
        go_wp2_with fail
        ((with_reducible refine (Hi.out).mono ?_); rintro e w2 ⟨rfl, hrest⟩)
        have Hr := Lib.hid hrest
        clear hrest Hi
        go_wp2_with fail
        go_loopw [6] (fun a wr => a = .int .i64 20 ∧ w2 = wr) (fun _ _ => 0)
        case atStart => exact ⟨rfl, rfl⟩
        case round =>
          obtain ⟨rfl, rfl⟩ := hrel
          go_wp2_with fail
          go_end0
          exact ⟨rfl, Hr.out⟩
    ((with_reducible refine (Hs).mono ?_); rintro e w2 ⟨rfl, hrest⟩)
    have Hr := Lib.hid hrest
    clear hrest Hi Hs
    go_wp2_with fail
    go_end0
    exact ⟨rfl, Hr.out⟩
/-- what an id said through a channel, in order -/
structure IsOf (k : Int) (t : ByteArray) (ch : Int) (l U : List Stm) : Prop where
  ord : U.Pairwise ahead
  mem : ∀ s, s ∈ U ↔ s ∈ l ∧ ofB k t ch s = true
  len : U.length ≤ l.length
theorem oneStmS (t : Stm) : ∀ u ∈ t.cells, u.oneCell' = true := fun u hu => by
  simp only [Stm.cells, List.mem_cons, List.not_mem_nil, or_false] at hu
  rcases hu with rfl | rfl | rfl | rfl | rfl | rfl | rfl | rfl <;> rfl
theorem tySaid : STy 120 84 rStm.size 88 (.agg #[.int .i64 0, .int .i64 0, .int .i64 0, .string ⟨#[]⟩, .string ⟨#[]⟩, .string ⟨#[]⟩, .int .i64 0, .int .i64 0]) := ⟨Tryz.underlying120, by kernel_rfl, rfl, by decide⟩
set_option maxHeartbeats 4000000 in
set_option maxRecDepth 100000 in
theorem saidBy_any (N : Nat → Prop) (Al : Option Addr) (l : List Stm) (cl : Nat) (k : Int) (t : ByteArray) (ch : Int) (w : World) (hL : Sl rStm N w Al l) (hl : l.length ≤ 19) (hno : l.Pairwise (fun a b => a.no < b.no)) :
    Calls Tryz.prog 133 #[.slice Al l.length cl, .agg #[.int .i64 k, .string t], .int .i64 ch] w fun e w' => ∃ A U c, e = .returned (.slice A U.length c) ∧ IsOf k t ch l U ∧ (U.length ≤ c ∧ (A = none → c = 0) ∧ ∀ a, A = some a → a.spot = none) ∧ Sl rStm (Lt w.heap.size) w' A U ∧ Below w.heap.size w w' := by
  have HL := Lib.hid hL
  have Hno := Lib.hid hno
  have S := ((Mem.start w).new' #[.int .i64 k, .string t] 29).nil rStm w.heap.size 84
  clear hL hno
  go_enter Tryz.func133, Tryz.ntmps133
  go_wp2_with fail
  generalize w.alloc (.cells #[.int .i64 k, .string t] 29) = w1 at *
  go_loopw [7, 12] (fun v i wr => ∃ (j : Nat) (U : List Stm), j ≤ l.length ∧ i = .int .i64 j ∧ U = (l.take j).filter (ofB k t ch) ∧ (U = [] → v = .slice none 0 0) ∧ Mem w wr [.own rStm w.heap.size 84 v U, .loc w.heap.size #[.int .i64 k, .string t] 29]) (fun _ i _ => l.length - (intOf i).toNat)
  case atStart => exact ⟨0, [], Nat.zero_le _, rfl, rfl, fun _ => rfl, S.swap⟩
  case round =>
    clear S
    obtain ⟨j, U, hj, rfl, hU, hv, S⟩ := hrel
    have HU := Lib.hid hU
    have Hv := Lib.hid hv
    have hUl : U.length ≤ 19 := by rw [hU]; exact Nat.le_trans (List.length_filter_le ..) (by rw [List.length_take]; omega)
    clear hU hv
    obtain ⟨Au, cu, rfl⟩ := (S.ow 0 rfl).len
    by_cases hlt : j < l.length
    · obtain ⟨s, hf⟩ : ∃ s, l[j]? = some s := ⟨_, List.getElem?_eq_getElem hlt⟩
      obtain ⟨blk, off, rfl, hblk, d0, d1, d2, d3, d4, d5, d6, d7⟩ := (HL.out.keepB S.b).stm j s hf
      have Hf := Lib.hid hf
      clear hf
      go_upto_region 5 with fail
      clear d0 d1 d2 d3 d4 d5 d6 d7
      obtain ⟨Y, hY⟩ : ∃ Y, Y = wr.heap.size := ⟨_, rfl⟩
      replace S := (S.newAt (stmCs s) 84 Y hY)
      rw [← hY]
      clear hY
      generalize wr.alloc (.cells (stmCs s) 84) = w2 at *
      have c1 := (S.lv 1 rfl).all
      have c2 := (S.lv 2 rfl).all
      obtain ⟨B, HB⟩ : ∃ B, Hid (ofB k t ch s = B) := ⟨_, Lib.hid rfl⟩
      go_cut [25] (fun s25 wx => s25 = .bool B ∧ w2 = wx)
      case first =>
        go_wp2_with fail
        all_goals (go_meet; exact ⟨by rw [← HB.out]; unfold ofB; first | rfl | (simp [*]; done) | (simp [*]; rfl), rfl⟩)
      case rest =>
        obtain ⟨rfl, rfl⟩ := hcut
        have HU2 : Hid ((l.take (j + 1)).filter (ofB k t ch) = if B = true then U ++ [s] else U) := by
          show _ = _
          rw [take_snoc Hf.out, List.filter_append, ← HU.out]
          rw [List.filter_cons, List.filter_nil, HB.out]
          cases B <;> simp
        cases B
        · go_wp2_with fail
          go_roundw
          case rel => exact ⟨j + 1, U, by omega, by go_num, by rw [HU2.out]; rfl, Hv.out, S.del 2⟩
          case measure => simp [intOf]; omega
        · have hsz := S.b.size
          go_wp2_with (at_builtin; refine S.app 0 rfl tySaid rfl _ _ rfl s 1 rfl rfl rfl (oneStmS s) hsz (by omega) (by decide) ?_; intro v' w10 S6)
          go_roundw
          case rel => exact ⟨j + 1, U ++ [s], by omega, by go_num, by rw [HU2.out]; rfl, fun h => absurd h (by simp), S6.del 2⟩
          case measure => simp [intOf]; omega
    · have Hs := Lib.hid (sortS_any S hUl Hv.out)
      have HU2 : Hid (U = l.filter (ofB k t ch)) := by show _ = _; rw [HU.out, List.take_of_length_le (by omega)]
      have Hv2 := Lib.hid Hv.out
      clear S Hv HU
      go_wp2_with fail
      ((with_reducible refine (Hs.out).mono ?_); rintro e w2 ⟨rfl, U', hp, ho, S⟩)
      have Hp := Lib.hid hp
      have Ho := Lib.hid ho
      clear hp ho Hs
      go_wp2_with fail
      go_ret
      have hlen := Hp.out.length_eq
      have HA : Hid ((U'.length ≤ cu ∧ (Au = none → cu = 0) ∧ ∀ a, Au = some a → a.spot = none) ∧ Sl rStm (Lt w.heap.size) w2 Au U') := by
        obtain ⟨A2, c2, e2, hS⟩ := ((S.ow 0 rfl).flatM flatStm (M' := Lt w.heap.size)).toSlC (fun k h1 h2 => by unfold Lt at h2; omega)
        simp only [Value.slice.injEq] at e2
        obtain ⟨rfl, _, rfl⟩ := e2
        refine ⟨⟨hS.1, ?_⟩, hS.2⟩
        by_cases h0 : U'.length = 0
        · have := Hv2.out (List.length_eq_zero_iff.1 (by omega))
          simp only [Value.slice.injEq] at this
          obtain ⟨rfl, _, rfl⟩ := this
          exact ⟨fun _ => rfl, fun a h => by cases h⟩
        · obtain ⟨g, cap, e3, _⟩ := (S.ow 0 rfl).form (by omega)
          simp only [Value.slice.injEq] at e3
          obtain ⟨rfl, _, rfl⟩ := e3
          exact ⟨fun h => (by cases h), fun a h => (by cases h; rfl)⟩
      have eR : Value.slice Au U.length cu = .slice Au U'.length cu := by rw [hlen]
      refine ⟨Au, U', cu, congrArg Ending.returned eR, ⟨?_, fun s => ?_, ?_⟩, HA.out.1, HA.out.2, S.b⟩
      · have hpw : (l.filter (ofB k t ch)).Pairwise (fun a b => a.no < b.no) := Hno.out.filter _
        have hne : U'.Pairwise (fun a b => a.no ≠ b.no) := (Hp.out.pairwise_iff (fun {a b} h => fun e => h e.symm)).2 (by rw [HU2.out]; exact hpw.imp (fun h => by omega))
        exact (Ho.out.and hne).imp (fun {a b} h => by have h1 := h.1; have h2 := h.2; unfold ahead at h1 ⊢; omega)
      · rw [Hp.out.mem_iff, HU2.out, List.mem_filter]
      · rw [hlen, HU2.out]; exact List.length_filter_le ..
end Go.Proofs.YtlnklkedpknbpaaGreatDoor
