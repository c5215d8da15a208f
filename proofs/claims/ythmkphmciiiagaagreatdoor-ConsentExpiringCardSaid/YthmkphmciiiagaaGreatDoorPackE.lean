/- Several texts in one: Said, Obj, Grants, Allow. -/
import Derived.Test.YthmkphmciiiagaaGreatDoorAskLaw
import Derived.Test.YthmkphmciiiagaaGreatDoorPackM
import Derived.Test.YthmkphmciiiagaaGreatDoorIns
import Derived.Test.YthmkphmciiiagaaGreatDoorPackC
import Derived.Test.YthmkphmciiiagaaGreatDoorMayNil
/- What an id has said through a channel, in order: consent.saidBy. -/
namespace Go.Proofs.YthmkphmciiiagaaGreatDoor
open Go Go.RowKit Go.Sort
instance instStm : Inhabited Stm := ⟨stmZ⟩
/-- by moment, then by number -/
def cfS (a b : Stm) : Int := if Lib.compareInt a.at' b.at' ≠ 0 then Lib.compareInt a.at' b.at' else Lib.compareInt a.no b.no
theorem cmpI_neg (x y : Int) : (Lib.compareInt x y < 0 ↔ x < y) ∧ (Lib.compareInt x y = 0 ↔ x = y) := by
  unfold Lib.compareInt
  split
  · simp; omega
  · split <;> simp <;> omega
theorem ltS_iff (a b : Stm) : ltOf cfS a b = true ↔ ahead a b := by
  unfold ltOf cfS ahead
  have h1 := cmpI_neg a.at' b.at'
  have h2 := cmpI_neg a.no b.no
  rw [decide_eq_true_eq]
  split <;> omega
theorem swoS : SWO (ltOf cfS) where
  irrefl := fun x => by
    rw [Bool.eq_false_iff]; intro h
    have := (ltS_iff x x).1 h
    unfold ahead at this; omega
  trans := fun x y z h1 h2 => by
    rw [ltS_iff] at h1 h2 ⊢
    unfold ahead at *; omega
  ntrans := fun x y z h1 h2 => by
    rw [Bool.eq_false_iff, ne_eq, ltS_iff] at h1 h2 ⊢
    unfold ahead at *; omega
def TwoStms (X Y : Nat) (a b : Stm) (w : World) : Prop := LV w X (stmCs a) 38 ∧ LV w Y (stmCs b) 38
set_option maxHeartbeats 2000000 in
set_option maxRecDepth 100000 in
theorem saidOrder_any (a b : Stm) (w : World) :
    Calls Tryz.prog 211 #[.agg (stmCs a), .agg (stmCs b)] w fun e w' => e = .returned (.int .i64 (cfS a b)) ∧ ∃ q os, w' = grow (w.drewN q) os := by
  obtain ⟨R, HR⟩ : ∃ R, Hid (cfS a b = R) := ⟨_, Lib.hid rfl⟩
  rw [HR.out]
  have lv1 := (LV.new w w.heap.size (stmCs a) 38 rfl).alloc (.cells (stmCs b) 38)
  have lv2 := LV.new (w.alloc (.cells (stmCs a) 38)) (w.heap.size + 1) (stmCs b) 38 (by simp)
  go_enter Tryz.func211, Tryz.ntmps211
  go_wp2_with fail
  refine wp_region_mix (TwoStms w.heap.size (w.heap.size + 1) a b) [(true, 0), (true, 1), (true, 2), (true, 3), (true, 5), (true, 6), (true, 7), (true, 8), (false, 4), (false, 9), (false, 10), (false, 11), (true, 12)] (by kernel_rfl) (by kernel_rfl) (fun w' hd => ⟨LV.keep (b := w.heap.size + 2) lv1 (SK.ofBelow (hd.below _)) (by omega), LV.keep (b := w.heap.size + 2) lv2 (SK.ofBelow (hd.below _)) (by omega)⟩) (fun KK hKK wd hd => ?_)
  have hC : TwoStms w.heap.size (w.heap.size + 1) a b wd := ⟨LV.keep (b := w.heap.size + 2) lv1 (SK.ofBelow (hd.below _)) (by omega), LV.keep (b := w.heap.size + 2) lv2 (SK.ofBelow (hd.below _)) (by omega)⟩
  have Hd : Hid (wd = ((w.alloc (.cells (stmCs a) 38)).alloc (.cells (stmCs b) 38)).drew) := hd
  clear lv1 lv2 hd
  repeat (refine mix_p rfl (fun K hK => ?_); go_simp; (try go_bits); (try simp (disch := omega) only [if_pos]); (try simp (disch := omega) only [if_neg]); (try simp (disch := omega) only [dif_pos]); (try simp (disch := omega) only [dif_neg]); (try go_simp); (refine hK _ ?_; clear hK K))
  refine mix_load (.int .i64 a.at') rfl rfl rfl rfl (fun _ => rfl) (fun w' h => h.1.cell 1 _ rfl) ?_
  repeat (refine mix_p rfl (fun K hK => ?_); go_simp; (try go_bits); (try simp (disch := omega) only [if_pos]); (try simp (disch := omega) only [if_neg]); (try simp (disch := omega) only [dif_pos]); (try simp (disch := omega) only [dif_neg]); (try go_simp); (refine hK _ ?_; clear hK K))
  refine mix_load (.int .i64 b.at') rfl rfl rfl rfl (fun _ => rfl) (fun w' h => h.2.cell 1 _ rfl) ?_
  repeat (refine mix_p rfl (fun K hK => ?_); go_simp; (try go_bits); (try simp (disch := omega) only [if_pos]); (try simp (disch := omega) only [if_neg]); (try simp (disch := omega) only [dif_pos]); (try simp (disch := omega) only [dif_neg]); (try go_simp); (refine hK _ ?_; clear hK K))
  refine mix_load (.int .i64 a.no) rfl rfl rfl rfl (fun _ => rfl) (fun w' h => h.1.cell 0 _ rfl) ?_
  repeat (refine mix_p rfl (fun K hK => ?_); go_simp; (try go_bits); (try simp (disch := omega) only [if_pos]); (try simp (disch := omega) only [if_neg]); (try simp (disch := omega) only [dif_pos]); (try simp (disch := omega) only [dif_neg]); (try go_simp); (refine hK _ ?_; clear hK K))
  refine mix_load (.int .i64 b.no) rfl rfl rfl rfl (fun _ => rfl) (fun w' h => h.2.cell 0 _ rfl) ?_
  refine mix_l rfl (fun K hK => ?_) hC
  go_wp2_with fail
  ((with_reducible refine (cmpInt_any a.at' b.at' _).mono ?_); rintro e _ ⟨rfl, rfl⟩)
  go_wp2_with fail
  refine ⟨hC, ?_⟩
  refine mix_l rfl (fun K hK => ?_) hC
  go_wp2_with fail
  ((with_reducible refine (cmpInt_any a.no b.no _).mono ?_); rintro e _ ⟨rfl, rfl⟩)
  go_wp2_with fail
  refine ⟨hC, ?_⟩
  refine mix_l rfl (fun K hK => ?_) hC
  go_wp2_with fail
  have hC2 : TwoStms w.heap.size (w.heap.size + 1) a b (wd.alloc (.cells #[.int .i64 (Lib.compareInt a.at' b.at'), .int .i64 (Lib.compareInt a.no b.no)] 3)) := ⟨hC.1.alloc _, hC.2.alloc _⟩
  refine ⟨hC2, ?_⟩
  refine mix_l rfl (fun K hK => ?_) hC2
  have c0 : (wd.alloc (.cells #[.int .i64 (Lib.compareInt a.at' b.at'), .int .i64 (Lib.compareInt a.no b.no)] 3)).cell? ⟨wd.heap.size, 0, none⟩ = some (.int .i64 (Lib.compareInt a.at' b.at')) := by rw [World.cell?_alloc_at _ _ _ _ rfl]; rfl
  have c1 : (wd.alloc (.cells #[.int .i64 (Lib.compareInt a.at' b.at'), .int .i64 (Lib.compareInt a.no b.no)] 3)).cell? ⟨wd.heap.size, 1, none⟩ = some (.int .i64 (Lib.compareInt a.no b.no)) := by rw [World.cell?_alloc_at _ _ _ _ rfl]; rfl
  have Hor := Lib.hid (or_any wd.heap.size _ _ _ c0 c1)
  clear c0 c1
  have HR2 : Hid ((if Lib.compareInt a.at' b.at' ≠ 0 then Lib.compareInt a.at' b.at' else Lib.compareInt a.no b.no) = R) := HR
  rw [HR2.out] at Hor
  clear HR HR2
  go_wp2_with fail
  ((with_reducible refine (Hor.out).mono ?_); rintro e _ ⟨rfl, rfl⟩)
  go_wp2_with fail
  refine ⟨hC2, ?_⟩
  repeat (refine mix_p rfl (fun K hK => ?_); go_simp; (try go_bits); (try simp (disch := omega) only [if_pos]); (try simp (disch := omega) only [if_neg]); (try simp (disch := omega) only [dif_pos]); (try simp (disch := omega) only [dif_neg]); (try go_simp); (refine hK _ ?_; clear hK K))
  refine mix_nil ?_
  simp only [Exit.then]
  refine hKK _ _ ?_
  go_wp2_with fail
  go_ret
  refine ⟨rfl, 1, #[.cells (stmCs a) 38, .cells (stmCs b) 38, .cells #[.int .i64 (Lib.compareInt a.at' b.at'), .int .i64 (Lib.compareInt a.no b.no)] 3], ?_⟩
  rw [Hd.out]
  generalize Obj.cells (stmCs a) 38 = o1
  generalize Obj.cells (stmCs b) 38 = o2
  generalize Obj.cells #[.int .i64 (Lib.compareInt a.at' b.at'), .int .i64 (Lib.compareInt a.no b.no)] 3 = o3
  unfold grow
  rw [show (w.drewN 1).heap ++ #[o1, o2, o3] = ((w.heap.push o1).push o2).push o3 by
    show w.heap ++ #[o1, o2, o3] = _
    rw [show #[o1, o2, o3] = ((#[].push o1).push o2).push o3 from rfl, Array.append_push, Array.append_push, Array.append_push, Array.append_empty]]
  rfl
theorem insS_any {w0 w : World} {cs : List Chunk} {B g n cap : Nat} {l : List Stm} (S : Mem w0 w (.own rStm B 38 (.slice (some ⟨g, 0, none⟩) n cap) l :: cs)) (hn : n = l.length) (hl : l.length ≤ 1000000) :
    Calls Tryz.prog 241 #[.slice (some ⟨g, 0, none⟩) n cap, .int .i64 0, .int .i64 n, .func (.func 211) #[] #[]] w fun e w' => e = .returned (.tuple #[]) ∧ ∃ l' : List Stm, l'.Perm l ∧ l'.Pairwise (fun a b => ¬ ahead b a) ∧ Mem w0 w' (.own rStm B 38 (.slice (some ⟨g, 0, none⟩) n cap) l' :: cs) := by
  have eg : ∀ args w, (callFunc 211 args).run Tryz.prog w = .ok (.enter 211 args) w := enters_of Tryz.func211 (by kernel_rfl) rfl
  have hg : g < w.heap.size := S.lt (List.mem_cons_self ..) rfl
  have hcon := AnyQ.insertionSortCmpFunc Tryz.laysIns241 8 Tryz.isAgg38 Tryz.sizeOf38 Stm.cells (fun _ => rfl) (fun x v hv => by
    simp only [Stm.cells, List.mem_cons, List.not_mem_nil, or_false] at hv
    rcases hv with rfl | rfl | rfl | rfl | rfl | rfl | rfl | rfl <;> rfl) cfS 211 #[] g 0 cap 0 n l.toArray w eg (fun m os dk hs x y => saidOrder_any x y _) (Own.holdsK flatStm (by decide) (S.ow 0 rfl) hn (fun _ => rfl)) hg (Nat.zero_le _) (by simp [hn]) (by simp; omega)
  have hsort := insertionSort_holds swoS l.toArray 0 n (Nat.zero_le _) (by simp [hn])
  subst hn
  rw [show l.toArray.size = l.length by simp] at hcon
  refine hcon.mono fun e w' => ?_
  rintro ⟨rfl, m, os, rfl⟩
  obtain ⟨hp, hso⟩ := hsort
  generalize Sort.insertionSort (ltOf cfS) l.toArray 0 l.length = d' at hp hso ⊢
  have hsz : d'.size = l.length := by rw [hp.1]; simp
  have hperm : d'.toList.Perm l := by
    have := hp.2.2
    rw [show d'.extract 0 l.length = d' by rw [← hsz]; simp] at this
    simpa using this
  refine ⟨rfl, d'.toList, hperm, ?_, ?_⟩
  · refine List.pairwise_iff_getElem.2 fun i j hi hj hij => ?_
    have h1 := hso i j (Nat.zero_le _) hij (by simpa [hsz] using hj)
    have hi' : i < d'.size := by simpa using hi
    have hj' : j < d'.size := by simpa using hj
    rw [getElem!_pos d' i hi', getElem!_pos d' j hj'] at h1
    intro h
    rw [Bool.eq_false_iff, ne_eq, ltS_iff] at h1
    exact h1 (by simpa using h)
  · have := S.sortedK flatStm (by decide) (fun _ => rfl) 0 rfl (m := m) (os := os) (ts := d'.toList) (by simpa using hsz)
    rw [show rStm.size = 8 from rfl] at this
    simpa using this
theorem insNone_any (v : Value) (w : World) : Calls Tryz.prog 270 #[.slice none 0 0, .int .i64 0, v] w fun e w' => e = .returned (.tuple #[]) ∧ w = w' := stableNil_any v w
set_option maxRecDepth 100000 in
theorem sortS_any {w0 w : World} {cs : List Chunk} {B : Nat} {v : Value} {l : List Stm} (S : Mem w0 w (.own rStm B 38 v l :: cs)) (hl : l.length ≤ 19) (hv : l = [] → v = .slice none 0 0) :
    Calls Tryz.prog 210 #[v, .func (.func 211) #[] #[]] w fun e w' => e = .returned (.tuple #[]) ∧ ∃ l' : List Stm, l'.Perm l ∧ l'.Pairwise (fun a b => ¬ ahead b a) ∧ Mem w0 w' (.own rStm B 38 v l' :: cs) := by
  by_cases h0 : l.length = 0
  · obtain rfl := List.length_eq_zero_iff.1 h0
    obtain rfl := hv rfl
    exact (sortNil_any _ w).mono fun e w' ⟨h1, h2⟩ => ⟨h1, [], List.Perm.refl _, List.Pairwise.nil, h2 ▸ S⟩
  · obtain ⟨g, cap, rfl, hcap⟩ := (S.ow 0 rfl).form (by omega)
    have Hi := Lib.hid (insS_any S rfl (by omega))
    clear S
    go_enter Tryz.func210, Tryz.ntmps210
    go_wp2_with fail
    have Hs : Calls Tryz.prog 270 #[.slice (some ⟨g, 0, none⟩) l.length cap, .int .i64 l.length, .func (.func 211) #[] #[]] w fun e w' => e = .returned (.tuple #[]) ∧ ∃ l' : List Stm, l'.Perm l ∧ l'.Pairwise (fun a b => ¬ ahead b a) ∧ Mem w0 w' (.own rStm B 38 (.slice (some ⟨g, 0, none⟩) l.length cap) l' :: cs) := by
      go_enter Tryz.func270, Tryz.ntmps270
      go_wp2_with fail
      go_loopw [7, 8] (fun a b wr => a = .int .i64 0 ∧ b = .int .i64 20 ∧ w = wr) (fun _ _ _ => 0)
      case atStart => exact ⟨rfl, rfl, rfl⟩
      case round =>
        obtain ⟨rfl, rfl, rfl⟩ := hrel
        go_wp2_with fail
        ((with_reducible refine (Hi.out).mono ?_); rintro e w2 ⟨rfl, hrest⟩)
        have Hr := Lib.hid hrest
        clear hrest Hi
        go_wp2_with fail
        go_loopw [6] (fun a wr => a = .int .i64 20 ∧ w2 = wr) (fun _ _ => 0)
        case atStart => exact ⟨rfl, rfl⟩
        case round =>
          obtain ⟨rfl, rfl⟩ := hrel
          go_wp2_with fail
          go_end0
          exact ⟨rfl, Hr.out⟩
    ((with_reducible refine (Hs).mono ?_); rintro e w2 ⟨rfl, hrest⟩)
    have Hr := Lib.hid hrest
    clear hrest Hi Hs
    go_wp2_with fail
    go_end0
    exact ⟨rfl, Hr.out⟩
/-- what an id said through a channel, in order -/
structure IsOf (k : Int) (t : ByteArray) (ch : Int) (l U : List Stm) : Prop where
  ord : U.Pairwise ahead
  mem : ∀ s, s ∈ U ↔ s ∈ l ∧ ofB k t ch s = true
  len : U.length ≤ l.length
theorem oneStmS (t : Stm) : ∀ u ∈ t.cells, u.oneCell' = true := fun u hu => by
  simp only [Stm.cells, List.mem_cons, List.not_mem_nil, or_false] at hu
  rcases hu with rfl | rfl | rfl | rfl | rfl | rfl | rfl | rfl <;> rfl
theorem tySaid : STy 100 38 rStm.size 88 (.agg #[.int .i64 0, .int .i64 0, .int .i64 0, .string ⟨#[]⟩, .string ⟨#[]⟩, .string ⟨#[]⟩, .int .i64 0, .int .i64 0]) := ⟨Tryz.underlying100, by kernel_rfl, rfl, by decide⟩
set_option maxHeartbeats 4000000 in
set_option maxRecDepth 100000 in
theorem saidBy_any (N : Nat → Prop) (Al : Option Addr) (l : List Stm) (cl : Nat) (k : Int) (t : ByteArray) (ch : Int) (w : World) (hL : Sl rStm N w Al l) (hl : l.length ≤ 19) (hno : l.Pairwise (fun a b => a.no < b.no)) :
    Calls Tryz.prog 135 #[.slice Al l.length cl, .agg #[.int .i64 k, .string t], .int .i64 ch] w fun e w' => ∃ A U c, e = .returned (.slice A U.length c) ∧ IsOf k t ch l U ∧ (U.length ≤ c ∧ (A = none → c = 0) ∧ ∀ a, A = some a → a.spot = none) ∧ Sl rStm (Lt w.heap.size) w' A U ∧ Below w.heap.size w w' := by
  have HL := Lib.hid hL
  have Hno := Lib.hid hno
  have S := ((Mem.start w).new' #[.int .i64 k, .string t] 29).nil rStm w.heap.size 38
  clear hL hno
  go_enter Tryz.func135, Tryz.ntmps135
  go_wp2_with fail
  generalize w.alloc (.cells #[.int .i64 k, .string t] 29) = w1 at *
  go_loopw [7, 12] (fun v i wr => ∃ (j : Nat) (U : List Stm), j ≤ l.length ∧ i = .int .i64 j ∧ U = (l.take j).filter (ofB k t ch) ∧ (U = [] → v = .slice none 0 0) ∧ Mem w wr [.own rStm w.heap.size 38 v U, .loc w.heap.size #[.int .i64 k, .string t] 29]) (fun _ i _ => l.length - (intOf i).toNat)
  case atStart => exact ⟨0, [], Nat.zero_le _, rfl, rfl, fun _ => rfl, S.swap⟩
  case round =>
    clear S
    obtain ⟨j, U, hj, rfl, hU, hv, S⟩ := hrel
    have HU := Lib.hid hU
    have Hv := Lib.hid hv
    have hUl : U.length ≤ 19 := by rw [hU]; exact Nat.le_trans (List.length_filter_le ..) (by rw [List.length_take]; omega)
    clear hU hv
    obtain ⟨Au, cu, rfl⟩ := (S.ow 0 rfl).len
    by_cases hlt : j < l.length
    · obtain ⟨s, hf⟩ : ∃ s, l[j]? = some s := ⟨_, List.getElem?_eq_getElem hlt⟩
      obtain ⟨blk, off, rfl, hblk, d0, d1, d2, d3, d4, d5, d6, d7⟩ := (HL.out.keepB S.b).stm j s hf
      have Hf := Lib.hid hf
      clear hf
      go_upto_region 5 with fail
      clear d0 d1 d2 d3 d4 d5 d6 d7
      obtain ⟨Y, hY⟩ : ∃ Y, Y = wr.heap.size := ⟨_, rfl⟩
      replace S := (S.newAt (stmCs s) 38 Y hY)
      rw [← hY]
      clear hY
      generalize wr.alloc (.cells (stmCs s) 38) = w2 at *
      have c1 := (S.lv 1 rfl).all
      have c2 := (S.lv 2 rfl).all
      obtain ⟨B, HB⟩ : ∃ B, Hid (ofB k t ch s = B) := ⟨_, Lib.hid rfl⟩
      go_cut [25] (fun s25 wx => s25 = .bool B ∧ w2 = wx)
      case first =>
        go_wp2_with fail
        all_goals (go_meet; exact ⟨by rw [← HB.out]; unfold ofB; first | rfl | (simp [*]; done) | (simp [*]; rfl), rfl⟩)
      case rest =>
        obtain ⟨rfl, rfl⟩ := hcut
        have HU2 : Hid ((l.take (j + 1)).filter (ofB k t ch) = if B = true then U ++ [s] else U) := by
          show _ = _
          rw [take_snoc Hf.out, List.filter_append, ← HU.out]
          rw [List.filter_cons, List.filter_nil, HB.out]
          cases B <;> simp
        cases B
        · go_wp2_with fail
          go_roundw
          case rel => exact ⟨j + 1, U, by omega, by go_num, by rw [HU2.out]; rfl, Hv.out, S.del 2⟩
          case measure => simp [intOf]; omega
        · have hsz := S.b.size
          go_wp2_with (at_builtin; refine S.app 0 rfl tySaid rfl _ _ rfl s 1 rfl rfl rfl (oneStmS s) hsz (by omega) (by decide) ?_; intro v' w10 S6)
          go_roundw
          case rel => exact ⟨j + 1, U ++ [s], by omega, by go_num, by rw [HU2.out]; rfl, fun h => absurd h (by simp), S6.del 2⟩
          case measure => simp [intOf]; omega
    · have Hs := Lib.hid (sortS_any S hUl Hv.out)
      have HU2 : Hid (U = l.filter (ofB k t ch)) := by show _ = _; rw [HU.out, List.take_of_length_le (by omega)]
      have Hv2 := Lib.hid Hv.out
      clear S Hv HU
      go_wp2_with fail
      ((with_reducible refine (Hs.out).mono ?_); rintro e w2 ⟨rfl, U', hp, ho, S⟩)
      have Hp := Lib.hid hp
      have Ho := Lib.hid ho
      clear hp ho Hs
      go_wp2_with fail
      go_ret
      have hlen := Hp.out.length_eq
      have HA : Hid ((U'.length ≤ cu ∧ (Au = none → cu = 0) ∧ ∀ a, Au = some a → a.spot = none) ∧ Sl rStm (Lt w.heap.size) w2 Au U') := by
        obtain ⟨A2, c2, e2, hS⟩ := ((S.ow 0 rfl).flatM flatStm (M' := Lt w.heap.size)).toSlC (fun k h1 h2 => by unfold Lt at h2; omega)
        simp only [Value.slice.injEq] at e2
        obtain ⟨rfl, _, rfl⟩ := e2
        refine ⟨⟨hS.1, ?_⟩, hS.2⟩
        by_cases h0 : U'.length = 0
        · have := Hv2.out (List.length_eq_zero_iff.1 (by omega))
          simp only [Value.slice.injEq] at this
          obtain ⟨rfl, _, rfl⟩ := this
          exact ⟨fun _ => rfl, fun a h => by cases h⟩
        · obtain ⟨g, cap, e3, _⟩ := (S.ow 0 rfl).form (by omega)
          simp only [Value.slice.injEq] at e3
          obtain ⟨rfl, _, rfl⟩ := e3
          exact ⟨fun h => (by cases h), fun a h => (by cases h; rfl)⟩
      have eR : Value.slice Au U.length cu = .slice Au U'.length cu := by rw [hlen]
      refine ⟨Au, U', cu, congrArg Ending.returned eR, ⟨?_, fun s => ?_, ?_⟩, HA.out.1, HA.out.2, S.b⟩
      · have hpw : (l.filter (ofB k t ch)).Pairwise (fun a b => a.no < b.no) := Hno.out.filter _
        have hne : U'.Pairwise (fun a b => a.no ≠ b.no) := (Hp.out.pairwise_iff (fun {a b} h => fun e => h e.symm)).2 (by rw [HU2.out]; exact hpw.imp (fun h => by omega))
        exact (Ho.out.and hne).imp (fun {a b} h => by have h1 := h.1; have h2 := h.2; unfold ahead at h1 ⊢; omega)
      · rw [Hp.out.mem_iff, HU2.out, List.mem_filter]
      · rw [hlen, HU2.out]; exact List.length_filter_le ..
end Go.Proofs.YthmkphmciiiagaaGreatDoor

/- What the steps of consent's answer return: objected, grants, confirmation, stateOf, rank. -/
namespace Go.Proofs.YthmkphmciiiagaaGreatDoor
open Go Go.RowKit
theorem results_tt {P : Program} {fn : Func} {s t : Tmp} {v u : Value} {w : World} {tmps : Array Value} (h : fn.results = #[.tmp s, .tmp t]) (hs : tmps.getD s undef = v) (ht : tmps.getD t undef = u) : (results fn tmps).run P w = .ok (.tuple #[v, u]) w := by
  have hs' : tmps[s]?.getD undef = v := by simpa using hs
  have ht' : tmps[t]?.getD undef = u := by simpa using ht
  simp [results, h, hs', ht']
set_option maxHeartbeats 4000000 in
set_option maxRecDepth 100000 in
theorem objected_any (N : Nat → Prop) (A : Option Addr) (U : List Stm) (c : Nat) (w : World) (hS : Sl rStm N w A U) (hl : U.length ≤ 1000000) :
    Calls Tryz.prog 137 #[.slice A U.length c] w fun e w' => e = .returned (.tuple #[.int .i64 (objGo 0 (-1) false U).1, .bool (objGo 0 (-1) false U).2]) ∧ Below w.heap.size w w' := by
  have HL := Lib.hid hS
  have S := Mem.start w
  clear hS
  obtain ⟨R, HR⟩ : ∃ R, Hid (objGo 0 (-1) false U = R) := ⟨_, Lib.hid rfl⟩
  rw [HR.out]
  go_enter Tryz.func137, Tryz.ntmps137
  go_wp2_with fail
  go_loopw [4, 5, 6, 11] (fun a b d i wr => ∃ (j : Nat) (no last : Int) (is : Bool), j ≤ U.length ∧ i = .int .i64 j ∧ a = .int .i64 no ∧ b = .int .i64 last ∧ d = .bool is ∧ Hid (objGo no last is (U.drop j) = R) ∧ Mem w wr []) (fun _ _ _ i _ => U.length - (intOf i).toNat)
  case atStart => exact ⟨0, 0, -1, false, Nat.zero_le _, rfl, rfl, rfl, rfl, HR, S⟩
  case round =>
    clear S HR
    obtain ⟨j, no, last, is, hj, rfl, rfl, rfl, rfl, HR, S⟩ := hrel
    by_cases hlt : j < U.length
    · obtain ⟨s, hf⟩ : ∃ s, U[j]? = some s := ⟨_, List.getElem?_eq_getElem hlt⟩
      obtain ⟨blk, off, rfl, hblk, d0, d1, d2, d3, d4, d5, d6, d7⟩ := (HL.out.keepB S.b).stm j s hf
      have Hf := Lib.hid hf
      clear hf
      go_upto_region 5 with fail
      clear d0 d1 d2 d3 d4 d5 d6 d7
      obtain ⟨Y, hY⟩ : ∃ Y, Y = wr.heap.size := ⟨_, rfl⟩
      replace S := (S.newAt (stmCs s) 38 Y hY).front
      rw [← hY]
      clear hY
      generalize wr.alloc (.cells (stmCs s) 38) = w2 at *
      have HR2 : Hid (objGo no last is (s :: U.drop (j + 1)) = R) := by show _ = _; rw [← HR.out, drop_at3 Hf.out]
      have c0 := (S.lv 0 rfl).all
      obtain ⟨W, HW⟩ : ∃ W, Hid (whole s.what = W) := ⟨_, Lib.hid rfl⟩
      have C6 : Hid (∀ w, Calls Tryz.prog 61 #[.int .i64 s.what] w fun e w' => e = .returned (.bool W) ∧ w = w') := fun w => HW.out ▸ ofChannel_any s.what w
      cases W
      · have HR3 : Hid (objGo no last is (U.drop (j + 1)) = R) := by show _ = _; rw [← HR2.out, objGo, if_pos HW.out]
        go_wp2_with fail
        ((with_reducible refine (C6.out _).mono ?_); rintro e _ ⟨rfl, rfl⟩)
        go_wp2_with fail
        go_roundw
        case rel => exact ⟨j + 1, no, last, is, by omega, by go_num, rfl, rfl, rfl, HR3, by first | exact S.del 0 | exact (S.del 0).below (below_drewN _ _ _)⟩
        case measure => simp [intOf]; omega
      · by_cases hla : last < s.at'
        · by_cases h4' : s.what = 4
          · have HR3 : Hid (objGo s.no s.at' true (U.drop (j + 1)) = R) := by show _ = _; rw [← HR2.out, objGo, if_neg (by simp [HW.out]), if_pos hla, if_pos h4']
            have h4 : (s.what == 4) = true := by simpa using h4'
            clear h4' HR HR2 HW
            go_wp2_with fail
            ((with_reducible refine (C6.out _).mono ?_); rintro e _ ⟨rfl, rfl⟩)
            go_wp2_with fail
            go_quiet (fail)
            go_wp2_with fail
            go_roundw
            case rel => exact ⟨j + 1, s.no, s.at', true, by omega, by go_num, rfl, rfl, rfl, HR3, by first | exact S.del 0 | exact (S.del 0).below (below_drewN _ _ _)⟩
            case measure => simp [intOf]; omega
          · have HR3 : Hid (objGo 0 s.at' false (U.drop (j + 1)) = R) := by show _ = _; rw [← HR2.out, objGo, if_neg (by simp [HW.out]), if_pos hla, if_neg h4']
            have h4 : (s.what == 4) = false := by simpa using h4'
            clear h4' HR HR2 HW
            go_wp2_with fail
            ((with_reducible refine (C6.out _).mono ?_); rintro e _ ⟨rfl, rfl⟩)
            go_wp2_with fail
            go_quiet (fail)
            go_wp2_with fail
            go_roundw
            case rel => exact ⟨j + 1, 0, s.at', false, by omega, by go_num, rfl, rfl, rfl, HR3, by first | exact S.del 0 | exact (S.del 0).below (below_drewN _ _ _)⟩
            case measure => simp [intOf]; omega
        · by_cases h4' : s.what = 4 ∧ is = false
          · have HR3 : Hid (objGo s.no last true (U.drop (j + 1)) = R) := by show _ = _; rw [← HR2.out, objGo, if_neg (by simp [HW.out]), if_neg hla, if_pos h4']
            have h4 : (s.what == 4) = true := by simpa using h4'.1
            obtain ⟨h9, rfl⟩ := h4'
            clear h9 HR HR2 HW
            go_wp2_with fail
            ((with_reducible refine (C6.out _).mono ?_); rintro e _ ⟨rfl, rfl⟩)
            go_wp2_with fail
            go_roundw
            case rel => exact ⟨j + 1, s.no, last, true, by omega, by go_num, rfl, rfl, rfl, HR3, by first | exact S.del 0 | exact (S.del 0).below (below_drewN _ _ _)⟩
            case measure => simp [intOf]; omega
          · have HR3 : Hid (objGo no last is (U.drop (j + 1)) = R) := by show _ = _; rw [← HR2.out, objGo, if_neg (by simp [HW.out]), if_neg hla, if_neg h4']
            by_cases h4 : (s.what == 4) = true
            · obtain rfl : true = is := by
                cases is with
                | true => rfl
                | false => exact absurd ⟨by simpa using h4, rfl⟩ h4'
              clear h4' HR HR2 HW
              go_wp2_with fail
              ((with_reducible refine (C6.out _).mono ?_); rintro e _ ⟨rfl, rfl⟩)
              go_wp2_with fail
              go_roundw
              case rel => exact ⟨j + 1, no, last, true, by omega, by go_num, rfl, rfl, rfl, HR3, by first | exact S.del 0 | exact (S.del 0).below (below_drewN _ _ _)⟩
              case measure => simp [intOf]; omega
            · replace h4 : (s.what == 4) = false := by simpa using h4
              clear h4' HR HR2 HW
              go_wp2_with fail
              ((with_reducible refine (C6.out _).mono ?_); rintro e _ ⟨rfl, rfl⟩)
              go_wp2_with fail
              go_roundw
              case rel => exact ⟨j + 1, no, last, is, by omega, by go_num, rfl, rfl, rfl, HR3, by first | exact S.del 0 | exact (S.del 0).below (below_drewN _ _ _)⟩
              case measure => simp [intOf]; omega
    · go_wp2_with fail
      refine bodyPost_ret (results_tt rfl rfl rfl) rfl ⟨?_, S.b⟩
      rw [← HR.out, List.drop_eq_nil_of_le (by omega)]
      rfl
end Go.Proofs.YthmkphmciiiagaaGreatDoor

/- What consent's grants, confirmation, stateOf and rank return. -/
namespace Go.Proofs.YthmkphmciiiagaaGreatDoor
open Go Go.RowKit
theorem heap_fillS {w : World} {X k : Nat} (h : k ≠ X) (s : Stm) : (fillS w X s).heap[k]? = w.heap[k]? := by
  unfold fillS
  rw [Below.heap_setCell _ _ _ _ h, Below.heap_setCell _ _ _ _ h, Below.heap_setCell _ _ _ _ h, Below.heap_setCell _ _ _ _ h, Below.heap_setCell _ _ _ _ h, Below.heap_setCell _ _ _ _ h, Below.heap_setCell _ _ _ _ h, Below.heap_setCell _ _ _ _ h]
theorem Mem.fillStm {w0 w : World} {cs : List Chunk} (S : Mem w0 w cs) (i : Nat) {X : Nat} {s0 : Stm} (hi : cs[i]? = some (.loc X (stmCs s0) 38)) (s : Stm) : Mem w0 (fillS w X s) (cs.set i (.loc X (stmCs s) 38)) := by
  have h1 := S.ge i hi
  refine S.upd i hi _ ⟨by simp [World.setCell], fun k _ hn => heap_fillS (fun e => hn (by rw [e]; rfl)) s⟩ (fillS_below S.b h1.1 s) (fun k e => .inl e) (fillS_lv (S.lv i hi) s)
def GivesGr (R : Stm × Bool) (G : List Stm) (w : World) (e : Ending) (w' : World) : Prop :=
  ∃ A c, e = .returned (.tuple #[.slice A G.length c, .agg (stmCs R.1), .bool R.2]) ∧ Sl rStm (Lt w.heap.size) w' A G ∧ Below w.heap.size w w'
set_option maxHeartbeats 8000000 in
set_option maxRecDepth 100000 in
theorem grants_any (N : Nat → Prop) (A : Option Addr) (U : List Stm) (c : Nat) (pu : ByteArray) (w : World) (hS : Sl rStm N w A U) (hl : U.length ≤ 1000000) :
    Calls Tryz.prog 214 #[.slice A U.length c, .string pu] w (GivesGr (wdGo pu stmZ false U) (grP pu (wdGo pu stmZ false U).1 (wdGo pu stmZ false U).2 U) w) := by
  have HL := Lib.hid hS
  have S := (Mem.start w).new' (stmCs stmZ) 38
  clear hS
  obtain ⟨R, HR⟩ : ∃ R, Hid (wdGo pu stmZ false U = R) := ⟨_, Lib.hid rfl⟩
  rw [HR.out]
  obtain ⟨GG, HGG⟩ : ∃ GG, Hid (grP pu R.1 R.2 U = GG) := ⟨_, Lib.hid rfl⟩
  rw [HGG.out]
  go_enter Tryz.func214, Tryz.ntmps214
  go_wp2_with fail
  generalize w.alloc (.cells (stmCs stmZ) 38) = w1 at *
  go_loopw [6, 13] (fun b i wr => ∃ (j : Nat) (W : Stm) (has : Bool), j ≤ U.length ∧ i = .int .i64 j ∧ b = .bool has ∧ Hid (wdGo pu W has (U.drop j) = R) ∧ Mem w wr [.loc w.heap.size (stmCs W) 38]) (fun _ i _ => U.length - (intOf i).toNat)
  case atStart => exact ⟨0, stmZ, false, Nat.zero_le _, rfl, rfl, HR, S⟩
  case round =>
    clear S HR
    obtain ⟨j, W, has, hj, rfl, rfl, HR, S⟩ := hrel
    by_cases hlt : j < U.length
    · obtain ⟨s, hf⟩ : ∃ s, U[j]? = some s := ⟨_, List.getElem?_eq_getElem hlt⟩
      obtain ⟨blk, off, rfl, hblk, d0, d1, d2, d3, d4, d5, d6, d7⟩ := (HL.out.keepB S.b).stm j s hf
      have Hf := Lib.hid hf
      clear hf
      go_upto_region 4 with fail
      clear d0 d1 d2 d3 d4 d5 d6 d7
      obtain ⟨Y, hY⟩ : ∃ Y, Y = wr.heap.size := ⟨_, rfl⟩
      replace S := (S.newAt (stmCs s) 38 Y hY).front
      rw [← hY]
      clear hY
      generalize wr.alloc (.cells (stmCs s) 38) = w2 at *
      have HR2 : Hid (wdGo pu W has (s :: U.drop (j + 1)) = R) := by show _ = _; rw [← HR.out, drop_at3 Hf.out]
      have c0 := (S.lv 0 rfl).all
      have c1 := (S.lv 1 rfl).all
      obtain ⟨B, HB⟩ : ∃ B, Hid (decide (s.what = 3 ∧ puB pu s = true ∧ (has = false ∨ W.at' < s.at')) = B) := ⟨_, Lib.hid rfl⟩
      go_cut [36] (fun s36 wx => s36 = .bool B ∧ w2 = wx)
      case first =>
        clear HR HR2 Hf HL
        cases has
        all_goals go_wp2_with fail
        all_goals (go_meet; exact ⟨by rw [← HB.out]; clear HB c0 c1; simp [puB, *], rfl⟩)
      case rest =>
        obtain ⟨rfl, rfl⟩ := hcut
        have HR3 : Hid ((if B = true then wdGo pu s true (U.drop (j + 1)) else wdGo pu W has (U.drop (j + 1))) = R) := by show _ = _; rw [← HR2.out, wdGo, ← HB.out]; simp only [decide_eq_true_eq]
        clear HR HR2 HB
        cases B
        · go_wp2_with fail
          go_roundw
          case rel => exact ⟨j + 1, W, has, by omega, by go_num, rfl, HR3, S.del 0⟩
          case measure => simp [intOf]; omega
        · go_wp2_with fail
          have S2 := (S.fillStm 1 rfl s).del 0
          go_roundw
          case rel => exact ⟨j + 1, s, true, by omega, by go_num, rfl, HR3, S2⟩
          case measure => simp [intOf]; omega
    · obtain rfl : (W, has) = R := by rw [← HR.out, List.drop_eq_nil_of_le (by omega)]; rfl
      clear HR
      replace S := (S.nil rStm w.heap.size 38).swap
      (try dsimp only)
      go_wp2_with fail
      go_loopw [4, 41] (fun v i wr => ∃ (j : Nat) (G : List Stm), j ≤ U.length ∧ i = .int .i64 j ∧ Hid (G = (U.take j).filter (fun s => kindB 1 pu s && (!has || decide (W.at' < s.at')))) ∧ Mem w wr [.own rStm w.heap.size 38 v G, .loc w.heap.size (stmCs W) 38]) (fun _ i _ => U.length - (intOf i).toNat)
      case atStart => exact ⟨0, [], Nat.zero_le _, rfl, Lib.hid rfl, S⟩
      case round =>
        clear S hlt hj
        obtain ⟨j, G, hj, rfl, HG, S⟩ := hrel
        have hGl : G.length ≤ 1000000 := by rw [HG.out]; exact Nat.le_trans (List.length_filter_le ..) (by rw [List.length_take]; omega)
        obtain ⟨Ag, cg, rfl⟩ := (S.ow 0 rfl).len
        by_cases hlt : j < U.length
        · obtain ⟨s, hf⟩ : ∃ s, U[j]? = some s := ⟨_, List.getElem?_eq_getElem hlt⟩
          obtain ⟨blk, off, rfl, hblk, d0, d1, d2, d3, d4, d5, d6, d7⟩ := (HL.out.keepB S.b).stm j s hf
          have Hf := Lib.hid hf
          clear hf
          go_upto_region 10 with fail
          clear d0 d1 d2 d3 d4 d5 d6 d7
          obtain ⟨Y, hY⟩ : ∃ Y, Y = wr.heap.size := ⟨_, rfl⟩
          replace S := (S.newAt (stmCs s) 38 Y hY).front
          rw [← hY]
          clear hY
          generalize wr.alloc (.cells (stmCs s) 38) = w2 at *
          have c0 := (S.lv 0 rfl).all
          have c1 := (S.lv 2 rfl).all
          obtain ⟨B, HB⟩ : ∃ B, Hid ((kindB 1 pu s && (!has || decide (W.at' < s.at'))) = B) := ⟨_, Lib.hid rfl⟩
          go_cut [64] (fun s64 wx => s64 = .bool B ∧ w2 = wx)
          case first =>
            clear HG Hf HL
            cases has
            all_goals go_wp2_with fail
            all_goals (go_meet; exact ⟨by rw [← HB.out]; clear HB c0 c1; simp [kindB, puB, *], rfl⟩)
          case rest =>
            obtain ⟨rfl, rfl⟩ := hcut
            have HG2 : Hid ((U.take (j + 1)).filter (fun s => kindB 1 pu s && (!has || decide (W.at' < s.at'))) = if B = true then G ++ [s] else G) := by
              show _ = _
              rw [take_snoc Hf.out, List.filter_append, ← HG.out, List.filter_cons, List.filter_nil, HB.out]
              cases B <;> simp
            clear HB
            cases B
            · go_wp2_with fail
              go_roundw
              case rel => exact ⟨j + 1, G, by omega, by go_num, HG2.out.symm, S.del 0⟩
              case measure => simp [intOf]; omega
            · have hsz := S.b.size
              go_wp2_with (at_builtin; refine S.app 1 rfl tySaid rfl _ _ rfl s 1 rfl rfl rfl (oneStmS s) hsz (by omega) (by decide) ?_; intro v' w10 S6)
              go_roundw
              case rel => exact ⟨j + 1, G ++ [s], by omega, by go_num, HG2.out.symm, S6.del 0⟩
              case measure => simp [intOf]; omega
        · have c1 := (S.lv 1 rfl).all
          have HG2 : Hid (G = grP pu W has U) := by show _ = _; rw [HG.out, List.take_of_length_le (by omega)]; rfl
          clear HG
          go_wp2_with fail
          have HS := Lib.hid S
          clear S
          go_region
          go_wp2_with fail
          have S2 := HS.out.fillStm 1 rfl W
          have hd : Drewn (fillS wr w.heap.size W) (fillS wr w.heap.size W).drew := rfl
          have S3 := S2.below (hd.below _)
          obtain ⟨A2, c2, e2, hS⟩ := ((S3.ow 0 rfl).flatM flatStm (M' := Lt w.heap.size)).toSlC (fun k h1 h2 => by unfold Lt at h2; omega)
          obtain rfl : G = GG := HG2.out.trans HGG.out
          exact bodyPost_ret (results_tct rfl rfl rfl rfl (loadStm (S3.lv 1 rfl))) rfl ⟨A2, c2, congrArg (fun x => Ending.returned (.tuple #[x, .agg (stmCs W), .bool has])) e2, hS.2, S3.b⟩
def GivesStm (o : Option Stm) (w : World) (e : Ending) (w' : World) : Prop := e = .returned (.tuple #[.agg (stmCs (o.getD stmZ)), .bool o.isSome]) ∧ Below w.heap.size w w'
set_option maxHeartbeats 4000000 in
set_option maxRecDepth 100000 in
theorem confirmation_any (N : Nat → Prop) (A : Option Addr) (U : List Stm) (c : Nat) (pu : ByteArray) (a b : Int) (w : World) (hS : Sl rStm N w A U) (hl : U.length ≤ 1000000) :
    Calls Tryz.prog 271 #[.slice A U.length c, .string pu, .int .i64 a, .int .i64 b] w (GivesStm (confP pu a b U) w) := by
  have HL := Lib.hid hS
  have S := (Mem.start w).new' (stmCs stmZ) 38
  clear hS
  obtain ⟨R, HR⟩ : ∃ R, Hid (confP pu a b U = R) := ⟨_, Lib.hid rfl⟩
  rw [HR.out]
  go_enter Tryz.func271, Tryz.ntmps271
  go_wp2_with fail
  generalize w.alloc (.cells (stmCs stmZ) 38) = w1 at *
  go_loopw [14] (fun i wr => ∃ (j : Nat), j ≤ U.length ∧ i = .int .i64 j ∧ Hid (confP pu a b (U.drop j) = R) ∧ Mem w wr [.loc w.heap.size (stmCs stmZ) 38]) (fun i _ => U.length - (intOf i).toNat)
  case atStart => exact ⟨0, Nat.zero_le _, rfl, HR, S⟩
  case round =>
    clear S HR
    obtain ⟨j, hj, rfl, HR, S⟩ := hrel
    by_cases hlt : j < U.length
    · obtain ⟨s, hf⟩ : ∃ s, U[j]? = some s := ⟨_, List.getElem?_eq_getElem hlt⟩
      obtain ⟨blk, off, rfl, hblk, d0, d1, d2, d3, d4, d5, d6, d7⟩ := (HL.out.keepB S.b).stm j s hf
      have Hf := Lib.hid hf
      clear hf
      go_upto_region 4 with fail
      clear d0 d1 d2 d3 d4 d5 d6 d7
      obtain ⟨Y, hY⟩ : ∃ Y, Y = wr.heap.size := ⟨_, rfl⟩
      replace S := (S.newAt (stmCs s) 38 Y hY).front
      rw [← hY]
      clear hY
      generalize wr.alloc (.cells (stmCs s) 38) = w2 at *
      have HR2 : Hid (confP pu a b (s :: U.drop (j + 1)) = R) := by show _ = _; rw [← HR.out, drop_at3 Hf.out]
      have c0 := (S.lv 0 rfl).all
      have c1 := (S.lv 1 rfl).all
      obtain ⟨B, HB⟩ : ∃ B, Hid ((kindB 2 pu s && decide (a ≤ s.at' ∧ s.at' ≤ b)) = B) := ⟨_, Lib.hid rfl⟩
      obtain ⟨D, HD⟩ : ∃ D, Hid (decide (a ≤ s.at' ∧ s.at' ≤ b) = D) := ⟨_, Lib.hid rfl⟩
      have C2 : Hid (∀ w, Calls Tryz.prog 84 #[.int .i64 s.at', .int .i64 a, .int .i64 b] w fun e w' => e = .returned (.bool D) ∧ w = w') := fun w => HD.out ▸ cwithin_any s.at' a b w
      have HB2 : Hid ((kindB 2 pu s && D) = B) := by show _ = _; rw [← HD.out]; exact HB.out
      have HR3 : Hid ((if B = true then some s else confP pu a b (U.drop (j + 1))) = R) := by
        show _ = _
        rw [← HR2.out]
        unfold confP
        rw [List.find?_cons, HB.out]
        cases B <;> rfl
      clear HR HR2 HB HD
      go_cut [33] (fun s33 wx => s33 = .bool B ∧ w2 = wx)
      case first =>
        clear HR3 Hf HL
        go_wp2_with (go_at_call 84; refine (C2.out _).mono ?_; rintro e _ ⟨rfl, rfl⟩)
        all_goals (go_meet; exact ⟨by rw [← HB2.out]; clear HB2 C2 c0 c1; simp [kindB, puB, *], rfl⟩)
      case rest =>
        obtain ⟨rfl, rfl⟩ := hcut
        clear HB2 C2
        cases B
        · go_wp2_with fail
          go_roundw
          case rel => exact ⟨j + 1, by omega, by go_num, HR3, S.del 0⟩
          case measure => simp [intOf]; omega
        · obtain rfl : some s = R := HR3.out
          go_wp2_with fail
          have S2 := S.fillStm 1 rfl s
          exact bodyPost_ret (results_cs rfl rfl rfl (loadStm (S2.lv 1 rfl))) rfl ⟨rfl, S2.b⟩
    · obtain rfl : none = R := by rw [← HR.out, List.drop_eq_nil_of_le (by omega)]; rfl
      have c1 := (S.lv 0 rfl).all
      clear HR
      go_wp2_with fail
      have S2 := S.fillStm 0 rfl stmZ
      exact bodyPost_ret (results_cs rfl rfl rfl (loadStm (S2.lv 0 rfl))) rfl ⟨rfl, S2.b⟩
theorem rank_any (n : Int) (w : World) : Calls Tryz.prog 216 #[.int .i64 n] w fun e w' => e = .returned (.int .i64 (rankP n)) ∧ Below w.heap.size w w' := by
  have hcon := Tryz.slices_Index_int w.heap.size 0 4 4 [2, 8, 9, 7] n (w.alloc (.cells #[.int .i64 2, .int .i64 8, .int .i64 9, .int .i64 7] 3)) (by decide) (by decide) (fun j hj => by
    rw [World.cell?_alloc_at _ _ _ _ rfl]
    obtain rfl | rfl | rfl | rfl : j = 0 ∨ j = 1 ∨ j = 2 ∨ j = 3 := by simp at hj; omega
    all_goals rfl)
  have hr : Lib.idxOf ([2, 8, 9, 7].take 4) n = rankP n := by
    unfold rankP
    by_cases h2 : n = 2
    · subst h2; rfl
    · by_cases h8 : n = 8
      · subst h8; rfl
      · by_cases h9 : n = 9
        · subst h9; rfl
        · by_cases h7 : n = 7
          · subst h7; rfl
          · simp [Lib.idxOf, Lib.idxFrom, h2, h8, h9, h7, Ne.symm h2, Ne.symm h8, Ne.symm h9, Ne.symm h7]
  rw [hr] at hcon
  generalize rankP n = R at *
  go_enter Tryz.func216, Tryz.ntmps216
  go_wp2_with fail
  ((with_reducible refine (hcon).mono ?_); rintro e w2 ⟨rfl, rfl⟩)
  go_wp2_with fail
  go_ret
  exact ⟨rfl, (Below.refl _ _).alloc (Nat.le_refl _) _⟩
set_option maxHeartbeats 4000000 in
set_option maxRecDepth 100000 in
theorem stateOf_any (N : Nat → Prop) (A : Option Addr) (U : List Stm) (c : Nat) (tm : PTerm) (g : Stm) (at' : Int) (w : World) (hS : Sl rStm N w A U) (hl : U.length ≤ 1000000) (hg : 0 ≤ g.at' ∧ g.at' ≤ 4321439) (hd : 0 ≤ tm.days ∧ tm.days ≤ 2000) (hw : 0 ≤ tm.wait ∧ tm.wait ≤ 100000) :
    Calls Tryz.prog 215 #[.slice A U.length c, tVal tm, .agg (stmCs g), .int .i64 at'] w fun e w' => e = .returned (.int .i64 (stP tm U at' g)) ∧ Below w.heap.size w w' := by
  have S := ((Mem.start w).new' #[.string tm.region, .int .i64 tm.channel, .bool tm.free, .int .i64 tm.days, .int .i64 tm.wait] 99).new' (stmCs g) 38
  have hm : IntKind.i64.wrap (tm.days * 1440) = tm.days * 1440 := IntWalk.i64_in _ (by omega)
  have ha : IntKind.i64.wrap (g.at' + tm.days * 1440) = g.at' + tm.days * 1440 := IntWalk.i64_in _ (by omega)
  have hb : IntKind.i64.wrap (g.at' + tm.wait) = g.at' + tm.wait := IntWalk.i64_in _ (by omega)
  have Hc := Lib.hid (fun w' (h : Below w.heap.size w w') => confirmation_any N A U c g.purpose g.at' (g.at' + tm.wait) w' (hS.keepB h) hl)
  obtain ⟨K, HK⟩ : ∃ K, Hid (confP g.purpose g.at' (g.at' + tm.wait) U = K) := ⟨_, Lib.hid rfl⟩
  rw [HK.out] at Hc
  have HR : Hid (stP tm U at' g = if tm.days ≠ 0 ∧ g.at' + tm.days * 1440 ≤ at' then 7 else if tm.wait = 0 then 2 else if K.isSome = true then 2 else if at' ≤ g.at' + tm.wait then 8 else 9) := by show _ = _; rw [stP, HK.out]
  generalize stP tm U at' g = R at *
  clear hS HK hg hd hw
  go_enter Tryz.func215, Tryz.ntmps215
  go_upto_region 1 with fail
  replace S : Mem w ((w.alloc (.cells #[.string tm.region, .int .i64 tm.channel, .bool tm.free, .int .i64 tm.days, .int .i64 tm.wait] 99)).alloc (.cells (stmCs g) 38)) [.loc w.heap.size #[.string tm.region, .int .i64 tm.channel, .bool tm.free, .int .i64 tm.days, .int .i64 tm.wait] 99, .loc (w.heap.size + 1) (stmCs g) 38] := by simpa using S
  generalize (w.alloc (.cells #[.string tm.region, .int .i64 tm.channel, .bool tm.free, .int .i64 tm.days, .int .i64 tm.wait] 99)).alloc (.cells (stmCs g) 38) = w1 at *
  have c0 := (S.lv 0 rfl).all
  have c1 := (S.lv 1 rfl).all
  by_cases h7 : tm.days ≠ 0 ∧ g.at' + tm.days * 1440 ≤ at'
  · have hn : (tm.days != 0) = true := by simpa using h7.1
    have hle := h7.2
    obtain rfl : R = 7 := by rw [HR.out, if_pos h7]
    clear HR h7
    go_wp2_with fail
    go_ret
    exact ⟨rfl, S.b⟩
  · have HR2 : Hid (R = if tm.wait = 0 then 2 else if K.isSome = true then 2 else if at' ≤ g.at' + tm.wait then 8 else 9) := by show _ = _; rw [HR.out, if_neg h7]
    go_cut [23] (fun s23 wx => s23 = .bool false ∧ w1 = wx)
    case first =>
      clear HR HR2
      by_cases hn : tm.days = 0
      · have hn' : (tm.days != 0) = false := by simpa using hn
        have h0 := Lib.hid hn
        clear hn h7
        go_wp2_with fail
        go_meet
        exact ⟨rfl, rfl⟩
      · have hn' : (tm.days != 0) = true := by simpa using hn
        have hle : ¬ (g.at' + tm.days * 1440 ≤ at') := fun h => h7 ⟨hn, h⟩
        clear hn h7
        go_wp2_with fail
        go_meet
        exact ⟨by simp, rfl⟩
    case rest =>
      obtain ⟨rfl, rfl⟩ := hcut
      clear HR h7 hm ha
      by_cases h0' : tm.wait = 0
      · obtain rfl : R = 2 := by rw [HR2.out, if_pos h0']
        have h0 : (tm.wait == 0) = true := by simpa using h0'
        clear HR2 h0'
        go_wp2_with fail
        go_ret
        exact ⟨rfl, S.b⟩
      · have h0 : (tm.wait == 0) = false := by simpa using h0'
        have HR3 : Hid (R = if K.isSome = true then 2 else if at' ≤ g.at' + tm.wait then 8 else 9) := by show _ = _; rw [HR2.out, if_neg h0']
        clear HR2 h0'
        go_wp2_with fail
        ((with_reducible refine (Hc.out w1 S.b).mono ?_); rintro e w2 ⟨rfl, hl2⟩)
        replace S := S.below hl2
        clear Hc c0 c1 hl2
        go_upto_region 6 with fail
        replace S := S.new' (stmCs (K.getD stmZ)) 38
        generalize w2.alloc (.cells (stmCs (K.getD stmZ)) 38) = w3 at *
        have c0 := (S.lv 0 rfl).all
        have c1 := (S.lv 1 rfl).all
        cases K with
        | some s =>
          obtain rfl : R = 2 := HR3.out
          go_wp2_with fail
          go_ret
          exact ⟨rfl, S.b⟩
        | none =>
          by_cases h8 : at' ≤ g.at' + tm.wait
          · obtain rfl : R = 8 := by rw [HR3.out]; simp [h8]
            go_wp2_with fail
            go_ret
            exact ⟨rfl, S.b⟩
          · obtain rfl : R = 9 := by rw [HR3.out]; simp [h8]
            go_wp2_with fail
            go_ret
            exact ⟨rfl, S.b⟩
end Go.Proofs.YthmkphmciiiagaaGreatDoor

/- What consent's upTo, allowed and answer return. -/
namespace Go.Proofs.YthmkphmciiiagaaGreatDoor
open Go Go.RowKit
theorem upTo1_any (s : Stm) (t : Int) (w : World) : Calls Tryz.prog 213 #[.agg (stmCs s), .int .i64 t] w fun e w' => e = .returned (.int .i64 (Lib.compareInt s.at' t)) ∧ Below w.heap.size w w' := by
  have Hb : Hid (Below w.heap.size w (w.alloc (.cells (stmCs s) 38))) := (Below.refl _ _).alloc (Nat.le_refl _) _
  go_enter Tryz.func213, Tryz.ntmps213
  go_wp2_with fail
  ((with_reducible refine (cmpInt_any s.at' t _).mono ?_); rintro e _ ⟨rfl, rfl⟩)
  go_wp2_with fail
  go_ret
  exact ⟨rfl, Hb.out⟩
def GivesAt (U : List Stm) (t : Int) (w : World) (e : Ending) (w' : World) : Prop :=
  ∃ (i : Nat) (b : Bool), e = .returned (.tuple #[.int .i64 i, .bool b]) ∧ i ≤ U.length ∧ (∀ (p : Nat) s, p < i → U[p]? = some s → s.at' < t) ∧ (∀ (p : Nat) s, i ≤ p → U[p]? = some s → t ≤ s.at') ∧ Below w.heap.size w w'
set_option maxHeartbeats 4000000 in
set_option maxRecDepth 100000 in
theorem searchAt_any (N : Nat → Prop) (A : Option Addr) (U : List Stm) (t : Int) (c : Nat) (w : World) (hS : Sl rStm N w A U) (hn : U.length ≤ 1000000) (hri : U.Pairwise ahead) :
    Calls Tryz.prog 212 #[.slice A U.length c, .int .i64 t, .func (.func 213) #[] #[]] w (GivesAt U t w) := by
  have HS := Lib.hid hS
  have Hri : Hid (∀ (i j : Nat) p q, i < j → U[i]? = some p → U[j]? = some q → p.at' ≤ q.at') := fun i j p q hij hi hj => by
    obtain ⟨hi', rfl⟩ := List.getElem?_eq_some_iff.1 hi
    obtain ⟨hj', rfl⟩ := List.getElem?_eq_some_iff.1 hj
    have := List.pairwise_iff_getElem.1 hri i j hi' hj' hij
    unfold ahead at this; omega
  clear hS hri
  go_enter Tryz.func212, Tryz.ntmps212
  go_wp2_with fail
  go_loopw [9, 10] (fun a b wr => ∃ i j : Nat, i ≤ j ∧ j ≤ U.length ∧ a = .int .i64 i ∧ b = .int .i64 j ∧ (∀ (p : Nat) f, p < i → U[p]? = some f → f.at' < t) ∧ (∀ (p : Nat) f, j ≤ p → U[p]? = some f → t ≤ f.at') ∧ Below w.heap.size w wr) (fun a b _ => (intOf b - intOf a).toNat)
  case atStart => exact ⟨0, U.length, by omega, by omega, rfl, rfl, (fun p f h => by omega), (fun p f h hp => by rw [List.getElem?_eq_none h] at hp; cases hp), Below.refl _ _⟩
  case round =>
    obtain ⟨i, j, hij, hj, rfl, rfl, hlo, hhi, hbl⟩ := hrel
    have Hlo := Lib.hid hlo
    have Hhi := Lib.hid hhi
    have hsz := hbl.size
    clear hlo hhi
    by_cases hlt : i < j
    · obtain ⟨h, hh⟩ : ∃ h : Nat, h = (i + j) / 2 := ⟨_, rfl⟩
      have h1 : i ≤ h := by omega
      have h2 : h < j := by omega
      have eh : ((i : Int) + (j : Int)) / 2 = (h : Int) := by omega
      clear hh
      obtain ⟨s, hf⟩ : ∃ s, U[h]? = some s := ⟨_, List.getElem?_eq_getElem (by omega)⟩
      obtain ⟨blk, off, rfl, hblk, d0, d1, d2, d3, d4, d5, d6, d7⟩ := (HS.out.keepB hbl).stm h s hf
      have Hf := Lib.hid hf
      clear hf
      go_wp2_with fail
      ((with_reducible refine (upTo1_any s t _).mono ?_); rintro e w1 ⟨rfl, hl_w1⟩)
      have hz_w1 := hl_w1.size
      have Hb1 : Hid (Below w.heap.size w w1) := hbl.trans (hl_w1.mono hsz)
      have Hcn := Lib.hid (cmpI_neg s.at' t).1
      generalize Lib.compareInt s.at' t = cm at *
      clear hl_w1 hz_w1 d0 d1 d2 d3 d4 d5 d6 d7
      by_cases hc : cm < 0
      · have Hl : Hid (∀ (p : Nat) g, p < h + 1 → U[p]? = some g → g.at' < t) := fun p g hp hg => by
          have h5 := Hcn.out.1 hc
          by_cases hph : p = h
          · subst hph
            rw [Hf.out] at hg
            cases hg
            exact h5
          · have := Hri.out p h g s (by omega) hg Hf.out; omega
        go_wp2_with fail
        go_roundw
        case rel => exact ⟨h + 1, j, by omega, by omega, by go_num, rfl, Hl.out, Hhi.out, Hb1.out⟩
        case measure => simp [intOf]; omega
      · have Hl : Hid (∀ (p : Nat) g, h ≤ p → U[p]? = some g → t ≤ g.at') := fun p g hp hg => by
          have h5 : ¬ s.at' < t := fun e => hc (Hcn.out.2 e)
          by_cases hph : p = h
          · subst hph
            rw [Hf.out] at hg
            cases hg
            omega
          · have := Hri.out h p s g (by omega) Hf.out hg; omega
        go_wp2_with fail
        go_roundw
        case rel => exact ⟨i, h, by omega, by omega, rfl, rfl, Hlo.out, Hl.out, Hb1.out⟩
        case measure => simp [intOf]; omega
    · obtain rfl : i = j := by omega
      by_cases hli : i < U.length
      · obtain ⟨s, hf⟩ : ∃ s, U[i]? = some s := ⟨_, List.getElem?_eq_getElem hli⟩
        obtain ⟨blk, off, rfl, hblk, d0, d1, d2, d3, d4, d5, d6, d7⟩ := (HS.out.keepB hbl).stm i s hf
        clear hf
        go_wp2_with fail
        ((with_reducible refine (upTo1_any s t _).mono ?_); rintro e w1 ⟨rfl, hl_w1⟩)
        have hz_w1 := hl_w1.size
        have Hb1 : Hid (Below w.heap.size w w1) := hbl.trans (hl_w1.mono hsz)
        clear hl_w1 hz_w1 d0 d1 d2 d3 d4 d5 d6 d7
        go_wp2_with fail
        go_ret2
        exact ⟨i, _, rfl, hj, Hlo.out, Hhi.out, Hb1.out⟩
      · go_wp2_with fail
        go_ret2
        exact ⟨i, _, rfl, hj, Hlo.out, Hhi.out, hbl⟩
/-- what was said up to the moment -/
def upS (at' : Int) (U : List Stm) : List Stm := U.filter (fun s => decide (s.at' ≤ at'))
theorem upS_take {at' : Int} {U : List Stm} {i : Nat} (h1 : ∀ (p : Nat) s, p < i → U[p]? = some s → s.at' < at' + 1) (h2 : ∀ (p : Nat) s, i ≤ p → U[p]? = some s → at' + 1 ≤ s.at') : U.take i = upS at' U := by
  have e := List.take_append_drop i U
  have f1 : (U.take i).filter (fun s => decide (s.at' ≤ at')) = U.take i := List.filter_eq_self.2 fun s hs => by
    obtain ⟨p, hp⟩ := List.mem_iff_getElem?.1 hs
    rw [List.getElem?_take] at hp
    split at hp
    · rename_i h
      have := h1 p s h hp
      simp; omega
    · cases hp
  have f2 : (U.drop i).filter (fun s => decide (s.at' ≤ at')) = [] := List.filter_eq_nil_iff.2 fun s hs => by
    obtain ⟨p, hp⟩ := List.mem_iff_getElem?.1 hs
    rw [List.getElem?_drop] at hp
    have := h2 (i + p) s (by omega) hp
    simp; omega
  unfold upS
  conv => rhs; rw [← e, List.filter_append, f1, f2, List.append_nil]
set_option maxRecDepth 100000 in
theorem upTo_any (N : Nat → Prop) (A : Option Addr) (U : List Stm) (c : Nat) (at' : Int) (w : World) (hS : Sl rStm N w A U) (hn : U.length ≤ 1000000) (hri : U.Pairwise ahead) (hc : U.length ≤ c ∧ (A = none → c = 0) ∧ ∀ a, A = some a → a.spot = none) (hat : -1 ≤ at' ∧ at' ≤ 100000000) :
    Calls Tryz.prog 136 #[.slice A U.length c, .int .i64 at'] w fun e w' => e = .returned (.slice A (upS at' U).length c) ∧ Sl rStm N w' A (upS at' U) ∧ Below w.heap.size w w' := by
  have hw : IntKind.i64.wrap (at' + 1) = at' + 1 := IntWalk.i64_in _ (by omega)
  have Hs := Lib.hid (searchAt_any N A U (at' + 1) c w hS hn hri)
  have HS := Lib.hid hS
  have Hc := Lib.hid hc
  clear hS hri hc
  go_enter Tryz.func136, Tryz.ntmps136
  go_wp2_with fail
  ((with_reducible refine (Hs.out).mono ?_); rintro e w2 ⟨i, b, rfl, hi, h1, h2, hl2⟩)
  have HT : Hid (U.take i = upS at' U) := upS_take h1 h2
  have HB := Lib.hid hl2
  have hlen : (upS at' U).length = i := by rw [← HT.out, List.length_take]; omega
  have HO : Hid (Sl rStm N w2 A (upS at' U)) := by show Sl rStm N w2 A _; rw [← HT.out]; exact (HS.out.keepB hl2).take i
  have Hlen := Lib.hid hlen
  clear Hs HS h1 h2 hl2 HT hlen
  have hic : i ≤ c := Nat.le_trans hi Hc.out.1
  cases A with
  | none =>
    obtain rfl : c = 0 := Hc.out.2.1 rfl
    obtain rfl : i = 0 := by omega
    go_wp2_with fail
    go_ret
    exact ⟨congrArg (fun n : Nat => Ending.returned (.slice _ n _)) Hlen.out.symm, HO.out, HB.out⟩
  | some a =>
    obtain ⟨blk, off, sp⟩ := a
    obtain rfl : sp = none := Hc.out.2.2 _ rfl
    go_wp2_with fail
    go_ret
    exact ⟨congrArg (fun n : Nat => Ending.returned (.slice _ n _)) Hlen.out.symm, HO.out, HB.out⟩
theorem Mem.fillAns {w0 w : World} {cs : List Chunk} (S : Mem w0 w cs) (i : Nat) {X : Nat} {m0 : Bool} {a0 b0 : Int} (hi : cs[i]? = some (.loc X (aCs m0 a0 b0) 105)) (may : Bool) (why no : Int) : Mem w0 (fillA w X may why no) (cs.set i (.loc X (aCs may why no) 105)) := by
  have h1 := S.ge i hi
  refine S.upd i hi _ ⟨by simp [World.setCell], fun k _ hn => ?_⟩ (fillA_below S.b h1.1 may why no) (fun k e => .inl e) (fillA_lv (S.lv i hi) may why no)
  have h : k ≠ X := fun e => hn (by rw [e]; rfl)
  unfold fillA
  rw [Below.heap_setCell _ _ _ _ h, Below.heap_setCell _ _ _ _ h, Below.heap_setCell _ _ _ _ h]
abbrev aVal (x : Bool × Int × Int) : Value := .agg (aCs x.1 x.2.1 x.2.2)
abbrev tCs (tm : PTerm) : Array Value := #[.string tm.region, .int .i64 tm.channel, .bool tm.free, .int .i64 tm.days, .int .i64 tm.wait]
set_option maxHeartbeats 8000000 in
set_option maxRecDepth 100000 in
theorem allowed_any (N : Nat → Prop) (A : Option Addr) (U : List Stm) (c : Nat) (tm : PTerm) (pu : ByteArray) (at' : Int) (w : World) (hS : Sl rStm N w A U) (hl : U.length ≤ 1000000) (hg : ∀ s ∈ U, 0 ≤ s.at' ∧ s.at' ≤ 4321439) (hd : 0 ≤ tm.days ∧ tm.days ≤ 2000) (hw : 0 ≤ tm.wait ∧ tm.wait ≤ 100000) :
    Calls Tryz.prog 138 #[.slice A U.length c, tVal tm, .string pu, .int .i64 at'] w fun e w' => e = .returned (aVal (allowP tm pu at' U)) ∧ Below w.heap.size w w' := by
  have S := ((Mem.start w).new' (tCs tm) 99).new' (aCs false 0 0) 105
  have HS := Lib.hid hS
  have Hg := Lib.hid hg
  obtain ⟨R, HR⟩ : ∃ R, Hid (allowP tm pu at' U = R) := ⟨_, Lib.hid rfl⟩
  rw [HR.out]
  have Hgr := Lib.hid (fun w' (h : Below w.heap.size w w') => grants_any N A U c pu w' (hS.keepB h) hl)
  have Hgs : Hid (∀ s ∈ grP pu (wdGo pu stmZ false U).1 (wdGo pu stmZ false U).2 U, s ∈ U) := fun s hs => (List.mem_filter.1 hs).1
  obtain ⟨WH, HWH⟩ : ∃ WH, Hid (wdGo pu stmZ false U = WH) := ⟨_, Lib.hid rfl⟩
  rw [HWH.out] at Hgr Hgs
  obtain ⟨G, HG⟩ : ∃ G, Hid (grP pu WH.1 WH.2 U = G) := ⟨_, Lib.hid rfl⟩
  rw [HG.out] at Hgr Hgs
  have HR2 : Hid (R = if WH.2 = true ∧ G.length = 0 then (false, 5, WH.1.no) else if tm.free = true then (true, 1, 0) else if G.length = 0 then (false, 4, 0) else (decide ((bestGo (stP tm U at') stmZ 0 G).2 = 2), (bestGo (stP tm U at') stmZ 0 G).2, (bestGo (stP tm U at') stmZ 0 G).1.no)) := by
    show _ = _
    rw [← HR.out, allowP, HWH.out, HG.out]
  have hGl : G.length ≤ 1000000 := by rw [← HG.out]; exact Nat.le_trans (List.length_filter_le ..) hl
  have Hst := Lib.hid (fun (g : Stm) (hg : g ∈ G) w' (h : Below w.heap.size w w') => stateOf_any N A U c tm g at' w' (hS.keepB h) hl (Hg.out g (Hgs.out g hg)) hd hw)
  generalize stP tm U at' = st at *
  obtain ⟨W, has⟩ := WH
  dsimp only at HR2 Hgr
  clear hS hg hd hw HR HWH HG Hgs Hg HS
  go_enter Tryz.func138, Tryz.ntmps138
  go_wp2_with fail
  replace S : Mem w ((w.alloc (.cells (tCs tm) 99)).alloc (.cells (aCs false 0 0) 105)) [.loc w.heap.size (tCs tm) 99, .loc (w.heap.size + 1) (aCs false 0 0) 105] := by simpa using S
  generalize (w.alloc (.cells (tCs tm) 99)).alloc (.cells (aCs false 0 0) 105) = w1 at *
  ((with_reducible refine (Hgr.out w1 S.b).mono ?_); rintro e w2 ⟨Ag, cg, rfl, hG, hl2⟩)
  replace S := S.call hl2 (.sl rStm Ag G) hG (fun k e => by cases e)
  clear Hgr hl2 hG
  dsimp only
  go_upto_region 2 with fail
  obtain ⟨X, hX⟩ : ∃ X, X = w2.heap.size := ⟨_, rfl⟩
  replace S := S.newAt (stmCs W) 38 X hX
  rw [← hX]
  clear hX
  generalize w2.alloc (.cells (stmCs W) 38) = w3 at *
  have c0 := (S.lv 0 rfl).all
  have c1 := (S.lv 1 rfl).all
  have c3 := (S.lv 3 rfl).all
  by_cases h1 : has = true ∧ G.length = 0
  · obtain rfl : R = (false, 5, W.no) := by rw [HR2.out, if_pos h1]
    obtain ⟨rfl, h0⟩ := h1
    rw [h0]
    clear HR2 h0
    go_wp2_with fail
    have S2 := S.fillAns 1 rfl false 5 W.no
    exact bodyPost_ret (results_cell1 rfl rfl (loadA (S2.lv 1 rfl))) rfl ⟨rfl, S2.b⟩
  · have HR3 : Hid (R = if tm.free = true then (true, 1, 0) else if G.length = 0 then (false, 4, 0) else (decide ((bestGo st stmZ 0 G).2 = 2), (bestGo st stmZ 0 G).2, (bestGo st stmZ 0 G).1.no)) := by show _ = _; rw [HR2.out, if_neg h1]
    clear HR2
    go_cut [24] (fun s24 wx => s24 = .bool false ∧ w3 = wx)
    case first =>
      clear HR3
      cases has
      · go_wp2_with fail
        go_meet
        exact ⟨rfl, rfl⟩
      · have h0 : ¬ G.length = 0 := fun e => h1 ⟨rfl, e⟩
        have h0' : ((G.length : Int) == 0) = false := by simpa using h0
        clear h0 h1
        go_wp2_with fail
        go_meet
        exact ⟨rfl, rfl⟩
    case rest =>
      obtain ⟨rfl, rfl⟩ := hcut
      clear h1
      cases hf : tm.free with
      | true =>
        obtain rfl : R = (true, 1, 0) := by rw [HR3.out, if_pos hf]
        clear HR3
        go_wp2_with fail
        have S2 := S.fillAns 1 rfl true 1 0
        exact bodyPost_ret (results_cell1 rfl rfl (loadA (S2.lv 1 rfl))) rfl ⟨rfl, S2.b⟩
      | false =>
        have HR4 : Hid (R = if G.length = 0 then (false, 4, 0) else (decide ((bestGo st stmZ 0 G).2 = 2), (bestGo st stmZ 0 G).2, (bestGo st stmZ 0 G).1.no)) := by show _ = _; rw [HR3.out, if_neg (by simp [hf])]
        clear HR3
        by_cases h0 : G.length = 0
        · obtain rfl : R = (false, 4, 0) := by rw [HR4.out, if_pos h0]
          have h0' : ((G.length : Int) == 0) = true := by simpa using h0
          clear HR4 h0
          go_wp2_with fail
          have S2 := S.fillAns 1 rfl false 4 0
          exact bodyPost_ret (results_cell1 rfl rfl (loadA (S2.lv 1 rfl))) rfl ⟨rfl, S2.b⟩
        · have h0' : ((G.length : Int) == 0) = false := by simpa using h0
          have HR5 : Hid (R = (decide ((bestGo st stmZ 0 G).2 = 2), (bestGo st stmZ 0 G).2, (bestGo st stmZ 0 G).1.no)) := by show _ = _; rw [HR4.out, if_neg h0]
          clear HR4 h0
          obtain ⟨Q, HQ⟩ : ∃ Q, Hid (bestGo st stmZ 0 G = Q) := ⟨_, Lib.hid rfl⟩
          rw [HQ.out] at HR5
          go_upto_region 10 with fail
          clear c0 c1 c3 hf
          obtain ⟨Z, hZ⟩ : ∃ Z, Z = w3.heap.size := ⟨_, rfl⟩
          replace S := S.newAt (stmCs stmZ) 38 Z hZ
          rw [← hZ]
          clear hZ
          generalize w3.alloc (.cells (stmCs stmZ) 38) = w4 at *
          go_wp2_with fail
          go_loopw [13, 45] (fun y i wr => ∃ (j : Nat) (best : Stm) (why : Int), j ≤ G.length ∧ i = .int .i64 j ∧ y = .int .i64 why ∧ Hid (bestGo st best why (G.drop j) = Q) ∧ Mem w wr [.loc w.heap.size (tCs tm) 99, .loc (w.heap.size + 1) (aCs false 0 0) 105, .sl rStm Ag G, .loc X (stmCs W) 38, .loc Z (stmCs best) 38]) (fun _ i _ => G.length - (intOf i).toNat)
          case atStart => exact ⟨0, stmZ, 0, Nat.zero_le _, rfl, rfl, HQ, S⟩
          case round =>
            clear S HQ
            obtain ⟨j, best, why, hj, rfl, rfl, HQ, S⟩ := hrel
            by_cases hlt : j < G.length
            · obtain ⟨s, hf⟩ : ∃ s, G[j]? = some s := ⟨_, List.getElem?_eq_getElem hlt⟩
              obtain ⟨blk, off, rfl, hblk, d0, d1, d2, d3, d4, d5, d6, d7⟩ := (S.slc 2 rfl).stm j s hf
              have HQ2 : Hid (bestGo st best why (s :: G.drop (j + 1)) = Q) := by show _ = _; rw [← HQ.out, drop_at3 hf]
              have Hs := Lib.hid (Hst.out s (List.mem_of_getElem? hf))
              clear hf HQ
              go_upto_region 13 with fail
              clear d0 d1 d2 d3 d4 d5 d6 d7
              obtain ⟨Y, hY⟩ : ∃ Y, Y = wr.heap.size := ⟨_, rfl⟩
              replace S := S.newAt (stmCs s) 38 Y hY
              rw [← hY]
              clear hY
              generalize wr.alloc (.cells (stmCs s) 38) = w5 at *
              obtain ⟨q, Hq⟩ : ∃ q, Hid (st s = q) := ⟨_, Lib.hid rfl⟩
              rw [Hq.out] at Hs
              have HQ3 : Hid ((if why = 0 ∨ rankP q < rankP why ∨ (q = why ∧ best.at' < s.at') then bestGo st s q (G.drop (j + 1)) else bestGo st best why (G.drop (j + 1))) = Q) := by show _ = _; rw [← HQ2.out, bestGo, Hq.out]
              clear HQ2 Hq
              have c0 := (S.lv 0 rfl).all
              have c5 := (S.lv 5 rfl).all
              go_wp2_with fail
              ((with_reducible refine (Hs.out w5 S.b).mono ?_); rintro e w6 ⟨rfl, hl6⟩)
              replace S := S.below hl6
              clear hl6 c0 c5 Hs
              go_upto_region 14 with fail
              obtain ⟨B, HB⟩ : ∃ B, Hid (decide (why = 0 ∨ rankP q < rankP why ∨ (q = why ∧ best.at' < s.at')) = B) := ⟨_, Lib.hid rfl⟩
              have HQ4 : Hid ((if B = true then bestGo st s q (G.drop (j + 1)) else bestGo st best why (G.drop (j + 1))) = Q) := by show _ = _; rw [← HQ3.out, ← HB.out]; simp only [decide_eq_true_eq]
              clear HQ3
              have HS0 := Lib.hid S
              clear S
              go_cut [74] (fun s74 wx => s74 = .bool B ∧ Mem w wx [.loc w.heap.size (tCs tm) 99, .loc (w.heap.size + 1) (aCs false 0 0) 105, .sl rStm (some ⟨blk, off, none⟩) G, .loc X (stmCs W) 38, .loc Z (stmCs best) 38, .loc Y (stmCs s) 38])
              case first =>
                have S := HS0.out
                clear HS0 HQ4
                by_cases hw0 : why = 0
                · have hw0' : (why == 0) = true := by simpa using hw0
                  obtain rfl : true = B := by rw [← HB.out]; simp [hw0]
                  clear HB hw0
                  go_wp2_with fail
                  go_meet
                  exact ⟨rfl, S⟩
                · have hw0' : (why == 0) = false := by simpa using hw0
                  have HB2 : Hid (decide (rankP q < rankP why ∨ (q = why ∧ best.at' < s.at')) = B) := by show _ = _; rw [← HB.out]; simp [hw0]
                  have R1 := Lib.hid (fun w => rank_any q w)
                  have R2 := Lib.hid (fun w => rank_any why w)
                  generalize rankP q = r1 at *
                  generalize rankP why = r2 at *
                  clear HB hw0
                  go_wp2_with fail
                  ((with_reducible refine (R1.out _).mono ?_); rintro e w7 ⟨rfl, hl7⟩)
                  replace S := S.below hl7
                  go_wp2_with fail
                  ((with_reducible refine (R2.out _).mono ?_); rintro e w8 ⟨rfl, hl8⟩)
                  replace S := S.below hl8
                  clear hl7 hl8 R1 R2
                  have c4 := (S.lv 4 rfl).all
                  have c5 := (S.lv 5 rfl).all
                  by_cases hr : r1 < r2
                  · obtain rfl : true = B := by rw [← HB2.out]; simp [hr]
                    clear HB2
                    go_wp2_with fail
                    go_meet
                    exact ⟨rfl, S⟩
                  · by_cases hq : q = why
                    · have hq' : (q == why) = true := by simpa using hq
                      have HB3 : Hid (decide (best.at' < s.at') = B) := by show _ = _; rw [← HB2.out]; simp [hr, hq]
                      clear HB2 hq
                      go_wp2_with fail
                      go_meet
                      exact ⟨by rw [← HB3.out]; simp; intro h; omega, S⟩
                    · have hq' : (q == why) = false := by simpa using hq
                      obtain rfl : false = B := by rw [← HB2.out]; simp [hr, hq]
                      clear HB2 hq
                      go_wp2_with fail
                      go_meet
                      exact ⟨by simp [hr], S⟩
              case rest =>
                clear HS0 HB
                obtain ⟨rfl, S⟩ := hcut
                cases B
                · go_wp2_with fail
                  go_roundw
                  case rel => exact ⟨j + 1, best, why, by omega, by go_num, rfl, HQ4, S.del 5⟩
                  case measure => simp [intOf]; omega
                · have c4 := (S.lv 4 rfl).all
                  have c5 := (S.lv 5 rfl).all
                  go_wp2_with fail
                  have S2 := (S.fillStm 4 rfl s).del 5
                  go_roundw
                  case rel => exact ⟨j + 1, s, q, by omega, by go_num, rfl, HQ4, S2⟩
                  case measure => simp [intOf]; omega
            · obtain rfl : (best, why) = Q := by rw [← HQ.out, List.drop_eq_nil_of_le (by omega)]; rfl
              have c1 := (S.lv 1 rfl).all
              have c4 := (S.lv 4 rfl).all
              dsimp only at HR5
              by_cases h2 : why = 2
              · have h2' : (why == 2) = true := by simpa using h2
                obtain rfl : R = (true, why, best.no) := by rw [HR5.out]; simp [h2]
                clear HR5 h2
                go_wp2_with fail
                have S2 := S.fillAns 1 rfl true why best.no
                exact bodyPost_ret (results_cell1 rfl rfl (loadA (S2.lv 1 rfl))) rfl ⟨rfl, S2.b⟩
              · have h2' : (why == 2) = false := by simpa using h2
                obtain rfl : R = (false, why, best.no) := by rw [HR5.out]; simp [h2]
                clear HR5 h2
                go_wp2_with fail
                have S2 := S.fillAns 1 rfl false why best.no
                exact bodyPost_ret (results_cell1 rfl rfl (loadA (S2.lv 1 rfl))) rfl ⟨rfl, S2.b⟩
end Go.Proofs.YthmkphmciiiagaaGreatDoor
