/- Several texts in one: MapS, EvOrd, EvsLaw, EvsChk. -/
import Derived.Test.YteabhkmhogmoiaaGreatDoorPackB
import Derived.Test.YteabhkmhogmoiaaGreatDoorPackW
import Derived.Maps.OwnOps
import Derived.Carry
import Derived.Test.YteabhkmhogmoiaaGreatDoorPackE
import Derived.Test.YteabhkmhogmoiaaGreatDoorPackM
import Derived.Deep.DeepCutAuto
/- A map of the call's own, keyed by strings, that holds true for those that were put: a piece of memory. -/
namespace Go.Proofs.YteabhkmhogmoiaaGreatDoor
open Go Go.RowKit Go.MapKept
abbrev kvE (e : MapEntry) : Value × Value := (e.key, e.val)
abbrev kvS (x : ByteArray) : Value × Value := (Value.string x, Value.bool true)
def hasId (L : List ByteArray) (k : ByteArray) : Bool := L.any (fun y => y.toList == k.toList)
theorem hasId_iff (L : List ByteArray) (k : ByteArray) : hasId L k = true ↔ k ∈ L := by
  unfold hasId
  rw [List.any_eq_true]
  exact ⟨fun ⟨y, hy, e⟩ => by rw [← beqS.1 e]; exact hy, fun h => ⟨k, h, beqS.2 rfl⟩⟩
theorem hasId_no {L : List ByteArray} {k : ByteArray} (h : hasId L k = false) : k ∉ L := fun e => by rw [(hasId_iff L k).2 e] at h; cases h
theorem hasId_not {L : List ByteArray} {k : ByteArray} (h : k ∉ L) : hasId L k = false := by
  cases hh : hasId L k with
  | false => rfl
  | true => exact absurd ((hasId_iff L k).1 hh) h
def MapS (w : World) (X : Nat) (L : List ByteArray) : Prop := ∃ es clock, w.heap[X]? = some (.map es clock) ∧ es.toList.map kvE = L.map kvS
def Chunk.mapS (X : Nat) (L : List ByteArray) : Chunk :=
  ⟨some X, fun _ w => MapS w X L, fun k _ hd ⟨es, c, h, e⟩ => ⟨es, c, (k.block X (Array.getElem?_eq_some_iff.1 h).1 (hd X rfl)).trans h, e⟩, fun _ h => h, fun ⟨_, _, h, _⟩ k e => by cases e; exact (Array.getElem?_eq_some_iff.1 h).1⟩
theorem isKeyS (k : ByteArray) : IsKey .string (.string k) := trivial
theorem findNow_str (k : ByteArray) : ∀ (l : List MapEntry) (L : List ByteArray) (i : Nat), l.map kvE = L.map kvS → ∃ r, Instr.findNow .string (.string k) l i = some r ∧ ((k ∉ L ∧ r = none) ∨ (k ∈ L ∧ ∃ j, r = some (j, .bool true)))
  | [], L, i, h => by
    cases L with
    | nil => exact ⟨none, rfl, .inl ⟨by simp, rfl⟩⟩
    | cons p r => simp at h
  | e :: es, [], i, h => by simp at h
  | e :: es, p :: r, i, h => by
    simp only [List.map_cons, List.cons.injEq, kvE, kvS, Prod.mk.injEq] at h
    obtain ⟨⟨h1, h2⟩, h3⟩ := h
    obtain ⟨b, hb, hbi⟩ := sameNow_of_keys (d := .string) (isKeyS p) (isKeyS k)
    obtain ⟨b2, hb2, hbi2⟩ := sameNow_of_keys (d := .string) (isKeyS k) (isKeyS p)
    by_cases hk : k = p
    · subst hk
      obtain rfl : b = true := hbi.2 rfl
      exact ⟨some (i, .bool true), by simp [Instr.findNow, h1, hb, h2], .inr ⟨by simp, i, rfl⟩⟩
    · obtain rfl : b = false := by
        cases b with
        | false => rfl
        | true => exact absurd (by simpa using (hbi.1 rfl).symm) hk
      obtain rfl : b2 = false := by
        cases b2 with
        | false => rfl
        | true => exact absurd (by simpa using (hbi2.1 rfl)) hk
      obtain ⟨r', hr, hc⟩ := findNow_str k es r (i + 1) h3
      refine ⟨r', by simp [Instr.findNow, h1, hb2, hr], ?_⟩
      rcases hc with ⟨h4, h5⟩ | ⟨h4, h5⟩
      · exact .inl ⟨by simp [hk, h4], h5⟩
      · exact .inr ⟨by simp [h4], h5⟩
section
variable {P : Program}
theorem lookS_run {w : World} {X : Nat} {L : List ByteArray} {T K E : TypeId} (h : MapS w X L) (hT : P.underlying T = some (.map K E)) (hK : P.underlying K = some .string) (hz : ∀ w, (zeroValue E).run P w = .ok (.bool false) w) (k : ByteArray) :
    (Instr.lookup T (.map (some X)) (.string k) false).run P w = .ok (.bool (hasId L k)) w := by
  obtain ⟨es, clock, hb, he⟩ := h
  have hck := run_checkKey (P := P) (w := w) hK (isKeyS k) es.isEmpty 9999
  obtain ⟨r, hr, hc⟩ := findNow_str k es.toList L 0 he
  have hf := run_findKey (P := P) (w := w) hK hr
  rcases hc with ⟨h4, rfl⟩ | ⟨h4, j, rfl⟩
  · simp [Instr.lookup, run_underlying hT, Go.MapKept.run_getObj_map hb, hck, hf, hz, hasId_not h4, Result.andThen]
  · simp [Instr.lookup, run_underlying hT, Go.MapKept.run_getObj_map hb, hck, hf, (hasId_iff L k).2 h4, Result.andThen]
theorem putS_run {w : World} {X : Nat} {L : List ByteArray} {T K E : TypeId} (h : MapS w X L) (hT : P.underlying T = some (.map K E)) (hK : P.underlying K = some .string) (k : ByteArray) (hk : k ∉ L) :
    ∃ w', (Instr.mapUpdate T (.map (some X)) (.string k) (.bool true)).run P w = .ok () w' ∧ MapS w' X (L ++ [k]) ∧ w.grownBy w' (some X) := by
  obtain ⟨es, clock, hb, he⟩ := h
  have hck := run_checkKey (P := P) (w := w) hK (isKeyS k) false 9999
  have gr : ∀ o, w.grownBy { w with heap := w.heap.setIfInBounds X o } (some X) := fun o => ⟨rfl, rfl, rfl, by simp, fun j hj hne => (heap_set hb).2 j (fun e => hne (by rw [e]))⟩
  obtain ⟨r, hr, hc⟩ := findNow_str k es.toList L 0 he
  have hf := run_findKey (P := P) (w := w) hK hr
  rcases hc with ⟨h4, rfl⟩ | ⟨h4, _⟩
  · refine ⟨{ w with heap := w.heap.setIfInBounds X (.map (es.push ⟨.string k, .bool true, clock⟩) (clock + 1)) }, ?_, ⟨_, _, (heap_set hb).1, ?_⟩, gr _⟩
    · simp [Instr.mapUpdate, run_underlying hT, Go.MapKept.run_getObj_map hb, hck, hf, run_setObj_map _ hb, Result.andThen]
    · rw [Array.toList_push, List.map_append, he, List.map_append]
      rfl
  · exact absurd h4 hk
end
section
variable {ops : Array Oper} {rest : List Oper} {o : Oper} {a : Act} {Q : Exit → Act → World → Prop}
theorem Mem.lookS {w0 w : World} {cs : List Chunk} (S : Mem w0 w cs) (i : Nat) {X : Nat} {L : List ByteArray} (hi : cs[i]? = some (.mapS X L)) {T K E : TypeId} (hT : Tryz.prog.underlying T = some (.map K E)) (hK : Tryz.prog.underlying K = some .string) (hz : ∀ w, (zeroValue E).run Tryz.prog w = .ok (.bool false) w)
    (hgd : o.guard = none) (m x : Operand) (hop : o.op = .lookup T m x false) (hm : a.eval m = .map (some X)) (y : ByteArray) (hx : a.eval x = .string y) (h : wpList Tryz.prog ops Q rest (a.put o.dst (.bool (hasId L y))) w) : wpList Tryz.prog ops Q (o :: rest) a w := by
  have hrun := lookS_run (S.ok _ (List.mem_of_getElem? hi)) hT hK hz y
  refine wpList_plain hgd fun K' hK' => ?_
  unfold Oper.wp
  simp [execOp, hop, hm, hx, hrun, Result.andThen]
  exact hK' _ _ h
theorem Mem.putS {w0 w : World} {cs : List Chunk} (S : Mem w0 w cs) (i : Nat) {X : Nat} {L : List ByteArray} (hi : cs[i]? = some (.mapS X L)) {T K E : TypeId} (hT : Tryz.prog.underlying T = some (.map K E)) (hK : Tryz.prog.underlying K = some .string)
    (hgd : o.guard = none) (m x v : Operand) (hop : o.op = .mapUpdate T m x v) (hm : a.eval m = .map (some X)) (y : ByteArray) (hx : a.eval x = .string y) (hv : a.eval v = .bool true) (hy : y ∉ L)
    (h : ∀ w', Mem w0 w' (cs.set i (.mapS X (L ++ [y]))) → wpList Tryz.prog ops Q rest (a.put o.dst undef) w') : wpList Tryz.prog ops Q (o :: rest) a w := by
  obtain ⟨w', hrun, hm', hgr⟩ := putS_run (S.ok _ (List.mem_of_getElem? hi)) hT hK y hy
  have hX := S.new _ (List.mem_of_getElem? hi) X rfl
  have hbl : Below w0.heap.size w w' := (Below.refl _ w).grown hgr S.b.size (fun k hk => by cases hk; exact hX)
  have S2 := S.upd i hi (.mapS X (L ++ [y])) ⟨hgr.size, fun k hk hn => hgr.block k hk (fun e => hn e.symm)⟩ (S.b.trans hbl) (fun k e => .inl e) hm'
  refine wpList_plain hgd fun K' hK' => ?_
  unfold Oper.wp
  simp [execOp, hop, hm, hx, hv, hrun, Result.andThen]
  exact hK' _ _ (h w' S2)
theorem Mem.newMapS {w0 w : World} {cs : List Chunk} (S : Mem w0 w cs) (X : Nat) (hX : X = w.heap.size) : Mem w0 (w.alloc (.map #[] 0)) (cs ++ [.mapS X []]) := by
  subst hX
  exact S.call ((Below.refl _ _).alloc (Nat.le_refl _) _) _ ⟨#[], 0, by show (w.heap.push (.map #[] 0))[w.heap.size]? = _; simp, rfl⟩ (fun k e => by cases e; exact Nat.le_refl _)
end
end Go.Proofs.YteabhkmhogmoiaaGreatDoor

/- The order of events: what event.Order and handref2.before return; the faults of a list of events in plain words. -/
namespace Go.Proofs.YteabhkmhogmoiaaGreatDoor
open Go.RowKit
def ordE (a b : Evt) : Int := if Lib.compareInt a.at' b.at' ≠ 0 then Lib.compareInt a.at' b.at' else cmpS a.id b.id
def befE (a b : Evt) : Bool := decide (a.at' < b.at') || (decide (a.at' = b.at') && ltS a.id b.id)
theorem ordE_neg (a b : Evt) : ordE a b < 0 ↔ befE a b = true := by
  have h := cmpS_neg a.id b.id
  unfold ordE befE Lib.compareInt
  rcases Int.lt_trichotomy a.at' b.at' with h1 | h1 | h1
  · simp [h1]
  · simp [h1, h]
  · have h2 : ¬ a.at' < b.at' := by omega
    have h3 : ¬ a.at' = b.at' := by omega
    simp [h2, h3, h1]
def TwoEvts (X Y : Nat) (a b : Evt) (A B : Option Addr) (c d : Nat) (w : World) : Prop := LV w X (evCs a A c) 56 ∧ LV w Y (evCs b B d) 56
theorem TwoEvts.keep {X Y : Nat} {a b : Evt} {A B : Option Addr} {c d : Nat} {w w' : World} (h : TwoEvts X Y a b A B c d w) (k : Below w.heap.size w w') : TwoEvts X Y a b A B c d w' := ⟨LV.kb3 h.1 k h.1.lt, LV.kb3 h.2 k h.2.lt⟩
theorem two_evts (w : World) (a b : Evt) (A B : Option Addr) (c d : Nat) : TwoEvts w.heap.size (w.heap.size + 1) a b A B c d ((w.alloc (.cells (evCs a A c) 56)).alloc (.cells (evCs b B d) 56)) :=
  ⟨(LV.new w w.heap.size (evCs a A c) 56 rfl).alloc _, LV.new (w.alloc (.cells (evCs a A c) 56)) (w.heap.size + 1) (evCs b B d) 56 (by simp)⟩
set_option maxHeartbeats 2000000 in
set_option maxRecDepth 100000 in
theorem orderEv_any (a b : Evt) (A B : Option Addr) (c d : Nat) (w : World) :
    Calls Tryz.prog 153 #[.agg (evCs a A c), .agg (evCs b B d)] w fun e w' => e = .returned (.int .i64 (ordE a b)) ∧ Below w.heap.size w w' := by
  obtain ⟨R, HR⟩ : ∃ R, Hid (ordE a b = R) := ⟨_, Lib.hid rfl⟩
  rw [HR.out]
  have hC := two_evts w a b A B c d
  have Hb : Hid (Below w.heap.size w ((w.alloc (.cells (evCs a A c) 56)).alloc (.cells (evCs b B d) 56))) := ((Below.refl _ _).alloc (Nat.le_refl _) _).alloc (by simp) _
  go_enter Tryz.func153, Tryz.ntmps153
  go_wp2_with fail
  generalize (w.alloc (.cells (evCs a A c) 56)).alloc (.cells (evCs b B d) 56) = w1 at *
  obtain ⟨Y, hY⟩ : ∃ Y, Y = w.heap.size + 1 := ⟨_, rfl⟩
  obtain ⟨X, hX⟩ : ∃ X, X = w.heap.size := ⟨_, rfl⟩
  rw [← hY, ← hX] at hC
  rw [← hY, ← hX]
  clear hY hX
  refine wp_region_mix (TwoEvts X Y a b A B c d) [(true, 0), (true, 1), (true, 2), (true, 3), (true, 5), (true, 6), (true, 7), (true, 8), (false, 4), (false, 9), (false, 10), (false, 11), (true, 12)] (by kernel_rfl) (by kernel_rfl) (fun w' hd => hC.keep (hd.below _)) (fun KK hKK wd hd_wd => ?_)
  have hC1 := hC.keep (hd_wd.below _)
  have Hb1 : Hid (Below w.heap.size w wd) := Hb.out.trans ((hd_wd.below _).mono Hb.out.size)
  clear hC Hb hd_wd
  repeat (refine mix_p rfl (fun K hK => ?_); go_simp; (try go_bits); (try simp (disch := omega) only [if_pos]); (try simp (disch := omega) only [if_neg]); (try simp (disch := omega) only [dif_pos]); (try simp (disch := omega) only [dif_neg]); (try go_simp); (refine hK _ ?_; clear hK K))
  refine mix_load (.int .i64 a.at') rfl rfl rfl rfl (fun _ => rfl) (fun w' h => h.1.cell 2 _ rfl) ?_
  repeat (refine mix_p rfl (fun K hK => ?_); go_simp; (try go_bits); (try simp (disch := omega) only [if_pos]); (try simp (disch := omega) only [if_neg]); (try simp (disch := omega) only [dif_pos]); (try simp (disch := omega) only [dif_neg]); (try go_simp); (refine hK _ ?_; clear hK K))
  refine mix_load (.int .i64 b.at') rfl rfl rfl rfl (fun _ => rfl) (fun w' h => h.2.cell 2 _ rfl) ?_
  repeat (refine mix_p rfl (fun K hK => ?_); go_simp; (try go_bits); (try simp (disch := omega) only [if_pos]); (try simp (disch := omega) only [if_neg]); (try simp (disch := omega) only [dif_pos]); (try simp (disch := omega) only [dif_neg]); (try go_simp); (refine hK _ ?_; clear hK K))
  refine mix_load (.string a.id) rfl rfl rfl rfl (fun _ => rfl) (fun w' h => h.1.cell 0 _ rfl) ?_
  repeat (refine mix_p rfl (fun K hK => ?_); go_simp; (try go_bits); (try simp (disch := omega) only [if_pos]); (try simp (disch := omega) only [if_neg]); (try simp (disch := omega) only [dif_pos]); (try simp (disch := omega) only [dif_neg]); (try go_simp); (refine hK _ ?_; clear hK K))
  refine mix_load (.string b.id) rfl rfl rfl rfl (fun _ => rfl) (fun w' h => h.2.cell 0 _ rfl) ?_
  refine mix_l rfl (fun K hK => ?_) hC1
  go_wp2_with fail
  ((with_reducible refine (cmpInt_any a.at' b.at' _).mono ?_); rintro e _ ⟨rfl, rfl⟩)
  go_wp2_with fail
  refine ⟨hC1, ?_⟩
  refine mix_l rfl (fun K hK => ?_) hC1
  go_wp2_with fail
  ((with_reducible refine (compareS_any a.id b.id _).mono ?_); rintro e _ ⟨rfl, rfl⟩)
  go_wp2_with fail
  refine ⟨hC1, ?_⟩
  unfold ordE at HR
  generalize Lib.compareInt a.at' b.at' = p at *
  generalize cmpS a.id b.id = q at *
  refine mix_l rfl (fun K hK => ?_) hC1
  go_wp2_with fail
  have hb2 : Below wd.heap.size wd (wd.alloc (.cells #[.int .i64 p, .int .i64 q] 3)) := (Below.refl _ _).alloc (Nat.le_refl _) _
  have hC2 := hC1.keep hb2
  have Hb2 : Hid (Below w.heap.size w (wd.alloc (.cells #[.int .i64 p, .int .i64 q] 3))) := Hb1.out.alloc Hb1.out.size _
  have lvZ := LV.new wd wd.heap.size #[.int .i64 p, .int .i64 q] 3 rfl
  refine ⟨hC2, ?_⟩
  have Ho := Lib.hid (or_any wd.heap.size p q _ (lvZ.cell 0 _ rfl) (lvZ.cell 1 _ rfl))
  rw [HR.out] at Ho
  clear hb2 hC1 Hb1 lvZ
  refine mix_l rfl (fun K hK => ?_) hC2
  go_wp2_with fail
  ((with_reducible refine (Ho.out).mono ?_); rintro e _ ⟨rfl, rfl⟩)
  go_wp2_with fail
  refine ⟨hC2, ?_⟩
  repeat (refine mix_p rfl (fun K hK => ?_); go_simp; (try go_bits); (try simp (disch := omega) only [if_pos]); (try simp (disch := omega) only [if_neg]); (try simp (disch := omega) only [dif_pos]); (try simp (disch := omega) only [dif_neg]); (try go_simp); (refine hK _ ?_; clear hK K))
  refine mix_nil ?_
  simp only [Exit.then]
  refine hKK _ _ ?_
  go_wp2_with fail
  go_ret
  exact ⟨rfl, Hb2.out⟩
set_option maxHeartbeats 2000000 in
set_option maxRecDepth 100000 in
theorem before_any (a b : Evt) (A B : Option Addr) (c d : Nat) (w : World) :
    Calls Tryz.prog 150 #[.agg (evCs a A c), .agg (evCs b B d)] w fun e w' => e = .returned (.bool (befE a b)) ∧ Below w.heap.size w w' := by
  obtain ⟨R, HR⟩ : ∃ R, Hid (befE a b = R) := ⟨_, Lib.hid rfl⟩
  rw [HR.out]
  have hC := two_evts w a b A B c d
  have Hb : Hid (Below w.heap.size w ((w.alloc (.cells (evCs a A c) 56)).alloc (.cells (evCs b B d) 56))) := ((Below.refl _ _).alloc (Nat.le_refl _) _).alloc (by simp) _
  go_enter Tryz.func150, Tryz.ntmps150
  go_upto_region 1 with fail
  generalize (w.alloc (.cells (evCs a A c) 56)).alloc (.cells (evCs b B d) 56) = w1 at *
  obtain ⟨Y, hY⟩ : ∃ Y, Y = w.heap.size + 1 := ⟨_, rfl⟩
  obtain ⟨X, hX⟩ : ∃ X, X = w.heap.size := ⟨_, rfl⟩
  rw [← hY, ← hX] at hC
  rw [← hY, ← hX]
  clear hY hX
  have c0 := LV.all hC.1
  have d0 := LV.all hC.2
  unfold befE ltS at HR
  by_cases h1 : a.at' < b.at'
  · have Hn : Hid (true = R) := by show _ = _; rw [← HR.out, decide_eq_true h1]; rfl
    clear HR hC
    go_wp2_with fail
    go_ret
    exact ⟨ret_b Hn.out, Hb.out⟩
  · by_cases h2 : a.at' = b.at'
    · have Hn : Hid (Op.bytesLess a.id.toList b.id.toList = R) := by show _ = _; rw [← HR.out, decide_eq_false h1, decide_eq_true h2]; rfl
      have h2' : (a.at' == b.at') = true := by simpa using h2
      clear HR hC h2
      go_wp2_with fail
      go_ret
      exact ⟨ret_b Hn.out, Hb.out⟩
    · have Hn : Hid (false = R) := by show _ = _; rw [← HR.out, decide_eq_false h1, decide_eq_false h2]; rfl
      have h2' : (a.at' == b.at') = false := by simpa using h2
      clear HR hC h2
      go_wp2_with fail
      go_ret
      exact ⟨ret_b Hn.out, Hb.out⟩
def evsE (F : Int) (B T : Bool) : Int := if F ≠ 0 then F else if B = true then 7 else if T = true then 6 else 0
def evsGo (prev : Option Evt) (seen : List ByteArray) : List Evt → Int
  | [] => 0
  | e :: r => if evsE (evtFault e) (prev.any (fun p => !befE p e)) (hasId seen e.id) ≠ 0 then evsE (evtFault e) (prev.any (fun p => !befE p e)) (hasId seen e.id) else evsGo (some e) (seen ++ [e.id]) r
def evsFault (l : List Evt) : Int := if 5000 < l.length then 2 else evsGo none [] l
structure EvsOk (l : List Evt) : Prop where
  len : l.length ≤ 1000000
  ok : ∀ e ∈ l, EvtOk e
end Go.Proofs.YteabhkmhogmoiaaGreatDoor

/- Right lists of events in plain words: each is right, and they rise. -/
namespace Go.Proofs.YteabhkmhogmoiaaGreatDoor
open Go.RowKit
theorem befE_trans {a b c : Evt} (h1 : befE a b = true) (h2 : befE b c = true) : befE a c = true := by
  unfold befE at *
  simp only [Bool.or_eq_true, Bool.and_eq_true, decide_eq_true_eq] at *
  rcases h1 with h1 | ⟨h1, h1'⟩ <;> rcases h2 with h2 | ⟨h2, h2'⟩
  · left; omega
  · left; omega
  · left; omega
  · right; exact ⟨by omega, ltS_trans h1' h2'⟩
structure GoodEvs (l : List Evt) : Prop where
  len : l.length ≤ 5000
  ok : ∀ e ∈ l, evtFault e = 0
  ord : l.Pairwise (fun a b => befE a b = true)
theorem evsE_zero {F : Int} {B T : Bool} (h : evsE F B T = 0) : F = 0 ∧ B = false ∧ T = false := by
  unfold evsE at h
  split at h
  · rename_i h1; exact absurd h h1
  · rename_i h1
    split at h
    · cases h
    · rename_i h2
      split at h
      · cases h
      · rename_i h3
        exact ⟨Decidable.not_not.1 h1, by simpa using h2, by simpa using h3⟩
theorem evsGo_ok : ∀ {l : List Evt} {prev : Option Evt} {seen : List ByteArray}, evsGo prev seen l = 0 → (∀ e ∈ l, evtFault e = 0) ∧ (∀ q, prev = some q → ∀ e ∈ l, befE q e = true) ∧ l.Pairwise (fun a b => befE a b = true)
  | [], _, _, _ => ⟨(fun _ h => by cases h), (fun _ _ _ h => by cases h), List.Pairwise.nil⟩
  | x :: r, prev, seen, h => by
    have hx : evsE (evtFault x) (prev.any (fun p => !befE p x)) (hasId seen x.id) = 0 := by
      by_cases e : evsE (evtFault x) (prev.any (fun p => !befE p x)) (hasId seen x.id) = 0
      · exact e
      · exact absurd (step_no h e) e
    obtain ⟨h1, h2, _⟩ := evsE_zero hx
    obtain ⟨i1, i2, i3⟩ := evsGo_ok (l := r) (prev := some x) (step_go h hx)
    have hp : ∀ q, prev = some q → befE q x = true := fun q hq => by
      subst hq
      simpa using h2
    refine ⟨fun e he => ?_, fun q hq e he => ?_, List.pairwise_cons.2 ⟨fun e he => i2 x rfl e he, i3⟩⟩
    · rcases List.mem_cons.1 he with rfl | he
      · exact h1
      · exact i1 e he
    · rcases List.mem_cons.1 he with rfl | he
      · exact hp q hq
      · exact befE_trans (hp q hq) (i2 x rfl e he)
theorem evs_good {l : List Evt} (h : evsFault l = 0) : GoodEvs l := by
  unfold evsFault at h
  split at h
  · cases h
  · obtain ⟨h1, _, h3⟩ := evsGo_ok h
    exact ⟨by omega, h1, h3⟩
theorem evt_good {e : Evt} (h : evtFault e = 0) : L.isKey e.id = true ∧ L.isKey e.name = true ∧ (0 ≤ e.at' ∧ e.at' ≤ 4321439) ∧ L.idFault e.kind e.text = 0 ∧ fldsFault e.flds = 0 := by
  unfold evtFault evtE at h
  split at h
  · cases h
  · rename_i h1
    split at h
    · cases h
    · rename_i h2
      split at h
      · rename_i h3; exact absurd h h3
      · rename_i h3
        refine ⟨by simpa using fun e => h1 (.inl e), by simpa using fun e => h1 (.inr e), by simpa using h2, Decidable.not_not.1 h3, h⟩
theorem GoodEvs.range {l : List Evt} (h : GoodEvs l) {e : Evt} (he : e ∈ l) : 0 ≤ e.at' ∧ e.at' ≤ 4321439 := (evt_good (h.ok e he)).2.2.1
end Go.Proofs.YteabhkmhogmoiaaGreatDoor

/- What event.Check and handref2.EventsFault return. -/
namespace Go.Proofs.YteabhkmhogmoiaaGreatDoor
open Go Go.RowKit
theorem zeroBS (w : World) : (zeroValue 4).run Tryz.prog w = .ok (.bool false) w := by kernel_rfl
theorem loadAtE {w : World} {blk o : Nat} {x : Evt} {A : Option Addr} {c : Nat} (c0 : w.cell? ⟨blk, o, none⟩ = some (.string x.id)) (c1 : w.cell? ⟨blk, o + 1, none⟩ = some (.string x.name)) (c2 : w.cell? ⟨blk, o + 2, none⟩ = some (.int .i64 x.at')) (c3 : w.cell? ⟨blk, o + 3, none⟩ = some (.int .i64 x.kind))
    (c4 : w.cell? ⟨blk, o + 4, none⟩ = some (.string x.text)) (c5 : w.cell? ⟨blk, o + 5, none⟩ = some (.slice A x.flds.length c)) : (Instr.loadAt 56 (.pointer (some ⟨blk, o, none⟩))).run Tryz.prog w = .ok (.agg (evCs x A c)) w := by
  go_simp
theorem evsGo_at {prev : Option Evt} {seen : List ByteArray} {l : List Evt} {k : Nat} {e : Evt} (h : l[k]? = some e) : evsGo prev seen (l.drop k) = if evsE (evtFault e) (prev.any (fun p => !befE p e)) (hasId seen e.id) ≠ 0 then evsE (evtFault e) (prev.any (fun p => !befE p e)) (hasId seen e.id) else evsGo (some e) (seen ++ [e.id]) (l.drop (k + 1)) := by rw [drop_at3 h, evsGo]
set_option maxHeartbeats 8000000 in
set_option maxRecDepth 100000 in
theorem checkEvs_any (N : Nat → Prop) (A : Option Addr) (xs : List Evt) (c : Nat) (w : World) (hS : Sl rEvt N w A xs) (hok : EvsOk xs) (hT : Tabs w) (hM : MaxL w) :
    Calls Tryz.prog 72 #[.slice A xs.length c] w fun e w' => e = .returned (.int .i64 (evsFault xs)) ∧ Below w.heap.size w w' := by
  have HSl := Lib.hid (fun w' (h : Below w.heap.size w w') => hS.keepB h)
  have Hone : Hid (∀ x ∈ xs, ∀ Af cf w', Below w.heap.size w w' → Sl rFld N w' Af x.flds → Calls Tryz.prog 152 #[.agg (evCs x Af cf)] w' fun e w'' => e = .returned (.int .i64 (evtFault x)) ∧ Below w'.heap.size w' w'') := fun x hx Af cf w' h hF => checkOne_any N Af cf x w' hF (hok.ok x hx) (Utf8Tabs_below hT h) (hM.below h)
  have hln := hok.len
  clear hS hok hT hM
  obtain ⟨R, HR⟩ : ∃ R, Hid (evsFault xs = R) := ⟨_, Lib.hid rfl⟩
  rw [HR.out]
  by_cases h50 : 5000 < xs.length
  · go_enter Tryz.func72, Tryz.ntmps72
    go_wp2_with fail
    go_ret
    exact ⟨ret_i (by rw [← HR.out, evsFault, if_pos h50]), Below.refl _ _⟩
  · have HR2 : Hid (evsGo none [] xs = R) := by show _ = _; rw [← HR.out, evsFault, if_neg h50]
    clear HR
    have hmm := @run_makeMap Tryz.prog
    go_enter Tryz.func72, Tryz.ntmps72
    go_upto_region 4 with fail
    clear hmm
    obtain ⟨X, hX⟩ : ∃ X, X = w.heap.size := ⟨_, rfl⟩
    have S : Mem w (w.alloc (.map #[] 0)) [.mapS X []] := (Mem.start w).newMapS X hX
    rw [← hX]
    clear hX
    generalize w.alloc (.map #[] 0) = w1 at *
    go_wp2_with fail
    go_loopw [13] (fun i wr => ∃ k : Nat, k ≤ xs.length ∧ i = .int .i64 k ∧ Hid (evsGo (ahd xs k) ((xs.take k).map Evt.id) (xs.drop k) = R) ∧ Mem w wr [.mapS X ((xs.take k).map Evt.id)]) (fun i _ => xs.length - (intOf i).toNat)
    case atStart => exact ⟨0, Nat.zero_le _, rfl, HR2, S⟩
    case round =>
      clear HR2 S
      obtain ⟨k, hk, rfl, Hr, S⟩ := hrel
      by_cases hlt : k < xs.length
      · obtain ⟨x, hf⟩ : ∃ x, xs[k]? = some x := ⟨_, List.getElem?_eq_getElem hlt⟩
        obtain ⟨F, HF⟩ : ∃ F, Hid (evtFault x = F) := ⟨_, Lib.hid rfl⟩
        obtain ⟨B, HB⟩ : ∃ B, Hid ((ahd xs k).any (fun p => !befE p x) = B) := ⟨_, Lib.hid rfl⟩
        obtain ⟨L, HL⟩ : ∃ L, Hid ((xs.take k).map Evt.id = L) := ⟨_, Lib.hid rfl⟩
        have Hstep : Hid ((if evsE F B (hasId L x.id) ≠ 0 then evsE F B (hasId L x.id) else evsGo (some x) (L ++ [x.id]) (xs.drop (k + 1))) = R) := by show _ = _; rw [← Hr.out, evsGo_at hf, HF.out, HB.out, HL.out]
        have HL2 : Hid ((xs.take (k + 1)).map Evt.id = L ++ [x.id]) := by show _ = _; rw [take_snoc hf, List.map_append, HL.out]; rfl
        rw [HL.out] at S
        obtain ⟨blk, off, Af, cf, rfl, hblk, d0, d1, d2, d3, d4, d5, hst⟩ := (HSl.out wr S.b).evt k x hf
        have Hc := Lib.hid (fun w' (h1 : Below wr.heap.size wr w') (h2 : Below w.heap.size w w') => Hone.out x (List.mem_of_getElem? hf) Af cf w' h2 (hst.keepB h1))
        rw [HF.out] at Hc
        have Hf := Lib.hid hf
        have hb0 : Below wr.heap.size wr (wr.alloc (.cells (evCs x Af cf) 56)) := (Below.refl _ _).alloc (Nat.le_refl _) _
        obtain ⟨Y, hY⟩ : ∃ Y, Y = wr.heap.size := ⟨_, rfl⟩
        replace S : Mem w (wr.alloc (.cells (evCs x Af cf) 56)) [.mapS X L, .loc Y (evCs x Af cf) 56] := S.newAt (evCs x Af cf) 56 Y hY
        clear Hr hf HF HL hst
        go_upto_region 7 with fail
        clear d0 d1 d2 d3 d4 d5
        rw [← hY]
        clear hY
        have Hc1 := Lib.hid (Hc.out _ hb0 S.b)
        clear hb0 Hc
        generalize wr.alloc (.cells (evCs x Af cf) 56) = w1 at *
        have y0 := (S.lv 1 rfl).all
        go_wp2_with fail
        ((with_reducible refine (Hc1.out).mono ?_); rintro e w2 ⟨rfl, hl2⟩)
        replace S := S.below hl2
        clear Hc1 hl2 y0
        by_cases hF : F = 0
        · subst hF
          have Hs2 : Hid ((if (if B = true then (7 : Int) else if hasId L x.id = true then 6 else 0) ≠ 0 then (if B = true then (7 : Int) else if hasId L x.id = true then 6 else 0) else evsGo (some x) (L ++ [x.id]) (xs.drop (k + 1))) = R) := Hstep.out
          have HS := Lib.hid S
          clear S Hstep
          go_upto_region 10 with fail
          go_cut [34] (fun s34 wx => s34 = .bool B ∧ Below w2.heap.size w2 wx)
          case first =>
            have lvY := HS.out.lv 1 rfl
            by_cases hk0 : k = 0
            · subst hk0
              obtain rfl : false = B := HB.out
              go_wp2_with fail
              refine wp_region_mix (fun w' => Below w2.heap.size w2 w') [(true, 0), (true, 1), (true, 2), (true, 3), (true, 4), (true, 5), (true, 6), (true, 7), (true, 8), (false, 9), (true, 10), (true, 11)] (by kernel_rfl) (by kernel_rfl) (fun w' hd => hd.below _) (fun KK hKK wd hd_wd => ?_)
              have hC := hd_wd.below w2.heap.size
              clear hd_wd
              repeat (refine mix_p rfl (fun K hK => ?_); go_simp; (try go_bits); (try simp (disch := omega) only [if_pos]); (try simp (disch := omega) only [if_neg]); (try simp (disch := omega) only [dif_pos]); (try simp (disch := omega) only [dif_neg]); (try go_simp); (refine hK _ ?_; clear hK K))
              refine mix_l rfl (fun K hK => ?_) hC
              go_wp2_with fail
              refine ⟨hC, ?_⟩
              repeat (refine mix_p rfl (fun K hK => ?_); go_simp; (try go_bits); (try simp (disch := omega) only [if_pos]); (try simp (disch := omega) only [if_neg]); (try simp (disch := omega) only [dif_pos]); (try simp (disch := omega) only [dif_neg]); (try go_simp); (refine hK _ ?_; clear hK K))
              refine mix_nil ?_
              simp only [Exit.then]
              refine hKK _ _ ?_
              go_wp2_with fail
              go_meet
              exact ⟨rfl, hC⟩
            · obtain ⟨q, rfl⟩ : ∃ q, k = q + 1 := ⟨k - 1, by omega⟩
              obtain ⟨p, hp⟩ : ∃ p, xs[q]? = some p := ⟨_, List.getElem?_eq_getElem (by omega)⟩
              have HB2 : Hid ((!befE p x) = B) := by
                show _ = _
                rw [← HB.out, ahd_succ xs q p hp]
                rfl
              obtain ⟨_, _, Ap, cp, e, hblk2, e0, e1, e2, e3, e4, e5, _⟩ := (HSl.out w2 HS.out.b).evt q p hp
              cases e
              have Hld := Lib.hid (fun w' (h : Below w2.heap.size w2 w') => loadAtE (A := Ap) (c := cp) (x := p) ((h.cell (p := ⟨blk, off + q * 6, none⟩) hblk2).trans e0) ((h.cell (p := ⟨blk, off + q * 6 + 1, none⟩) hblk2).trans e1) ((h.cell (p := ⟨blk, off + q * 6 + 2, none⟩) hblk2).trans e2) ((h.cell (p := ⟨blk, off + q * 6 + 3, none⟩) hblk2).trans e3) ((h.cell (p := ⟨blk, off + q * 6 + 4, none⟩) hblk2).trans e4) ((h.cell (p := ⟨blk, off + q * 6 + 5, none⟩) hblk2).trans e5))
              clear HB hp e0 e1 e2 e3 e4 e5
              have hk1 : decide ((0 : Int) < ((q + 1 : Nat) : Int)) = true := by simp
              have hk2 : ((q + 1 : Nat) : Int) - 1 = (q : Int) := by omega
              go_wp2_with fail
              refine wp_region_mix (fun w' => Below w2.heap.size w2 w') [(true, 0), (true, 1), (true, 2), (true, 3), (true, 4), (true, 5), (true, 6), (true, 7), (true, 8), (false, 9), (true, 10), (true, 11)] (by kernel_rfl) (by kernel_rfl) (fun w' hd => hd.below _) (fun KK hKK wd hd_wd => ?_)
              have hC := hd_wd.below w2.heap.size
              clear hd_wd
              repeat (refine mix_p rfl (fun K hK => ?_); go_simp; (try go_bits); (try simp (disch := omega) only [if_pos]); (try simp (disch := omega) only [if_neg]); (try simp (disch := omega) only [dif_pos]); (try simp (disch := omega) only [dif_neg]); (try go_simp); (refine hK _ ?_; clear hK K))
              refine mix_loadG (.agg (evCs p Ap cp)) rfl (by simp [Region.wanted, yielded, go_sem]) rfl rfl (fun w' h => Hld.out w' h) ?_
              refine mix_loadG (.agg (evCs x Af cf)) rfl (by simp [Region.wanted, yielded, go_sem]) rfl rfl (fun w' h => loadAtEv (LV.kb3 lvY h lvY.lt)) ?_
              refine mix_l rfl (fun K hK => ?_) hC
              have Ho := Lib.hid (orderEv_any p x Ap Af cp cf wd)
              have hon := ordE_neg p x
              generalize ordE p x = o at *
              go_wp2_with fail
              ((with_reducible refine (Ho.out).mono ?_); rintro e w3 ⟨rfl, hl3⟩)
              have hC3 := hC.trans (hl3.mono hC.size)
              have ho : decide (0 ≤ o) = B := by
                rw [← HB2.out]
                cases hb : befE p x
                · rw [hb] at hon
                  have : ¬ o < 0 := fun h => by have := hon.1 h; cases this
                  simpa using this
                · rw [hb] at hon
                  have := hon.2 rfl
                  simpa using this
              clear Ho hl3 hon
              go_wp2_with fail
              refine ⟨hC3, ?_⟩
              repeat (refine mix_p rfl (fun K hK => ?_); go_simp; (try go_bits); (try simp (disch := omega) only [if_pos]); (try simp (disch := omega) only [if_neg]); (try simp (disch := omega) only [dif_pos]); (try simp (disch := omega) only [dif_neg]); (try go_simp); (refine hK _ ?_; clear hK K))
              refine mix_nil ?_
              simp only [Exit.then]
              refine hKK _ _ ?_
              go_wp2_with fail
              go_meet
              exact ⟨by rw [← ho], hC3⟩
          case rest =>
            obtain ⟨rfl, hbc⟩ := hcut
            have S := HS.out.below hbc
            have y0 := (S.lv 1 rfl).all
            clear HS hbc HB
            cases B
            · cases hh : hasId L x.id with
              | true =>
                have Hn : Hid (6 = R) := by show _ = _; rw [← Hs2.out, hh]; rfl
                go_wp2_with (at_lookup; refine S.lookS 0 rfl Tryz.underlying211 Tryz.underlying9 zeroBS rfl _ _ rfl rfl x.id rfl ?_; rw [hh])
                go_ret
                exact ⟨ret_i Hn.out, S.b⟩
              | false =>
                have Hn : Hid (evsGo (some x) (L ++ [x.id]) (xs.drop (k + 1)) = R) := by show _ = _; rw [← Hs2.out, hh]; rfl
                have hno := hasId_no hh
                go_wp2_with (first | (at_lookup; refine S.lookS 0 rfl Tryz.underlying211 Tryz.underlying9 zeroBS rfl _ _ rfl rfl x.id rfl ?_; rw [hh]) | (at_mapUpdate; refine S.putS 0 rfl Tryz.underlying211 Tryz.underlying9 rfl _ _ _ rfl rfl x.id rfl rfl hno ?_; intro w6 S6))
                go_roundw
                case rel => exact ⟨k + 1, by omega, by go_num, by show _ = _; rw [ahd_succ xs k x Hf.out, HL2.out]; exact Hn.out, by rw [HL2.out]; exact S6.del 1⟩
                case measure => simp [intOf]; omega
            · have Hn : Hid (7 = R) := Hs2.out
              go_wp2_with fail
              go_ret
              exact ⟨ret_i Hn.out, S.b⟩
        · have Hn := Lib.hid (step_is Hstep.out (v := F) (by rw [evsE, if_pos hF]) hF)
          have hF' : (F != 0) = true := by simpa using hF
          go_wp2_with fail
          go_ret
          exact ⟨ret_i Hn.out, S.b⟩
      · go_wp2_with fail
        go_ret
        exact ⟨ret_i (by rw [← Hr.out, List.drop_eq_nil_of_le (by omega)]; rfl), S.b⟩
set_option maxHeartbeats 8000000 in
set_option maxRecDepth 100000 in
theorem refEvs_any (N : Nat → Prop) (A : Option Addr) (xs : List Evt) (c : Nat) (w : World) (hS : Sl rEvt N w A xs) (hok : EvsOk xs) (hT : Tabs w) (hM : MaxL w) :
    Calls Tryz.prog 70 #[.slice A xs.length c] w fun e w' => e = .returned (.int .i64 (evsFault xs)) ∧ Below w.heap.size w w' := by
  have HSl := Lib.hid (fun w' (h : Below w.heap.size w w') => hS.keepB h)
  have Hone : Hid (∀ x ∈ xs, ∀ Af cf w', Below w.heap.size w w' → Sl rFld N w' Af x.flds → Calls Tryz.prog 149 #[.agg (evCs x Af cf)] w' fun e w'' => e = .returned (.int .i64 (evtFault x)) ∧ Below w'.heap.size w' w'') := fun x hx Af cf w' h hF => refEvent_any N Af cf x w' hF (hok.ok x hx) (Utf8Tabs_below hT h) (hM.below h)
  have hln := hok.len
  clear hS hok hT hM
  obtain ⟨R, HR⟩ : ∃ R, Hid (evsFault xs = R) := ⟨_, Lib.hid rfl⟩
  rw [HR.out]
  by_cases h50 : 5000 < xs.length
  · go_enter Tryz.func70, Tryz.ntmps70
    go_wp2_with fail
    go_ret
    exact ⟨ret_i (by rw [← HR.out, evsFault, if_pos h50]), Below.refl _ _⟩
  · have HR2 : Hid (evsGo none [] xs = R) := by show _ = _; rw [← HR.out, evsFault, if_neg h50]
    clear HR
    have hmm := @run_makeMap Tryz.prog
    go_enter Tryz.func70, Tryz.ntmps70
    go_upto_region 4 with fail
    clear hmm
    obtain ⟨X, hX⟩ : ∃ X, X = w.heap.size := ⟨_, rfl⟩
    have S : Mem w (w.alloc (.map #[] 0)) [.mapS X []] := (Mem.start w).newMapS X hX
    rw [← hX]
    clear hX
    generalize w.alloc (.map #[] 0) = w1 at *
    go_wp2_with fail
    go_loopw [13] (fun i wr => ∃ k : Nat, k ≤ xs.length ∧ i = .int .i64 k ∧ Hid (evsGo (ahd xs k) ((xs.take k).map Evt.id) (xs.drop k) = R) ∧ Mem w wr [.mapS X ((xs.take k).map Evt.id)]) (fun i _ => xs.length - (intOf i).toNat)
    case atStart => exact ⟨0, Nat.zero_le _, rfl, HR2, S⟩
    case round =>
      clear HR2 S
      obtain ⟨k, hk, rfl, Hr, S⟩ := hrel
      by_cases hlt : k < xs.length
      · obtain ⟨x, hf⟩ : ∃ x, xs[k]? = some x := ⟨_, List.getElem?_eq_getElem hlt⟩
        obtain ⟨F, HF⟩ : ∃ F, Hid (evtFault x = F) := ⟨_, Lib.hid rfl⟩
        obtain ⟨B, HB⟩ : ∃ B, Hid ((ahd xs k).any (fun p => !befE p x) = B) := ⟨_, Lib.hid rfl⟩
        obtain ⟨L, HL⟩ : ∃ L, Hid ((xs.take k).map Evt.id = L) := ⟨_, Lib.hid rfl⟩
        have Hstep : Hid ((if evsE F B (hasId L x.id) ≠ 0 then evsE F B (hasId L x.id) else evsGo (some x) (L ++ [x.id]) (xs.drop (k + 1))) = R) := by show _ = _; rw [← Hr.out, evsGo_at hf, HF.out, HB.out, HL.out]
        have HL2 : Hid ((xs.take (k + 1)).map Evt.id = L ++ [x.id]) := by show _ = _; rw [take_snoc hf, List.map_append, HL.out]; rfl
        rw [HL.out] at S
        obtain ⟨blk, off, Af, cf, rfl, hblk, d0, d1, d2, d3, d4, d5, hst⟩ := (HSl.out wr S.b).evt k x hf
        have Hc := Lib.hid (fun w' (h1 : Below wr.heap.size wr w') (h2 : Below w.heap.size w w') => Hone.out x (List.mem_of_getElem? hf) Af cf w' h2 (hst.keepB h1))
        rw [HF.out] at Hc
        have Hf := Lib.hid hf
        have hb0 : Below wr.heap.size wr (wr.alloc (.cells (evCs x Af cf) 56)) := (Below.refl _ _).alloc (Nat.le_refl _) _
        obtain ⟨Y, hY⟩ : ∃ Y, Y = wr.heap.size := ⟨_, rfl⟩
        replace S : Mem w (wr.alloc (.cells (evCs x Af cf) 56)) [.mapS X L, .loc Y (evCs x Af cf) 56] := S.newAt (evCs x Af cf) 56 Y hY
        clear Hr hf HF HL hst
        go_upto_region 7 with fail
        clear d0 d1 d2 d3 d4 d5
        rw [← hY]
        clear hY
        have Hc1 := Lib.hid (Hc.out _ hb0 S.b)
        clear hb0 Hc
        generalize wr.alloc (.cells (evCs x Af cf) 56) = w1 at *
        have y0 := (S.lv 1 rfl).all
        go_wp2_with fail
        ((with_reducible refine (Hc1.out).mono ?_); rintro e w2 ⟨rfl, hl2⟩)
        replace S := S.below hl2
        clear Hc1 hl2 y0
        by_cases hF : F = 0
        · subst hF
          have Hs2 : Hid ((if (if B = true then (7 : Int) else if hasId L x.id = true then 6 else 0) ≠ 0 then (if B = true then (7 : Int) else if hasId L x.id = true then 6 else 0) else evsGo (some x) (L ++ [x.id]) (xs.drop (k + 1))) = R) := Hstep.out
          have HS := Lib.hid S
          clear S Hstep
          go_upto_region 10 with fail
          go_cut [34] (fun s34 wx => s34 = .bool B ∧ Below w2.heap.size w2 wx)
          case first =>
            have lvY := HS.out.lv 1 rfl
            by_cases hk0 : k = 0
            · subst hk0
              obtain rfl : false = B := HB.out
              go_wp2_with fail
              refine wp_region_mix (fun w' => Below w2.heap.size w2 w') [(true, 0), (true, 1), (true, 2), (true, 3), (true, 4), (true, 5), (true, 6), (true, 7), (true, 8), (false, 9), (true, 10), (true, 11)] (by kernel_rfl) (by kernel_rfl) (fun w' hd => hd.below _) (fun KK hKK wd hd_wd => ?_)
              have hC := hd_wd.below w2.heap.size
              clear hd_wd
              repeat (refine mix_p rfl (fun K hK => ?_); go_simp; (try go_bits); (try simp (disch := omega) only [if_pos]); (try simp (disch := omega) only [if_neg]); (try simp (disch := omega) only [dif_pos]); (try simp (disch := omega) only [dif_neg]); (try go_simp); (refine hK _ ?_; clear hK K))
              refine mix_l rfl (fun K hK => ?_) hC
              go_wp2_with fail
              refine ⟨hC, ?_⟩
              repeat (refine mix_p rfl (fun K hK => ?_); go_simp; (try go_bits); (try simp (disch := omega) only [if_pos]); (try simp (disch := omega) only [if_neg]); (try simp (disch := omega) only [dif_pos]); (try simp (disch := omega) only [dif_neg]); (try go_simp); (refine hK _ ?_; clear hK K))
              refine mix_nil ?_
              simp only [Exit.then]
              refine hKK _ _ ?_
              go_wp2_with fail
              go_meet
              exact ⟨rfl, hC⟩
            · obtain ⟨q, rfl⟩ : ∃ q, k = q + 1 := ⟨k - 1, by omega⟩
              obtain ⟨p, hp⟩ : ∃ p, xs[q]? = some p := ⟨_, List.getElem?_eq_getElem (by omega)⟩
              have HB2 : Hid ((!befE p x) = B) := by
                show _ = _
                rw [← HB.out, ahd_succ xs q p hp]
                rfl
              obtain ⟨_, _, Ap, cp, e, hblk2, e0, e1, e2, e3, e4, e5, _⟩ := (HSl.out w2 HS.out.b).evt q p hp
              cases e
              have Hld := Lib.hid (fun w' (h : Below w2.heap.size w2 w') => loadAtE (A := Ap) (c := cp) (x := p) ((h.cell (p := ⟨blk, off + q * 6, none⟩) hblk2).trans e0) ((h.cell (p := ⟨blk, off + q * 6 + 1, none⟩) hblk2).trans e1) ((h.cell (p := ⟨blk, off + q * 6 + 2, none⟩) hblk2).trans e2) ((h.cell (p := ⟨blk, off + q * 6 + 3, none⟩) hblk2).trans e3) ((h.cell (p := ⟨blk, off + q * 6 + 4, none⟩) hblk2).trans e4) ((h.cell (p := ⟨blk, off + q * 6 + 5, none⟩) hblk2).trans e5))
              clear HB hp e0 e1 e2 e3 e4 e5
              have hk1 : decide ((0 : Int) < ((q + 1 : Nat) : Int)) = true := by simp
              have hk2 : ((q + 1 : Nat) : Int) - 1 = (q : Int) := by omega
              go_wp2_with fail
              refine wp_region_mix (fun w' => Below w2.heap.size w2 w') [(true, 0), (true, 1), (true, 2), (true, 3), (true, 4), (true, 5), (true, 6), (true, 7), (true, 8), (false, 9), (true, 10), (true, 11)] (by kernel_rfl) (by kernel_rfl) (fun w' hd => hd.below _) (fun KK hKK wd hd_wd => ?_)
              have hC := hd_wd.below w2.heap.size
              clear hd_wd
              repeat (refine mix_p rfl (fun K hK => ?_); go_simp; (try go_bits); (try simp (disch := omega) only [if_pos]); (try simp (disch := omega) only [if_neg]); (try simp (disch := omega) only [dif_pos]); (try simp (disch := omega) only [dif_neg]); (try go_simp); (refine hK _ ?_; clear hK K))
              refine mix_loadG (.agg (evCs p Ap cp)) rfl (by simp [Region.wanted, yielded, go_sem]) rfl rfl (fun w' h => Hld.out w' h) ?_
              refine mix_loadG (.agg (evCs x Af cf)) rfl (by simp [Region.wanted, yielded, go_sem]) rfl rfl (fun w' h => loadAtEv (LV.kb3 lvY h lvY.lt)) ?_
              refine mix_l rfl (fun K hK => ?_) hC
              have Ho := Lib.hid (before_any p x Ap Af cp cf wd)
              generalize befE p x = o at *
              go_wp2_with fail
              ((with_reducible refine (Ho.out).mono ?_); rintro e w3 ⟨rfl, hl3⟩)
              have hC3 := hC.trans (hl3.mono hC.size)
              clear Ho hl3
              go_wp2_with fail
              refine ⟨hC3, ?_⟩
              repeat (refine mix_p rfl (fun K hK => ?_); go_simp; (try go_bits); (try simp (disch := omega) only [if_pos]); (try simp (disch := omega) only [if_neg]); (try simp (disch := omega) only [dif_pos]); (try simp (disch := omega) only [dif_neg]); (try go_simp); (refine hK _ ?_; clear hK K))
              refine mix_nil ?_
              simp only [Exit.then]
              refine hKK _ _ ?_
              go_wp2_with fail
              go_meet
              exact ⟨by rw [← HB2.out], hC3⟩
          case rest =>
            obtain ⟨rfl, hbc⟩ := hcut
            have S := HS.out.below hbc
            have y0 := (S.lv 1 rfl).all
            clear HS hbc HB
            cases B
            · cases hh : hasId L x.id with
              | true =>
                have Hn : Hid (6 = R) := by show _ = _; rw [← Hs2.out, hh]; rfl
                go_wp2_with (at_lookup; refine S.lookS 0 rfl Tryz.underlying211 Tryz.underlying9 zeroBS rfl _ _ rfl rfl x.id rfl ?_; rw [hh])
                go_ret
                exact ⟨ret_i Hn.out, S.b⟩
              | false =>
                have Hn : Hid (evsGo (some x) (L ++ [x.id]) (xs.drop (k + 1)) = R) := by show _ = _; rw [← Hs2.out, hh]; rfl
                have hno := hasId_no hh
                go_wp2_with (first | (at_lookup; refine S.lookS 0 rfl Tryz.underlying211 Tryz.underlying9 zeroBS rfl _ _ rfl rfl x.id rfl ?_; rw [hh]) | (at_mapUpdate; refine S.putS 0 rfl Tryz.underlying211 Tryz.underlying9 rfl _ _ _ rfl rfl x.id rfl rfl hno ?_; intro w6 S6))
                go_roundw
                case rel => exact ⟨k + 1, by omega, by go_num, by show _ = _; rw [ahd_succ xs k x Hf.out, HL2.out]; exact Hn.out, by rw [HL2.out]; exact S6.del 1⟩
                case measure => simp [intOf]; omega
            · have Hn : Hid (7 = R) := Hs2.out
              go_wp2_with fail
              go_ret
              exact ⟨ret_i Hn.out, S.b⟩
        · have Hn := Lib.hid (step_is Hstep.out (v := F) (by rw [evsE, if_pos hF]) hF)
          have hF' : (F != 0) = true := by simpa using hF
          go_wp2_with fail
          go_ret
          exact ⟨ret_i Hn.out, S.b⟩
      · go_wp2_with fail
        go_ret
        exact ⟨ret_i (by rw [← Hr.out, List.drop_eq_nil_of_le (by omega)]; rfl), S.b⟩
end Go.Proofs.YteabhkmhogmoiaaGreatDoor
