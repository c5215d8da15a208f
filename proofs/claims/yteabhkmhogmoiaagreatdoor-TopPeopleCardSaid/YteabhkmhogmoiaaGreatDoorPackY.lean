/- Several texts in one: TopA, TopB, TopC, TopD, LawTop. -/
import Derived.Test.YteabhkmhogmoiaaGreatDoorPackH
import Derived.Test.YteabhkmhogmoiaaGreatDoorPackF
import Derived.Test.YteabhkmhogmoiaaGreatDoorPackX
import Derived.Test.YteabhkmhogmoiaaGreatDoorPackM
import Derived.Test.YteabhkmhogmoiaaGreatDoorPackQ
import Derived.Test.YteabhkmhogmoiaaGreatDoorPackK
import Derived.Test.YteabhkmhogmoiaaGreatDoorPackR
import Derived.Test.YteabhkmhogmoiaaGreatDoorPackA
import Derived.Test.YteabhkmhogmoiaaGreatDoorPackC
/- handtop: open, ids and has. -/
namespace Go.Proofs.YteabhkmhogmoiaaGreatDoor
open Go Go.RowKit
theorem loadJo {w : World} {X : Nat} {a b c d : Value} (h : LV w X #[a, b, c, d] 64) : (loadVar 64 ⟨X, 0, none⟩).run Tryz.prog w = .ok (.agg #[a, b, c, d]) w := by
  have c0 := h.all
  go_simp
abbrev joZ : Array Value := #[.slice none 0 0, .int .i64 0, .slice none 0 0, .slice none 0 0]
set_option maxHeartbeats 4000000 in
set_option maxRecDepth 100000 in
theorem open_any (w : World) : Calls Tryz.prog 66 #[] w fun e w' => ∃ K, e = .returned (.agg (ruCs openR K 4 none 0 none 0)) ∧ Mem w w' [.sl rInt K [1, 2, 3, 4]] := by
  obtain ⟨X, hX⟩ : ∃ X, X = w.heap.size := ⟨_, rfl⟩
  have T0 := (Mem.start w).newAt joZ 64 X hX
  go_enter Tryz.func66, Tryz.ntmps66
  go_upto_region 1 with fail
  rw [← hX]
  clear hX
  generalize w.alloc (.cells joZ 64) = w1 at *
  replace T0 : Mem w w1 [.loc X joZ 64] := T0
  obtain ⟨V, hV⟩ : ∃ V, V = w1.heap.size := ⟨_, rfl⟩
  have T1 : Mem w (w1.alloc (.cells #[.int .i64 1, .int .i64 2, .int .i64 3, .int .i64 4] 3)) [.loc X joZ 64, .own rInt w.heap.size 3 (.slice (some ⟨V, 0, none⟩) 4 4) [1, 2, 3, 4]] := (T0.newAt #[.int .i64 1, .int .i64 2, .int .i64 3, .int .i64 4] 3 V hV).asOwn flatInt 1 rfl [1, 2, 3, 4] rfl rfl (by simp) rfl 4 rfl
  have y0 := (T1.lv 0 rfl).all
  clear T0
  go_wp2_with fail
  rw [← hV]
  clear hV
  generalize w1.alloc (.cells #[.int .i64 1, .int .i64 2, .int .i64 3, .int .i64 4] 3) = w2 at *
  have T2 := (((T1.set 0 0 (.slice (some ⟨V, 0, none⟩) 4 4) rfl).set 0 1 (.int .i64 2000) rfl).set 0 2 (.slice none 0 0) rfl).set 0 3 (.slice none 0 0) rfl
  obtain ⟨A, c, e, T3⟩ := T2.frz 1 rfl
  cases e
  exact bodyPost_ret (results_cell1 rfl rfl (loadJo (T2.lv 0 rfl))) rfl ⟨some ⟨V, 0, none⟩, rfl, T3.del 0⟩
set_option maxHeartbeats 4000000 in
set_option maxRecDepth 100000 in
theorem idsW_any (N : Nat → Prop) (A : Option Addr) (c : Nat) (qs : List EQ) (w : World) (hS : Sl rEQ N w A qs) (hl : qs.length ≤ 1000000) :
    Calls Tryz.prog 15 #[.slice A qs.length c] w fun e w' => ∃ v, e = .returned v ∧ Mem w w' [.own rStr w.heap.size 9 v (srtW (qs.map fun q => q.e.id))] := by
  have HS := Lib.hid (fun w' (h : Below w.heap.size w w') => hS.keepB h)
  have S : Mem w w [.own rStr w.heap.size 9 (.slice none 0 0) []] := (Mem.start w).nil rStr w.heap.size 9
  clear hS
  go_enter Tryz.func15, Tryz.ntmps15
  go_wp2_with fail
  go_loopw [3, 8] (fun s3 s8 wr => ∃ k : Nat, k ≤ qs.length ∧ s8 = .int .i64 k ∧ Mem w wr [.own rStr w.heap.size 9 s3 ((qs.take k).map fun q => q.e.id)]) (fun _ s8 _ => qs.length - (intOf s8).toNat)
  case atStart => exact ⟨0, Nat.zero_le _, rfl, S⟩
  case round =>
    clear S
    obtain ⟨k, hk, rfl, S⟩ := hrel
    by_cases hlt : k < qs.length
    · obtain ⟨q, hq⟩ : ∃ q, qs[k]? = some q := ⟨_, List.getElem?_eq_getElem hlt⟩
      obtain ⟨b1, o1, l, rfl, hb1, _, rfl, h4⟩ := HS.out wr S.b k q hq
      have c0 : wr.cell? ⟨b1, o1 + k * 6, none⟩ = some (.string q.e.id) := h4 0 _ rfl
      have c1 : wr.cell? ⟨b1, o1 + k * 6 + 1, none⟩ = some (.string q.e.name) := h4 1 _ rfl
      have c2 : wr.cell? ⟨b1, o1 + k * 6 + 2, none⟩ = some (.int .i64 q.e.at') := h4 2 _ rfl
      have c3 : wr.cell? ⟨b1, o1 + k * 6 + 3, none⟩ = some (.int .i64 q.e.kind) := h4 3 _ rfl
      have c4 : wr.cell? ⟨b1, o1 + k * 6 + 4, none⟩ = some (.string q.e.text) := h4 4 _ rfl
      have c5 : wr.cell? ⟨b1, o1 + k * 6 + 5, none⟩ = some (.slice q.A q.e.flds.length q.c) := h4 5 _ rfl
      have Hsn : Hid ((qs.take (k + 1)).map (fun q => q.e.id) = (qs.take k).map (fun q => q.e.id) ++ [q.e.id]) := by show _ = _; rw [take_snoc hq]; simp
      have Hkl : Hid (((qs.take k).map fun q => q.e.id).length = k) := by show _ = _; rw [List.length_map, List.length_take]; omega
      obtain ⟨E, HE⟩ : ∃ E, Hid ((qs.take k).map (fun q => q.e.id) = E) := ⟨_, Lib.hid rfl⟩
      rw [HE.out] at S Hsn Hkl
      have hEl : E.length ≤ 1000000 := by rw [Hkl.out]; omega
      obtain ⟨Y, hY⟩ : ∃ Y, Y = wr.heap.size := ⟨_, rfl⟩
      have S1 : Mem w _ [.own rStr w.heap.size 9 u3 E, .loc Y #[.string q.e.id, .string q.e.name, .int .i64 q.e.at', .int .i64 q.e.kind, .string q.e.text, .slice q.A q.e.flds.length q.c] 56] := S.newAt #[.string q.e.id, .string q.e.name, .int .i64 q.e.at', .int .i64 q.e.kind, .string q.e.text, .slice q.A q.e.flds.length q.c] 56 Y hY
      clear hq h4
      go_upto_region 5 with fail
      rw [← hY]
      clear hY S c0 c1 c2 c3 c4 c5
      generalize wr.alloc (.cells #[.string q.e.id, .string q.e.name, .int .i64 q.e.at', .int .i64 q.e.kind, .string q.e.text, .slice q.A q.e.flds.length q.c] 56) = w2 at *
      have y0 := (S1.lv 1 rfl).all
      have hsz := S1.b.size
      go_wp2_with (at_builtin; refine S1.app 0 rfl tyStrs rfl _ _ rfl q.e.id 1 rfl rfl rfl (oneStrs _) hsz (by omega) (by decide) ?_; intro v' w3 S2)
      go_roundw
      case rel =>
        refine ⟨k + 1, by omega, by go_num, ?_⟩
        rw [Hsn.out]
        exact S2.del 1
      case measure => simp [intOf]; omega
    · obtain rfl : k = qs.length := by omega
      rw [List.take_of_length_le (Nat.le_refl _)] at S
      have Hs := Lib.hid (sortOwnW S 0 rfl (by rw [List.length_map]; omega))
      clear S
      go_wp2_with fail
      ((with_reducible refine (Hs.out).mono ?_); rintro e w3 ⟨rfl, S2⟩)
      go_wp2_with fail
      go_ret
      exact ⟨_, rfl, S2⟩
set_option maxHeartbeats 4000000 in
set_option maxRecDepth 100000 in
theorem has1_any (N : Nat → Prop) (A : Option Addr) (c : Nat) (xs : List IdV) (y : IdV) (X : Nat) (w : World) (hX : LV w X #[.slice A xs.length c] 36) (hS : Sl rId N w A xs) (hl : xs.length ≤ 1000000) :
    Calls Tryz.prog 78 #[.agg #[.int .i64 y.k, .string y.t], .pointer (some ⟨X, 0, none⟩)] w fun e w' => e = .returned (.bool (!decide (y ∈ xs))) ∧ Below w.heap.size w w' := by
  obtain ⟨Y, hY⟩ : ∃ Y, Y = w.heap.size := ⟨_, rfl⟩
  have T := (Mem.start w).newAt #[.int .i64 y.k, .string y.t] 35 Y hY
  have HX := Lib.hid (LV.kb3 hX T.b hX.lt)
  have Hc := Lib.hid (containsId_any N A xs c y _ (hS.keepB T.b) hl)
  clear hX hS
  obtain ⟨R, HR⟩ : ∃ R, Hid ((!decide (y ∈ xs)) = R) := ⟨_, Lib.hid rfl⟩
  rw [HR.out]
  go_enter Tryz.func78, Tryz.ntmps78
  go_upto_region 1 with fail
  rw [← hY]
  clear hY
  generalize w.alloc (.cells #[.int .i64 y.k, .string y.t] 35) = w1 at *
  replace T : Mem w w1 [.loc Y #[.int .i64 y.k, .string y.t] 35] := T
  have y0 := (T.lv 0 rfl).all
  have x0 := HX.out.all
  go_wp2_with fail
  ((with_reducible refine (Hc.out).mono ?_); rintro e w2 ⟨rfl, hb⟩)
  have hb2 := T.b.trans (hb.mono T.b.size)
  go_wp2_with fail
  go_ret
  exact ⟨ret_b HR.out, hb2⟩
set_option maxHeartbeats 4000000 in
set_option maxRecDepth 100000 in
theorem has_any (N : Nat → Prop) (A B : Option Addr) (c d : Nat) (xs ys : List IdV) (w : World) (hA : Sl rId N w A xs) (hB : Sl rId N w B ys) (hl : xs.length ≤ 1000000) (hl2 : ys.length ≤ 1000000) :
    Calls Tryz.prog 14 #[.slice A xs.length c, .slice B ys.length d] w fun e w' => e = .returned (.bool (!ys.any (fun y => !decide (y ∈ xs)))) ∧ Below w.heap.size w w' := by
  obtain ⟨X, hX⟩ : ∃ X, X = w.heap.size := ⟨_, rfl⟩
  have T := (Mem.start w).newAt #[.slice A xs.length c] 36 X hX
  have hT := T.b
  have hXv := T.lv 0 rfl
  have Hc := Lib.hid (hasFJ_any 78 #[.pointer (some ⟨X, 0, none⟩)] (enters_of Tryz.func78 (by kernel_rfl) rfl) (fun y => !decide (y ∈ xs)) N B d ys _ (hB.keepB hT) hl2 (fun y _ w' h => has1_any N A c xs y X w' (LV.kb3 hXv h hXv.lt) ((hA.keepB hT).keepB h) hl))
  clear hA hB hXv
  obtain ⟨R, HR⟩ : ∃ R, Hid ((!ys.any (fun y => !decide (y ∈ xs))) = R) := ⟨_, Lib.hid rfl⟩
  rw [HR.out]
  go_enter Tryz.func14, Tryz.ntmps14
  go_upto_region 1 with fail
  rw [← hX]
  clear hX
  generalize w.alloc (.cells #[.slice A xs.length c] 36) = w1 at *
  go_wp2_with fail
  ((with_reducible refine (Hc.out).mono ?_); rintro e w2 ⟨rfl, hb⟩)
  have hb2 := hT.trans (hb.mono hT.size)
  go_wp2_with fail
  go_ret
  exact ⟨ret_b HR.out, hb2⟩
end Go.Proofs.YteabhkmhogmoiaaGreatDoor

/- handtop: append of words, the closures of TopPeople, and crowd. -/
namespace Go.Proofs.YteabhkmhogmoiaaGreatDoor
open Go Go.RowKit
section
variable {ops : Array Oper} {rest : List Oper} {o : Oper} {a : Act} {Q : Exit → Act → World → Prop}
theorem Mem.appA {α : Type} {r : Rep α} {f : α → List Value} (hf : r.Flat f) {w0 w : World} {cs : List Chunk} (S : Mem w0 w cs) (i : Nat) {B E : Nat} {v : Value} {xs : List α} (hi : cs[i]? = some (.own r B E v xs)) {T bytes : Nat} {z : Value} (ty : STy T E r.size bytes z)
    (hgd : o.guard = none) (s x : Operand) (ho : o.op = .call { callee := .builtin .append, args := #[s, x], argTypes := #[T, T] }) (ys : List α) (src : Value) (hs : a.eval s = v) (hx : a.eval x = src) {M : Nat → Prop} {B2 E2 : Nat} (hsrc : Own r M B2 E2 w src ys)
    (h1 : ∀ y ∈ ys, ∀ u ∈ f y, u.oneCell' = true) (hfl : ∀ x, (f x).length = r.size) (hB : B ≤ w.heap.size) (hlen : xs.length + ys.length ≤ 100000000) (hby : bytes ≤ 1000)
    (h : ∀ v' w', Mem w0 w' (cs.set i (.own r B E v' (xs ++ ys))) → wpList Tryz.prog ops Q rest (a.put o.dst v') w') : wpList Tryz.prog ops Q (o :: rest) a w := by
  rcases hsrc.shape2 with ⟨rfl, rfl⟩ | ⟨g, cap, rfl, _⟩
  · obtain ⟨ls, hl, hr, ho2⟩ := S.ow i hi
    obtain ⟨i0, hi0, hz0, hz1, hz2⟩ := info_parts ty.info
    have hrun := run_append_owned_none (P := Tryz.prog) (w := w) B T o.type E i0 r.size ty.under hi0 _ _ _ ho2
    refine wpList_plain hgd fun _ hK => ?_
    unfold Oper.wp execOp
    simp only [ho, resolve, invoke, builtin, Sem.run_bind, Sem.run_pure, Result.andThen_ok, List.map_toArray, List.map_cons, List.map_nil, hs, hx, hrun]
    refine hK _ _ (h v w ?_)
    rw [List.append_nil, set_sameI hi]
    exact S
  · exact S.appN hf i hi ty hgd s x ho ys ys.length cap rfl hs ⟨g, 0, none⟩ hx (Sl.flatCells hf hfl (hsrc.slF hf)) h1 hfl hB hlen hby h
end
set_option maxHeartbeats 4000000 in
set_option maxRecDepth 100000 in
theorem top1_any (N : Nat → Prop) (p : Psn) (A B : Option Addr) (a b : Nat) (n : Int) (X : Nat) (w : World) (hX : LV w X (psCs p A a B b) 38) (hS : Sl rInt N w A p.tch) (hl : p.tch.length ≤ 1000000) :
    Calls Tryz.prog 12 #[.int .i64 n, .pointer (some ⟨X, 0, none⟩)] w fun e w' => e = .returned (.bool (p.tch.contains n)) ∧ Below w.heap.size w w' := by
  have Hc := Lib.hid (containsInt_any N A p.tch a p.tch.length n w hS (Nat.le_refl _) hl)
  rw [List.take_of_length_le (Nat.le_refl _)] at Hc
  have x0 := hX.all
  clear hS hX
  obtain ⟨R, HR⟩ : ∃ R, Hid (p.tch.contains n = R) := ⟨_, Lib.hid rfl⟩
  rw [HR.out]
  rw [HR.out] at Hc
  clear HR
  go_enter Tryz.func12, Tryz.ntmps12
  go_wp2_with fail
  ((with_reducible refine (Hc.out).mono ?_); rintro e _ ⟨rfl, rfl⟩)
  go_wp2_with fail
  go_ret
  exact ⟨rfl, Below.refl _ _⟩
set_option maxHeartbeats 4000000 in
set_option maxRecDepth 100000 in
theorem top2_any (N : Nat → Prop) (p : Psn) (A B : Option Addr) (a b : Nat) (y : IdV) (X : Nat) (w : World) (hX : LV w X (psCs p A a B b) 38) (hS : Sl rId N w B p.ids) (hl : p.ids.length ≤ 1000000) :
    Calls Tryz.prog 17 #[.agg #[.int .i64 y.k, .string y.t], .pointer (some ⟨X, 0, none⟩)] w fun e w' => e = .returned (.bool (decide (y ∈ p.ids))) ∧ Below w.heap.size w w' := by
  obtain ⟨Y, hY⟩ : ∃ Y, Y = w.heap.size := ⟨_, rfl⟩
  have T := (Mem.start w).newAt #[.int .i64 y.k, .string y.t] 35 Y hY
  have HX := Lib.hid (LV.kb3 hX T.b hX.lt)
  have Hc := Lib.hid (containsId_any N B p.ids b y _ (hS.keepB T.b) hl)
  clear hX hS
  go_enter Tryz.func17, Tryz.ntmps17
  go_upto_region 1 with fail
  rw [← hY]
  clear hY
  generalize w.alloc (.cells #[.int .i64 y.k, .string y.t] 35) = w1 at *
  replace T : Mem w w1 [.loc Y #[.int .i64 y.k, .string y.t] 35] := T
  have y0 := (T.lv 0 rfl).all
  have x0 := HX.out.all
  go_wp2_with fail
  ((with_reducible refine (Hc.out).mono ?_); rintro e w2 ⟨rfl, hb⟩)
  have hb2 := T.b.trans (hb.mono T.b.size)
  go_wp2_with fail
  go_ret
  exact ⟨rfl, hb2⟩
set_option maxHeartbeats 4000000 in
set_option maxRecDepth 100000 in
theorem top31_any (N : Nat → Prop) (q : PsQ) (e : Evt) (Ae : Option Addr) (ce : Nat) (X : Nat) (w : World) (hX : LV w X #[.string e.id, .string e.name, .int .i64 e.at', .int .i64 e.kind, .string e.text, .slice Ae e.flds.length ce] 56) (hS : Sl rId N w q.B q.p.ids) (hl : q.p.ids.length ≤ 1000000) :
    Calls Tryz.prog 25 #[.agg (psCs q.p q.A q.a q.B q.b), .pointer (some ⟨X, 0, none⟩)] w fun e' w' => e' = .returned (.bool (decide (whoE e ∈ q.p.ids))) ∧ Below w.heap.size w w' := by
  obtain ⟨Y, hY⟩ : ∃ Y, Y = w.heap.size := ⟨_, rfl⟩
  have T := (Mem.start w).newAt (psCs q.p q.A q.a q.B q.b) 38 Y hY
  have HX := Lib.hid (LV.kb3 hX T.b hX.lt)
  have Hc := Lib.hid (containsId_any N q.B q.p.ids q.b ⟨e.kind, e.text⟩ _ (hS.keepB T.b) hl)
  clear hX hS
  go_enter Tryz.func25, Tryz.ntmps25
  go_upto_region 1 with fail
  rw [← hY]
  clear hY
  generalize w.alloc (.cells (psCs q.p q.A q.a q.B q.b) 38) = w1 at *
  replace T : Mem w w1 [.loc Y (psCs q.p q.A q.a q.B q.b) 38] := T
  have y0 := (T.lv 0 rfl).all
  have x0 := HX.out.all
  go_wp2_with fail
  ((with_reducible refine (Hc.out).mono ?_); rintro e w2 ⟨rfl, hb⟩)
  have hb2 := T.b.trans (hb.mono T.b.size)
  go_wp2_with fail
  go_ret
  exact ⟨rfl, hb2⟩
set_option maxHeartbeats 4000000 in
set_option maxRecDepth 100000 in
theorem top3_any (N : Nat → Prop) (e : Evt) (Ae : Option Addr) (ce : Nat) (A : Option Addr) (c : Nat) (qs : List PsQ) (X : Nat) (w : World) (hX : LV w X #[.slice A qs.length c] 27) (hS : Sl rPsQ N w A qs) (hP : PdOk N w qs) (hl : qs.length ≤ 1000000) (hpl : ∀ q ∈ qs, q.p.ids.length ≤ 1000000) :
    Calls Tryz.prog 23 #[.agg #[.string e.id, .string e.name, .int .i64 e.at', .int .i64 e.kind, .string e.text, .slice Ae e.flds.length ce], .pointer (some ⟨X, 0, none⟩)] w fun e' w' => e' = .returned (.bool (!qs.any (fun q => decide (whoE e ∈ q.p.ids)))) ∧ Below w.heap.size w w' := by
  obtain ⟨Y, hY⟩ : ∃ Y, Y = w.heap.size := ⟨_, rfl⟩
  have T := (Mem.start w).newAt #[.string e.id, .string e.name, .int .i64 e.at', .int .i64 e.kind, .string e.text, .slice Ae e.flds.length ce] 56 Y hY
  have HX := Lib.hid (LV.kb3 hX T.b hX.lt)
  have hTb := T.b
  have hYv := T.lv 0 rfl
  have Hc := Lib.hid (hasFP_any 25 #[.pointer (some ⟨Y, 0, none⟩)] (enters_of Tryz.func25 (by kernel_rfl) rfl) (fun q => decide (whoE e ∈ q.p.ids)) N A c qs _ (hS.keepB hTb) hl (fun q hq w' h => top31_any N q e Ae ce Y w' (LV.kb3 hYv h hYv.lt) (((hP q hq).2.keepB hTb).keepB h) (hpl q hq)))
  clear hX hS hP hpl hYv
  obtain ⟨R, HR⟩ : ∃ R, Hid ((!qs.any (fun q => decide (whoE e ∈ q.p.ids))) = R) := ⟨_, Lib.hid rfl⟩
  rw [HR.out]
  go_enter Tryz.func23, Tryz.ntmps23
  go_upto_region 1 with fail
  rw [← hY]
  clear hY
  generalize w.alloc (.cells #[.string e.id, .string e.name, .int .i64 e.at', .int .i64 e.kind, .string e.text, .slice Ae e.flds.length ce] 56) = w1 at *
  replace T : Mem w w1 [.loc Y #[.string e.id, .string e.name, .int .i64 e.at', .int .i64 e.kind, .string e.text, .slice Ae e.flds.length ce] 56] := T
  have y0 := (T.lv 0 rfl).all
  have x0 := HX.out.all
  go_wp2_with fail
  ((with_reducible refine (Hc.out).mono ?_); rintro e w2 ⟨rfl, hb⟩)
  have hb2 := T.b.trans (hb.mono T.b.size)
  go_wp2_with fail
  go_ret
  exact ⟨ret_b HR.out, hb2⟩
end Go.Proofs.YteabhkmhogmoiaaGreatDoor

/- handtop.crowd: the persons of right touches but the last, and of all. -/
namespace Go.Proofs.YteabhkmhogmoiaaGreatDoor
open Go Go.RowKit
theorem rtq_ok {qs : List TQ} (h : RtQ qs) (hl : qs.length ≤ 16) : TchsOk (qs.map TQ.t) := ⟨by rw [List.length_map]; omega, fun t ht => by
  obtain ⟨q, hq, rfl⟩ := List.mem_map.1 ht
  exact (h.1 q hq).1.ok⟩
theorem openR_ok2 : RulOk openR := ⟨by decide, by decide, (fun _ h => by cases h), by decide, (fun _ h => by cases h), (fun _ h => by cases h), (fun _ h => by cases h)⟩
def GivesCrowd (b m : Nat) (w : World) (e : Ending) (w' : World) : Prop :=
  (e = .returned (.tuple #[.slice none 0 0, .slice none 0 0, .slice none 0 0, .bool false]) ∧ St b m w w' []) ∨
  ∃ (At : Option Addr) (nt ct : Nat) (A B : Option Addr) (c d : Nat) (Q P : List Psn), e = .returned (.tuple #[.slice At nt ct, .slice A Q.length c, .slice B P.length d, .bool true]) ∧ CrowdOk Q P ∧ St b m w w' [.sl rPsn A Q, .sl rPsn B P]
theorem results_four {P : Program} {fn : Func} {s t r q : Tmp} {v u x y : Value} {w : World} {tmps : Array Value} (h : fn.results = #[.tmp s, .tmp t, .tmp r, .tmp q]) (hs : tmps.getD s undef = v) (ht : tmps.getD t undef = u) (hr : tmps.getD r undef = x) (hq : tmps.getD q undef = y) : (results fn tmps).run P w = .ok (.tuple #[v, u, x, y]) w := by
  have hs' : tmps[s]?.getD undef = v := by simpa using hs
  have ht' : tmps[t]?.getD undef = u := by simpa using ht
  have hr' : tmps[r]?.getD undef = x := by simpa using hr
  have hq' : tmps[q]?.getD undef = y := by simpa using hq
  simp [results, h, hs', ht', hr', hq']
theorem St.addSl {α : Type} {r : Rep α} {b m : Nat} {w0 w w' : World} {cs : List Chunk} (S : St b m w0 w cs) {A : Option Addr} {xs : List α} (T : Mem w w' [.sl r A xs]) : St b m w0 w' (cs ++ [.sl r A xs]) :=
  S.call ⟨SK.ofBelow T.b, S.g.s.keep T.b⟩ (.sl r A xs) (T.outSl 0 rfl) (fun k e => by cases e)
set_option maxHeartbeats 8000000 in
set_option maxRecDepth 100000 in
theorem crowd_any (b m B : Nat) (w : World) (hs : Strm b m w) (hm : m ≤ 100000) (hN : Names w) (hNb : 0 ≠ b) (hP : Pool w) (hPb : 1 ≠ b) (hB : B ≤ b) (hBw : B ≤ w.heap.size) (hT : ∀ w', Below B w w' → Tabs w' ∧ MaxL w') :
    Calls Tryz.prog 6 #[.pointer (some ⟨b, 0, none⟩)] w (GivesCrowd b (m + 10000) w) := by
  have S := St.start hs
  have HN := Lib.hid hN
  have HP := Lib.hid hP
  have HT := Lib.hid hT
  clear hs hN hP hT
  go_enter Tryz.func6, Tryz.ntmps6
  go_wp2_with fail
  ((with_reducible refine (range_any b _ 2 9 _ S.g.s (by omega) (by omega) (by omega) (by omega)).mono ?_); rintro e w1 ⟨many, m_lo, m_hi, rfl, hk1, hs1⟩)
  replace S := S.step hk1 hs1
  obtain ⟨n, rfl⟩ := Int.eq_ofNat_of_zero_le (show 0 ≤ many by omega)
  have Hg := Lib.hid (rightTouchesU_any b (m + 1) n B w1 S.g.s (by omega) (by omega) (HN.out.keep S.g.k hNb) hNb (HP.out.keep S.g.k hPb) hPb hB (Nat.le_trans hBw S.g.size) (fun w' h => HT.out w' ((S.g.k.below hB hBw).trans h)))
  clear hk1 hs1 HN HP
  go_wp2_with fail
  ((with_reducible refine (Hg.out).mono ?_); rintro e w2 ⟨v, qs, rfl, hql, hrt, T⟩)
  have S2 : St b (m + 1 + 600 * n + 10) w w2 [.own rTQ w1.heap.size 86 v qs, .tdat qs] := S.join T
  have Hrt := Lib.hid hrt
  have Hql : Hid (qs.length ≤ 16) := by show _ ≤ _; omega
  clear Hg T S hrt hql
  obtain ⟨A, c, rfl, S3⟩ := S2.frz 0 rfl
  have S4 : St b (m + 1 + 600 * n + 10) w w2 [.sl rTch A (qs.map TQ.t)] := (S3.tchs 0 1 rfl rfl).del 1
  have hform : 0 < qs.length → ∃ g, A = some ⟨g, 0, none⟩ ∧ qs.length ≤ c := fun h => by
    obtain ⟨g, cap, e, hcap⟩ := (S2.ow 0 rfl).form h
    simp only [Value.slice.injEq] at e
    obtain ⟨rfl, _, rfl⟩ := e
    exact ⟨g, rfl, hcap⟩
  clear S2 S3
  by_cases h0 : qs.length = 0
  · have hq : qs = [] := List.length_eq_zero_iff.1 h0
    subst hq
    have S5 := Lib.hid ((S4.del 0).mono (show m + 1 + 600 * n + 10 ≤ m + 10000 by omega))
    clear S4 h0
    go_wp2_with fail
    exact bodyPost_ret (results_four rfl rfl rfl rfl rfl) rfl (.inl ⟨rfl, S5.out⟩)
  · obtain ⟨k, hk⟩ : ∃ k, qs.length = k + 1 := ⟨qs.length - 1, by omega⟩
    obtain ⟨ts, Hts⟩ : ∃ ts, Hid (qs.map TQ.t = ts) := ⟨_, Lib.hid rfl⟩
    have htl : ts.length = k + 1 := by rw [← Hts.out, List.length_map]; exact hk
    have Htl := Lib.hid htl
    rw [Hts.out] at S4
    rw [hk]
    have hF1 : Hid (bothF openR ts = 0) := by
      show _ = _
      rw [openR_both, ← Hts.out]
      exact Hrt.out.fault (by have := Hql.out; omega)
    have hF2 : Hid (bothF openR (ts.take k) = 0) := by
      show _ = _
      rw [openR_both, ← Hts.out, ← List.map_take]
      exact (Hrt.out.take k).fault (by rw [List.length_take]; have := Hql.out; omega)
    have hok : Hid (TchsOk ts ∧ TchsOk (ts.take k)) := by
      rw [← Hts.out]
      refine ⟨rtq_ok Hrt.out Hql.out, ?_⟩
      rw [← List.map_take]
      exact rtq_ok (Hrt.out.take k) (by rw [List.length_take]; have := Hql.out; omega)
    have Hcr : Hid (∀ P Q, IsPsns openR ts P → IsPsns openR (ts.take k) Q → CrowdOk Q P) := fun P Q h1 h2 => by
      rw [← Hts.out] at h1 h2
      exact crowd_ok Hrt.out Hql.out (by omega) h1 h2
    have Hk16 : Hid (k + 1 ≤ 16) := by have := Hql.out; show _ ≤ _; omega
    have hk16 : k + 1 ≤ 16 := Hk16.out
    have htk : Hid ((ts.take k).length = k) := by show _ = _; rw [List.length_take, Htl.out]; omega
    obtain ⟨g, rfl, hkc1⟩ := hform (by omega)
    rw [hk] at hkc1
    clear h0 hk htl Hts Hrt Hql hform
    have HS4 := Lib.hid S4
    clear S4
    go_upto_region 4 with fail
    have hk1 : ((k + 1 : Nat) : Int) - 1 = (k : Int) := by omega
    have hkc : k ≤ c := by omega
    go_wp2_with fail
    refine wp_region_mix (fun _ => True) [(true, 1), (true, 2), (true, 3), (true, 4), (true, 5), (false, 0), (false, 6), (true, 7), (true, 8), (true, 9), (true, 10), (true, 11)] (by kernel_rfl) (by kernel_rfl) (fun _ _ => trivial) (fun KK hKK wd hd_wd => ?_)
    have HS5 := Lib.hid (HS4.out.below (hd_wd.below _))
    clear HS4 hd_wd
    repeat (refine mix_p rfl (fun K hK => ?_); go_simp; (try go_bits); (try simp (disch := omega) only [if_pos]); (try simp (disch := omega) only [if_neg]); (try simp (disch := omega) only [dif_pos]); (try simp (disch := omega) only [dif_neg]); (try go_simp); (refine hK _ ?_; clear hK K))
    refine mix_l rfl (fun K9 hK9 => ?_) (by exact trivial)
    go_wp2_with fail
    ((with_reducible refine (open_any _).mono ?_); rintro e w3 ⟨K, rfl, M3⟩)
    have S5 := Lib.hid (HS5.out.addSl M3)
    clear HS5 M3
    go_wp2_with fail
    refine ⟨trivial, ?_⟩
    refine mix_l rfl (fun K9 hK9 => ?_) (by exact trivial)
    have HT3 : Hid (Tabs w3 ∧ MaxL w3) := HT.out w3 (S5.out.g.k.below hB hBw)
    have Hp1 := Lib.hid (personsT_any (fun _ => False) openR K none none (some ⟨g, 0, none⟩) 4 0 0 c (ts.take k) w3 ⟨(S5.out.slc 1 rfl).mono (fun _ _ h => h.elim), Sl.nil, Sl.nil⟩ (((S5.out.slc 0 rfl).mono (fun _ _ h => h.elim)).take k) openR_ok2 hok.out.2 HT3.out.1 HT3.out.2)
    rw [htk.out] at Hp1
    go_wp2_with fail
    ((with_reducible refine (Hp1.out).mono ?_); rintro e w4 ⟨A1, c1, P1, rfl, _, hI1, M4⟩)
    rw [hF2.out] at hI1 ⊢
    have HI1 := Lib.hid (hI1 rfl)
    have S6 : Hid (St b (m + 1 + 600 * n + 10) w w4 [.sl rTch (some ⟨g, 0, none⟩) ts, .sl rPsn A1 P1]) := (S5.out.addSl M4).del 1
    clear Hp1 hI1 M4 S5 HT3
    go_wp2_with fail
    refine ⟨trivial, ?_⟩
    repeat (refine mix_p rfl (fun K hK => ?_); go_simp; (try go_bits); (try simp (disch := omega) only [if_pos]); (try simp (disch := omega) only [if_neg]); (try simp (disch := omega) only [dif_pos]); (try simp (disch := omega) only [dif_neg]); (try go_simp); (refine hK _ ?_; clear hK K))
    refine mix_nil ?_
    simp only [Exit.then]
    refine hKK _ _ ?_
    clear hk1 hkc hkc1
    go_upto_region 5 with fail
    go_wp2_with fail
    ((with_reducible refine (open_any _).mono ?_); rintro e w5 ⟨K2, rfl, M5⟩)
    have S7 := Lib.hid (S6.out.addSl M5)
    have HT5 : Hid (Tabs w5 ∧ MaxL w5) := HT.out w5 (S7.out.g.k.below hB hBw)
    have Hp2 := Lib.hid (personsT_any (fun _ => False) openR K2 none none (some ⟨g, 0, none⟩) 4 0 0 c ts w5 ⟨(S7.out.slc 2 rfl).mono (fun _ _ h => h.elim), Sl.nil, Sl.nil⟩ ((S7.out.slc 0 rfl).mono (fun _ _ h => h.elim)) openR_ok2 hok.out.1 HT5.out.1 HT5.out.2)
    rw [Htl.out] at Hp2
    clear M5 S6
    go_wp2_with fail
    ((with_reducible refine (Hp2.out).mono ?_); rintro e w6 ⟨A2, c2, P2, rfl, _, hI2, M6⟩)
    rw [hF1.out] at hI2 ⊢
    have Hc := Lib.hid (Hcr.out P2 P1 (hI2 rfl) HI1.out)
    have S8 : Hid (St b (m + 10000) w w6 [.sl rPsn A1 P1, .sl rPsn A2 P2]) := ((((S7.out.addSl M6).del 2).del 0).mono (show m + 1 + 600 * n + 10 ≤ m + 10000 by omega))
    have hpos := Hc.out.ne
    clear Hp2 hI2 M6 S7 HT5 HI1
    have e1 : (decide ((0 : Int) < (P2.length : Int))) = true := by rw [decide_eq_true_eq]; omega
    go_wp2_with fail
    exact bodyPost_ret (results_four rfl rfl rfl rfl rfl) rfl (.inr ⟨some ⟨g, 0, none⟩, k + 1, c, A1, A2, c1, c2, P1, P2, rfl, Hc.out, S8.out⟩)
end Go.Proofs.YteabhkmhogmoiaaGreatDoor

/- handtop: what event.Of returns for the ids of a right person. -/
namespace Go.Proofs.YteabhkmhogmoiaaGreatDoor
open Go Go.RowKit
theorem idsF_ok : ∀ {l : List IdV}, idsF l = 0 → ∀ x ∈ l, L.idFault x.k x.t = 0
  | [], _, _, h => by cases h
  | y :: r, h, x, hx => by
    rw [idsF] at h
    by_cases e : L.idFault y.k y.t = 0
    · rw [if_neg (not_not_intro e)] at h
      rcases List.mem_cons.1 hx with rfl | hx
      · exact e
      · exact idsF_ok h x hx
    · rw [if_pos e] at h
      exact absurd h e
theorem idsF_sub {l m : List IdV} (h : idsF l = 0) (hs : ∀ x ∈ m, x ∈ l) : idsF m = 0 := idsF_none (fun x hx => idsF_ok h x (hs x hx))
structure EvsRt (E : List Evt) : Prop where
  f : evsFault E = 0
  sm : ∀ x ∈ E, EvSm x
  l : E.length ≤ 16
theorem evsW_len (E : List Evt) (S : List IdV) : (evsW E S).length ≤ E.length := by
  unfold evsW ofAns
  rw [List.length_map]
  exact List.length_filter_le _ _
theorem idsW_len (E : List Evt) (S : List IdV) : (idsW E S).length ≤ E.length := by
  unfold idsW
  rw [srtW_len]
  exact evsW_len E S
def GivesOfW (E : List Evt) (ids : List IdV) (w : World) (e : Ending) (w' : World) : Prop := ∃ A qs c, e = .returned (.tuple #[.slice A qs.length c, .int .i64 0]) ∧ qs.map (fun q => q.e.id) = evsW E ids ∧ qs.length ≤ 16 ∧ Mem w w' [.sl rEQ A qs]
theorem ofTop_any (E : List Evt) (hE : EvsRt E) (Ae : Option Addr) (ce : Nat) (ids : List IdV) (Ai : Option Addr) (ci : Nat) (w : World) (hS : Sl rEvt (fun _ => False) w Ae E) (hT : Tabs w) (hM : MaxL w) (hI : Sl rId (fun _ => False) w Ai ids) (hit : ∀ y ∈ ids, y.t.size ≤ 10000) (hil : ids.length ≤ 1000) (hf : idsF ids = 0) :
    Calls Tryz.prog 9 #[.slice Ae E.length ce, .slice Ai ids.length ci] w (GivesOfW E ids w) := by
  refine (of_any (fun _ => False) Ae Ai E ids ce ci w hS ⟨by have := hE.l; omega, fun e he => (hE.sm e he).ok⟩ hT hM hI (fun y hy => by have := hit y hy; omega) (by omega) (fun e he => by have := (hE.sm e he).fl; omega)).mono ?_
  have h0 : ofErr E ids = 0 := by
    unfold ofErr
    rw [if_neg (by rw [hE.f]; decide), if_neg (by omega), hf]
  rw [h0]
  rintro e w' ⟨v, qs, rfl, hq, T⟩
  rw [if_pos rfl] at hq
  have hl : qs.length = (ofAns E ids).length := by rw [← hq, List.length_map]
  have hl2 : (ofAns E ids).length ≤ E.length := by unfold ofAns; exact List.length_filter_le _ _
  obtain ⟨A, c, rfl, T2⟩ := T.frz 0 rfl
  refine ⟨A, qs, c, rfl, ?_, by have := hE.l; omega, T2.del 1⟩
  unfold evsW
  rw [← hq, List.map_map]
  rfl
theorem known_rows (es : List EQ) (ps : List PsQ) : (es.filter (keepE fun q => !ps.any (fun pq => decide (whoE q.e ∈ pq.p.ids)))).map (fun q => q.e.id) = (knownE (es.map EQ.e) (ps.map PsQ.p)).map Evt.id := by
  unfold knownE
  rw [List.filter_map, List.map_map]
  congr 1
  refine List.filter_congr (fun q _ => ?_)
  show (!(!_)) = _
  rw [Bool.not_not]
  show _ = (ps.map PsQ.p).any _
  rw [List.any_map]
  rfl
end Go.Proofs.YteabhkmhogmoiaaGreatDoor

/- The law TopPeople walked: it returns true, and nothing that was there has turned. -/
namespace Go.Proofs.YteabhkmhogmoiaaGreatDoor
open Go Go.RowKit
theorem allIn_any {xs ys : List IdV} (h : ∀ y ∈ ys, y ∈ xs) : (!ys.any (fun y => !decide (y ∈ xs))) = true := by
  have : ys.any (fun y => !decide (y ∈ xs)) = false := List.any_eq_false.2 (fun y hy => by simp [h y hy])
  rw [this]; rfl
set_option maxHeartbeats 8000000 in
set_option maxRecDepth 100000 in
theorem topPeople_any (v : Value) (w : World) (hv : IntsIn v w) (hT : Tabs w) (hM : MaxL w) (hN : Names w) (hE : ENames w) (hP : Pool w) :
    Calls Tryz.prog 3 #[v] w fun e w' => e = .returned (.bool true) ∧ Below w.heap.size w w' := by
  obtain ⟨va, vn, vc, rfl⟩ : ∃ a n c, v = .slice a n c := by
    rcases hv with ⟨a, c, rfl⟩ | ⟨k, off, len, cap, rfl, _⟩
    · exact ⟨_, _, _, rfl⟩
    · exact ⟨_, _, _, rfl⟩
  have g0 := G.start (Strm.start hv)
  clear hv
  have S := St.start g0.s
  have hPn : 1 ≠ w.heap.size := Nat.ne_of_lt hP.lt
  have hNn : 0 ≠ w.heap.size := Nat.ne_of_lt hN.lt
  have hEn : 2 ≠ w.heap.size := Nat.ne_of_lt hE.lt
  have hb0 : Below w.heap.size w (w.alloc (.cells #[.slice va vn vc, .int .i64 0] 25)) := (Below.refl _ _).alloc (Nat.le_refl _) _
  have Hb0 := Lib.hid hb0
  have HTM : Hid (∀ w', Below w.heap.size w w' → Tabs w' ∧ MaxL w') := fun w' h => ⟨Utf8Tabs_below hT h, hM.below h⟩
  have HP := Lib.hid (hP.keep (b := w.heap.size) ((SK.refl _ w).alloc (.cells #[.slice va vn vc, .int .i64 0] 25)) hPn)
  have HN := Lib.hid (hN.keep (b := w.heap.size) ((SK.refl _ w).alloc (.cells #[.slice va vn vc, .int .i64 0] 25)) hNn)
  have HE := Lib.hid (hE.keep (b := w.heap.size) ((SK.refl _ w).alloc (.cells #[.slice va vn vc, .int .i64 0] 25)) hEn)
  have hw0 : w.heap.size ≤ (w.alloc (.cells #[.slice va vn vc, .int .i64 0] 25)).heap.size := by simp
  clear hP hM hN hT hb0 hE
  go_enter Tryz.func3, Tryz.ntmps3
  go_wp2_with fail
  ((with_reducible refine (crowd_any w.heap.size 0 w.heap.size _ S.g.s (by omega) HN.out hNn HP.out hPn (Nat.le_refl _) hw0 (fun w' h => HTM.out w' (Hb0.out.trans (h.mono (by simp))))).mono ?_); rintro e w1 hg)
  rcases hg with ⟨rfl, T⟩ | ⟨At, nt, ct, A, B, c, d, Q, P, rfl, hcr, T⟩
  · have Hb1 : Hid (Below w.heap.size w w1) := Hb0.out.trans (T.g.k.below (Nat.le_refl _) hw0)
    clear T S g0 HN HP HE HTM
    go_wp2_with fail
    go_ret
    exact ⟨rfl, Hb1.out.alloc Hb1.out.size _⟩
  · obtain ⟨X6, hX6⟩ : ∃ X6, X6 = w1.heap.size := ⟨_, rfl⟩
    have S2 := (S.join T).newAt #[.slice B P.length d] 27 X6 hX6
    replace S2 : St w.heap.size 10000 _ (w1.alloc (.cells #[.slice B P.length d] 27)) [.sl rPsn A Q, .sl rPsn B P, .loc X6 #[.slice B P.length d] 27] := S2
    have Hcr := Lib.hid hcr
    clear S T hcr g0
    go_upto_region 5 with fail
    rw [← hX6]
    clear hX6
    generalize w1.alloc (.cells #[.slice B P.length d] 27) = w11 at *
    go_wp2_with fail
    ((with_reducible refine (range_any w.heap.size _ 1 12 _ S2.g.s (by omega) (by omega) (by omega) (by omega)).mono ?_); rintro e w2 ⟨many, m_lo, m_hi, rfl, hk2, hs2⟩)
    replace S2 := S2.step hk2 hs2
    obtain ⟨n, rfl⟩ := Int.eq_ofNat_of_zero_le (show 0 ≤ many by omega)
    have Hev := Lib.hid (rightEventsU_any w.heap.size (10000 + 1) n w2 S2.g.s (by omega) (by omega) (HN.out.keep S2.g.k hNn) hNn (HE.out.keep S2.g.k hEn) hEn (HP.out.keep S2.g.k hPn) hPn (fun w' h => HTM.out w' ((Hb0.out.trans (S2.g.k.below (Nat.le_refl _) hw0)).trans (h.below (Nat.le_refl _) (Nat.le_trans hw0 S2.g.size)))))
    clear hk2 hs2 HN HP HE hNn hPn hEn
    go_wp2_with fail
    ((with_reducible refine (Hev.out).mono ?_); rintro e w3 ⟨Ae, ce, E, rfl, hEl, hEs, hEf, hEc, T⟩)
    have S3 := S2.join T
    have Hb3 : Hid (Below w.heap.size w w3) := Hb0.out.trans (S3.g.k.below (Nat.le_refl _) hw0)
    obtain ⟨qs, hqs, hq1, hq2⟩ := psq_of ((S3.slc 0 rfl).mono (M := fun _ => False) (fun _ _ h => h.elim))
    obtain ⟨ps, hps, hp1, hp2⟩ := psq_of ((S3.slc 1 rfl).mono (M := fun _ => False) (fun _ _ h => h.elim))
    have hEv := (S3.slc 3 rfl).mono (M := fun _ => False) (fun _ _ h => h.elim)
    obtain ⟨es, hes, he1, he2⟩ := evt_rows hEv
    have HX6 := Lib.hid (S3.lv 2 rfl)
    have HEv := Lib.hid (fun w' (h : Below w3.heap.size w3 w') => hEv.keepB h)
    have HQ := Lib.hid (fun w' (h : Below w3.heap.size w3 w') => (⟨hq1.keepB h, fun q hq => ⟨(hq2 q hq).1.keepB h, (hq2 q hq).2.keepB h⟩⟩ : Sl rPsQ (fun _ => False) w' A qs ∧ PdOk (fun _ => False) w' qs))
    have HPs := Lib.hid (fun w' (h : Below w3.heap.size w3 w') => (⟨hp1.keepB h, fun q hq => ⟨(hp2 q hq).1.keepB h, (hp2 q hq).2.keepB h⟩⟩ : Sl rPsQ (fun _ => False) w' B ps ∧ PdOk (fun _ => False) w' ps))
    have HEs := Lib.hid he1
    have HErt : Hid (EvsRt E) := ⟨hEf, hEs, by omega⟩
    have HEc := Lib.hid hEc
    have HTM3 : Hid (∀ w', Below w3.heap.size w3 w' → Tabs w' ∧ MaxL w') := fun w' h => HTM.out w' (Hb3.out.trans (h.mono Hb3.out.size))
    have Hpl : Hid (ps.length = P.length ∧ qs.length = Q.length ∧ es.length = E.length) := by rw [← hps, ← hqs, ← hes]; exact ⟨(List.length_map _).symm, (List.length_map _).symm, (List.length_map _).symm⟩
    have Hpm : Hid (ps.map PsQ.p = P ∧ qs.map PsQ.p = Q ∧ es.map EQ.e = E) := ⟨hps, hqs, hes⟩
    have Hpi : Hid (∀ (k : Nat) (p : PsQ), ps[k]? = some p → P[k]? = some p.p) := fun k p h => by rw [← hps, List.getElem?_map, h]; rfl
    have Hqi : Hid (∀ (k : Nat) (q : PsQ), qs[k]? = some q → Q[k]? = some q.p) := fun k q h => by rw [← hqs, List.getElem?_map, h]; rfl
    have HP16 : Hid (P.length ≤ 16 ∧ Q.length ≤ 16 ∧ E.length ≤ 16) := ⟨Hcr.out.pl, Hcr.out.ql, HErt.out.l⟩
    have hP16 := HP16.out.1
    have hQ16 := HP16.out.2.1
    clear S2 S3 T Hev hEl hEs hEf hEc hqs hps hes hq1 hq2 hp1 hp2 hEv he1 he2 HTM m_lo m_hi Hb0 hw0
    have M0 : Mem w3 w3 [.own rStr w3.heap.size 9 (.slice none 0 0) []] := (Mem.start w3).nil rStr w3.heap.size 9
    go_upto_region 7 with fail
    have x6 := HX6.out.all
    go_wp2_with fail
    clear x6
    go_loopw [9, 44] (fun s9 s44 wr => ∃ k : Nat, k ≤ P.length ∧ s44 = .int .i64 k ∧ Mem w3 wr [.own rStr w3.heap.size 9 s9 (evyW E P k)]) (fun _ s44 _ => P.length - (intOf s44).toNat)
    case atStart => exact ⟨0, Nat.zero_le _, rfl, by unfold evyW; exact M0⟩
    case round =>
      clear M0
      obtain ⟨k, hk, rfl, M⟩ := hrel
      by_cases hlt : k < P.length
      · obtain ⟨p, hp⟩ : ∃ p, ps[k]? = some p := ⟨_, List.getElem?_eq_getElem (by have := Hpl.out.1; omega)⟩
        have hPk := Hpi.out k p hp
        have hpg := Hcr.out.pg p.p (List.mem_of_getElem? hPk)
        obtain ⟨b1, o1, rfl, hb1, d0, d1, d2, d3⟩ := (HPs.out wr M.b).1.psq k p hp
        have Hpd := Lib.hid (fun w' (h : Below w3.heap.size w3 w') => (HPs.out w' h).2 p (List.mem_of_getElem? hp))
        have HPk := Lib.hid hPk
        have Hpg := Lib.hid hpg
        have Hsn := Lib.hid (evyW_snoc (E := E) hPk)
        have Hyl : Hid ((evyW E P k).length ≤ E.length) := by
          show _ ≤ _
          rw [(evyW_perm Hcr.out.dp k hk).length_eq]
          exact evsW_len _ _
        obtain ⟨Y0, HY0⟩ : ∃ Y0, Hid (evyW E P k = Y0) := ⟨_, Lib.hid rfl⟩
        rw [HY0.out] at M Hyl Hsn
        clear hp hPk hpg
        obtain ⟨X, hX⟩ : ∃ X, X = wr.heap.size := ⟨_, rfl⟩
        have M1 : Mem w3 (wr.alloc (.cells (psCs p.p p.A p.a p.B p.b) 38)) [.own rStr w3.heap.size 9 u9 Y0, .loc X (psCs p.p p.A p.a p.B p.b) 38] := M.newAt (psCs p.p p.A p.a p.B p.b) 38 X hX
        clear M
        go_upto_region 10 with fail
        rw [← hX]
        clear hX d0 d1 d2 d3 hb1
        generalize wr.alloc (.cells (psCs p.p p.A p.a p.B p.b) 38) = w4 at *
        have Hof := Lib.hid (ofTop_any E HErt.out Ae ce p.p.ids p.B p.b w4 (HEv.out w4 M1.b) (HTM3.out w4 M1.b).1 (HTM3.out w4 M1.b).2 (Hpd.out w4 M1.b).2 Hpg.out.it Hpg.out.il Hpg.out.f)
        have x1 := (M1.lv 1 rfl).all
        go_wp2_with fail
        ((with_reducible refine (Hof.out).mono ?_); rintro e w5 ⟨Aw, ws, cw, rfl, hws, hwl, T⟩)
        have M2 : Mem w3 w5 [.own rStr w3.heap.size 9 u9 Y0, .loc X (psCs p.p p.A p.a p.B p.b) 38, .sl rEQ Aw ws] := M1.join T
        have Hws := Lib.hid hws
        clear Hof x1 M1 T hws
        have x1 := (M2.lv 1 rfl).all
        have Hcl := Lib.hid (cloneI_any p.B p.p.ids p.b w5 (Hpd.out w5 M2.b).2 Hpg.out.il)
        go_wp2_with fail
        ((with_reducible refine (Hcl.out).mono ?_); rintro e w6 ⟨Af, cf, rfl, T⟩)
        have M3 : Mem w3 w6 [.own rStr w3.heap.size 9 u9 Y0, .loc X (psCs p.p p.A p.a p.B p.b) 38, .sl rEQ Aw ws, .own rId w5.heap.size 35 (.slice Af p.p.ids.length cf) p.p.ids] := M2.join T
        have M4 : Mem w3 w6 [.own rId w3.heap.size 35 (.slice Af p.p.ids.length cf) (frsh p.p (covB Q p.p 0)), .own rStr w3.heap.size 9 u9 Y0, .loc X (psCs p.p p.A p.a p.B p.b) 38, .sl rEQ Aw ws, .own rStr w3.heap.size 9 (.slice none 0 0) (prtW E Q p.p 0)] := by
          have e1 : covB Q p.p 0 = [] := by unfold covB; simp
          have e2 : prtW E Q p.p 0 = [] := by unfold prtW; simp
          rw [e1, e2, frsh_nil]
          have M5 := (M3.nil rStr w3.heap.size 9)
          exact (M5.ownBase flatId 3 rfl M2.b.size).perm (List.Perm.trans (List.perm_append_comm (l₁ := [_, _, _]) (l₂ := [_, _])) (List.Perm.cons _ (List.perm_append_comm (l₁ := [_]) (l₂ := [_, _, _]))))
        clear Hcl x1 M2 T M3
        go_wp2_with fail
        go_loopw [14, 15, 62] (fun s14 s15 s62 wq => ∃ j : Nat, j ≤ Q.length ∧ s62 = .int .i64 j ∧ Mem w3 wq [.own rId w3.heap.size 35 s14 (frsh p.p (covB Q p.p j)), .own rStr w3.heap.size 9 u9 Y0, .loc X (psCs p.p p.A p.a p.B p.b) 38, .sl rEQ Aw ws, .own rStr w3.heap.size 9 s15 (prtW E Q p.p j)]) (fun _ _ s62 _ => Q.length - (intOf s62).toNat)
        case atStart => exact ⟨0, Nat.zero_le _, rfl, M4⟩
        case round =>
          clear M4
          obtain ⟨j, hj, rfl, M⟩ := hrel
          have Hprl : Hid ((prtW E Q p.p j).length ≤ E.length) := by
            show _ ≤ _
            rw [(prtW_perm Hcr.out.dq j hj).length_eq]
            exact evsW_len _ _
          have Hfrl : Hid ((∀ x ∈ frsh p.p (covB Q p.p j), x ∈ p.p.ids) ∧ (frsh p.p (covB Q p.p j)).length ≤ 1000) := ⟨fun x hx => by unfold frsh at hx; exact (List.mem_filter.1 hx).1, by
            have h1 : (frsh p.p (covB Q p.p j)).length ≤ p.p.ids.length := by unfold frsh; exact List.length_filter_le _ _
            have := Hpg.out.il
            omega⟩
          by_cases hlt2 : j < Q.length
          · obtain ⟨q, hq⟩ : ∃ q, qs[j]? = some q := ⟨_, List.getElem?_eq_getElem (by have := Hpl.out.2.1; omega)⟩
            have hQj := Hqi.out j q hq
            have Hqg := Lib.hid (Hcr.out.qg q.p (List.mem_of_getElem? hQj))
            obtain ⟨b2, o2, rfl, hb2, d0, d1, d2, d3⟩ := (HQ.out wr M.b).1.psq j q hq
            have Hqd := Lib.hid (fun w' (h : Below w3.heap.size w3 w') => (HQ.out w' h).2 q (List.mem_of_getElem? hq))
            have Hcs := Lib.hid (covB_snoc (p := p.p) hQj)
            have Hps := Lib.hid (prtW_snoc (E := E) (p := p.p) hQj)
            have Hshare := Lib.hid (Hcr.out.sh p.p (List.mem_of_getElem? HPk.out) q.p (List.mem_of_getElem? hQj))
            clear hq hQj
            obtain ⟨F0, HF0⟩ : ∃ F0, Hid (frsh p.p (covB Q p.p j) = F0) := ⟨_, Lib.hid rfl⟩
            obtain ⟨R0, HR0⟩ : ∃ R0, Hid (prtW E Q p.p j = R0) := ⟨_, Lib.hid rfl⟩
            rw [HF0.out, HR0.out] at M
            rw [HF0.out] at Hfrl
            rw [HR0.out] at Hprl Hps
            obtain ⟨Z, hZ⟩ : ∃ Z, Z = wr.heap.size := ⟨_, rfl⟩
            have M1 : Mem w3 (wr.alloc (.cells (psCs q.p q.A q.a q.B q.b) 38)) [.own rId w3.heap.size 35 u14 F0, .own rStr w3.heap.size 9 u9 Y0, .loc X (psCs p.p p.A p.a p.B p.b) 38, .sl rEQ Aw ws, .own rStr w3.heap.size 9 u15 R0, .loc Z (psCs q.p q.A q.a q.B q.b) 38] := M.newAt (psCs q.p q.A q.a q.B q.b) 38 Z hZ
            clear M
            go_upto_region 18 with fail
            rw [← hZ]
            clear hZ d0 d1 d2 d3 hb2
            generalize wr.alloc (.cells (psCs q.p q.A q.a q.B q.b) 38) = w7 at *
            have Hct := Lib.hid (hasFI_any 12 #[.pointer (some ⟨X, 0, none⟩)] (enters_of Tryz.func12 (by kernel_rfl) rfl) (fun n => p.p.tch.contains n) (fun _ => False) q.A q.a q.p.tch w7 (Hqd.out w7 M1.b).1 (by have := Hqg.out.tl; omega) (fun n _ w' h => top1_any (fun _ => False) p.p p.A p.B p.a p.b n X w' (LV.kb3 (M1.lv 2 rfl) h (M1.lv 2 rfl).lt) ((Hpd.out w7 M1.b).1.keepB h) (by have := Hpg.out.tl; omega)))
            obtain ⟨Bs, HBs⟩ : ∃ Bs, Hid (shareB q.p p.p = Bs) := ⟨_, Lib.hid rfl⟩
            rw [show (q.p.tch.any fun n => p.p.tch.contains n) = Bs from HBs.out] at Hct
            have z0 := (M1.lv 5 rfl).all
            go_wp2_with fail
            ((with_reducible refine (Hct.out).mono ?_); rintro e w8 ⟨rfl, hb8⟩)
            have M2 := M1.below hb8
            clear Hct z0 M1 hb8
            cases Bs with
            | false =>
              have Hnx : Hid (frsh p.p (covB Q p.p (j + 1)) = F0 ∧ prtW E Q p.p (j + 1) = R0) := by
                rw [Hcs.out, Hps.out, HBs.out, if_neg (by decide), if_neg (by decide), List.append_nil, List.append_nil]
                exact ⟨HF0.out, rfl⟩
              have HM := Lib.hid (M2.del 5)
              clear M2
              go_wp2_with fail
              go_roundw
              case rel =>
                refine ⟨j + 1, by omega, by go_num, ?_⟩
                rw [Hnx.out.1, Hnx.out.2]
                exact HM.out
              case measure => simp [intOf]; omega
            | true =>
              have z0 := (M2.lv 5 rfl).all
              have x0 := (M2.lv 2 rfl).all
              have Hhas := Lib.hid (has_any (fun _ => False) p.B q.B p.b q.b p.p.ids q.p.ids w8 (Hpd.out w8 M2.b).2 (Hqd.out w8 M2.b).2 (by have := Hpg.out.il; omega) (by have := Hqg.out.il; omega))
              rw [allIn_any (Hshare.out HBs.out)] at Hhas
              go_wp2_with fail
              ((with_reducible refine (Hhas.out).mono ?_); rintro e w9 ⟨rfl, hb9⟩)
              have M3 := M2.below hb9
              clear Hhas z0 x0 M2 hb9
              have z0 := (M3.lv 5 rfl).all
              have Hof := Lib.hid (ofTop_any E HErt.out Ae ce q.p.ids q.B q.b w9 (HEv.out w9 M3.b) (HTM3.out w9 M3.b).1 (HTM3.out w9 M3.b).2 (Hqd.out w9 M3.b).2 Hqg.out.it Hqg.out.il Hqg.out.f)
              go_wp2_with fail
              ((with_reducible refine (Hof.out).mono ?_); rintro e wA ⟨Ax, xs, cx, rfl, hxs, hxl, T⟩)
              have M4 : Mem w3 wA [.own rId w3.heap.size 35 u14 F0, .own rStr w3.heap.size 9 u9 Y0, .loc X (psCs p.p p.A p.a p.B p.b) 38, .sl rEQ Aw ws, .own rStr w3.heap.size 9 u15 R0, .loc Z (psCs q.p q.A q.a q.B q.b) 38, .sl rEQ Ax xs] := M3.join T
              have Hid2 := Lib.hid (idsW_any (fun _ => False) Ax cx xs wA ((M4.slc 6 rfl).mono (fun _ _ h => h.elim)) (by omega))
              rw [hxs] at Hid2
              clear Hof z0 M3 T hxs
              go_wp2_with fail
              ((with_reducible refine (Hid2.out).mono ?_); rintro e wB ⟨vx, rfl, T⟩)
              have M5 : Mem w3 wB [.own rId w3.heap.size 35 u14 F0, .own rStr w3.heap.size 9 u9 Y0, .loc X (psCs p.p p.A p.a p.B p.b) 38, .sl rEQ Aw ws, .own rStr w3.heap.size 9 u15 R0, .loc Z (psCs q.p q.A q.a q.B q.b) 38, .own rStr wA.heap.size 9 vx (idsW E q.p.ids)] := (M4.del 6).join T
              have hwl2 := idsW_len E q.p.ids
              have hEl := HErt.out.l
              have hpr := Hprl.out
              clear Hid2 M4 T
              go_wp2_with (at_builtin; refine M5.appA flatStr 4 rfl tyStrs rfl _ _ rfl (idsW E q.p.ids) vx rfl rfl (M5.ow 6 rfl) (fun y _ => oneStrs y) (fun _ => rfl) M5.b.size (by omega) (by decide) ?_; intro v6 wC M6)
              clear M5 hwl2 hEl hpr
              have M7 : Mem w3 wC [.own rId w3.heap.size 35 u14 F0, .own rStr w3.heap.size 9 u9 Y0, .loc X (psCs p.p p.A p.a p.B p.b) 38, .sl rEQ Aw ws, .own rStr w3.heap.size 9 v6 (R0 ++ idsW E q.p.ids), .loc Z (psCs q.p q.A q.a q.B q.b) 38] := M6.del 6
              have Hdel := Lib.hid (delJ_any (fun y => decide (y ∈ q.p.ids)) 17 #[.pointer (some ⟨Z, 0, none⟩)] (enters_of Tryz.func17 (by kernel_rfl) rfl) M7 (by have := Hfrl.out.2; omega) (fun y w' ys _ hM => top2_any (fun _ => False) q.p q.A q.B q.a q.b y Z w' (hM.lv 5 rfl) (Hqd.out w' hM.b).2 (by have := Hqg.out.il; omega)))
              clear M6 M7
              go_wp2_with fail
              ((with_reducible refine (Hdel.out).mono ?_); rintro e wD ⟨v8, rfl, M8⟩)
              have Hnx : Hid (frsh p.p (covB Q p.p (j + 1)) = F0.filter (keepE fun y => decide (y ∈ q.p.ids)) ∧ prtW E Q p.p (j + 1) = R0 ++ idsW E q.p.ids) := by
                rw [Hcs.out, Hps.out, HBs.out, if_pos rfl, if_pos rfl, ← frsh_del, HF0.out]
                exact ⟨rfl, rfl⟩
              have HM := Lib.hid (M8.del 5)
              clear M8 Hdel
              go_wp2_with fail
              go_roundw
              case rel =>
                refine ⟨j + 1, by omega, by go_num, ?_⟩
                rw [Hnx.out.1, Hnx.out.2]
                exact HM.out
              case measure => simp [intOf]; omega
          · obtain rfl : j = Q.length := by omega
            obtain ⟨Af2, cf2, e14⟩ := (M.ow 0 rfl).len
            subst e14
            have Hof := Lib.hid (ofTop_any E HErt.out Ae ce (frsh p.p (covB Q p.p Q.length)) Af2 cf2 wr (HEv.out wr M.b) (HTM3.out wr M.b).1 (HTM3.out wr M.b).2 ((M.ow 0 rfl).slF flatId) (fun y hy => Hpg.out.it y (Hfrl.out.1 y hy)) Hfrl.out.2 (idsF_sub Hpg.out.f Hfrl.out.1))
            have Hwh := Lib.hid (prtW_whole (E := E) Hcr.out.dq (fun q hq h => Hcr.out.sh p.p (List.mem_of_getElem? HPk.out) q hq h))
            have M1 := M.del 0
            obtain ⟨F0, HF0⟩ : ∃ F0, Hid (frsh p.p (covB Q p.p Q.length) = F0) := ⟨_, Lib.hid rfl⟩
            obtain ⟨R0, HR0⟩ : ∃ R0, Hid (prtW E Q p.p Q.length = R0) := ⟨_, Lib.hid rfl⟩
            rw [HF0.out] at Hof Hwh
            rw [HR0.out] at Hwh M1 Hprl
            rw [HF0.out]
            replace M1 : Mem w3 wr [.own rStr w3.heap.size 9 u9 Y0, .loc X (psCs p.p p.A p.a p.B p.b) 38, .sl rEQ Aw ws, .own rStr w3.heap.size 9 u15 R0] := M1
            clear M
            go_wp2_with fail
            ((with_reducible refine (Hof.out).mono ?_); rintro e wA ⟨Ax, xs, cx, rfl, hxs, hxl, T⟩)
            have M4 : Mem w3 wA [.own rStr w3.heap.size 9 u9 Y0, .loc X (psCs p.p p.A p.a p.B p.b) 38, .sl rEQ Aw ws, .own rStr w3.heap.size 9 u15 R0, .sl rEQ Ax xs] := M1.join T
            have Hid2 := Lib.hid (idsW_any (fun _ => False) Ax cx xs wA ((M4.slc 4 rfl).mono (fun _ _ h => h.elim)) (by omega))
            rw [hxs] at Hid2
            clear Hof M1 T hxs
            go_wp2_with fail
            ((with_reducible refine (Hid2.out).mono ?_); rintro e wB ⟨vx, rfl, T⟩)
            have M5 : Mem w3 wB [.own rStr w3.heap.size 9 u9 Y0, .loc X (psCs p.p p.A p.a p.B p.b) 38, .sl rEQ Aw ws, .own rStr w3.heap.size 9 u15 R0, .own rStr wA.heap.size 9 vx (idsW E F0)] := (M4.del 4).join T
            have hwl2 := idsW_len E F0
            have hEl := HErt.out.l
            have hpr := Hprl.out
            clear Hid2 M4 T
            go_wp2_with (at_builtin; refine M5.appA flatStr 3 rfl tyStrs rfl _ _ rfl (idsW E F0) vx rfl rfl (M5.ow 4 rfl) (fun y _ => oneStrs y) (fun _ => rfl) M5.b.size (by omega) (by decide) ?_; intro v6 wC M6)
            clear M5
            have M7 : Mem w3 wC [.own rStr w3.heap.size 9 u9 Y0, .loc X (psCs p.p p.A p.a p.B p.b) 38, .sl rEQ Aw ws, .own rStr w3.heap.size 9 v6 (R0 ++ idsW E F0)] := M6.del 4
            have Hso := Lib.hid (sortOwnW M7 3 rfl (by rw [List.length_append]; omega))
            clear M6 M7 hwl2 hEl hpr
            go_wp2_with fail
            ((with_reducible refine (Hso.out).mono ?_); rintro e wD ⟨rfl, M8⟩)
            have M9 : Mem w3 wD [.own rStr w3.heap.size 9 u9 Y0, .loc X (psCs p.p p.A p.a p.B p.b) 38, .sl rEQ Aw ws, .own rStr w3.heap.size 9 v6 (idsW E p.p.ids)] := by
              have h1 : Mem w3 wD [.own rStr w3.heap.size 9 u9 Y0, .loc X (psCs p.p p.A p.a p.B p.b) 38, .sl rEQ Aw ws, .own rStr w3.heap.size 9 v6 (srtW (R0 ++ idsW E F0))] := M8
              rw [Hwh.out] at h1
              exact h1
            have Hid3 := Lib.hid (idsW_any (fun _ => False) Aw cw ws wD ((M9.slc 2 rfl).mono (fun _ _ h => h.elim)) (by omega))
            rw [Hws.out] at Hid3
            clear Hso M8
            go_wp2_with fail
            ((with_reducible refine (Hid3.out).mono ?_); rintro e wE ⟨vy, rfl, T⟩)
            have M10 : Mem w3 wE [.own rStr w3.heap.size 9 u9 Y0, .loc X (psCs p.p p.A p.a p.B p.b) 38, .sl rEQ Aw ws, .own rStr w3.heap.size 9 v6 (idsW E p.p.ids), .own rStr wD.heap.size 9 vy (idsW E p.p.ids)] := M9.join T
            obtain ⟨A6, c6, e6⟩ := (M10.ow 3 rfl).len
            obtain ⟨A7, c7, e7⟩ := (M10.ow 4 rfl).len
            subst e6 e7
            have Heq := Lib.hid (eqStr_any (fun _ => False) A6 A7 (idsW E p.p.ids) c6 c7 wE ((M10.ow 3 rfl).slF flatStr) ((M10.ow 4 rfl).slF flatStr) (by have := idsW_len E p.p.ids; have := HErt.out.l; omega))
            have M11 := (M10.del 4).del 3
            clear Hid3 M9 T M10
            go_wp2_with fail
            ((with_reducible refine (Heq.out).mono ?_); rintro e wF ⟨rfl, hbF⟩)
            have M12 : Mem w3 wF [.own rStr w3.heap.size 9 u9 Y0, .loc X (psCs p.p p.A p.a p.B p.b) 38, .sl rEQ Aw ws] := M11.below hbF
            have Hid4 := Lib.hid (idsW_any (fun _ => False) Aw cw ws wF ((M12.slc 2 rfl).mono (fun _ _ h => h.elim)) (by omega))
            rw [Hws.out] at Hid4
            clear Heq M11 hbF
            go_wp2_with fail
            ((with_reducible refine (Hid4.out).mono ?_); rintro e wG ⟨vz, rfl, T⟩)
            have M13 : Mem w3 wG [.own rStr w3.heap.size 9 u9 Y0, .own rStr wF.heap.size 9 vz (idsW E p.p.ids)] := ((M12.del 2).del 1).join T
            have hwl2 := idsW_len E p.p.ids
            have hEl := HErt.out.l
            have hyl := Hyl.out
            clear Hid4 M12 T
            go_wp2_with (at_builtin; refine M13.appA flatStr 0 rfl tyStrs rfl _ _ rfl (idsW E p.p.ids) vz rfl rfl (M13.ow 1 rfl) (fun y _ => oneStrs y) (fun _ => rfl) M13.b.size (by omega) (by decide) ?_; intro v14 wH M14)
            have HM := Lib.hid (M14.del 1)
            clear M13 M14 hwl2 hEl hyl
            go_roundw
            case rel =>
              refine ⟨k + 1, by omega, by go_num, ?_⟩
              rw [Hsn.out]
              exact HM.out
            case measure => simp [intOf]; omega
      · obtain rfl : k = P.length := by omega
        have Hyl : Hid ((evyW E P P.length).length ≤ E.length) := by
          show _ ≤ _
          rw [(evyW_perm Hcr.out.dp P.length (Nat.le_refl _)).length_eq]
          exact evsW_len _ _
        have Hkn := Lib.hid (evyW_known (E := E) Hcr.out.dp)
        have Hcl := Lib.hid (cloneE_any Ae es ce wr (HEs.out.keepB M.b) (by have := Hpl.out.2.2; have := HErt.out.l; omega) HEc.out)
        have hesl := Hpl.out.2.2
        rw [← hesl]
        clear hesl
        go_wp2_with fail
        ((with_reducible refine (Hcl.out).mono ?_); rintro e w4 ⟨v4, rfl, T⟩)
        have M1 : Mem w3 w4 [.own rEQ w3.heap.size 56 v4 es, .own rStr w3.heap.size 9 u9 (evyW E P P.length)] := ((M.join T).ownBase flatEQ 1 rfl M.b.size).swap
        have Hdel := Lib.hid (delE_any (fun q => !ps.any (fun pq => decide (whoE q.e ∈ pq.p.ids))) 23 #[.pointer (some ⟨X6, 0, none⟩)] (enters_of Tryz.func23 (by kernel_rfl) rfl) M1 (by have := Hpl.out.2.2; have := HErt.out.l; omega) (fun y w' ys _ hM => by
          have h1 := top3_any (fun _ => False) y.e y.A y.c B d ps X6 w' (by have h2 := LV.kb3 HX6.out hM.b HX6.out.lt; rw [← Hpl.out.1] at h2; exact h2) (HPs.out w' hM.b).1 (HPs.out w' hM.b).2 (by have := Hpl.out.1; omega) (fun q hq => by
            have h3 : q.p ∈ P := by rw [← Hpm.out.1]; exact List.mem_map_of_mem hq
            have := (Hcr.out.pg q.p h3).il
            omega)
          exact h1))
        clear Hcl M T M1
        go_wp2_with fail
        ((with_reducible refine (Hdel.out).mono ?_); rintro e w5 ⟨v5, rfl, M2⟩)
        obtain ⟨fs, Hfs⟩ : ∃ fs, Hid (es.filter (keepE fun q => !ps.any (fun pq => decide (whoE q.e ∈ pq.p.ids))) = fs) := ⟨_, Lib.hid rfl⟩
        have Hfm : Hid (fs.map (fun q => q.e.id) = (knownE E P).map Evt.id) := by
          show _ = _
          rw [← Hfs.out, known_rows, Hpm.out.1, Hpm.out.2.2]
        have Hfl : Hid (fs.length ≤ 16) := by
          show _ ≤ _
          rw [← Hfs.out]
          have h1 := List.length_filter_le (keepE fun q : EQ => !ps.any (fun pq => decide (whoE q.e ∈ pq.p.ids))) es
          have := Hpl.out.2.2
          have := HErt.out.l
          omega
        rw [Hfs.out] at M2
        obtain ⟨Y0, HY0⟩ : ∃ Y0, Hid (evyW E P P.length = Y0) := ⟨_, Lib.hid rfl⟩
        rw [HY0.out] at M2 Hyl Hkn
        have Hso := Lib.hid (sortOwnW M2 1 rfl (by have := Hyl.out; have := HErt.out.l; omega))
        clear Hdel M2
        go_wp2_with fail
        ((with_reducible refine (Hso.out).mono ?_); rintro e w6 ⟨rfl, M3⟩)
        have M4 : Mem w3 w6 [.own rEQ w3.heap.size 56 v5 fs, .own rStr w3.heap.size 9 u9 (srtW ((knownE E P).map Evt.id))] := by
          have h1 : Mem w3 w6 [.own rEQ w3.heap.size 56 v5 fs, .own rStr w3.heap.size 9 u9 (srtW Y0)] := M3
          rw [Hkn.out] at h1
          exact h1
        obtain ⟨A5, c5, e5⟩ := (M4.ow 0 rfl).len
        subst e5
        have Hid3 := Lib.hid (idsW_any (fun _ => False) A5 c5 fs w6 ((M4.ow 0 rfl).slF flatEQ) (by have := Hfl.out; omega))
        rw [Hfm.out] at Hid3
        clear Hso M3
        go_wp2_with fail
        ((with_reducible refine (Hid3.out).mono ?_); rintro e w7 ⟨vy, rfl, T⟩)
        have M5 : Mem w3 w7 [.own rStr w3.heap.size 9 u9 (srtW ((knownE E P).map Evt.id)), .own rStr w6.heap.size 9 vy (srtW ((knownE E P).map Evt.id))] := (M4.del 0).join T
        obtain ⟨A6, c6, e6⟩ := (M5.ow 0 rfl).len
        obtain ⟨A7, c7, e7⟩ := (M5.ow 1 rfl).len
        subst e6 e7
        have Heq := Lib.hid (eqStr_any (fun _ => False) A6 A7 (srtW ((knownE E P).map Evt.id)) c6 c7 w7 ((M5.ow 0 rfl).slF flatStr) ((M5.ow 1 rfl).slF flatStr) (by
          rw [srtW_len, List.length_map]
          have h1 : (knownE E P).length ≤ E.length := by unfold knownE; exact List.length_filter_le _ _
          have := HErt.out.l
          omega))
        have hb7 := M5.b
        clear Hid3 M4 T M5
        go_wp2_with fail
        ((with_reducible refine (Heq.out).mono ?_); rintro e w8 ⟨rfl, hb8⟩)
        have hb9 := Hb3.out.trans ((hb7.trans (hb8.mono hb7.size)).mono Hb3.out.size)
        go_wp2_with fail
        go_ret
        exact ⟨rfl, hb9⟩
end Go.Proofs.YteabhkmhogmoiaaGreatDoor
