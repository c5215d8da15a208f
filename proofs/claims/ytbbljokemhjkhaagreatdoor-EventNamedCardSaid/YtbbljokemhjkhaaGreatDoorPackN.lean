/- Several texts in one: NamedOf, NamedChk, Named, NamedTop. -/
import Derived.Test.YtbbljokemhjkhaaGreatDoorPackQ
import Derived.Test.YtbbljokemhjkhaaGreatDoorPackO
import Derived.Test.YtbbljokemhjkhaaGreatDoorPackB
import Derived.Test.YtbbljokemhjkhaaGreatDoorPackR
/- What handref2.NamedOf returns. -/
namespace Go.Proofs.YtbbljokemhjkhaaGreatDoor
open Go Go.RowKit
def inE (name : ByteArray) (fr to' : Int) (q : EQ) : Bool := decide (q.e.name = name) && decide (fr ≤ q.e.at' ∧ q.e.at' ≤ to' - 1)
theorem fltE_snoc {P : EQ → Bool} {qs : List EQ} {k : Nat} {q : EQ} (h : qs[k]? = some q) : (qs.take (k + 1)).filter P = (qs.take k).filter P ++ (if P q = true then [q] else []) := by
  rw [take_snoc h, List.filter_append]
  congr 1
  cases hp : P q <;> simp [hp]
set_option maxHeartbeats 8000000 in
set_option maxRecDepth 100000 in
theorem namedOf_any (N : Nat → Prop) (A : Option Addr) (qs : List EQ) (c : Nat) (name : ByteArray) (fr to' : Int) (w : World) (hS : Sl rEQ N w A qs) (hl : qs.length ≤ 100000) (ht : -100000000 ≤ to' ∧ to' ≤ 100000000) :
    Calls Tryz.prog 19 #[.slice A qs.length c, .string name, .agg #[.int .i64 fr, .int .i64 to']] w (GivesOwnE (qs.filter (inE name fr to')) w) := by
  have HSl := Lib.hid (fun w' (h : Below w.heap.size w w') => hS.keepB h)
  have hw1 : IntKind.i64.wrap (to' - 1) = to' - 1 := IntWalk.i64_in _ (by omega)
  obtain ⟨R, HR⟩ : ∃ R, Hid (qs.filter (inE name fr to') = R) := ⟨_, Lib.hid rfl⟩
  rw [HR.out]
  have S : Mem w (w.alloc (.cells #[.int .i64 fr, .int .i64 to'] 34)) [.loc w.heap.size #[.int .i64 fr, .int .i64 to'] 34, .own rEQ w.heap.size 95 (.slice none 0 0) []] := ((Mem.start w).new' _ _).nil rEQ w.heap.size 95
  clear hS
  obtain ⟨Wb, hWb⟩ : ∃ X, X = w.heap.size := ⟨_, rfl⟩
  go_enter Tryz.func19, Tryz.ntmps19
  go_upto_region 3 with fail
  have S0 : Mem w (w.alloc (.cells #[.int .i64 fr, .int .i64 to'] 34)) [.loc Wb #[.int .i64 fr, .int .i64 to'] 34, .own rEQ w.heap.size 95 (.slice none 0 0) []] := by rw [hWb]; exact S
  rw [← hWb]
  clear hWb S
  generalize w.alloc (.cells #[.int .i64 fr, .int .i64 to'] 34) = w1 at *
  go_loopw [7, 12] (fun v i wr => ∃ (j : Nat) (out : List EQ), j ≤ qs.length ∧ i = .int .i64 j ∧ Hid ((qs.take j).filter (inE name fr to') = out) ∧ Hid (out.length ≤ j) ∧ Mem w wr [.loc Wb #[.int .i64 fr, .int .i64 to'] 34, .own rEQ w.heap.size 95 v out]) (fun _ i _ => qs.length - (intOf i).toNat)
  case atStart => exact ⟨0, [], Nat.zero_le _, rfl, Lib.hid rfl, Nat.le_refl _, S0⟩
  case round =>
    clear S0
    obtain ⟨j, out, hj, rfl, HO, HOl, S⟩ := hrel
    by_cases hlt : j < qs.length
    · obtain ⟨q, hq⟩ : ∃ q, qs[j]? = some q := ⟨_, List.getElem?_eq_getElem hlt⟩
      obtain ⟨blk, off, l, hA, hblk, _, hrow, hcs⟩ := (HSl.out wr S.b) j q hq
      obtain rfl : l = EQ.cells q := hrow
      subst hA
      have d0 : wr.cell? ⟨blk, off + j * 6, none⟩ = some (.string q.e.id) := hcs 0 _ rfl
      have d1 : wr.cell? ⟨blk, off + j * 6 + 1, none⟩ = some (.string q.e.name) := hcs 1 _ rfl
      have d2 : wr.cell? ⟨blk, off + j * 6 + 2, none⟩ = some (.int .i64 q.e.at') := hcs 2 _ rfl
      have d3 : wr.cell? ⟨blk, off + j * 6 + 3, none⟩ = some (.int .i64 q.e.kind) := hcs 3 _ rfl
      have d4 : wr.cell? ⟨blk, off + j * 6 + 4, none⟩ = some (.string q.e.text) := hcs 4 _ rfl
      have d5 : wr.cell? ⟨blk, off + j * 6 + 5, none⟩ = some (.slice q.A q.e.flds.length q.c) := hcs 5 _ rfl
      have HO2 := Lib.hid (fltE_snoc (P := inE name fr to') hq)
      clear hcs hq
      go_upto_region 5 with fail
      clear d0 d1 d2 d3 d4 d5
      obtain ⟨Y, hY⟩ : ∃ Y, Y = wr.heap.size := ⟨_, rfl⟩
      replace S := S.newAt (evCs q.e q.A q.c) 95 Y hY
      replace S : Mem w (wr.alloc (.cells (evCs q.e q.A q.c) 95)) [.loc Wb #[.int .i64 fr, .int .i64 to'] 34, .own rEQ w.heap.size 95 _ out, .loc Y (evCs q.e q.A q.c) 95] := S
      rw [← hY]
      clear hY
      generalize wr.alloc (.cells (evCs q.e q.A q.c) 95) = w3 at *
      have c0 := (S.lv 0 rfl).all
      have y0 := (S.lv 2 rfl).all
      have Hin := Lib.hid (in_any q.e.at' fr (to' - 1) w3)
      by_cases hn : q.e.name = name
      · have hnb : (q.e.name.toList == name.toList) = true := beqS.2 hn
        by_cases hin : fr ≤ q.e.at' ∧ q.e.at' ≤ to' - 1
        · have HO3 : Hid ((qs.take (j + 1)).filter (inE name fr to') = out ++ [q]) := by
            show _ = _
            rw [HO2.out, HO.out, if_pos (by simp [inE, hn, hin])]
          rw [decide_eq_true hin] at Hin
          have hsz := S.b.size
          have HS0 := Lib.hid S
          clear hn hin HO HO2 S
          go_wp2_with fail
          ((with_reducible refine (Hin.out).mono ?_); rintro e _ ⟨rfl, rfl⟩)
          go_wp2_with (at_builtin; refine HS0.out.app 1 rfl tyEvt rfl _ _ rfl q 1 rfl rfl rfl (oneEQ q) hsz (by have := HOl.out; omega) (by decide) ?_; intro v' w6 S6)
          go_roundw
          case rel => exact ⟨j + 1, out ++ [q], by omega, by go_num, HO3, (by show _ ≤ _; rw [List.length_append, List.length_singleton]; have := HOl.out; omega), S6.del 2⟩
          case measure => simp [intOf]; omega
        · have HO3 : Hid ((qs.take (j + 1)).filter (inE name fr to') = out) := by
            show _ = _
            rw [HO2.out, HO.out, if_neg (by simp [inE, hn]; omega), List.append_nil]
          rw [decide_eq_false hin] at Hin
          clear hn hin HO HO2
          go_wp2_with fail
          ((with_reducible refine (Hin.out).mono ?_); rintro e _ ⟨rfl, rfl⟩)
          go_wp2_with fail
          go_roundw
          case rel => exact ⟨j + 1, out, by omega, by go_num, HO3, (by show _ ≤ _; have := HOl.out; omega), S.del 2⟩
          case measure => simp [intOf]; omega
      · have hnb : (q.e.name.toList == name.toList) = false := Bool.eq_false_iff.2 (fun h => hn (beqS.1 h))
        have HO3 : Hid ((qs.take (j + 1)).filter (inE name fr to') = out) := by
          show _ = _
          rw [HO2.out, HO.out, if_neg (by simp [inE, hn]), List.append_nil]
        clear hn HO HO2 Hin
        go_wp2_with fail
        go_roundw
        case rel => exact ⟨j + 1, out, by omega, by go_num, HO3, (by show _ ≤ _; have := HOl.out; omega), S.del 2⟩
        case measure => simp [intOf]; omega
    · have HO3 : Hid (out = R) := by show _ = _; rw [← HO.out, List.take_of_length_le (by omega), HR.out]
      obtain rfl := HO3.out
      have HS0 := Lib.hid (S.del 0)
      clear S HO HR
      go_wp2_with fail
      go_ret
      exact ⟨_, rfl, HS0.out⟩
end Go.Proofs.YtbbljokemhjkhaaGreatDoor

/- What event.checkNamed returns. -/
namespace Go.Proofs.YtbbljokemhjkhaaGreatDoor
open Go Go.RowKit
def namesErr : List ByteArray → Int
  | [] => 0
  | x :: r => if L.isKey x = false then 5 else namesErr r
def winErr (f t : Int) : Int := if f < 0 then 1 else if t < f then 1 else if 4321440 < t then 1 else 0
def namedErr (l : List Evt) (ns : List ByteArray) (f t : Int) : Int := if evsFault l ≠ 0 then evsFault l else if namesErr ns ≠ 0 then namesErr ns else winErr f t
theorem namesErr_at {l : List ByteArray} {k : Nat} {x : ByteArray} (h : l[k]? = some x) : namesErr (l.drop k) = if L.isKey x = false then 5 else namesErr (l.drop (k + 1)) := by rw [drop_at3 h, namesErr]
theorem namedErr_zero {l : List Evt} {ns : List ByteArray} {f t : Int} (h : namedErr l ns f t = 0) : evsFault l = 0 ∧ namesErr ns = 0 ∧ winErr f t = 0 := by
  unfold namedErr at h
  split at h
  · rename_i h1; exact absurd h h1
  · rename_i h1
    split at h
    · rename_i h2; exact absurd h h2
    · rename_i h2; exact ⟨Decidable.not_not.1 h1, Decidable.not_not.1 h2, h⟩
set_option maxHeartbeats 2000000 in
set_option maxRecDepth 100000 in
theorem checkWindow_any (f t : Int) (w : World) : Calls Tryz.prog 114 #[.agg #[.int .i64 f, .int .i64 t]] w fun e w' => e = .returned (.int .i64 (winErr f t)) ∧ Below w.heap.size w w' := by
  obtain ⟨R, HR⟩ : ∃ R, Hid (winErr f t = R) := ⟨_, Lib.hid rfl⟩
  rw [HR.out]
  have hb : Below w.heap.size w (w.alloc (.cells #[.int .i64 f, .int .i64 t] 34)) := (Below.refl _ _).alloc (Nat.le_refl _) _
  have lvX := LV.new w w.heap.size #[.int .i64 f, .int .i64 t] 34 rfl
  unfold winErr at HR
  go_enter Tryz.func114, Tryz.ntmps114
  go_upto_region 1 with fail
  obtain ⟨X, hX⟩ : ∃ X, X = w.heap.size := ⟨_, rfl⟩
  rw [← hX] at lvX ⊢
  clear hX
  generalize w.alloc (.cells #[.int .i64 f, .int .i64 t] 34) = w1 at *
  have c0 := lvX.all
  by_cases h1 : f < 0
  · rw [if_pos h1] at HR
    go_wp2_with fail
    go_ret
    exact ⟨ret_i HR.out, hb⟩
  · rw [if_neg h1] at HR
    by_cases h2 : t < f
    · rw [if_pos h2] at HR
      go_wp2_with fail
      go_ret
      exact ⟨ret_i HR.out, hb⟩
    · rw [if_neg h2] at HR
      by_cases h3 : 4321440 < t
      · rw [if_pos h3] at HR
        go_wp2_with fail
        go_ret
        exact ⟨ret_i HR.out, hb⟩
      · rw [if_neg h3] at HR
        go_wp2_with fail
        go_ret
        exact ⟨ret_i HR.out, hb⟩
set_option maxHeartbeats 8000000 in
set_option maxRecDepth 100000 in
theorem checkNamed_any (N : Nat → Prop) (A : Option Addr) (xs : List Evt) (c : Nat) (f t : Int) (ns : List ByteArray) (X n : Nat) (w : World) (hS : Sl rEvt N w A xs) (hok : EvsOk xs) (hT : Tabs w) (hM : MaxL w) (hn : n = ns.length) (hX : LV w X (ns.map Value.string).toArray 9) (hnl : ns.length ≤ 100) (hns : ∀ x ∈ ns, x.size ≤ 1000000000) :
    Calls Tryz.prog 50 #[.slice A xs.length c, .agg #[.int .i64 f, .int .i64 t], .slice (some ⟨X, 0, none⟩) n n] w fun e w' => e = .returned (.int .i64 (namedErr xs ns f t)) ∧ Below w.heap.size w w' := by
  subst hn
  have hb0 : Below w.heap.size w (w.alloc (.cells #[.int .i64 f, .int .i64 t] 34)) := (Below.refl _ _).alloc (Nat.le_refl _) _
  have lvW := LV.new w w.heap.size #[.int .i64 f, .int .i64 t] 34 rfl
  have Hch := Lib.hid (checkEvs_any N A xs c _ (hS.keepB hb0) hok (Utf8Tabs_below hT hb0) (hM.below hb0))
  have HX := Lib.hid hX
  have Hns := Lib.hid hns
  clear hS hok hT hM hX hns
  obtain ⟨R, HR⟩ : ∃ R, Hid (namedErr xs ns f t = R) := ⟨_, Lib.hid rfl⟩
  rw [HR.out]
  unfold namedErr at HR
  generalize evsFault xs = F at *
  go_enter Tryz.func50, Tryz.ntmps50
  go_upto_region 1 with fail
  obtain ⟨Wb, hWb⟩ : ∃ Wb, Wb = w.heap.size := ⟨_, rfl⟩
  rw [← hWb] at lvW ⊢
  clear hWb
  generalize w.alloc (.cells #[.int .i64 f, .int .i64 t] 34) = w0 at *
  have Hb0 := Lib.hid hb0
  clear hb0
  go_wp2_with fail
  ((with_reducible refine (Hch.out).mono ?_); rintro e w1 ⟨rfl, hl1⟩)
  have hb1 := Hb0.out.trans (hl1.mono Hb0.out.size)
  have lvW1 := LV.kb3 lvW hl1 lvW.lt
  clear Hch lvW hl1
  by_cases hF : F = 0
  · subst hF
    rw [if_neg (not_not_intro rfl)] at HR
    go_wp2_with fail
    go_loopw [9, 17] (fun s9 i wr => ∃ k : Nat, k ≤ ns.length ∧ i = .int .i64 k ∧ Hid ((if namesErr (ns.drop k) ≠ 0 then namesErr (ns.drop k) else winErr f t) = R) ∧ Below w.heap.size w wr ∧ LV wr Wb #[.int .i64 f, .int .i64 t] 34) (fun _ i _ => ns.length - (intOf i).toNat)
    case atStart => exact ⟨0, Nat.zero_le _, rfl, HR, hb1, lvW1⟩
    case round =>
      clear HR hb1 lvW1
      obtain ⟨k, hk, rfl, HR, hbl, lvW⟩ := hrel
      by_cases hlt : k < ns.length
      · obtain ⟨x, hx⟩ : ∃ x, ns[k]? = some x := ⟨_, List.getElem?_eq_getElem hlt⟩
        have hxs := Hns.out x (List.mem_of_getElem? hx)
        have c0 : wr.cell? ⟨X, k, none⟩ = some (.string x) := (LV.kb3 HX.out hbl HX.out.lt).cell k _ (by simp [hx])
        have HR1 : Hid ((if (if L.isKey x = false then (5 : Int) else namesErr (ns.drop (k + 1))) ≠ 0 then (if L.isKey x = false then (5 : Int) else namesErr (ns.drop (k + 1))) else winErr f t) = R) := by show _ = _; rw [← HR.out, namesErr_at hx]
        have Hk := Lib.hid (isKey_any x wr (by omega))
        generalize L.isKey x = K at *
        clear HR hx
        cases K with
        | false =>
          have HR2 : Hid (5 = R) := HR1.out
          go_wp2_with fail
          ((with_reducible refine (Hk.out).mono ?_); rintro e _ ⟨rfl, rfl⟩)
          go_wp2_with fail
          go_ret
          exact ⟨ret_i HR2.out, hbl⟩
        | true =>
          have HR2 : Hid ((if namesErr (ns.drop (k + 1)) ≠ 0 then namesErr (ns.drop (k + 1)) else winErr f t) = R) := HR1.out
          clear HR1
          go_wp2_with fail
          ((with_reducible refine (Hk.out).mono ?_); rintro e _ ⟨rfl, rfl⟩)
          go_wp2_with fail
          go_roundw
          case rel => exact ⟨k + 1, by omega, by go_num, HR2, hbl, lvW⟩
          case measure => simp [intOf]; omega
      · have HR2 : Hid (winErr f t = R) := by
          show _ = _
          rw [← HR.out, List.drop_eq_nil_of_le (by omega)]
          rfl
        have c0 := lvW.all
        clear HR
        go_wp2_with fail
        ((with_reducible refine (checkWindow_any f t wr).mono ?_); rintro e w2 ⟨rfl, hl2⟩)
        rw [HR2.out]
        go_wp2_with fail
        go_ret
        exact ⟨rfl, hbl.trans (hl2.mono hbl.size)⟩
  · rw [if_pos hF] at HR
    have hF' : (F != 0) = true := by simpa using hF
    go_wp2_with fail
    go_ret
    exact ⟨ret_i HR.out, hb1⟩
set_option maxHeartbeats 4000000 in
set_option maxRecDepth 100000 in
theorem nameFault_any (ns : List ByteArray) (X n : Nat) (w : World) (hn : n = ns.length) (hX : LV w X (ns.map Value.string).toArray 9) (hnl : ns.length ≤ 100) (hns : ∀ x ∈ ns, x.size ≤ 1000000000) :
    Calls Tryz.prog 16 #[.slice (some ⟨X, 0, none⟩) n n] w fun e w' => e = .returned (.int .i64 (namesErr ns)) ∧ Below w.heap.size w w' := by
  subst hn
  have HX := Lib.hid hX
  have Hns := Lib.hid hns
  clear hX hns
  obtain ⟨R, HR⟩ : ∃ R, Hid (namesErr ns = R) := ⟨_, Lib.hid rfl⟩
  rw [HR.out]
  go_enter Tryz.func16, Tryz.ntmps16
  go_wp2_with fail
  go_loopw [4, 7] (fun s4 i wr => ∃ k : Nat, k ≤ ns.length ∧ i = .int .i64 k ∧ Hid (namesErr (ns.drop k) = R) ∧ Below w.heap.size w wr) (fun _ i _ => ns.length - (intOf i).toNat)
  case atStart => exact ⟨0, Nat.zero_le _, rfl, HR, Below.refl _ _⟩
  case round =>
    clear HR
    obtain ⟨k, hk, rfl, HR, hbl⟩ := hrel
    by_cases hlt : k < ns.length
    · obtain ⟨x, hx⟩ : ∃ x, ns[k]? = some x := ⟨_, List.getElem?_eq_getElem hlt⟩
      have hxs := Hns.out x (List.mem_of_getElem? hx)
      have c0 : wr.cell? ⟨X, k, none⟩ = some (.string x) := (LV.kb3 HX.out hbl HX.out.lt).cell k _ (by simp [hx])
      have HR1 : Hid ((if L.isKey x = false then (5 : Int) else namesErr (ns.drop (k + 1))) = R) := by show _ = _; rw [← HR.out, namesErr_at hx]
      have Hk := Lib.hid (Key_any x wr (by omega))
      generalize L.isKey x = K at *
      clear HR hx
      cases K with
      | false =>
        have HR2 : Hid (5 = R) := HR1.out
        go_wp2_with fail
        ((with_reducible refine (Hk.out).mono ?_); rintro e w2 ⟨rfl, hl2⟩)
        go_wp2_with fail
        go_ret
        exact ⟨ret_i HR2.out, hbl.trans (hl2.mono hbl.size)⟩
      | true =>
        have HR2 : Hid (namesErr (ns.drop (k + 1)) = R) := HR1.out
        clear HR1
        go_wp2_with fail
        ((with_reducible refine (Hk.out).mono ?_); rintro e w2 ⟨rfl, hl2⟩)
        clear c0
        go_wp2_with fail
        go_roundw
        case rel => exact ⟨k + 1, by omega, by go_num, HR2, hbl.trans (hl2.mono hbl.size)⟩
        case measure => simp [intOf]; omega
    · have HR2 : Hid (0 = R) := by
        show _ = _
        rw [← HR.out, List.drop_eq_nil_of_le (by omega)]
        rfl
      clear HR
      go_wp2_with fail
      go_ret
      exact ⟨ret_i HR2.out, hbl⟩
end Go.Proofs.YtbbljokemhjkhaaGreatDoor

/- What event.named, event.copyAll and event.Named return. -/
namespace Go.Proofs.YtbbljokemhjkhaaGreatDoor
open Go Go.RowKit
set_option maxHeartbeats 8000000 in
set_option maxRecDepth 100000 in
theorem named_any (N : Nat → Prop) (A : Option Addr) (qs : List EQ) (c : Nat) (name : ByteArray) (fr to' : Int) (w : World) (hS : Sl rEQ N w A qs) (hl : qs.length ≤ 100000) :
    Calls Tryz.prog 52 #[.slice A qs.length c, .string name, .agg #[.int .i64 fr, .int .i64 to']] w (GivesOwnE (qs.filter (inE name fr to')) w) := by
  have HSl := Lib.hid (fun w' (h : Below w.heap.size w w') => hS.keepB h)
  obtain ⟨R, HR⟩ : ∃ R, Hid (qs.filter (inE name fr to') = R) := ⟨_, Lib.hid rfl⟩
  rw [HR.out]
  have S : Mem w (w.alloc (.cells #[.int .i64 fr, .int .i64 to'] 34)) [.loc w.heap.size #[.int .i64 fr, .int .i64 to'] 34, .own rEQ w.heap.size 95 (.slice none 0 0) []] := ((Mem.start w).new' _ _).nil rEQ w.heap.size 95
  clear hS
  obtain ⟨Wb, hWb⟩ : ∃ X, X = w.heap.size := ⟨_, rfl⟩
  go_enter Tryz.func52, Tryz.ntmps52
  go_upto_region 3 with fail
  have S0 : Mem w (w.alloc (.cells #[.int .i64 fr, .int .i64 to'] 34)) [.loc Wb #[.int .i64 fr, .int .i64 to'] 34, .own rEQ w.heap.size 95 (.slice none 0 0) []] := by rw [hWb]; exact S
  rw [← hWb]
  clear hWb S
  generalize w.alloc (.cells #[.int .i64 fr, .int .i64 to'] 34) = w1 at *
  go_loopw [7, 12] (fun v i wr => ∃ (j : Nat) (out : List EQ), j ≤ qs.length ∧ i = .int .i64 j ∧ Hid ((qs.take j).filter (inE name fr to') = out) ∧ Hid (out.length ≤ j) ∧ Mem w wr [.loc Wb #[.int .i64 fr, .int .i64 to'] 34, .own rEQ w.heap.size 95 v out]) (fun _ i _ => qs.length - (intOf i).toNat)
  case atStart => exact ⟨0, [], Nat.zero_le _, rfl, Lib.hid rfl, Nat.le_refl _, S0⟩
  case round =>
    clear S0
    obtain ⟨j, out, hj, rfl, HO, HOl, S⟩ := hrel
    by_cases hlt : j < qs.length
    · obtain ⟨q, hq⟩ : ∃ q, qs[j]? = some q := ⟨_, List.getElem?_eq_getElem hlt⟩
      obtain ⟨blk, off, l, hA, hblk, _, hrow, hcs⟩ := (HSl.out wr S.b) j q hq
      obtain rfl : l = EQ.cells q := hrow
      subst hA
      have d0 : wr.cell? ⟨blk, off + j * 6, none⟩ = some (.string q.e.id) := hcs 0 _ rfl
      have d1 : wr.cell? ⟨blk, off + j * 6 + 1, none⟩ = some (.string q.e.name) := hcs 1 _ rfl
      have d2 : wr.cell? ⟨blk, off + j * 6 + 2, none⟩ = some (.int .i64 q.e.at') := hcs 2 _ rfl
      have d3 : wr.cell? ⟨blk, off + j * 6 + 3, none⟩ = some (.int .i64 q.e.kind) := hcs 3 _ rfl
      have d4 : wr.cell? ⟨blk, off + j * 6 + 4, none⟩ = some (.string q.e.text) := hcs 4 _ rfl
      have d5 : wr.cell? ⟨blk, off + j * 6 + 5, none⟩ = some (.slice q.A q.e.flds.length q.c) := hcs 5 _ rfl
      have HO2 := Lib.hid (fltE_snoc (P := inE name fr to') hq)
      clear hcs hq
      go_upto_region 5 with fail
      clear d0 d1 d2 d3 d4 d5
      obtain ⟨Y, hY⟩ : ∃ Y, Y = wr.heap.size := ⟨_, rfl⟩
      replace S := S.newAt (evCs q.e q.A q.c) 95 Y hY
      replace S : Mem w (wr.alloc (.cells (evCs q.e q.A q.c) 95)) [.loc Wb #[.int .i64 fr, .int .i64 to'] 34, .own rEQ w.heap.size 95 _ out, .loc Y (evCs q.e q.A q.c) 95] := S
      rw [← hY]
      clear hY
      generalize wr.alloc (.cells (evCs q.e q.A q.c) 95) = w3 at *
      have c0 := (S.lv 0 rfl).all
      have y0 := (S.lv 2 rfl).all
      by_cases hn : q.e.name = name
      · have hnb : (q.e.name.toList == name.toList) = true := beqS.2 hn
        by_cases hf : fr ≤ q.e.at'
        · by_cases hg : q.e.at' < to'
          · have HO3 : Hid ((qs.take (j + 1)).filter (inE name fr to') = out ++ [q]) := by
              show _ = _
              rw [HO2.out, HO.out, if_pos (by simp [inE, hn, hf]; omega)]
            have hsz := S.b.size
            have HS0 := Lib.hid S
            clear hn HO HO2 S
            go_wp2_with (at_builtin; refine HS0.out.app 1 rfl tyEvt rfl _ _ rfl q 1 rfl rfl rfl (oneEQ q) hsz (by have := HOl.out; omega) (by decide) ?_; intro v' w6 S6)
            go_roundw
            case rel => exact ⟨j + 1, out ++ [q], by omega, by go_num, HO3, (by show _ ≤ _; rw [List.length_append, List.length_singleton]; have := HOl.out; omega), S6.del 2⟩
            case measure => simp [intOf]; omega
          · have hg' : to' ≤ q.e.at' := by omega
            have HO3 : Hid ((qs.take (j + 1)).filter (inE name fr to') = out) := by
              show _ = _
              rw [HO2.out, HO.out, if_neg (by simp [inE, hn]; omega), List.append_nil]
            clear hn HO HO2
            go_wp2_with fail
            go_roundw
            case rel => exact ⟨j + 1, out, by omega, by go_num, HO3, (by show _ ≤ _; have := HOl.out; omega), S.del 2⟩
            case measure => simp [intOf]; omega
        · have hf' : q.e.at' < fr := by omega
          have HO3 : Hid ((qs.take (j + 1)).filter (inE name fr to') = out) := by
            show _ = _
            rw [HO2.out, HO.out, if_neg (by simp [inE, hn]; omega), List.append_nil]
          clear hn HO HO2
          go_wp2_with fail
          go_roundw
          case rel => exact ⟨j + 1, out, by omega, by go_num, HO3, (by show _ ≤ _; have := HOl.out; omega), S.del 2⟩
          case measure => simp [intOf]; omega
      · have hnb : (q.e.name.toList == name.toList) = false := Bool.eq_false_iff.2 (fun h => hn (beqS.1 h))
        have HO3 : Hid ((qs.take (j + 1)).filter (inE name fr to') = out) := by
          show _ = _
          rw [HO2.out, HO.out, if_neg (by simp [inE, hn]), List.append_nil]
        clear hn HO HO2
        go_wp2_with fail
        go_roundw
        case rel => exact ⟨j + 1, out, by omega, by go_num, HO3, (by show _ ≤ _; have := HOl.out; omega), S.del 2⟩
        case measure => simp [intOf]; omega
    · have HO3 : Hid (out = R) := by show _ = _; rw [← HO.out, List.take_of_length_le (by omega), HR.out]
      obtain rfl := HO3.out
      have HS0 := Lib.hid (S.del 0)
      clear S HO HR
      go_wp2_with fail
      go_ret
      exact ⟨_, rfl, HS0.out⟩

theorem map_set_same {l : List EQ} {k : Nat} {q : EQ} (h : l[k]? = some q) (A : Option Addr) (c : Nat) : (l.set k ⟨q.e, A, c⟩).map EQ.e = l.map EQ.e := by
  rw [List.map_set]
  obtain ⟨h1, h2⟩ := List.getElem?_eq_some_iff.1 h
  have : (l.map EQ.e)[k]'(by simpa using h1) = q.e := by simp [h2]
  rw [← this, List.set_getElem_self]
structure CpAt (qs zs : List EQ) (j : Nat) : Prop where
  m : zs.map EQ.e = qs.map EQ.e
  d : zs.drop j = qs.drop j
theorem CpAt.len {qs zs : List EQ} {j : Nat} (h : CpAt qs zs j) : zs.length = qs.length := by have := congrArg List.length h.m; simpa using this
theorem CpAt.get {qs zs : List EQ} {j : Nat} (h : CpAt qs zs j) : zs[j]? = qs[j]? := by
  have := congrArg (fun l : List EQ => l[0]?) h.d
  simpa using this
theorem CpAt.put {qs zs : List EQ} {j : Nat} {q : EQ} (h : CpAt qs zs j) (hq : zs[j]? = some q) (A : Option Addr) (c : Nat) : CpAt qs (zs.set j ⟨q.e, A, c⟩) (j + 1) := by
  refine ⟨by rw [map_set_same hq]; exact h.m, ?_⟩
  rw [List.drop_set_of_lt (by omega)]
  have := congrArg (List.drop 1) h.d
  rw [List.drop_drop, List.drop_drop] at this
  exact this
theorem take_set_snoc {α : Type} {l : List α} {j : Nat} {x : α} (hj : j < l.length) : (l.set j x).take (j + 1) = l.take j ++ [x] := by
  rw [take_snoc (x := x) (List.getElem?_set_self hj), List.take_set, List.set_eq_of_length_le (by simp; omega)]
theorem FldsOk.sub {M : Nat → Prop} {w : World} {qs : List EQ} (h : FldsOk M w qs) {zs : List EQ} (hs : ∀ q ∈ zs, q ∈ qs) : FldsOk M w zs := fun q hq => h q (hs q hq)
def GivesCp (qs : List EQ) (w : World) (e : Ending) (w' : World) : Prop := ∃ v zs, e = .returned v ∧ zs.map EQ.e = qs.map EQ.e ∧ Mem w w' [.own rEQ w.heap.size 95 v zs, .flds zs]
set_option maxHeartbeats 8000000 in
set_option maxRecDepth 100000 in
theorem copyAll_any (A : Option Addr) (qs : List EQ) (c : Nat) (w : World) (hL : Sl rEQ (fun _ => False) w A qs) (hF : FldsOk (fun _ => False) w qs) (hl : qs.length ≤ 1000) (hc : A = none → c = 0) (hfl : ∀ q ∈ qs, q.e.flds.length ≤ 1000) :
    Calls Tryz.prog 51 #[.slice A qs.length c] w (GivesCp qs w) := by
  have Hcl := Lib.hid (cloneE_any A qs c w hL hl hc)
  have HF := Lib.hid (fun (w' : World) (h : Below w.heap.size w w') (q : EQ) (hq : q ∈ qs) => (hF q hq).keepB h)
  have Hfl := Lib.hid hfl
  obtain ⟨n, hn⟩ : ∃ n, qs.length = n := ⟨_, rfl⟩
  have Hn := Lib.hid hn
  rw [hn] at Hcl hl ⊢
  clear hL hF hc hfl hn
  go_enter Tryz.func51, Tryz.ntmps51
  go_wp2_with fail
  ((with_reducible refine (Hcl.out).mono ?_); rintro e w1 ⟨v, rfl, S⟩)
  clear Hcl
  by_cases h0 : n = 0
  · subst h0
    obtain rfl : qs = [] := List.length_eq_zero_iff.1 Hn.out
    obtain ⟨A1, c1, rfl⟩ := (S.ow 0 rfl).len
    have HS := Lib.hid S.noFl
    rw [show ([] : List EQ).length = 0 from rfl] at HS ⊢
    clear S
    go_wp2_with fail
    go_loopw [10] (fun i wr => i = .int .i64 0 ∧ w1 = wr) (fun _ _ => 0)
    case atStart => exact ⟨rfl, rfl⟩
    case round =>
      obtain ⟨rfl, rfl⟩ := hrel
      go_wp2_with fail
      go_ret
      exact ⟨_, [], rfl, rfl, HS.out⟩
  · obtain ⟨g, cap, rfl, hcap⟩ := (S.ow 0 rfl).form (by have := Hn.out; omega)
    rw [Hn.out] at S ⊢
    have S0 : Mem w w1 [.own rEQ w.heap.size 95 (.slice (some ⟨g, 0, none⟩) n cap) qs, .flds (qs.take 0)] := S.noFl
    clear S
    go_wp2_with fail
    go_loopw [10] (fun i wr => ∃ (j : Nat) (zs : List EQ), j ≤ n ∧ i = .int .i64 j ∧ Hid (CpAt qs zs j) ∧ Mem w wr [.own rEQ w.heap.size 95 (.slice (some ⟨g, 0, none⟩) n cap) zs, .flds (zs.take j)]) (fun i _ => n - (intOf i).toNat)
    case atStart => exact ⟨0, qs, Nat.zero_le _, rfl, ⟨rfl, rfl⟩, S0⟩
    case round =>
      clear S0
      obtain ⟨j, zs, hj, rfl, HC, S⟩ := hrel
      have hzl : Hid (n = zs.length) := by show _ = _; rw [HC.out.len]; exact Hn.out.symm
      by_cases hlt : j < n
      · obtain ⟨q, hq⟩ : ∃ q, zs[j]? = some q := ⟨_, List.getElem?_eq_getElem (by have := hzl.out; omega)⟩
        have hqm : q ∈ qs := List.mem_of_getElem? (HC.out.get ▸ hq)
        have Hq := Lib.hid hq
        obtain ⟨⟨d0, d1, d2, d3, d4, d5⟩, hfr⟩ := (S.ow 0 rfl).eqAt hzl.out j q hq
        have hqf := Hfl.out q hqm
        clear hq
        go_upto_region 5 with fail
        clear d0 d1 d2 d3 d4 d5 hfr
        obtain ⟨Y, hY⟩ : ∃ Y, Y = wr.heap.size := ⟨_, rfl⟩
        replace S := S.newAt (evCs q.e q.A q.c) 95 Y hY
        replace S : Mem w (wr.alloc (.cells (evCs q.e q.A q.c) 95)) [.own rEQ w.heap.size 95 (.slice (some ⟨g, 0, none⟩) n cap) zs, .flds (zs.take j), .loc Y (evCs q.e q.A q.c) 95] := S
        rw [← hY]
        clear hY
        generalize wr.alloc (.cells (evCs q.e q.A q.c) 95) = w3 at *
        have c0 := (S.lv 2 rfl).all
        have Hcp := Lib.hid (copyEv_any q.e q.A q.c w3 (HF.out w3 S.b q hqm) hqf)
        have HS0 := Lib.hid S
        clear S
        go_wp2_with fail
        ((with_reducible refine (Hcp.out).mono ?_); rintro e w4 ⟨A2, c2, rfl, T⟩)
        have HS1 := Lib.hid (HS0.out.join T)
        clear Hcp HS0 T c0
        obtain ⟨⟨d0, d1, d2, d3, d4, d5⟩, f⟩ := (HS1.out.ow 0 rfl).eqAt hzl.out j q Hq.out
        have f0 := f 0 (by decide)
        have f1 := f 1 (by decide)
        have f2 := f 2 (by decide)
        have f3 := f 3 (by decide)
        have f4 := f 4 (by decide)
        have f5 := f 5 (by decide)
        rw [Nat.add_zero] at f0
        clear f
        have HS2 := Lib.hid (HS1.out.putEQ 0 rfl hzl.out j q ⟨q.e, A2, c2⟩ Hq.out)
        clear HS1
        go_upto_region 6 with fail
        have S3 : Mem w _ [.own rEQ w.heap.size 95 (.slice (some ⟨g, 0, none⟩) n cap) (zs.set j ⟨q.e, A2, c2⟩), .flds (zs.take j), .loc Y (evCs q.e q.A q.c) 95, .sl rFld A2 q.e.flds] := HS2.out
        have S4 : Mem w _ [.own rEQ w.heap.size 95 (.slice (some ⟨g, 0, none⟩) n cap) (zs.set j ⟨q.e, A2, c2⟩), .flds (zs.take j ++ [⟨q.e, A2, c2⟩]), .loc Y (evCs q.e q.A q.c) 95, .sl rFld A2 q.e.flds] := S3.addFl 1 3 rfl rfl ⟨q.e, A2, c2⟩ rfl rfl
        rw [← take_set_snoc (by have := hzl.out; omega)] at S4
        have HC2 := Lib.hid (HC.out.put Hq.out A2 c2)
        have HS5 := Lib.hid ((S4.del 3).del 2)
        clear d0 d1 d2 d3 d4 d5 f0 f1 f2 f3 f4 f5 HS2 S3 S4 HC Hq
        go_wp2_with fail
        go_roundw
        case rel => exact ⟨j + 1, _, by omega, by go_num, HC2, HS5.out⟩
        case measure => simp [intOf]; omega
      · have hm := Lib.hid HC.out.m
        have hzt : zs.take j = zs := List.take_of_length_le (by have := hzl.out; omega)
        rw [hzt] at S
        have HS := Lib.hid S
        clear S hzt
        go_wp2_with fail
        go_ret
        exact ⟨_, zs, rfl, hm.out, HS.out⟩
end Go.Proofs.YtbbljokemhjkhaaGreatDoor

/- What event.Named returns. -/
namespace Go.Proofs.YtbbljokemhjkhaaGreatDoor
open Go Go.RowKit
def hitN (name : ByteArray) (f t : Int) (e : Evt) : Bool := decide (e.name = name) && decide (f ≤ e.at' ∧ e.at' ≤ t - 1)
def namedE (name : ByteArray) (f t : Int) (xs : List Evt) : List Evt := xs.filter (hitN name f t)
theorem namedE_rows (name : ByteArray) (f t : Int) (qs : List EQ) : (qs.filter (inE name f t)).map EQ.e = namedE name f t (qs.map EQ.e) := by
  rw [namedE, List.filter_map]
  rfl
theorem namedE_len (name : ByteArray) (f t : Int) (xs : List Evt) : (namedE name f t xs).length ≤ xs.length := List.length_filter_le _ _
theorem Mem.sl_nil {α : Type} {r : Rep α} {w0 w : World} {cs : List Chunk} {B E : Nat} {v : Value} {xs : List α} (S : Mem w0 w cs) (i : Nat) (hi : cs[i]? = some (.own r B E v xs)) : ∃ A c, v = .slice A xs.length c ∧ (A = none → c = 0) ∧ Mem w0 w (cs.set i (.sl r A xs)) := by
  obtain ⟨A, c, rfl, M⟩ := S.frz i hi
  refine ⟨A, c, rfl, fun h => ?_, M⟩
  rcases (S.ow i hi).shape2 with ⟨e, _⟩ | ⟨g, cap, e, _⟩
  · simp only [Value.slice.injEq] at e; exact e.2.2
  · simp only [Value.slice.injEq] at e; rw [e.1] at h; cases h
def GivesSlE (l : List Evt) (E : Int) (w : World) (e : Ending) (w' : World) : Prop := ∃ A c, e = .returned (.tuple #[.slice A l.length c, .int .i64 E]) ∧ Mem w w' [.sl rEvt A l]
set_option maxHeartbeats 4000000 in
set_option maxRecDepth 100000 in
theorem namedTop_any (N : Nat → Prop) (A : Option Addr) (xs : List Evt) (c : Nat) (name : ByteArray) (f t : Int) (w : World) (hS : Sl rEvt N w A xs) (hok : EvsOk xs) (hT : Tabs w) (hM : MaxL w) (hl : xs.length ≤ 1000) (hname : name.size ≤ 1000000000) (hfl : ∀ e ∈ xs, e.flds.length ≤ 1000) :
    Calls Tryz.prog 12 #[.slice A xs.length c, .string name, .agg #[.int .i64 f, .int .i64 t]] w (GivesSlE (if namedErr xs [name] f t = 0 then namedE name f t xs else []) (namedErr xs [name] f t) w) := by
  have S : Mem w (w.alloc (.cells #[.int .i64 f, .int .i64 t] 34)) [.loc w.heap.size #[.int .i64 f, .int .i64 t] 34] := (Mem.start w).new' _ _
  have Hcn := Lib.hid (fun X w' (h : Below w.heap.size w w') (hX : LV w' X #[.string name] 9) => checkNamed_any N A xs c f t [name] X 1 w' (hS.keepB h) hok (Utf8Tabs_below hT h) (hM.below h) rfl hX (by simp) (by simpa using hname))
  obtain ⟨qs, hqx, hR, hFl⟩ := evt_rows hS
  have hR' := hR.mono (M := fun _ => False) (fun _ _ h => h.elim)
  have hql : qs.length = xs.length := by rw [← hqx, List.length_map]
  have Hnm := Lib.hid (fun w' (h : Below w.heap.size w w') => named_any (fun _ => False) A qs c name f t w' (hR'.keepB h) (by omega))
  have HF : Hid (∀ w', Below w.heap.size w w' → FldsOk (fun _ => False) w' (qs.filter (inE name f t))) := fun w' h q hq => (((hFl q (List.mem_filter.1 hq).1).mono (M := fun _ => False) (fun _ _ h => h.elim))).keepB h
  have Hf2 : Hid (∀ q ∈ qs.filter (inE name f t), q.e.flds.length ≤ 1000) := fun q hq => hfl q.e (by rw [← hqx]; exact List.mem_map_of_mem (List.mem_filter.1 hq).1)
  have Hfq : Hid ((qs.filter (inE name f t)).length ≤ 1000) := by have := List.length_filter_le (inE name f t) qs; show _ ≤ _; omega
  have Hne : Hid ((qs.filter (inE name f t)).map EQ.e = namedE name f t xs) := by show _ = _; rw [namedE_rows, hqx]
  obtain ⟨E, HE⟩ : ∃ E, Hid (namedErr xs [name] f t = E) := ⟨_, Lib.hid rfl⟩
  rw [HE.out] at Hcn ⊢
  obtain ⟨R, HR⟩ : ∃ R, Hid ((if E = 0 then namedE name f t xs else []) = R) := ⟨_, Lib.hid rfl⟩
  rw [HR.out]
  obtain ⟨n, hn⟩ : ∃ n, xs.length = n := ⟨_, rfl⟩
  rw [hn] at Hcn ⊢
  rw [hql, hn] at Hnm
  generalize qs.filter (inE name f t) = rs at *
  clear hS hok hT hM hl hname hfl hqx hR hFl hR' hql hn HE
  obtain ⟨Wb, hWb⟩ : ∃ X, X = w.heap.size := ⟨_, rfl⟩
  rw [← hWb] at S
  go_enter Tryz.func12, Tryz.ntmps12
  go_upto_region 1 with fail
  rw [← hWb]
  clear hWb
  generalize w.alloc (.cells #[.int .i64 f, .int .i64 t] 34) = w1 at *
  have c0 := (S.lv 0 rfl).all
  have Hcn1 := Lib.hid (Hcn.out w1.heap.size (w1.alloc (.cells #[.string name] 9)) (S.alloc _).b (LV.new w1 w1.heap.size #[.string name] 9 rfl))
  replace S := S.alloc (.cells #[.string name] 9)
  clear Hcn
  go_wp2_with fail
  ((with_reducible refine (Hcn1.out).mono ?_); rintro e w2 ⟨rfl, hl2⟩)
  replace S := S.below hl2
  clear Hcn1 hl2 c0
  by_cases hE : E = 0
  · subst hE
    obtain rfl : namedE name f t xs = R := HR.out
    have c0 := (S.lv 0 rfl).all
    have Hnm2 := Lib.hid (Hnm.out w2 S.b)
    clear Hnm
    go_wp2_with fail
    ((with_reducible refine (Hnm2.out).mono ?_); rintro e w3 ⟨v, rfl, M⟩)
    obtain ⟨A3, c3, rfl, hc3, M3⟩ := M.sl_nil 0 rfl
    have S3 := S.join M3
    have Hcp := Lib.hid (copyAll_any A3 rs c3 w3 ((M3.slc 0 rfl).mono (fun _ _ h => h.elim)) (HF.out w3 S3.b) Hfq.out hc3 Hf2.out)
    have HS3 := Lib.hid S3.b
    clear Hnm2 M M3 S S3 c0 hc3
    go_wp2_with fail
    ((with_reducible refine (Hcp.out).mono ?_); rintro e w4 ⟨v4, zs, rfl, hz, M4⟩)
    have Hz := Lib.hid (hz.trans Hne.out)
    obtain ⟨A4, c4, rfl, M5⟩ := M4.frz 0 rfl
    have M6 : Mem w3 w4 [.sl rEvt A4 (zs.map EQ.e), .flds zs] := M5.evs 0 1 rfl rfl
    rw [Hz.out] at M6
    have hzl : zs.length = (namedE name f t xs).length := by rw [← Hz.out, List.length_map]
    rw [hzl]
    have HM7 := Lib.hid (((Mem.start w).below HS3.out).join (M6.del 1))
    clear hz M4 M5 M6 hzl Hcp
    go_wp2_with fail
    go_ret2
    exact ⟨A4, c4, rfl, HM7.out⟩
  · have hE' : (E != 0) = true := by simpa using hE
    rw [if_neg hE] at HR
    obtain rfl : [] = R := HR.out
    have Hfin : Hid (GivesSlE [] E w (.returned (.tuple #[.slice none 0 0, .int .i64 E])) w2) := ⟨none, 0, rfl, (S.del 0).call (Below.refl _ _) (.sl rEvt none []) Sl.nil (fun k e => by cases e)⟩
    clear S hE HR
    go_wp2_with fail
    go_ret2
    exact Hfin.out
end Go.Proofs.YtbbljokemhjkhaaGreatDoor
