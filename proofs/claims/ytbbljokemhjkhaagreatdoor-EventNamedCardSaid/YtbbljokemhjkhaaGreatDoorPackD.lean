/- Several texts in one: NamRef, ValCmp, Distinct, NamRef2, DrawWin, GenField, GenName, LawNam. -/
import Derived.Test.YtbbljokemhjkhaaGreatDoorPackU
import Derived.Test.YtbbljokemhjkhaaGreatDoorPackW
import Derived.Test.YtbbljokemhjkhaaGreatDoorPackM
import Derived.Test.YtbbljokemhjkhaaGreatDoorPackG
import Derived.Test.YtbbljokemhjkhaaGreatDoorPackB
import Derived.Test.YtbbljokemhjkhaaGreatDoorPackE
import Derived.Test.YtbbljokemhjkhaaGreatDoorPackQ
import Derived.Test.YtbbljokemhjkhaaGreatDoorPackR
import Derived.Test.YtbbljokemhjkhaaGreatDoorPackZ
/- What handref2.WindowFault, valueIn and SumOf return; slices.Equal of values. -/
namespace Go.Proofs.YtbbljokemhjkhaaGreatDoor
open Go Go.RowKit Go.Sort
set_option maxHeartbeats 4000000 in
set_option maxRecDepth 100000 in
theorem eqVl_any (N : Nat → Prop) (A A2 : Option Addr) (xs : List Vl) (c c2 : Nat) (w : World) (h1 : Sl rVl N w A xs) (h2 : Sl rVl N w A2 xs) (hl : xs.length ≤ 1000000000) :
    Calls Tryz.prog 21 #[.slice A xs.length c, .slice A2 xs.length c2] w fun e w' => e = .returned (.bool true) ∧ Below w.heap.size w w' := by
  have H1 := Lib.hid h1
  have H2 := Lib.hid h2
  clear h1 h2
  go_enter Tryz.func21, Tryz.ntmps21
  go_wp2_with fail
  go_loopw [13] (fun i wr => ∃ j : Nat, j ≤ xs.length ∧ i = .int .i64 j ∧ Below w.heap.size w wr) (fun i _ => xs.length - (intOf i).toNat)
  case atStart => exact ⟨0, Nat.zero_le _, rfl, Below.refl _ _⟩
  case round =>
    obtain ⟨j, hj, rfl, hb⟩ := hrel
    by_cases hlt : j < xs.length
    · obtain ⟨e, hf⟩ : ∃ e, xs[j]? = some e := ⟨_, List.getElem?_eq_getElem hlt⟩
      obtain ⟨b1, o1, rfl, _, d0, d1, d2⟩ := (H1.out.keepB hb).vl j e hf
      obtain ⟨b2, o2, rfl, _, e0, e1, e2⟩ := (H2.out.keepB hb).vl j e hf
      clear hf
      go_wp2_with fail
      go_quiet (fail)
      go_wp2_with fail
      go_roundw
      case rel => exact ⟨j + 1, by omega, by go_num, hb.trans (below_drewN _ _ _)⟩
      case measure => simp [intOf]; omega
    · go_wp2_with fail
      go_ret
      exact ⟨rfl, hb⟩
set_option maxHeartbeats 2000000 in
set_option maxRecDepth 100000 in
theorem windowFault_any (f t : Int) (w : World) : Calls Tryz.prog 17 #[.agg #[.int .i64 f, .int .i64 t]] w fun e w' => e = .returned (.int .i64 (winErr f t)) ∧ Below w.heap.size w w' := by
  obtain ⟨R, HR⟩ : ∃ R, Hid (winErr f t = R) := ⟨_, Lib.hid rfl⟩
  rw [HR.out]
  have hb : Below w.heap.size w (w.alloc (.cells #[.int .i64 f, .int .i64 t] 34)) := (Below.refl _ _).alloc (Nat.le_refl _) _
  have lvX := LV.new w w.heap.size #[.int .i64 f, .int .i64 t] 34 rfl
  unfold winErr at HR
  go_enter Tryz.func17, Tryz.ntmps17
  go_upto_region 1 with fail
  obtain ⟨X, hX⟩ : ∃ X, X = w.heap.size := ⟨_, rfl⟩
  rw [← hX] at lvX ⊢
  clear hX
  generalize w.alloc (.cells #[.int .i64 f, .int .i64 t] 34) = w1 at *
  have c0 := lvX.all
  have Hin := Lib.hid (in_any f 0 t w1)
  by_cases h1 : 0 ≤ f ∧ f ≤ t
  · rw [if_neg (by omega), if_neg (by omega)] at HR
    rw [decide_eq_true h1] at Hin
    by_cases h3 : 4321440 < t
    · rw [if_pos h3] at HR
      clear h1
      go_wp2_with fail
      ((with_reducible refine (Hin.out).mono ?_); rintro e _ ⟨rfl, rfl⟩)
      go_wp2_with fail
      go_ret
      exact ⟨ret_i HR.out, hb⟩
    · rw [if_neg h3] at HR
      clear h1
      go_wp2_with fail
      ((with_reducible refine (Hin.out).mono ?_); rintro e _ ⟨rfl, rfl⟩)
      go_wp2_with fail
      go_ret
      exact ⟨ret_i HR.out, hb⟩
  · have HR2 : Hid (1 = R) := by
      show _ = _
      rw [← HR.out]
      by_cases h2 : f < 0
      · rw [if_pos h2]
      · rw [if_neg h2, if_pos (by omega)]
    rw [decide_eq_false h1] at Hin
    clear h1 HR
    go_wp2_with fail
    ((with_reducible refine (Hin.out).mono ?_); rintro e _ ⟨rfl, rfl⟩)
    go_wp2_with fail
    go_ret
    exact ⟨ret_i HR2.out, hb⟩
theorem fieldOf_hit {nm : ByteArray} {l : List Fld} {j : Nat} {f : Fld} (h0 : fieldOf nm (l.take j) = none) (hf : l[j]? = some f) (hn : f.name = nm) : fieldOf nm l = some f := by
  rw [← List.take_append_drop j l, fieldOf, List.find?_append, show (l.take j).find? (fun f => decide (f.name = nm)) = none from h0, drop_at3 hf, List.find?_cons, decide_eq_true hn]
  rfl
theorem fieldOf_miss {nm : ByteArray} {l : List Fld} {j : Nat} {f : Fld} (h0 : fieldOf nm (l.take j) = none) (hf : l[j]? = some f) (hn : ¬ f.name = nm) : fieldOf nm (l.take (j + 1)) = none := by
  rw [take_snoc hf, fieldOf, List.find?_append, show (l.take j).find? (fun f => decide (f.name = nm)) = none from h0, List.find?_cons, decide_eq_false hn]
  rfl
theorem loadVlL {w : World} {X : Nat} {a b c : Value} (h : LV w X #[a, b, c] 50) : (loadVar 50 ⟨X, 0, none⟩).run Tryz.prog w = .ok (.agg #[a, b, c]) w := by
  have c0 := h.all
  go_simp
def GivesVal (o : Option Fld) (w : World) (e : Ending) (w' : World) : Prop := e = .returned (.tuple #[valOf o, .bool o.isSome]) ∧ Below w.heap.size w w'
set_option maxHeartbeats 4000000 in
set_option maxRecDepth 100000 in
theorem valueIn_any (N : Nat → Prop) (e : Evt) (A : Option Addr) (c : Nat) (nm : ByteArray) (w : World) (hF : Sl rFld N w A e.flds) (hl : e.flds.length ≤ 1000) :
    Calls Tryz.prog 61 #[.agg (evCs e A c), .string nm] w (GivesVal (fieldOf nm e.flds) w) := by
  have S : Mem w ((w.alloc (.cells (evCs e A c) 95)).alloc (.cells #[.int .i64 0, .string ⟨#[]⟩, .int .i64 0] 50)) [.loc w.heap.size (evCs e A c) 95, .loc (w.heap.size + 1) #[.int .i64 0, .string ⟨#[]⟩, .int .i64 0] 50] := ((Mem.start w).new' _ _).newAt _ _ _ (by simp)
  have HF := Lib.hid (fun w' (h : Below w.heap.size w w') => hF.keepB h)
  obtain ⟨R, HR⟩ : ∃ R, Hid (fieldOf nm e.flds = R) := ⟨_, Lib.hid rfl⟩
  rw [HR.out]
  clear hF
  obtain ⟨Y, hY⟩ : ∃ Y, Y = w.heap.size + 1 := ⟨_, rfl⟩
  obtain ⟨X, hX⟩ : ∃ X, X = w.heap.size := ⟨_, rfl⟩
  rw [← hY, ← hX] at S
  go_enter Tryz.func61, Tryz.ntmps61
  go_upto_region 1 with fail
  rw [← hY, ← hX]
  clear hY hX
  generalize (w.alloc (.cells (evCs e A c) 95)).alloc (.cells #[.int .i64 0, .string ⟨#[]⟩, .int .i64 0] 50) = w1 at *
  have c0 := (S.lv 0 rfl).all
  go_upto_region 2 with fail
  replace S := S.del 0
  replace S : Mem w w1 [.loc Y #[.int .i64 0, .string ⟨#[]⟩, .int .i64 0] 50] := S
  clear c0
  go_loopw [11] (fun i wr => ∃ j : Nat, j ≤ e.flds.length ∧ i = .int .i64 j ∧ Hid (fieldOf nm (e.flds.take j) = none) ∧ Mem w wr [.loc Y #[.int .i64 0, .string ⟨#[]⟩, .int .i64 0] 50]) (fun i _ => e.flds.length - (intOf i).toNat)
  case atStart => exact ⟨0, Nat.zero_le _, rfl, Lib.hid rfl, S⟩
  case round =>
    clear S
    obtain ⟨j, hj, rfl, HN, S⟩ := hrel
    by_cases hlt : j < e.flds.length
    · obtain ⟨f, hf⟩ : ∃ f, e.flds[j]? = some f := ⟨_, List.getElem?_eq_getElem hlt⟩
      obtain ⟨blk, off, rfl, _, d0, d1, d2, d3⟩ := (HF.out wr S.b).fld j f hf
      have Hf := Lib.hid hf
      clear hf
      go_upto_region 4 with fail
      clear d0 d1 d2 d3
      obtain ⟨Z, hZ⟩ : ∃ Z, Z = wr.heap.size := ⟨_, rfl⟩
      replace S := S.newAt #[.string f.name, .int .i64 f.kind, .string f.text, .int .i64 f.num] 174 Z hZ
      replace S : Mem w (wr.alloc (.cells #[.string f.name, .int .i64 f.kind, .string f.text, .int .i64 f.num] 174)) [.loc Y #[.int .i64 0, .string ⟨#[]⟩, .int .i64 0] 50, .loc Z #[.string f.name, .int .i64 f.kind, .string f.text, .int .i64 f.num] 174] := S
      rw [← hZ]
      clear hZ
      generalize wr.alloc (.cells #[.string f.name, .int .i64 f.kind, .string f.text, .int .i64 f.num] 174) = w3 at *
      have c0 := (S.lv 1 rfl).all
      by_cases hn : f.name = nm
      · have hnb : (f.name.toList == nm.toList) = true := beqS.2 hn
        obtain rfl : some f = R := by rw [← HR.out]; exact (fieldOf_hit HN.out Hf.out hn).symm
        have S2 : Mem w (((w3.setCell ⟨Y, 0, none⟩ (.int .i64 f.kind)).setCell ⟨Y, 1, none⟩ (.string f.text)).setCell ⟨Y, 2, none⟩ (.int .i64 f.num)) [.loc Y #[.int .i64 f.kind, .string f.text, .int .i64 f.num] 50, .loc Z #[.string f.name, .int .i64 f.kind, .string f.text, .int .i64 f.num] 174] := ((S.set 0 0 (.int .i64 f.kind) rfl).set 0 1 (.string f.text) rfl).set 0 2 (.int .i64 f.num) rfl
        have HS2 := Lib.hid S2
        have y0 := (S.lv 0 rfl).all
        clear hn S2 S
        go_wp2_with fail
        exact bodyPost_ret (results_cs rfl rfl rfl (loadVlL (HS2.out.lv 0 rfl))) rfl ⟨rfl, HS2.out.b⟩
      · have hnb : (f.name.toList == nm.toList) = false := Bool.eq_false_iff.2 (fun h => hn (beqS.1 h))
        have HN2 := Lib.hid (fieldOf_miss HN.out Hf.out hn)
        clear hn HN Hf
        go_wp2_with fail
        go_roundw
        case rel => exact ⟨j + 1, by omega, by go_num, HN2, S.del 1⟩
        case measure => simp [intOf]; omega
    · obtain rfl : none = R := by rw [← HR.out, ← HN.out, List.take_of_length_le (by omega)]
      have y0 := (S.lv 0 rfl).all
      have S2 : Mem w (((wr.setCell ⟨Y, 0, none⟩ (.int .i64 0)).setCell ⟨Y, 1, none⟩ (.string ⟨#[]⟩)).setCell ⟨Y, 2, none⟩ (.int .i64 0)) [.loc Y #[.int .i64 0, .string ⟨#[]⟩, .int .i64 0] 50] := ((S.set 0 0 (.int .i64 0) rfl).set 0 1 (.string ⟨#[]⟩) rfl).set 0 2 (.int .i64 0) rfl
      have HS2 := Lib.hid S2
      clear S2 S HN HR
      go_wp2_with fail
      exact bodyPost_ret (results_cs rfl rfl rfl (loadVlL (HS2.out.lv 0 rfl))) rfl ⟨rfl, HS2.out.b⟩
end Go.Proofs.YtbbljokemhjkhaaGreatDoor

/- What slices.Compact makes of values: those level with the one ahead go. -/
namespace Go.Proofs.YtbbljokemhjkhaaGreatDoor
open Go Go.RowKit Go.Sort
def GivesCompV (xs : List Vl) (B g cap : Nat) (w0 : World) (cs : List Chunk) (e : Ending) (w' : World) : Prop :=
  e = .returned (.slice (some ⟨g, 0, none⟩) (compG ordV none xs).length cap) ∧ Mem w0 w' (.own rVl B 50 (.slice (some ⟨g, 0, none⟩) (compG ordV none xs).length cap) (compG ordV none xs) :: cs)
theorem vl_cases (x p : Vl) : (decide (ordV x p = 0) = true ∧ (x.k == p.k) = true ∧ (x.t.toList == p.t.toList) = true ∧ (x.n == p.n) = true) ∨ (decide (ordV x p = 0) = false ∧ ((x.k == p.k) = false ∨ ((x.k == p.k) = true ∧ ((x.t.toList == p.t.toList) = false ∨ ((x.t.toList == p.t.toList) = true ∧ (x.n == p.n) = false))))) := by
  by_cases h : x = p
  · exact .inl ⟨by rw [h]; exact decide_eq_true (ordV_ok.refl p), vl_eq h⟩
  · exact .inr ⟨decide_eq_false (fun e => h (ordV_eq _ _ e)), vl_ne h⟩
set_option maxHeartbeats 8000000 in
set_option maxRecDepth 100000 in
theorem compVl_own {w0 w : World} {cs : List Chunk} {B g n cap : Nat} {xs : List Vl} (S : Mem w0 w (.own rVl B 50 (.slice (some ⟨g, 0, none⟩) n cap) xs :: cs)) (hn : n = xs.length) (hl : n ≤ 1000000) :
    Calls Tryz.prog 56 #[.slice (some ⟨g, 0, none⟩) n cap] w (GivesCompV xs B g cap w0 cs) := by
  have Hn := Lib.hid hn
  clear hn
  by_cases h2 : n < 2
  · have Hx : Hid (compG ordV none xs = xs) := by
      have hl2 : xs.length < 2 := by have := Hn.out; omega
      show _ = _
      match xs, hl2 with
      | [], _ => rfl
      | [x], _ => rfl
    go_enter Tryz.func56, Tryz.ntmps56
    go_wp2_with fail
    go_ret
    refine ⟨?_, ?_⟩
    · rw [Hx.out, ← Hn.out]; rfl
    · rw [Hx.out, ← Hn.out]; exact S
  · go_enter Tryz.func56, Tryz.ntmps56
    go_wp2_with fail
    go_loopw [3] (fun s3 wr => ∃ k : Nat, s3 = .int .i64 (k + 1 : Nat) ∧ k + 1 ≤ n ∧ Hid (compG ordV none (xs.take (k + 1)) = xs.take (k + 1)) ∧ Mem w0 wr (.own rVl B 50 (.slice (some ⟨g, 0, none⟩) n cap) xs :: cs)) (fun s3 _ => n - (intOf s3).toNat)
    case atStart =>
      refine ⟨0, by go_num, by omega, ?_, S⟩
      show _ = _
      have hl2 : 1 ≤ xs.length := by have := Hn.out; omega
      match xs, hl2 with
      | x :: r, _ => rfl
    case round =>
      clear S
      obtain ⟨k, rfl, hk, HP, S⟩ := hrel
      by_cases hlt : k + 1 < n
      · obtain ⟨x, hx⟩ : ∃ x, xs[k + 1]? = some x := ⟨_, List.getElem?_eq_getElem (by have := Hn.out; omega)⟩
        obtain ⟨p, hp⟩ : ∃ p, xs[k]? = some p := ⟨_, List.getElem?_eq_getElem (by have := Hn.out; omega)⟩
        have Hx := Lib.hid hx
        have Hp := Lib.hid hp
        have HS := Lib.hid S
        obtain ⟨⟨d0, d1, d2⟩, _⟩ := (S.ow 0 rfl).vlAt Hn.out (k + 1) x hx
        obtain ⟨⟨e0, e1, e2⟩, _⟩ := (S.ow 0 rfl).vlAt Hn.out k p hp
        have Ht := Lib.hid (compG_take (c := ordV) hp hx)
        clear hx hp S
        rcases vl_cases x p with ⟨he, hk0, hk1, hk2⟩ | ⟨he, hne⟩
        · have HD : Hid (CompGAt ordV xs xs (k + 1) (k + 2)) := by
            refine ⟨rfl, ?_, rfl, by omega⟩
            rw [Ht.out, HP.out, he, if_pos rfl, List.append_nil]
          have hcap : n ≤ cap := by
            obtain ⟨g2, cap2, e2, h3⟩ := (HS.out.ow 0 rfl).form (by have := Hn.out; omega)
            have := Hn.out
            simp only [Value.slice.injEq] at e2
            omega
          clear he HP Ht
          go_upto_region 6 with fail
          go_quiet (fail)
          replace HS := Lib.hid (HS.out.below (below_drewN _ wr nq))
          generalize wr.drewN nq = wa at *
          clear d0 d1 d2 e0 e1 e2 hk0 hk1 hk2
          go_upto_region 9 with fail
          obtain ⟨q, hq⟩ : ∃ q, k + 1 = q := ⟨_, rfl⟩
          have hq2 : (k : Int) + 1 = (q : Int) := by omega
          rw [hq2, hq]
          rw [hq, show k + 2 = q + 1 by omega] at HD
          have hqn : q < n := by omega
          clear hq hq2 hk hlt h2 Hx Hp
          go_loopw [3, 5] (fun s3 s5 wr => ∃ (i m : Nat) (ys : List Vl), s3 = .int .i64 i ∧ s5 = .int .i64 (m + 1 : Nat) ∧ q + m + 1 ≤ n ∧ Hid (CompGAt ordV xs ys i (q + m + 1)) ∧ Mem w0 wr (.own rVl B 50 (.slice (some ⟨g, 0, none⟩) n cap) ys :: cs)) (fun _ s5 _ => n - (intOf s5).toNat)
          case atStart => exact ⟨q, 0, xs, rfl, by go_num, by omega, HD, HS.out⟩
          case round =>
            clear HS HD
            obtain ⟨i, m, ys, rfl, rfl, hm, HD, S⟩ := hrel
            have hyl : Hid (n = ys.length) := by show _ = _; have := Hn.out; have := HD.out.len; omega
            have hle := HD.out.le
            by_cases hlt : m + 1 < n - q
            · obtain ⟨x, hx⟩ : ∃ x, ys[q + m + 1]? = some x := ⟨_, List.getElem?_eq_getElem (by have := hyl.out; omega)⟩
              obtain ⟨p, hp⟩ : ∃ p, ys[q + m]? = some p := ⟨_, List.getElem?_eq_getElem (by have := hyl.out; omega)⟩
              have Hx := Lib.hid hx
              have Hp := Lib.hid hp
              obtain ⟨⟨d0, d1, d2⟩, _⟩ := (S.ow 0 rfl).vlAt hyl.out (q + m + 1) x hx
              obtain ⟨⟨e0, e1, e2⟩, _⟩ := (S.ow 0 rfl).vlAt hyl.out (q + m) p hp
              rw [show (q + m + 1) * 3 = q * 3 + (m + 1) * 3 by omega] at d0 d1 d2
              rw [show (q + m) * 3 = q * 3 + m * 3 by omega] at e0 e1 e2
              have HS := Lib.hid S
              clear hx hp S
              rcases vl_cases x p with ⟨he, hk0, hk1, hk2⟩ | ⟨he, hne⟩
              · have HD2 := Lib.hid (HD.out.skip Hp.out Hx.out he)
                clear he HD
                go_wp2_with fail
                go_quiet (fail)
                go_wp2_with fail
                go_roundw
                case rel => exact ⟨i, m + 1, ys, rfl, by go_num, by omega, HD2, HS.out.below (below_drewN _ _ _)⟩
                case measure => simp [intOf]; omega
              · have HD2 := Lib.hid (HD.out.put Hp.out Hx.out he)
                clear he HD
                obtain ⟨z, hz⟩ : ∃ z, ys[i]? = some z := ⟨_, List.getElem?_eq_getElem (by have := hyl.out; omega)⟩
                have Hz := Lib.hid hz
                clear hz
                rcases hne with h0 | ⟨h0, h1 | ⟨h1, h2'⟩⟩
                all_goals
                  go_upto_region 11 with fail
                  go_quiet (fail)
                  replace HS := Lib.hid (HS.out.below (below_drewN _ wr nq))
                  generalize wr.drewN nq = wa at *
                  clear d0 d1 d2 e0 e1 e2
                  obtain ⟨⟨e0, e1, e2⟩, f0, f1, f2⟩ := (HS.out.ow 0 rfl).vlAt hyl.out i z Hz.out
                  obtain ⟨⟨d0, d1, d2⟩, _⟩ := (HS.out.ow 0 rfl).vlAt hyl.out (q + m + 1) x Hx.out
                  rw [show (q + m + 1) * 3 = q * 3 + (m + 1) * 3 by omega] at d0 d1 d2
                  have HS8 := Lib.hid (HS.out.putVl hyl.out i z x Hz.out)
                  clear HS Hx Hp Hz
                  go_wp2_with fail
                  go_roundw
                  case rel => exact ⟨i + 1, m + 1, ys.set i x, by go_num, by go_num, by omega, HD2, HS8.out⟩
                  case measure => simp [intOf]; omega
            · have HT : Hid (ys.take i = compG ordV none xs) := by
                show _ = _
                rw [HD.out.front, List.take_of_length_le (by have := Hn.out; omega)]
              have HTl : Hid (i = (compG ordV none xs).length) := by show _ = _; rw [← HT.out, List.length_take]; have := hyl.out; omega
              clear HD
              go_wp2_with (refine S.clearTail 0 rfl hyl.out tyVl zeroVl oneZVl i (cap - i) (by omega) rfl _ rfl (i * 3) (n - i) rfl rfl rfl ?_; intro w5 S5)
              go_ret
              refine ⟨?_, ?_⟩
              · rw [← HTl.out]; rfl
              · rw [HT.out] at S5
                rw [← HTl.out]
                exact S5
        · have HP2 : Hid (compG ordV none (xs.take (k + 1 + 1)) = xs.take (k + 1 + 1)) := by
            show _ = _
            rw [Ht.out, HP.out, he, if_neg (by simp), ← take_snoc Hx.out]
          clear he HP Ht Hx Hp
          rcases hne with h0 | ⟨h0, h1 | ⟨h1, h2'⟩⟩
          all_goals
            go_wp2_with fail
            go_quiet (fail)
            go_wp2_with fail
            go_roundw
            case rel => exact ⟨k + 1, by go_num, by omega, HP2, HS.out.below (below_drewN _ _ _)⟩
            case measure => simp [intOf]; omega
      · have Hx : Hid (compG ordV none xs = xs) := by
          have h3 := HP.out
          rw [List.take_of_length_le (by have := Hn.out; omega)] at h3
          exact h3
        go_wp2_with fail
        go_ret
        refine ⟨?_, ?_⟩
        · rw [Hx.out, ← Hn.out]; rfl
        · rw [Hx.out, ← Hn.out]; exact S
theorem compVl_any {w0 w : World} {cs : List Chunk} {B : Nat} {v : Value} {xs : List Vl} (S : Mem w0 w (.own rVl B 50 v xs :: cs)) (hl : xs.length ≤ 1000000) :
    Calls Tryz.prog 56 #[v] w fun e w' => ∃ v', e = .returned v' ∧ Mem w0 w' (.own rVl B 50 v' (compG ordV none xs) :: cs) := by
  rcases (S.ow 0 rfl).shape2 with ⟨rfl, rfl⟩ | ⟨g, cap, rfl, _⟩
  · have HS := Lib.hid S
    clear S
    go_enter Tryz.func56, Tryz.ntmps56
    go_wp2_with fail
    go_ret
    exact ⟨_, rfl, HS.out⟩
  · refine (compVl_own S rfl hl).mono ?_
    rintro e w' ⟨rfl, S'⟩
    exact ⟨_, rfl, S'⟩
end Go.Proofs.YtbbljokemhjkhaaGreatDoor

/- What event.Distinct returns. -/
namespace Go.Proofs.YtbbljokemhjkhaaGreatDoor
open Go Go.RowKit
def distAns (xs : List Evt) (name field : ByteArray) (f t : Int) : List Vl := distV (valsE field (namedE name f t xs))
def GivesVls (l : List Vl) (E : Int) (w : World) (e : Ending) (w' : World) : Prop := ∃ A c, e = .returned (.tuple #[.slice A l.length c, .int .i64 E]) ∧ Mem w w' [.sl rVl A l]
set_option maxHeartbeats 8000000 in
set_option maxRecDepth 100000 in
theorem distinct_any (N : Nat → Prop) (A : Option Addr) (xs : List Evt) (c : Nat) (name field : ByteArray) (f t : Int) (w : World) (hS : Sl rEvt N w A xs) (hok : EvsOk xs) (hT : Tabs w) (hM : MaxL w) (hl : xs.length ≤ 1000) (hname : name.size ≤ 1000000000) (hfield : field.size ≤ 1000000000) :
    Calls Tryz.prog 14 #[.slice A xs.length c, .string name, .string field, .agg #[.int .i64 f, .int .i64 t]] w (GivesVls (if namedErr xs [name, field] f t = 0 then distAns xs name field f t else []) (namedErr xs [name, field] f t) w) := by
  have S : Mem w (w.alloc (.cells #[.int .i64 f, .int .i64 t] 34)) [.loc w.heap.size #[.int .i64 f, .int .i64 t] 34] := (Mem.start w).new' _ _
  have Hcn := Lib.hid (fun X w' (h : Below w.heap.size w w') (hX : LV w' X #[.string name, .string field] 9) => checkNamed_any N A xs c f t [name, field] X 2 w' (hS.keepB h) hok (Utf8Tabs_below hT h) (hM.below h) rfl hX (by simp) (by intro x hx; simp only [List.mem_cons, List.not_mem_nil, or_false] at hx; rcases hx with rfl | rfl <;> assumption))
  obtain ⟨qs, hqx, hR, hFl⟩ := evt_rows hS
  have hR' := hR.mono (M := fun _ => False) (fun _ _ h => h.elim)
  have hql : qs.length = xs.length := by rw [← hqx, List.length_map]
  have Hnm := Lib.hid (fun w' (h : Below w.heap.size w w') => named_any (fun _ => False) A qs c name f t w' (hR'.keepB h) (by omega))
  have HF : Hid (∀ w', Below w.heap.size w w' → FldsOk (fun _ => False) w' (qs.filter (inE name f t))) := fun w' h q hq => (((hFl q (List.mem_filter.1 hq).1).mono (M := fun _ => False) (fun _ _ h => h.elim))).keepB h
  have Hgd : Hid (namedErr xs [name, field] f t = 0 → ∀ q ∈ qs.filter (inE name f t), q.e.flds.length ≤ 1000 ∧ Rising q.e.flds) := fun h q hq => by
    have h1 := evs_good (namedErr_zero h).1
    have h2 := flds_ok (evt_good (h1.ok q.e (by rw [← hqx]; exact List.mem_map_of_mem (List.mem_filter.1 hq).1))).2.2.2.2
    exact ⟨by have := h2.1; omega, h2.2.2⟩
  have Hfq : Hid ((qs.filter (inE name f t)).length ≤ 1000) := by have := List.length_filter_le (inE name f t) qs; show _ ≤ _; omega
  have Hne : Hid ((qs.filter (inE name f t)).map EQ.e = namedE name f t xs) := by show _ = _; rw [namedE_rows, hqx]
  obtain ⟨E, HE⟩ : ∃ E, Hid (namedErr xs [name, field] f t = E) := ⟨_, Lib.hid rfl⟩
  rw [HE.out] at Hcn Hgd ⊢
  obtain ⟨n, hn⟩ : ∃ n, xs.length = n := ⟨_, rfl⟩
  rw [hn] at Hcn ⊢
  rw [hql, hn] at Hnm
  generalize qs.filter (inE name f t) = rs at *
  clear hS hok hT hM hl hname hfield hqx hR hFl hR' hql hn HE
  have hrl := Hfq.out
  obtain ⟨R, HR⟩ : ∃ R, Hid ((if E = 0 then distAns xs name field f t else []) = R) := ⟨_, Lib.hid rfl⟩
  rw [HR.out]
  unfold distAns at HR
  rw [← Hne.out] at HR
  clear Hne
  obtain ⟨Wb, hWb⟩ : ∃ X, X = w.heap.size := ⟨_, rfl⟩
  rw [← hWb] at S
  go_enter Tryz.func14, Tryz.ntmps14
  go_upto_region 1 with fail
  rw [← hWb]
  clear hWb
  generalize w.alloc (.cells #[.int .i64 f, .int .i64 t] 34) = w1 at *
  have c0 := (S.lv 0 rfl).all
  have Hcn1 := Lib.hid (Hcn.out w1.heap.size (w1.alloc (.cells #[.string name, .string field] 9)) (S.alloc _).b (LV.new w1 w1.heap.size #[.string name, .string field] 9 rfl))
  replace S := S.alloc (.cells #[.string name, .string field] 9)
  clear Hcn
  go_wp2_with fail
  ((with_reducible refine (Hcn1.out).mono ?_); rintro e w2 ⟨rfl, hl2⟩)
  replace S := S.below hl2
  clear Hcn1 hl2 c0
  by_cases hE : E = 0
  · have Hgo : Hid (∀ q ∈ rs, q.e.flds.length ≤ 1000 ∧ Rising q.e.flds) := Hgd.out hE
    clear Hgd
    subst hE
    rw [if_pos rfl] at HR
    have c0 := (S.lv 0 rfl).all
    have Hnm2 := Lib.hid (Hnm.out w2 S.b)
    clear Hnm
    go_upto_region 5 with fail
    go_wp2_with fail
    ((with_reducible refine (Hnm2.out).mono ?_); rintro e w3 ⟨v, rfl, M⟩)
    obtain ⟨A3, c3, rfl, M3⟩ := M.frz 0 rfl
    have S3 : Mem w w3 [.loc Wb #[.int .i64 f, .int .i64 t] 34, .sl rEQ A3 rs, .own rVl w.heap.size 50 (.slice none 0 0) []] := (S.join M3).nil rVl w.heap.size 50
    replace S3 : Mem w w3 [.own rVl w.heap.size 50 (.slice none 0 0) [], .sl rEQ A3 rs] := (S3.del 0).perm (List.Perm.swap _ _ _)
    clear Hnm2 M M3 S c0
    go_wp2_with fail
    go_loopw [11, 30] (fun s i wr => ∃ (j : Nat) (out : List Vl), j ≤ rs.length ∧ i = .int .i64 j ∧ Hid (valsE field ((rs.map EQ.e).take j) = out) ∧ Hid (out.length ≤ j) ∧ Mem w wr [.own rVl w.heap.size 50 s out, .sl rEQ A3 rs]) (fun _ i _ => rs.length - (intOf i).toNat)
    case atStart => exact ⟨0, [], Nat.zero_le _, rfl, Lib.hid rfl, Nat.le_refl _, S3⟩
    case round =>
      clear S3
      obtain ⟨j, out, hj, rfl, HO, HOl, S⟩ := hrel
      by_cases hlt : j < rs.length
      · obtain ⟨q, hq⟩ : ∃ q, rs[j]? = some q := ⟨_, List.getElem?_eq_getElem hlt⟩
        obtain ⟨blk, off, l, hA, hblk, _, hrow, hcs⟩ := (S.slc 1 rfl) j q hq
        obtain rfl : l = EQ.cells q := hrow
        subst hA
        have d0 : wr.cell? ⟨blk, off + j * 6, none⟩ = some (.string q.e.id) := hcs 0 _ rfl
        have d1 : wr.cell? ⟨blk, off + j * 6 + 1, none⟩ = some (.string q.e.name) := hcs 1 _ rfl
        have d2 : wr.cell? ⟨blk, off + j * 6 + 2, none⟩ = some (.int .i64 q.e.at') := hcs 2 _ rfl
        have d3 : wr.cell? ⟨blk, off + j * 6 + 3, none⟩ = some (.int .i64 q.e.kind) := hcs 3 _ rfl
        have d4 : wr.cell? ⟨blk, off + j * 6 + 4, none⟩ = some (.string q.e.text) := hcs 4 _ rfl
        have d5 : wr.cell? ⟨blk, off + j * 6 + 5, none⟩ = some (.slice q.A q.e.flds.length q.c) := hcs 5 _ rfl
        have Hsn := Lib.hid (valsE_snoc (field := field) (take_map_get (f := EQ.e) hq))
        obtain ⟨hgl, hgr⟩ := Hgo.out q (List.mem_of_getElem? hq)
        have HfB := Lib.hid (fun w' (h : Below w.heap.size w w') => HF.out w' h q (List.mem_of_getElem? hq))
        clear hcs hq
        go_upto_region 8 with fail
        clear d0 d1 d2 d3 d4 d5
        obtain ⟨Y, hY⟩ : ∃ Y, Y = wr.heap.size := ⟨_, rfl⟩
        replace S := S.newAt (evCs q.e q.A q.c) 95 Y hY
        replace S : Mem w (wr.alloc (.cells (evCs q.e q.A q.c) 95)) [.own rVl w.heap.size 50 _ out, .sl rEQ _ rs, .loc Y (evCs q.e q.A q.c) 95] := S
        rw [← hY]
        clear hY
        generalize wr.alloc (.cells (evCs q.e q.A q.c) 95) = w4 at *
        have c0 := (S.lv 2 rfl).all
        have Hfd := Lib.hid (find_any (fun _ => False) q.A q.e.flds field q.c w4 (HfB.out w4 S.b) hgl hgr)
        go_wp2_with fail
        ((with_reducible refine (Hfd.out).mono ?_); rintro e w5 ⟨o, ho, rfl, hl5⟩)
        obtain rfl := finds_is hgr ho
        replace S := S.below hl5
        clear Hfd hl5 ho hgl hgr HfB c0
        generalize fieldOf field q.e.flds = o at *
        cases o with
        | none =>
          have Hs2 : Hid (valsE field ((rs.map EQ.e).take (j + 1)) = out) := by show _ = _; rw [Hsn.out, HO.out]; exact List.append_nil _
          rw [show valOf none = .agg #[.int .i64 0, .string ⟨#[]⟩, .int .i64 0] from rfl]
          have HS6 := Lib.hid (S.alloc (.cells #[.int .i64 0, .string ⟨#[]⟩, .int .i64 0] 50))
          clear S Hsn HO
          go_wp2_with fail
          go_roundw
          case rel => exact ⟨j + 1, out, by omega, by go_num, Hs2, (by show _ ≤ _; have := HOl.out; omega), HS6.out.del 2⟩
          case measure => simp [intOf]; omega
        | some x =>
          have Hs2 : Hid (valsE field ((rs.map EQ.e).take (j + 1)) = out ++ [x.vl]) := by show _ = _; rw [Hsn.out, HO.out]; rfl
          rw [show valOf (some x) = .agg #[.int .i64 x.kind, .string x.text, .int .i64 x.num] from rfl]
          obtain ⟨Z, hZ⟩ : ∃ Z, Z = w5.heap.size := ⟨_, rfl⟩
          replace S := S.newAt #[.int .i64 x.kind, .string x.text, .int .i64 x.num] 50 Z hZ
          replace S : Mem w (w5.alloc (.cells #[.int .i64 x.kind, .string x.text, .int .i64 x.num] 50)) [.own rVl w.heap.size 50 _ out, .sl rEQ _ rs, .loc Y (evCs q.e q.A q.c) 95, .loc Z #[.int .i64 x.kind, .string x.text, .int .i64 x.num] 50] := S
          go_upto_region 9 with fail
          rw [← hZ]
          clear hZ
          generalize w5.alloc (.cells #[.int .i64 x.kind, .string x.text, .int .i64 x.num] 50) = w6 at *
          have c0 := (S.lv 3 rfl).all
          have hsz := S.b.size
          have HS0 := Lib.hid S
          clear S Hsn HO
          go_wp2_with (at_builtin; refine HS0.out.app 0 rfl tyVl rfl _ _ rfl x.vl 1 rfl rfl rfl (oneVl x.vl) hsz (by have := HOl.out; omega) (by decide) ?_; intro v' w7 S7)
          go_roundw
          case rel => exact ⟨j + 1, out ++ [x.vl], by omega, by go_num, Hs2, (by show _ ≤ _; rw [List.length_append, List.length_singleton]; have := HOl.out; omega), (S7.del 3).del 2⟩
          case measure => simp [intOf]; omega
      · have HO2 : Hid (valsE field (rs.map EQ.e) = out) := by show _ = _; rw [← HO.out, List.take_of_length_le (by rw [List.length_map]; omega)]
        have HS0 := Lib.hid (S.del 1)
        have hol : Hid (out.length ≤ 1000000) := by show _ ≤ _; have := HOl.out; have := Hfq.out; omega
        clear HO S
        go_wp2_with fail
        ((with_reducible refine (sortV_any HS0.out 0 rfl hol.out).mono ?_); rintro e w4 ⟨rfl, ys, hp, ho, S4⟩)
        have HR2 : Hid (compG ordV none ys = R) := by show _ = _; rw [dist_prog hp ho, ← HO2.out, HR.out]
        have HS4 := Lib.hid S4
        have hyl : Hid (ys.length ≤ 1000000) := by show _ ≤ _; rw [hp.length_eq]; exact hol.out
        clear hp ho HS0 HR HO2 S4
        go_wp2_with fail
        ((with_reducible refine (compVl_any HS4.out hyl.out).mono ?_); rintro e w5 ⟨v5, rfl, S5⟩)
        rw [HR2.out] at S5
        obtain ⟨A5, c5, rfl, S6⟩ := S5.frz 0 rfl
        have HS6 := Lib.hid S6
        clear S5 S6 HS4 HR2
        go_wp2_with fail
        go_ret2
        exact ⟨A5, c5, rfl, HS6.out⟩
  · have hE' : (E != 0) = true := by simpa using hE
    rw [if_neg hE] at HR
    obtain rfl : [] = R := HR.out
    have Hfin : Hid (GivesVls [] E w (.returned (.tuple #[.slice none 0 0, .int .i64 E])) w2) := ⟨none, 0, rfl, (S.del 0).call (Below.refl _ _) (.sl rVl none []) Sl.nil (fun k e => by cases e)⟩
    clear S hE HR Hgd
    go_wp2_with fail
    go_ret2
    exact Hfin.out
end Go.Proofs.YtbbljokemhjkhaaGreatDoor

/- What handref2.SumOf and DistinctOf return. -/
namespace Go.Proofs.YtbbljokemhjkhaaGreatDoor
open Go Go.RowKit Go.Sort
set_option maxHeartbeats 8000000 in
set_option maxRecDepth 100000 in
theorem sumOf_any (A : Option Addr) (qs : List EQ) (c : Nat) (name field : ByteArray) (f t : Int) (w : World) (hS : Sl rEQ (fun _ => False) w A qs) (hF : FldsOk (fun _ => False) w qs) (hl : qs.length ≤ 1000) (ht : -100000000 ≤ t ∧ t ≤ 100000000) (hfl : ∀ q ∈ qs, q.e.flds.length ≤ 1000) :
    Calls Tryz.prog 20 #[.slice A qs.length c, .string name, .string field, .agg #[.int .i64 f, .int .i64 t]] w fun e w' => e = .returned (.int .i64 (sumV (valsE field ((qs.filter (inE name f t)).map EQ.e)))) ∧ Below w.heap.size w w' := by
  have S0 : Mem w (w.alloc (.cells #[.int .i64 f, .int .i64 t] 34)) [.loc w.heap.size #[.int .i64 f, .int .i64 t] 34] := (Mem.start w).new' _ _
  have Hnm := Lib.hid (fun w' (h : Below w.heap.size w w') => namedOf_any (fun _ => False) A qs c name f t w' (hS.keepB h) (by omega) ht)
  have HF : Hid (∀ w', Below w.heap.size w w' → FldsOk (fun _ => False) w' (qs.filter (inE name f t))) := fun w' h q hq => (hF q (List.mem_filter.1 hq).1).keepB h
  have Hf2 : Hid (∀ q ∈ qs.filter (inE name f t), q.e.flds.length ≤ 1000) := fun q hq => hfl q (List.mem_filter.1 hq).1
  have Hfq : Hid ((qs.filter (inE name f t)).length ≤ 1000) := by have := List.length_filter_le (inE name f t) qs; show _ ≤ _; omega
  obtain ⟨n, hn⟩ : ∃ n, qs.length = n := ⟨_, rfl⟩
  rw [hn] at Hnm ⊢
  generalize qs.filter (inE name f t) = rs at *
  clear hS hF hl hfl hn ht
  have hrl := Hfq.out
  obtain ⟨Wb, hWb⟩ : ∃ X, X = w.heap.size := ⟨_, rfl⟩
  rw [← hWb] at S0
  obtain ⟨R, HR⟩ : ∃ R, Hid (sumV (valsE field (rs.map EQ.e)) = R) := ⟨_, Lib.hid rfl⟩
  rw [HR.out]
  go_enter Tryz.func20, Tryz.ntmps20
  go_upto_region 1 with fail
  rw [← hWb]
  clear hWb
  generalize w.alloc (.cells #[.int .i64 f, .int .i64 t] 34) = w1 at *
  have c0 := (S0.lv 0 rfl).all
  have Hnm2 := Lib.hid (Hnm.out w1 S0.b)
  clear Hnm
  go_wp2_with fail
  ((with_reducible refine (Hnm2.out).mono ?_); rintro e w3 ⟨v, rfl, M⟩)
  obtain ⟨A3, c3, rfl, M3⟩ := M.frz 0 rfl
  have S : Mem w w3 [.sl rEQ A3 rs] := (S0.join M3).del 0
  clear Hnm2 M M3 S0 c0
  go_wp2_with fail
  go_loopw [9, 19] (fun s i wr => ∃ j : Nat, j ≤ rs.length ∧ i = .int .i64 j ∧ s = .int .i64 (sumV (valsE field ((rs.map EQ.e).take j))) ∧ Mem w wr [.sl rEQ A3 rs]) (fun _ i _ => rs.length - (intOf i).toNat)
  case atStart => exact ⟨0, Nat.zero_le _, rfl, rfl, S⟩
  case round =>
    clear S
    obtain ⟨j, hj, rfl, rfl, S⟩ := hrel
    by_cases hlt : j < rs.length
    · obtain ⟨q, hq⟩ : ∃ q, rs[j]? = some q := ⟨_, List.getElem?_eq_getElem hlt⟩
      obtain ⟨blk, off, l, hA, hblk, _, hrow, hcs⟩ := (S.slc 0 rfl) j q hq
      obtain rfl : l = EQ.cells q := hrow
      subst hA
      have d0 : wr.cell? ⟨blk, off + j * 6, none⟩ = some (.string q.e.id) := hcs 0 _ rfl
      have d1 : wr.cell? ⟨blk, off + j * 6 + 1, none⟩ = some (.string q.e.name) := hcs 1 _ rfl
      have d2 : wr.cell? ⟨blk, off + j * 6 + 2, none⟩ = some (.int .i64 q.e.at') := hcs 2 _ rfl
      have d3 : wr.cell? ⟨blk, off + j * 6 + 3, none⟩ = some (.int .i64 q.e.kind) := hcs 3 _ rfl
      have d4 : wr.cell? ⟨blk, off + j * 6 + 4, none⟩ = some (.string q.e.text) := hcs 4 _ rfl
      have d5 : wr.cell? ⟨blk, off + j * 6 + 5, none⟩ = some (.slice q.A q.e.flds.length q.c) := hcs 5 _ rfl
      have Hsn := Lib.hid (valsE_snoc (field := field) (take_map_get (f := EQ.e) hq))
      have hgl := Hf2.out q (List.mem_of_getElem? hq)
      have HfB := Lib.hid (fun w' (h : Below w.heap.size w w') => HF.out w' h q (List.mem_of_getElem? hq))
      clear hcs hq
      go_upto_region 5 with fail
      clear d0 d1 d2 d3 d4 d5
      obtain ⟨Y, hY⟩ : ∃ Y, Y = wr.heap.size := ⟨_, rfl⟩
      replace S := S.newAt (evCs q.e q.A q.c) 95 Y hY
      replace S : Mem w (wr.alloc (.cells (evCs q.e q.A q.c) 95)) [.sl rEQ _ rs, .loc Y (evCs q.e q.A q.c) 95] := S
      rw [← hY]
      clear hY
      generalize wr.alloc (.cells (evCs q.e q.A q.c) 95) = w4 at *
      have c0 := (S.lv 1 rfl).all
      have Hfd := Lib.hid (valueIn_any (fun _ => False) q.e q.A q.c field w4 (HfB.out w4 S.b) hgl)
      go_wp2_with fail
      ((with_reducible refine (Hfd.out).mono ?_); rintro e w5 ⟨rfl, hl5⟩)
      replace S := S.below hl5
      clear Hfd hl5 hgl HfB c0
      generalize fieldOf field q.e.flds = o at *
      cases o with
      | none =>
        have Hs2 : Hid (valsE field ((rs.map EQ.e).take (j + 1)) = valsE field ((rs.map EQ.e).take j)) := by show _ = _; rw [Hsn.out]; exact List.append_nil _
        rw [show valOf none = .agg #[.int .i64 0, .string ⟨#[]⟩, .int .i64 0] from rfl]
        have HS6 := Lib.hid (S.alloc (.cells #[.int .i64 0, .string ⟨#[]⟩, .int .i64 0] 50))
        clear S Hsn
        go_wp2_with fail
        go_roundw
        case rel => exact ⟨j + 1, by omega, by go_num, by rw [Hs2.out], HS6.out.del 1⟩
        case measure => simp [intOf]; omega
      | some x =>
        have Hs2 : Hid (sumV (valsE field ((rs.map EQ.e).take (j + 1))) = sumStep (sumV (valsE field ((rs.map EQ.e).take j))) x.vl) := by show _ = _; rw [Hsn.out]; exact sumV_snoc _ _
        rw [show valOf (some x) = .agg #[.int .i64 x.kind, .string x.text, .int .i64 x.num] from rfl]
        obtain ⟨Z, hZ⟩ : ∃ Z, Z = w5.heap.size := ⟨_, rfl⟩
        replace S := S.newAt #[.int .i64 x.kind, .string x.text, .int .i64 x.num] 50 Z hZ
        replace S : Mem w (w5.alloc (.cells #[.int .i64 x.kind, .string x.text, .int .i64 x.num] 50)) [.sl rEQ _ rs, .loc Y (evCs q.e q.A q.c) 95, .loc Z #[.int .i64 x.kind, .string x.text, .int .i64 x.num] 50] := S
        go_upto_region 6 with fail
        rw [← hZ]
        clear hZ
        generalize w5.alloc (.cells #[.int .i64 x.kind, .string x.text, .int .i64 x.num] 50) = w6 at *
        have c0 := (S.lv 2 rfl).all
        have HS6 := Lib.hid ((S.del 2).del 1)
        generalize sumV (valsE field ((rs.map EQ.e).take j)) = s0 at *
        clear S Hsn
        by_cases hk : x.kind = 1
        · have hk' : (x.kind != 1) = false := by simp [hk]
          have Hs3 : Hid (sumV (valsE field ((rs.map EQ.e).take (j + 1))) = s0) := by show _ = _; exact Hs2.out.trans (if_neg (not_not_intro hk))
          clear hk Hs2
          go_wp2_with fail
          go_roundw
          case rel => exact ⟨j + 1, by omega, by go_num, by rw [Hs3.out], HS6.out⟩
          case measure => simp [intOf]; omega
        · have hk' : (x.kind != 1) = true := by simpa using hk
          have Hs3 : Hid (sumV (valsE field ((rs.map EQ.e).take (j + 1))) = wrap64 (s0 + x.num)) := by show _ = _; exact Hs2.out.trans (if_pos hk)
          clear hk Hs2
          go_wp2_with fail
          go_roundw
          case rel => exact ⟨j + 1, by omega, by go_num, by rw [Hs3.out], HS6.out⟩
          case measure => simp [intOf]; omega
    · have HR2 : Hid (sumV (valsE field ((rs.map EQ.e).take j)) = R) := by show _ = _; rw [← HR.out, List.take_of_length_le (by rw [List.length_map]; omega)]
      rw [HR2.out]
      have Hbb := Lib.hid S.b
      clear HR HR2 S
      go_wp2_with fail
      go_ret
      exact ⟨rfl, Hbb.out⟩
theorem valsE_mem {field : ByteArray} {l : List Evt} {x : Vl} (h : x ∈ valsE field l) : ∃ e ∈ l, ∃ f ∈ e.flds, x = f.vl := by
  obtain ⟨e, he, h1⟩ := List.mem_filterMap.1 h
  cases h2 : fieldOf field e.flds with
  | none => rw [h2] at h1; cases h1
  | some f =>
    rw [h2] at h1
    exact ⟨e, he, f, List.mem_of_find?_eq_some h2, (Option.some.inj h1).symm⟩
set_option maxHeartbeats 8000000 in
set_option maxRecDepth 100000 in
theorem distinctOf_any (A : Option Addr) (qs : List EQ) (c : Nat) (name field : ByteArray) (f t : Int) (w : World) (hS : Sl rEQ (fun _ => False) w A qs) (hF : FldsOk (fun _ => False) w qs) (hl : qs.length ≤ 1000) (ht : -100000000 ≤ t ∧ t ≤ 100000000) (hfl : ∀ q ∈ qs, q.e.flds.length ≤ 1000) (hk : ∀ q ∈ qs, ∀ f ∈ q.e.flds, VlB f.vl) :
    Calls Tryz.prog 22 #[.slice A qs.length c, .string name, .string field, .agg #[.int .i64 f, .int .i64 t]] w fun e w' => ∃ A c, e = .returned (.slice A (distV (valsE field ((qs.filter (inE name f t)).map EQ.e))).length c) ∧ Mem w w' [.sl rVl A (distV (valsE field ((qs.filter (inE name f t)).map EQ.e)))] := by
  have Hk : Hid (∀ x ∈ valsE field ((qs.filter (inE name f t)).map EQ.e), VlB x) := fun x hx => by
    obtain ⟨e, he, g, hg, rfl⟩ := valsE_mem hx
    obtain ⟨q, hq, rfl⟩ := List.mem_map.1 he
    exact hk q (List.mem_filter.1 hq).1 g hg
  clear hk
  have S0 : Mem w (w.alloc (.cells #[.int .i64 f, .int .i64 t] 34)) [.loc w.heap.size #[.int .i64 f, .int .i64 t] 34] := (Mem.start w).new' _ _
  have Hnm := Lib.hid (fun w' (h : Below w.heap.size w w') => namedOf_any (fun _ => False) A qs c name f t w' (hS.keepB h) (by omega) ht)
  have HF : Hid (∀ w', Below w.heap.size w w' → FldsOk (fun _ => False) w' (qs.filter (inE name f t))) := fun w' h q hq => (hF q (List.mem_filter.1 hq).1).keepB h
  have Hf2 : Hid (∀ q ∈ qs.filter (inE name f t), q.e.flds.length ≤ 1000) := fun q hq => hfl q (List.mem_filter.1 hq).1
  have Hfq : Hid ((qs.filter (inE name f t)).length ≤ 1000) := by have := List.length_filter_le (inE name f t) qs; show _ ≤ _; omega
  obtain ⟨n, hn⟩ : ∃ n, qs.length = n := ⟨_, rfl⟩
  rw [hn] at Hnm ⊢
  generalize qs.filter (inE name f t) = rs at *
  clear hS hF hl hfl hn ht
  have hrl := Hfq.out
  obtain ⟨Wb, hWb⟩ : ∃ X, X = w.heap.size := ⟨_, rfl⟩
  rw [← hWb] at S0
  obtain ⟨R, HR⟩ : ∃ R, Hid (distV (valsE field (rs.map EQ.e)) = R) := ⟨_, Lib.hid rfl⟩
  rw [HR.out]
  go_enter Tryz.func22, Tryz.ntmps22
  go_upto_region 1 with fail
  rw [← hWb]
  clear hWb
  generalize w.alloc (.cells #[.int .i64 f, .int .i64 t] 34) = w1 at *
  have c0 := (S0.lv 0 rfl).all
  have Hnm2 := Lib.hid (Hnm.out w1 S0.b)
  clear Hnm
  go_wp2_with fail
  ((with_reducible refine (Hnm2.out).mono ?_); rintro e w3 ⟨v, rfl, M⟩)
  obtain ⟨A3, c3, rfl, M3⟩ := M.frz 0 rfl
  have S : Mem w w3 [.sl rEQ A3 rs] := (S0.join M3).del 0
  clear Hnm2 M M3 S0 c0
  go_wp2_with fail
  have S3 : Mem w w3 [.own rVl w.heap.size 50 (.slice none 0 0) [], .sl rEQ A3 rs] := (S.nil rVl w.heap.size 50).perm (List.Perm.swap _ _ _)
  clear S
  go_loopw [9, 19] (fun s i wr => ∃ (j : Nat) (out : List Vl), j ≤ rs.length ∧ i = .int .i64 j ∧ Hid (onceV [] (valsE field ((rs.map EQ.e).take j)) = out) ∧ Hid (out.length ≤ j) ∧ Mem w wr [.own rVl w.heap.size 50 s out, .sl rEQ A3 rs]) (fun _ i _ => rs.length - (intOf i).toNat)
  case atStart => exact ⟨0, [], Nat.zero_le _, rfl, Lib.hid rfl, Nat.le_refl _, S3⟩
  case round =>
    clear S3
    obtain ⟨j, out, hj, rfl, HO, HOl, S⟩ := hrel
    by_cases hlt : j < rs.length
    · obtain ⟨q, hq⟩ : ∃ q, rs[j]? = some q := ⟨_, List.getElem?_eq_getElem hlt⟩
      obtain ⟨blk, off, l, hA, hblk, _, hrow, hcs⟩ := (S.slc 1 rfl) j q hq
      obtain rfl : l = EQ.cells q := hrow
      subst hA
      have d0 : wr.cell? ⟨blk, off + j * 6, none⟩ = some (.string q.e.id) := hcs 0 _ rfl
      have d1 : wr.cell? ⟨blk, off + j * 6 + 1, none⟩ = some (.string q.e.name) := hcs 1 _ rfl
      have d2 : wr.cell? ⟨blk, off + j * 6 + 2, none⟩ = some (.int .i64 q.e.at') := hcs 2 _ rfl
      have d3 : wr.cell? ⟨blk, off + j * 6 + 3, none⟩ = some (.int .i64 q.e.kind) := hcs 3 _ rfl
      have d4 : wr.cell? ⟨blk, off + j * 6 + 4, none⟩ = some (.string q.e.text) := hcs 4 _ rfl
      have d5 : wr.cell? ⟨blk, off + j * 6 + 5, none⟩ = some (.slice q.A q.e.flds.length q.c) := hcs 5 _ rfl
      have Hsn := Lib.hid (valsE_snoc (field := field) (take_map_get (f := EQ.e) hq))
      have hgl := Hf2.out q (List.mem_of_getElem? hq)
      have HfB := Lib.hid (fun w' (h : Below w.heap.size w w') => HF.out w' h q (List.mem_of_getElem? hq))
      clear hcs hq
      go_upto_region 5 with fail
      clear d0 d1 d2 d3 d4 d5
      obtain ⟨Y, hY⟩ : ∃ Y, Y = wr.heap.size := ⟨_, rfl⟩
      replace S := S.newAt (evCs q.e q.A q.c) 95 Y hY
      replace S : Mem w (wr.alloc (.cells (evCs q.e q.A q.c) 95)) [.own rVl w.heap.size 50 _ out, .sl rEQ _ rs, .loc Y (evCs q.e q.A q.c) 95] := S
      rw [← hY]
      clear hY
      generalize wr.alloc (.cells (evCs q.e q.A q.c) 95) = w4 at *
      have c0 := (S.lv 2 rfl).all
      have Hfd := Lib.hid (valueIn_any (fun _ => False) q.e q.A q.c field w4 (HfB.out w4 S.b) hgl)
      go_wp2_with fail
      ((with_reducible refine (Hfd.out).mono ?_); rintro e w5 ⟨rfl, hl5⟩)
      replace S := S.below hl5
      clear Hfd hl5 hgl HfB c0
      generalize fieldOf field q.e.flds = o at *
      cases o with
      | none =>
        have Hs2 : Hid (onceV [] (valsE field ((rs.map EQ.e).take (j + 1))) = out) := by show _ = _; rw [Hsn.out]; exact (congrArg (onceV []) (List.append_nil _)).trans HO.out
        rw [show valOf none = .agg #[.int .i64 0, .string ⟨#[]⟩, .int .i64 0] from rfl]
        have HS6 := Lib.hid (S.alloc (.cells #[.int .i64 0, .string ⟨#[]⟩, .int .i64 0] 50))
        clear S Hsn HO
        go_wp2_with fail
        go_roundw
        case rel => exact ⟨j + 1, out, by omega, by go_num, Hs2, (by show _ ≤ _; have := HOl.out; omega), HS6.out.del 2⟩
        case measure => simp [intOf]; omega
      | some x =>
        have Hs2 : Hid (onceV [] (valsE field ((rs.map EQ.e).take (j + 1))) = if x.vl ∈ out then out else out ++ [x.vl]) := by
          show _ = _
          rw [Hsn.out, show ((some x).map Fld.vl).toList = [x.vl] from rfl, onceV_snoc, HO.out]
        rw [show valOf (some x) = .agg #[.int .i64 x.kind, .string x.text, .int .i64 x.num] from rfl]
        obtain ⟨Z, hZ⟩ : ∃ Z, Z = w5.heap.size := ⟨_, rfl⟩
        replace S := S.newAt #[.int .i64 x.kind, .string x.text, .int .i64 x.num] 50 Z hZ
        replace S : Mem w (w5.alloc (.cells #[.int .i64 x.kind, .string x.text, .int .i64 x.num] 50)) [.own rVl w.heap.size 50 _ out, .sl rEQ _ rs, .loc Y (evCs q.e q.A q.c) 95, .loc Z #[.int .i64 x.kind, .string x.text, .int .i64 x.num] 50] := S
        go_upto_region 6 with fail
        rw [← hZ]
        clear hZ
        generalize w5.alloc (.cells #[.int .i64 x.kind, .string x.text, .int .i64 x.num] 50) = w6 at *
        have c0 := (S.lv 3 rfl).all
        have HS0 := Lib.hid S
        have Hct : Hid (Calls Tryz.prog 62 #[_, .agg #[.int .i64 x.kind, .string x.text, .int .i64 x.num]] w6 fun e w' => e = .returned (.bool (decide (x.vl ∈ out))) ∧ Below w6.heap.size w6 w') := containsVl_any S x.vl (by have := HOl.out; have := Hfq.out; omega)
        clear S Hsn HO
        by_cases hm : x.vl ∈ out
        · rw [decide_eq_true hm] at Hct
          rw [if_pos hm] at Hs2
          clear hm
          go_wp2_with fail
          ((with_reducible refine (Hct.out).mono ?_); rintro e w7 ⟨rfl, hl7⟩)
          have HS7 := Lib.hid (HS0.out.below hl7)
          clear Hct hl7 HS0 c0
          go_wp2_with fail
          go_roundw
          case rel => exact ⟨j + 1, out, by omega, by go_num, Hs2, (by show _ ≤ _; have := HOl.out; omega), (HS7.out.del 3).del 2⟩
          case measure => simp [intOf]; omega
        · rw [decide_eq_false hm] at Hct
          rw [if_neg hm] at Hs2
          clear hm
          go_wp2_with fail
          ((with_reducible refine (Hct.out).mono ?_); rintro e w7 ⟨rfl, hl7⟩)
          have HS7 := Lib.hid (HS0.out.below hl7)
          clear Hct hl7 HS0 c0
          have c0 := (HS7.out.lv 3 rfl).all
          have hsz := HS7.out.b.size
          go_wp2_with (at_builtin; refine HS7.out.app 0 rfl tyVl rfl _ _ rfl x.vl 1 rfl rfl rfl (oneVl x.vl) hsz (by have := HOl.out; omega) (by decide) ?_; intro v' w8 S8)
          go_roundw
          case rel => exact ⟨j + 1, out ++ [x.vl], by omega, by go_num, Hs2, (by show _ ≤ _; rw [List.length_append, List.length_singleton]; have := HOl.out; omega), (S8.del 3).del 2⟩
          case measure => simp [intOf]; omega
    · have HO2 : Hid (onceV [] (valsE field (rs.map EQ.e)) = out) := by show _ = _; rw [← HO.out, List.take_of_length_le (by rw [List.length_map]; omega)]
      have HS0 := Lib.hid (S.del 1)
      have hol : Hid (out.length ≤ 1000000) := by show _ ≤ _; have := HOl.out; have := Hfq.out; omega
      have hov : Hid (∀ x ∈ out, VlB x) := fun x hx => by
        rw [← HO2.out] at hx
        rcases ((onceV_spec _ [] List.nodup_nil).2 x).1 hx with h | h
        · cases h
        · exact Hk.out x h
      clear HO S
      go_wp2_with fail
      ((with_reducible refine (sortVR_any HS0.out 0 rfl hov.out hol.out).mono ?_); rintro e w4 ⟨rfl, ys, hp, ho, S4⟩)
      have HR2 : ys = R := by rw [dist_ref (HO2.out ▸ hp) ho, HR.out]
      subst HR2
      obtain ⟨A5, c5, rfl, S5⟩ := S4.frz 0 rfl
      have HS5 := Lib.hid S5
      clear hp ho HS0 HR HO2 S4 S5 hov
      go_wp2_with fail
      go_ret
      exact ⟨A5, c5, rfl, HS5.out⟩
end Go.Proofs.YtbbljokemhjkhaaGreatDoor

/- Windows that the generator draws. -/
namespace Go.Proofs.YtbbljokemhjkhaaGreatDoor
open Go Go.RowKit
theorem loadW {w : World} {X : Nat} {a b : Value} (h : LV w X #[a, b] 34) : (loadVar 34 ⟨X, 0, none⟩).run Tryz.prog w = .ok (.agg #[a, b]) w := by
  have c0 := h.cell 0 _ rfl
  have c1 := h.cell 1 _ rfl
  have f0 := h.all
  go_simp
def DrawsWin (b m : Nat) (w : World) (e : Ending) (w' : World) : Prop := ∃ lo hi : Int, e = .returned (.agg #[.int .i64 lo, .int .i64 hi]) ∧ SK b w w' ∧ Strm b m w'
set_option maxHeartbeats 4000000 in
set_option maxRecDepth 100000 in
theorem window_any (b m : Nat) (w : World) (hs : Strm b m w) (hm : m ≤ 100000000) :
    Calls Tryz.prog 11 #[.pointer (some ⟨b, 0, none⟩)] w (DrawsWin b (m + 10) w) := by
  have S := (St.start hs).new' #[.int .i64 0, .int .i64 0] 34
  replace S : St b m w (w.alloc (.cells #[.int .i64 0, .int .i64 0] 34)) [.loc w.heap.size #[.int .i64 0, .int .i64 0] 34] := S
  clear hs
  go_enter Tryz.func11, Tryz.ntmps11
  go_upto_region 1 with fail
  generalize w.alloc (.cells #[.int .i64 0, .int .i64 0] 34) = w1 at *
  go_wp2_with fail
  ((with_reducible refine (pick_le b _ _ _ (0) (1000) S.g.s (by first | rfl | simp) (by first | rfl | simp) (intsIn_of (by decide)) (by simp) (by simp) (by omega)).mono ?_); rintro e w2 ⟨f, f_lo, f_hi, rfl, hk_w2, hs_w2⟩)
  replace S := S.step hk_w2 hs_w2
  clear hk_w2 hs_w2
  go_upto_region 2 with fail
  obtain ⟨Y, hY⟩ : ∃ Y, Y = w2.heap.size := ⟨_, rfl⟩
  replace S := S.newAt #[.int .i64 f, .int .i64 0] 34 Y hY
  rw [← hY]
  clear hY
  generalize w2.alloc (.cells #[.int .i64 f, .int .i64 0] 34) = w3 at *
  refine wp_region_mixG 8 (fun w' => ∃ u, LV w' Y #[.int .i64 f, u] 34) [.q 0, .q 1, .q 2, .e 3, .e 4, .q 5, .q 6, .e 7] (by kernel_rfl) (by kernel_rfl) (fun w' hd => ⟨_, (S.below (hd.below _)).lv 1 rfl⟩) (fun KK hKK wd hd => ?_)
  replace S := S.below (hd.below _)
  clear hd
  have hC : ∃ u, LV wd Y #[.int .i64 f, u] 34 := ⟨_, S.lv 1 rfl⟩
  repeat (refine mixG_p rfl (fun K hK => ?_); go_simp; (try go_bits); (try simp (disch := omega) only [if_pos]); (try simp (disch := omega) only [if_neg]); (try simp (disch := omega) only [dif_pos]); (try simp (disch := omega) only [dif_neg]); (try go_simp); (refine hK _ ?_; clear hK K))
  refine mixG_load (.int .i64 f) rfl rfl rfl rfl (fun _ => rfl) (fun w' h => h.elim fun _ h => h.cell 0 _ rfl) ?_
  repeat (refine mixG_p rfl (fun K hK => ?_); go_simp; (try go_bits); (try simp (disch := omega) only [if_pos]); (try simp (disch := omega) only [if_neg]); (try simp (disch := omega) only [dif_pos]); (try simp (disch := omega) only [dif_neg]); (try go_simp); (refine hK _ ?_; clear hK K))
  refine mixG_l rfl rfl (fun K hK => ?_)
  go_wp2_with fail
  refine ⟨fun _ => ⟨_, (S.alloc _).lv 1 rfl⟩, ?_⟩
  refine mixG_l rfl rfl (fun K hK => ?_)
  go_wp2_with fail
  ((with_reducible refine (pick_le b _ _ _ (0) (10000) S.g.s (by first | rfl | simp) (by first | rfl | simp) (intsIn_of (by decide)) (by simp) (by simp) (by omega)).mono ?_); rintro e w4 ⟨t, t_lo, t_hi, rfl, hk_w4, hs_w4⟩)
  replace S := S.step hk_w4 hs_w4
  clear hk_w4 hs_w4
  go_wp2_with fail
  refine ⟨fun _ => ⟨_, S.lv 1 rfl⟩, ?_⟩
  have hwt : IntKind.i64.wrap (f + t) = f + t := IntWalk.i64_in _ (by omega)
  repeat (refine mixG_p rfl (fun K hK => ?_); go_simp; (try go_bits); (try simp (disch := omega) only [if_pos]); (try simp (disch := omega) only [if_neg]); (try simp (disch := omega) only [dif_pos]); (try simp (disch := omega) only [dif_neg]); (try go_simp); (refine hK _ ?_; clear hK K))
  refine mixG_l rfl rfl (fun K hK => ?_)
  have c1 := (S.lv 1 rfl).all
  go_wp2_with fail
  replace S : St b (m + 1 + 1) w (w4.setCell ⟨Y, 1, none⟩ (.int .i64 (f + t))) [.loc w.heap.size #[.int .i64 0, .int .i64 0] 34, .loc Y #[.int .i64 f, .int .i64 (f + t)] 34] := S.set 1 1 (.int .i64 (f + t)) rfl
  refine ⟨fun _ => ⟨_, S.lv 1 rfl⟩, ?_⟩
  clear c1 hC
  generalize w4.setCell ⟨Y, 1, none⟩ (.int .i64 (f + t)) = w5 at *
  refine mixG_nil ?_
  simp only [Exit.then]
  refine hKK _ _ ?_
  go_wp2_with fail
  ((with_reducible refine (flip_any b _ _ _ S.g.s (by omega) (by omega) (by omega)).mono ?_); rintro e w6 ⟨r, rfl, hk_w6, hs_w6⟩)
  replace S := S.step hk_w6 hs_w6
  clear hk_w6 hs_w6
  cases r with
  | false =>
    have c0 := (S.lv 0 rfl).all
    have c1 := (S.lv 1 rfl).all
    go_wp2_with fail
    have S2 := (S.set 0 0 (.int .i64 f) rfl).set 0 1 (.int .i64 (f + t)) rfl
    exact bodyPost_ret (results_cell1 rfl rfl (loadW (S2.lv 0 rfl))) rfl ⟨f, f + t, rfl, S2.g.k, S2.g.s.mono (by omega)⟩
  | true =>
    go_wp2_with fail
    ((with_reducible refine (pick_le b _ _ _ ((-1)) (5) S.g.s (by first | rfl | simp) (by first | rfl | simp) (intsIn_of (by decide)) (by simp) (by simp) (by omega)).mono ?_); rintro e w7 ⟨x, x_lo, x_hi, rfl, hk_w7, hs_w7⟩)
    replace S := S.step hk_w7 hs_w7
    clear hk_w7 hs_w7
    go_wp2_with fail
    ((with_reducible refine (pick_le b _ _ _ (4) (4321441) S.g.s (by first | rfl | simp) (by first | rfl | simp) (intsIn_of (by decide)) (by simp) (by simp) (by omega)).mono ?_); rintro e w8 ⟨y, y_lo, y_hi, rfl, hk_w8, hs_w8⟩)
    replace S := S.step hk_w8 hs_w8
    clear hk_w8 hs_w8
    have c0 := (S.lv 0 rfl).all
    have c1 := (S.lv 1 rfl).all
    go_upto_region 5 with fail
    replace S : St b (m + 1 + 1 + 1 + 1 + 1) w ((w8.setCell ⟨Y, 0, none⟩ (.int .i64 x)).setCell ⟨Y, 1, none⟩ (.int .i64 y)) [.loc w.heap.size #[.int .i64 0, .int .i64 0] 34, .loc Y #[.int .i64 x, .int .i64 y] 34] := (S.set 1 0 (.int .i64 x) rfl).set 1 1 (.int .i64 y) rfl
    generalize (w8.setCell ⟨Y, 0, none⟩ (.int .i64 x)).setCell ⟨Y, 1, none⟩ (.int .i64 y) = w9 at *
    clear c0 c1
    have c0 := (S.lv 0 rfl).all
    have c1 := (S.lv 1 rfl).all
    go_wp2_with fail
    have S2 := (S.set 0 0 (.int .i64 x) rfl).set 0 1 (.int .i64 y) rfl
    exact bodyPost_ret (results_cell1 rfl rfl (loadW (S2.lv 0 rfl))) rfl ⟨x, y, rfl, S2.g.k, S2.g.s.mono (by omega)⟩
end Go.Proofs.YtbbljokemhjkhaaGreatDoor

/- What handlaw2.field draws. -/
namespace Go.Proofs.YtbbljokemhjkhaaGreatDoor
open Go Go.RowKit
set_option maxHeartbeats 4000000 in
set_option maxRecDepth 100000 in
theorem evField_any (b m : Nat) (w : World) (hs : Strm b m w) (hm : m ≤ 100000000) :
    Calls Tryz.prog 10 #[.pointer (some ⟨b, 0, none⟩)] w (DrawsStr b (m + 2) 10 w) := by
  have S := St.start hs
  go_enter Tryz.func10, Tryz.ntmps10
  have S2 := S.new' #[.string ⟨#[97, 103, 101]⟩, .string ⟨#[99, 105, 116, 121]⟩, .string ⟨#[106, 111, 105, 110, 101, 100]⟩, .string ⟨#[110, 97, 109, 101]⟩, .string ⟨#[112, 108, 97, 110]⟩, .string ⟨#[118, 105, 112]⟩, .string ⟨#[122, 111, 111]⟩, .string ⟨#[]⟩, .string ⟨#[65]⟩] 9
  obtain ⟨X, hX⟩ : ∃ X, X = w.heap.size := ⟨_, rfl⟩
  rw [← hX] at S2
  have Hh := Lib.hid hX
  clear S
  go_wp2_with fail
  rw [← Hh.out]
  have hs1 : X + 1 = (w.alloc (.cells #[.string ⟨#[97, 103, 101]⟩, .string ⟨#[99, 105, 116, 121]⟩, .string ⟨#[106, 111, 105, 110, 101, 100]⟩, .string ⟨#[110, 97, 109, 101]⟩, .string ⟨#[112, 108, 97, 110]⟩, .string ⟨#[118, 105, 112]⟩, .string ⟨#[122, 111, 111]⟩, .string ⟨#[]⟩, .string ⟨#[65]⟩] 9)).heap.size := by rw [Hh.out]; simp
  generalize w.alloc (.cells #[.string ⟨#[97, 103, 101]⟩, .string ⟨#[99, 105, 116, 121]⟩, .string ⟨#[106, 111, 105, 110, 101, 100]⟩, .string ⟨#[110, 97, 109, 101]⟩, .string ⟨#[112, 108, 97, 110]⟩, .string ⟨#[118, 105, 112]⟩, .string ⟨#[122, 111, 111]⟩, .string ⟨#[]⟩, .string ⟨#[65]⟩] 9) = w1 at *
  have S := S2
  clear S2 hX Hh
  ((with_reducible refine (pick_le b _ _ _ (0) (8) S.g.s (by first | rfl | exact hs1) (by first | rfl | simp) (intsIn_of (by decide)) (by simp) (by simp) (by omega)).mono ?_); rintro e w2 ⟨k, k_lo, k_hi, rfl, hk2, hs2⟩)
  replace S := S.step hk2 hs2
  clear hk2 hs2
  have c0 := (S.lv 0 rfl).all
  rcases (by omega : k = 0 ∨ k = 1 ∨ k = 2 ∨ k = 3 ∨ k = 4 ∨ k = 5 ∨ k = 6 ∨ k = 7 ∨ k = 8) with rfl | rfl | rfl | rfl | rfl | rfl | rfl | rfl | rfl
  all_goals
    go_wp2_with fail
    go_ret
    exact ⟨_, (by decide), rfl, S.g.k, S.g.s.mono (by omega)⟩
end Go.Proofs.YtbbljokemhjkhaaGreatDoor

/- What the generator Name makes. -/
namespace Go.Proofs.YtbbljokemhjkhaaGreatDoor
open Go.RowKit
set_option maxHeartbeats 4000000 in
set_option maxRecDepth 100000 in
theorem evName_any (b m : Nat) (w : World) (hs : Strm b m w) (hm : m ≤ 100000000) :
    Calls Tryz.prog 9 #[.pointer (some ⟨b, 0, none⟩)] w (DrawsStr b (m + 2) 10 w) := by
  have S := St.start hs
  go_enter Tryz.func9, Tryz.ntmps9
  go_wp2_with fail
  ((with_reducible refine (flip_any b _ _ _ S.g.s (by omega) (by omega) (by omega)).mono ?_); rintro e w1 ⟨r1, rfl, hk_w1, hs_w1⟩)
  replace S := S.step hk_w1 hs_w1
  clear hk_w1 hs_w1
  cases r1
  · go_wp2_with fail
    ((with_reducible refine (one_le b _ _ _ (10) S.g.s (by first | rfl | simp) (by first | rfl | simp) (strsLe_of (by decide)) (by simp) (by simp) (by omega)).mono ?_); rintro e w2 ⟨s, s_le, rfl, hk_w2, hs_w2⟩)
    replace S := S.step hk_w2 hs_w2
    clear hk_w2 hs_w2
    go_wp2_with fail
    go_ret
    exact ⟨s, s_le, rfl, S.g.k, S.g.s.mono (by omega)⟩
  · go_wp2_with fail
    ((with_reducible refine (one_le b _ _ _ (10) S.g.s (by first | rfl | simp) (by first | rfl | simp) (strsLe_of (by decide)) (by simp) (by simp) (by omega)).mono ?_); rintro e w2 ⟨s, s_le, rfl, hk_w2, hs_w2⟩)
    replace S := S.step hk_w2 hs_w2
    clear hk_w2 hs_w2
    go_wp2_with fail
    go_ret
    exact ⟨s, s_le, rfl, S.g.k, S.g.s.mono (by omega)⟩
end Go.Proofs.YtbbljokemhjkhaaGreatDoor

/- The law EventNamed walked: it returns true, and nothing that was there has turned. -/
namespace Go.Proofs.YtbbljokemhjkhaaGreatDoor
open Go Go.RowKit
theorem loadAtW {w : World} {X : Nat} {a b : Value} (h : LV w X #[a, b] 34) : (Instr.loadAt 34 (.pointer (some ⟨X, 0, none⟩))).run Tryz.prog w = .ok (.agg #[a, b]) w := by
  have c0 := h.all
  go_simp
theorem named_first (xs : List Evt) (ns : List ByteArray) (f t : Int) : firstErr [evsFault xs, namesErr ns, winErr f t] = namedErr xs ns f t := by
  unfold namedErr
  simp only [firstErr]
  by_cases h1 : evsFault xs = 0 <;> by_cases h2 : namesErr ns = 0 <;> by_cases h3 : winErr f t = 0 <;> simp [h1, h2, h3]
theorem winErr_ok {f t : Int} (h : winErr f t = 0) : 0 ≤ f ∧ f ≤ t ∧ t ≤ 4321440 := by
  unfold winErr at h
  repeat' split at h
  all_goals first
    | (cases h; done)
    | omega
theorem named_more {xs : List Evt} {a b : ByteArray} {f t : Int} (h : namedErr xs [a, b] f t = 0) : namedErr xs [a] f t = 0 := by
  obtain ⟨h1, h2, h3⟩ := namedErr_zero h
  have h4 : namesErr [a] = 0 := by
    unfold namesErr at h2 ⊢
    split
    · rename_i h5; rw [if_pos h5] at h2; exact h2
    · rfl
  unfold namedErr
  rw [if_neg (not_not_intro h1), if_neg (not_not_intro h4), h3]
set_option maxHeartbeats 16000000 in
set_option maxRecDepth 100000 in
theorem eventNamed_any (v : Value) (w : World) (hv : IntsIn v w) (hT : Tabs w) (hM : MaxL w) (hN : Names w) (hE : ENames w) (hP : Pool w) :
    Calls Tryz.prog 3 #[v] w fun e w' => e = .returned (.bool true) ∧ Below w.heap.size w w' := by
  obtain ⟨va, vn, vc, rfl⟩ : ∃ a n c, v = .slice a n c := by
    rcases hv with ⟨a, c, rfl⟩ | ⟨k, off, len, cap, rfl, _⟩
    · exact ⟨_, _, _, rfl⟩
    · exact ⟨_, _, _, rfl⟩
  have g0 := G.start (Strm.start hv)
  clear hv
  have S := St.start g0.s
  have hPn : 1 ≠ w.heap.size := Nat.ne_of_lt hP.lt
  have hNn : 0 ≠ w.heap.size := Nat.ne_of_lt hN.lt
  have hEn : 2 ≠ w.heap.size := Nat.ne_of_lt hE.lt
  have hb0 : Below w.heap.size w (w.alloc (.cells #[.slice va vn vc, .int .i64 0] 25)) := (Below.refl _ _).alloc (Nat.le_refl _) _
  have Hb0 := Lib.hid hb0
  have HTM : Hid (∀ w', Below w.heap.size w w' → Tabs w' ∧ MaxL w') := fun w' h => ⟨Utf8Tabs_below hT h, hM.below h⟩
  have HP := Lib.hid (hP.keep (b := w.heap.size) ((SK.refl _ w).alloc (.cells #[.slice va vn vc, .int .i64 0] 25)) hPn)
  have HN := Lib.hid (hN.keep (b := w.heap.size) ((SK.refl _ w).alloc (.cells #[.slice va vn vc, .int .i64 0] 25)) hNn)
  have HE := Lib.hid (hE.keep (b := w.heap.size) ((SK.refl _ w).alloc (.cells #[.slice va vn vc, .int .i64 0] 25)) hEn)
  have hw0 : w.heap.size ≤ (w.alloc (.cells #[.slice va vn vc, .int .i64 0] 25)).heap.size := by simp
  clear hP hM hN hE hT hb0
  go_enter Tryz.func3, Tryz.ntmps3
  go_wp2_with fail
  ((with_reducible refine (range_any w.heap.size _ _ _ _ S.g.s (by omega) (by omega) (by omega) (by omega)).mono ?_); rintro e w1 ⟨many, m_lo, m_hi, rfl, hk_w1, hs_w1⟩)
  replace S := S.step hk_w1 hs_w1
  clear hk_w1 hs_w1
  obtain ⟨n, rfl⟩ := Int.eq_ofNat_of_zero_le m_lo
  go_wp2_with fail
  ((with_reducible refine (some_any w.heap.size _ n _ S.g.s (by omega) (by omega) (HN.out.keep S.g.k hNn) hNn (HE.out.keep S.g.k hEn) hEn (HP.out.keep S.g.k hPn) hPn (fun w' h => HTM.out w' (Hb0.out.trans ((S.g.k.trans h).below (Nat.le_refl _) hw0)))).mono ?_); rintro e w2 ⟨A, c, xs, rfl, hxl, hxs, hc, T⟩)
  replace S := S.join T
  have Hxs := Lib.hid hxs
  have Hc0 := Lib.hid hc
  clear T hxs hc
  go_wp2_with fail
  ((with_reducible refine (evName_any w.heap.size _ _ S.g.s (by omega)).mono ?_); rintro e w3 ⟨name, name_le, rfl, hk_w3, hs_w3⟩)
  replace S := S.step hk_w3 hs_w3
  clear hk_w3 hs_w3
  go_wp2_with fail
  ((with_reducible refine (evField_any w.heap.size _ _ S.g.s (by omega)).mono ?_); rintro e w4 ⟨fd, fd_le, rfl, hk_w4, hs_w4⟩)
  replace S := S.step hk_w4 hs_w4
  clear hk_w4 hs_w4
  go_wp2_with fail
  ((with_reducible refine (window_any w.heap.size _ _ S.g.s (by omega)).mono ?_); rintro e w5 ⟨lo, hi, rfl, hk_w5, hs_w5⟩)
  replace S := S.step hk_w5 hs_w5
  clear hk_w5 hs_w5
  have S2 := S.new' #[.int .i64 lo, .int .i64 hi] 34
  clear S
  go_upto_region 4 with fail
  obtain ⟨Y, hY⟩ : ∃ Y, Y = w5.heap.size := ⟨_, rfl⟩
  rw [← hY] at S2 ⊢
  clear hY
  generalize w5.alloc (.cells #[.int .i64 lo, .int .i64 hi] 34) = w6 at *
  have S := S2
  clear S2
  have lvW := S.lv 1 rfl
  have Hb3 : Hid (Below w.heap.size w w6) := Hb0.out.trans (S.g.k.below (Nat.le_refl _) hw0)
  have hS3 := (S.slc 0 rfl)
  have hok : EvsOk xs := evsOk_sm (by omega) Hxs.out
  obtain ⟨hT3, hM3⟩ := HTM.out _ Hb3.out
  clear S
  have hfl : ∀ e ∈ xs, e.flds.length ≤ 1000 := fun e he => Nat.le_trans (Hxs.out e he).fl (by decide)
  have Hc1 := Lib.hid (namedTop_any _ A xs c name lo hi w6 hS3 hok hT3 hM3 (by omega) (by omega) hfl)
  have Hc2 := Lib.hid (fun w' (h : Below w6.heap.size w6 w') => sum_any _ A xs c name fd lo hi w' (hS3.keepB h) hok (Utf8Tabs_below hT3 h) (hM3.below h) (by omega) (by omega) (by omega))
  have Hc3 := Lib.hid (fun w' (h : Below w6.heap.size w6 w') => distinct_any _ A xs c name fd lo hi w' (hS3.keepB h) hok (Utf8Tabs_below hT3 h) (hM3.below h) (by omega) (by omega) (by omega))
  obtain ⟨qs, hqx, hR, hFl⟩ := evt_rows hS3
  have hR' := hR.mono (M := fun _ => False) (fun _ _ h => h.elim)
  have hF' : FldsOk (fun _ => False) w6 qs := fun q hq => (hFl q hq).mono (fun _ _ h => h.elim)
  have hql : qs.length = xs.length := by rw [← hqx, List.length_map]
  have hqf : ∀ q ∈ qs, q.e.flds.length ≤ 1000 := fun q hq => hfl q.e (by rw [← hqx]; exact List.mem_map_of_mem hq)
  have Hd1 := Lib.hid (fun (ht : 0 ≤ lo ∧ lo ≤ hi ∧ hi ≤ 4321440) w' (h : Below w6.heap.size w6 w') => namedOf_any (fun _ => False) A qs c name lo hi w' (hR'.keepB h) (by omega) (by omega))
  have Hd2 := Lib.hid (fun (ht : 0 ≤ lo ∧ lo ≤ hi ∧ hi ≤ 4321440) w' (h : Below w6.heap.size w6 w') => sumOf_any A qs c name fd lo hi w' (hR'.keepB h) (fun q hq => (hF' q hq).keepB h) (by omega) (by omega) hqf)
  have Hd3 := Lib.hid (fun (hg : evsFault xs = 0) (ht : 0 ≤ lo ∧ lo ≤ hi ∧ hi ≤ 4321440) w' (h : Below w6.heap.size w6 w') => distinctOf_any A qs c name fd lo hi w' (hR'.keepB h) (fun q hq => (hF' q hq).keepB h) (by omega) (by omega) hqf (fun q hq => flds_kind (evt_good ((evs_good hg).ok q.e (by rw [← hqx]; exact List.mem_map_of_mem hq))).2.2.2.2))
  have HFq : Hid (∀ w', Below w6.heap.size w6 w' → FldsOk (fun _ => False) w' (qs.filter (inE name lo hi))) := fun w' h q hq => (hF' q (List.mem_filter.1 hq).1).keepB h
  have Hne : Hid ((qs.filter (inE name lo hi)).map EQ.e = namedE name lo hi xs) := by show _ = _; rw [namedE_rows, hqx]
  have Hnl : Hid ((namedE name lo hi xs).length ≤ 1000000) := by have := namedE_len name lo hi xs; show _ ≤ _; omega
  have Hvl : Hid ((valsE fd (namedE name lo hi xs)).length ≤ 1000000) := by have := valsE_len fd (namedE name lo hi xs); have := namedE_len name lo hi xs; show _ ≤ _; omega
  have Hnf : Hid (∀ e ∈ namedE name lo hi xs, e.flds.length ≤ 1000000) := fun e he => Nat.le_trans (hfl e (List.mem_filter.1 he).1) (by decide)
  have Hgd : Hid (namedErr xs [name, fd] lo hi = 0 → evsFault xs = 0) := fun h => (namedErr_zero h).1
  have Hwd : Hid (namedErr xs [name] lo hi = 0 → 0 ≤ lo ∧ lo ≤ hi ∧ hi ≤ 4321440) := fun h => winErr_ok (namedErr_zero h).2.2
  have Hmo : Hid (namedErr xs [name, fd] lo hi = 0 → namedErr xs [name] lo hi = 0) := named_more
  have Hnm1 : Hid (∀ Z w', LV w' Z #[.string name] 9 → Calls Tryz.prog 16 #[.slice (some ⟨Z, 0, none⟩) 1 1] w' fun e w'' => e = .returned (.int .i64 (namesErr [name])) ∧ Below w'.heap.size w' w'') := fun Z w' h => nameFault_any [name] Z 1 w' rfl h (by simp) (by simp; omega)
  have Hnm2 : Hid (∀ Z w', LV w' Z #[.string name, .string fd] 9 → Calls Tryz.prog 16 #[.slice (some ⟨Z, 0, none⟩) 2 2] w' fun e w'' => e = .returned (.int .i64 (namesErr [name, fd])) ∧ Below w'.heap.size w' w'') := fun Z w' h => nameFault_any [name, fd] Z 2 w' rfl h (by simp) (by intro x hx; simp only [List.mem_cons, List.not_mem_nil, or_false] at hx; rcases hx with rfl | rfl <;> omega)
  obtain ⟨F, HF⟩ : ∃ F, Hid (evsFault xs = F) := ⟨_, Lib.hid rfl⟩
  obtain ⟨Fn1, HFn1⟩ : ∃ Fn, Hid (namesErr [name] = Fn) := ⟨_, Lib.hid rfl⟩
  obtain ⟨Fn2, HFn2⟩ : ∃ Fn, Hid (namesErr [name, fd] = Fn) := ⟨_, Lib.hid rfl⟩
  obtain ⟨Fw, HFw⟩ : ∃ Fw, Hid (winErr lo hi = Fw) := ⟨_, Lib.hid rfl⟩
  obtain ⟨E1, HEE1⟩ : ∃ E, Hid (namedErr xs [name] lo hi = E) := ⟨_, Lib.hid rfl⟩
  obtain ⟨E2, HEE2⟩ : ∃ E, Hid (namedErr xs [name, fd] lo hi = E) := ⟨_, Lib.hid rfl⟩
  have HE1 : Hid (firstErr [F, Fn1, Fw] = E1) := by show _ = _; rw [← HF.out, ← HFn1.out, ← HFw.out, named_first]; exact HEE1.out
  have HE2 : Hid (firstErr [F, Fn2, Fw] = E2) := by show _ = _; rw [← HF.out, ← HFn2.out, ← HFw.out, named_first]; exact HEE2.out
  rw [HFn1.out] at Hnm1
  rw [HFn2.out] at Hnm2
  rw [HEE1.out] at Hc1 Hwd Hmo
  rw [HEE2.out] at Hc2 Hc3 Hmo Hgd
  obtain ⟨Ra, HRa⟩ : ∃ R, Hid ((if E1 = 0 then namedE name lo hi xs else []) = R) := ⟨_, Lib.hid rfl⟩
  obtain ⟨Rb, HRb⟩ : ∃ R, Hid ((if E2 = 0 then sumAns xs name fd lo hi else 0) = R) := ⟨_, Lib.hid rfl⟩
  obtain ⟨Rc, HRc⟩ : ∃ R, Hid ((if E2 = 0 then distAns xs name fd lo hi else []) = R) := ⟨_, Lib.hid rfl⟩
  rw [HRa.out] at Hc1
  rw [HRb.out] at Hc2
  rw [HRc.out] at Hc3
  obtain ⟨nx, hnx⟩ : ∃ nx, xs.length = nx := ⟨_, rfl⟩
  rw [hnx] at Hc1 Hc2 Hc3 ⊢
  rw [hql, hnx] at Hd1 Hd2 Hd3
  rw [HF.out]
  clear hnx hS3 hok hT3 hM3 hfl hqx hR hFl hR' hF' hql hqf HEE1 HEE2 HFn1 HFn2 hxl m_lo m_hi
  have z0 := lvW.all
  go_wp2_with fail
  ((with_reducible refine (Hc1.out).mono ?_); rintro e w7 ⟨A7, c7, rfl, M⟩)
  have Hc22 := Lib.hid (Hc2.out w7 M.b)
  have HM7 := Lib.hid M
  clear Hc1 Hc2 M z0
  have lvW7 := LV.kb3 lvW HM7.out.b lvW.lt
  have z0 := lvW7.all
  go_wp2_with fail
  ((with_reducible refine (Hc22.out).mono ?_); rintro e w8 ⟨rfl, hl8⟩)
  have HM8 := Lib.hid (HM7.out.below hl8)
  have Hc32 := Lib.hid (Hc3.out w8 HM8.out.b)
  clear Hc22 Hc3 HM7 hl8 lvW7 z0
  have lvW8 := LV.kb3 lvW HM8.out.b lvW.lt
  have z0 := lvW8.all
  go_wp2_with fail
  ((with_reducible refine (Hc32.out).mono ?_); rintro e w9 ⟨A9, c9, rfl, M9⟩)
  have M : Mem w6 w9 [.sl rEvt A7 Ra, .sl rVl A9 Rc] := HM8.out.join M9
  have HM0 := Lib.hid M
  clear Hc32 HM8 M9 M lvW8 z0
  go_upto_region 7 with fail
  refine wp_region_mixG 9 (fun w' => Mem w6 w' [.sl rEvt A7 Ra, .sl rVl A9 Rc]) [.q 0, .q 1, .q 4, .e 2, .e 3, .e 5, .e 6, .e 7, .q 8] (by kernel_rfl) (by kernel_rfl) (fun w' hd => HM0.out.below (hd.below _)) (fun KK hKK wd hd => ?_)
  have M := HM0.out.below (hd.below _)
  clear hd HM0
  repeat (refine mixG_p rfl (fun K hK => ?_); go_simp; (try go_bits); (try simp (disch := omega) only [if_pos]); (try simp (disch := omega) only [if_neg]); (try simp (disch := omega) only [dif_pos]); (try simp (disch := omega) only [dif_neg]); (try go_simp); (refine hK _ ?_; clear hK K))
  refine mixG_loadR (.agg #[.int .i64 lo, .int .i64 hi]) rfl rfl rfl rfl (fun w' h => loadAtW (LV.kb3 lvW h.b lvW.lt)) ?_
  refine mixG_l rfl rfl (fun K hK => ?_)
  go_wp2_with fail
  have Hnf := Lib.hid (Hnm1.out wd.heap.size (wd.alloc (.cells #[.string name] 9)) (LV.new wd wd.heap.size #[.string name] 9 rfl))
  replace M := M.alloc (.cells #[.string name] 9)
  have HMa := Lib.hid M
  clear M
  refine ⟨fun _ => HMa.out, ?_⟩
  refine mixG_l rfl rfl (fun K hK => ?_)
  go_wp2_with fail
  ((with_reducible refine (Hnf.out).mono ?_); rintro e wa ⟨rfl, hla⟩)
  have HMb := Lib.hid (HMa.out.below hla)
  clear hla Hnf HMa
  go_wp2_with fail
  refine ⟨fun _ => HMb.out, ?_⟩
  refine mixG_l rfl rfl (fun K hK => ?_)
  go_wp2_with fail
  ((with_reducible refine (windowFault_any lo hi wa).mono ?_); rintro e wb ⟨rfl, hlb⟩)
  have HMc := Lib.hid (HMb.out.below hlb)
  clear hlb HMb
  go_wp2_with fail
  refine ⟨fun _ => HMc.out, ?_⟩
  refine mixG_l rfl rfl (fun K hK => ?_)
  go_wp2_with fail
  have Hwo := Lib.hid (wrongOr_any wb.heap.size [F, Fn1, Fw] _ (LV.new wb wb.heap.size #[.int .i64 F, .int .i64 Fn1, .int .i64 Fw] 27 rfl) (by simp))
  rw [show ([F, Fn1, Fw] : List Int).length = 3 from rfl, HE1.out] at Hwo
  have M := HMc.out.alloc (.cells #[.int .i64 F, .int .i64 Fn1, .int .i64 Fw] 27)
  clear HMc
  rw [HFw.out]
  have HMd := Lib.hid M
  clear M
  refine ⟨fun _ => HMd.out, ?_⟩
  refine mixG_l rfl rfl (fun K hK => ?_)
  go_wp2_with fail
  ((with_reducible refine (Hwo.out).mono ?_); rintro e _ ⟨rfl, rfl⟩)
  go_wp2_with fail
  refine ⟨fun _ => HMd.out, ?_⟩
  repeat (refine mixG_p rfl (fun K hK => ?_); go_simp; (try go_bits); (try simp (disch := omega) only [if_pos]); (try simp (disch := omega) only [if_neg]); (try simp (disch := omega) only [dif_pos]); (try simp (disch := omega) only [dif_neg]); (try go_simp); (refine hK _ ?_; clear hK K))
  refine mixG_nil ?_
  simp only [Exit.then]
  refine hKK _ _ ?_
  clear Hwo
  generalize wb.alloc (.cells #[.int .i64 F, .int .i64 Fn1, .int .i64 Fw] 27) = w10 at *
  go_upto_region 8 with fail
  refine wp_region_mixG 10 (fun w' => Mem w6 w' [.sl rEvt A7 Ra, .sl rVl A9 Rc]) [.q 0, .q 1, .q 2, .q 5, .e 3, .e 4, .e 6, .e 7, .e 8, .q 9] (by kernel_rfl) (by kernel_rfl) (fun w' hd => HMd.out.below (hd.below _)) (fun KK hKK wd hd => ?_)
  have M := HMd.out.below (hd.below _)
  clear hd HMd
  repeat (refine mixG_p rfl (fun K hK => ?_); go_simp; (try go_bits); (try simp (disch := omega) only [if_pos]); (try simp (disch := omega) only [if_neg]); (try simp (disch := omega) only [dif_pos]); (try simp (disch := omega) only [dif_neg]); (try go_simp); (refine hK _ ?_; clear hK K))
  refine mixG_loadR (.agg #[.int .i64 lo, .int .i64 hi]) rfl rfl rfl rfl (fun w' h => loadAtW (LV.kb3 lvW h.b lvW.lt)) ?_
  refine mixG_l rfl rfl (fun K hK => ?_)
  go_wp2_with fail
  have Hnf := Lib.hid (Hnm2.out wd.heap.size (wd.alloc (.cells #[.string name, .string fd] 9)) (LV.new wd wd.heap.size #[.string name, .string fd] 9 rfl))
  replace M := M.alloc (.cells #[.string name, .string fd] 9)
  have HMa := Lib.hid M
  clear M
  refine ⟨fun _ => HMa.out, ?_⟩
  refine mixG_l rfl rfl (fun K hK => ?_)
  go_wp2_with fail
  ((with_reducible refine (Hnf.out).mono ?_); rintro e wa ⟨rfl, hla⟩)
  have HMb := Lib.hid (HMa.out.below hla)
  clear hla Hnf HMa
  go_wp2_with fail
  refine ⟨fun _ => HMb.out, ?_⟩
  refine mixG_l rfl rfl (fun K hK => ?_)
  go_wp2_with fail
  ((with_reducible refine (windowFault_any lo hi wa).mono ?_); rintro e wb ⟨rfl, hlb⟩)
  have HMc := Lib.hid (HMb.out.below hlb)
  clear hlb HMb
  go_wp2_with fail
  refine ⟨fun _ => HMc.out, ?_⟩
  refine mixG_l rfl rfl (fun K hK => ?_)
  go_wp2_with fail
  have Hwo := Lib.hid (wrongOr_any wb.heap.size [F, Fn2, Fw] _ (LV.new wb wb.heap.size #[.int .i64 F, .int .i64 Fn2, .int .i64 Fw] 27 rfl) (by simp))
  rw [show ([F, Fn2, Fw] : List Int).length = 3 from rfl, HE2.out] at Hwo
  have M := HMc.out.alloc (.cells #[.int .i64 F, .int .i64 Fn2, .int .i64 Fw] 27)
  clear HMc
  rw [HFw.out]
  have HMd := Lib.hid M
  clear M
  refine ⟨fun _ => HMd.out, ?_⟩
  refine mixG_l rfl rfl (fun K hK => ?_)
  go_wp2_with fail
  ((with_reducible refine (Hwo.out).mono ?_); rintro e _ ⟨rfl, rfl⟩)
  go_wp2_with fail
  refine ⟨fun _ => HMd.out, ?_⟩
  repeat (refine mixG_p rfl (fun K hK => ?_); go_simp; (try go_bits); (try simp (disch := omega) only [if_pos]); (try simp (disch := omega) only [if_neg]); (try simp (disch := omega) only [dif_pos]); (try simp (disch := omega) only [dif_neg]); (try go_simp); (refine hK _ ?_; clear hK K))
  refine mixG_nil ?_
  simp only [Exit.then]
  refine hKK _ _ ?_
  clear Hwo
  generalize wb.alloc (.cells #[.int .i64 F, .int .i64 Fn2, .int .i64 Fw] 27) = w11 at *
  have lvW11 := LV.kb3 lvW HMd.out.b lvW.lt
  have Hb11 : Hid (Below w.heap.size w w11) := Hb3.out.trans (HMd.out.b.mono Hb3.out.size)
  have Hb6 : Hid (w.heap.size ≤ w6.heap.size) := Hb3.out.size
  unfold sumAns at HRb
  unfold distAns at HRc
  rw [Hne.out] at Hd2 Hd3
  by_cases hE1 : E1 = 0
  · have Ht := Lib.hid (Hwd.out hE1)
    rw [if_pos hE1] at HRa
    rw [HRa.out] at Hd2 Hd3 HRb HRc Hne Hnl Hvl Hnf
    have Hd12 := Lib.hid (Hd1.out Ht.out w11 HMd.out.b)
    clear Hwd HRa Hd1
    subst hE1
    generalize qs.filter (inE name lo hi) = rs at *
    have z0 := lvW11.all
    by_cases hE2 : E2 = 0
    · have Hg := Lib.hid (Hgd.out hE2)
      rw [if_pos hE2] at HRb HRc
      rw [HRb.out] at Hd2
      rw [HRc.out] at Hd3
      have Hd3' := Lib.hid (Hd3.out Hg.out Ht.out)
      have Hd2' := Lib.hid (Hd2.out Ht.out)
      have Hcl : Hid (Rc.length ≤ 1000000000) := by show _ ≤ _; rw [← HRc.out]; have := distV_len (valsE fd Ra); have := Hvl.out; omega
      have Hrl : Hid (rs.length = Ra.length) := by show _ = _; rw [← Hne.out, List.length_map]
      clear Hgd HRb HRc Hd2 Hd3 Hmo HE1 HE2 Ht Hg
      subst hE2
      go_wp2_with fail
      ((with_reducible refine (Hd12.out).mono ?_); rintro e w12 ⟨v12, rfl, M12⟩)
      obtain ⟨A12, c12, rfl, M13⟩ := M12.frz 0 rfl
      have HM12 := Lib.hid (HMd.out.join M13)
      have hs2 := slEvt ((M13.slc 0 rfl).mono (M := fun _ => False) (fun _ _ h => h.elim)) (HFq.out w12 HM12.out.b)
      rw [Hne.out] at hs2
      have Hse := Lib.hid (sameEvents_any (fun _ => False) A7 A12 Ra c7 c12 w12 ((HM12.out.slc 0 rfl).mono (fun _ _ h => h.elim)) hs2 Hnl.out Hnf.out)
      rw [Hrl.out]
      clear Hd12 M12 M13 hs2 HMd lvW11 z0
      have lvW12 := LV.kb3 lvW HM12.out.b lvW.lt
      go_wp2_with fail
      ((with_reducible refine (Hse.out).mono ?_); rintro e w13 ⟨rfl, hl13⟩)
      have HM13 := Lib.hid (HM12.out.below hl13)
      clear Hse hl13 HM12 lvW12
      have lvW13 := LV.kb3 lvW HM13.out.b lvW.lt
      have z0 := lvW13.all
      have Hsm := Lib.hid (Hd2'.out w13 HM13.out.b)
      go_wp2_with fail
      ((with_reducible refine (Hsm.out).mono ?_); rintro e w14 ⟨rfl, hl14⟩)
      have HM14 := Lib.hid (HM13.out.below hl14)
      clear Hsm hl14 HM13 lvW13 z0 Hd2'
      have lvW14 := LV.kb3 lvW HM14.out.b lvW.lt
      have z0 := lvW14.all
      have Hdi := Lib.hid (Hd3'.out w14 HM14.out.b)
      go_wp2_with fail
      ((with_reducible refine (Hdi.out).mono ?_); rintro e w15 ⟨A15, c15, rfl, M15⟩)
      have HM15 := Lib.hid (HM14.out.join M15)
      have Heq := Lib.hid (eqVl_any (fun _ => False) A9 A15 Rc c9 c15 w15 ((HM15.out.slc 1 rfl).mono (fun _ _ h => h.elim)) ((HM15.out.slc 3 rfl).mono (fun _ _ h => h.elim)) Hcl.out)
      clear Hdi M15 HM14 lvW14 z0 Hd3'
      go_wp2_with fail
      ((with_reducible refine (Heq.out).mono ?_); rintro e w16 ⟨rfl, hl16⟩)
      have HM16 := Lib.hid (HM15.out.below hl16)
      clear Heq hl16 HM15
      have Hb16 : Hid (Below w.heap.size w w16) := Hb3.out.trans (HM16.out.b.mono Hb3.out.size)
      go_wp2_with fail
      ((with_reducible refine (happenings_any w16).mono ?_); rintro e w9 ⟨rfl, hl9⟩)
      go_wp2_with fail
      go_ret
      exact ⟨rfl, Hb16.out.trans (hl9.mono Hb16.out.size)⟩
    · have hE2' : (E2 != 0) = true := by simpa using hE2
      rw [if_neg hE2] at HRb HRc
      obtain rfl : 0 = Rb := HRb.out
      obtain rfl : [] = Rc := HRc.out
      have Hrl : Hid (rs.length = Ra.length) := by show _ = _; rw [← Hne.out, List.length_map]
      rw [show ([] : List Vl).length = 0 from rfl]
      clear Hgd HRb HRc Hd2 Hd3 Hmo HE1 HE2 Ht hE2
      go_wp2_with fail
      ((with_reducible refine (Hd12.out).mono ?_); rintro e w12 ⟨v12, rfl, M12⟩)
      obtain ⟨A12, c12, rfl, M13⟩ := M12.frz 0 rfl
      have HM12 := Lib.hid (HMd.out.join M13)
      have hs2 := slEvt ((M13.slc 0 rfl).mono (M := fun _ => False) (fun _ _ h => h.elim)) (HFq.out w12 HM12.out.b)
      rw [Hne.out] at hs2
      have Hse := Lib.hid (sameEvents_any (fun _ => False) A7 A12 Ra c7 c12 w12 ((HM12.out.slc 0 rfl).mono (fun _ _ h => h.elim)) hs2 Hnl.out Hnf.out)
      rw [Hrl.out]
      clear Hd12 M12 M13 hs2 HMd lvW11 z0
      go_wp2_with fail
      ((with_reducible refine (Hse.out).mono ?_); rintro e w13 ⟨rfl, hl13⟩)
      have HM13 := Lib.hid (HM12.out.below hl13)
      clear Hse hl13 HM12
      have Hb16 : Hid (Below w.heap.size w w13) := Hb3.out.trans (HM13.out.b.mono Hb3.out.size)
      go_wp2_with fail
      ((with_reducible refine (happenings_any w13).mono ?_); rintro e w9 ⟨rfl, hl9⟩)
      go_wp2_with fail
      go_ret
      exact ⟨rfl, Hb16.out.trans (hl9.mono Hb16.out.size)⟩
  · have hE2 : ¬ E2 = 0 := fun h => hE1 (Hmo.out h)
    have hE1' : (E1 != 0) = true := by simpa using hE1
    have hE1'' : (E1 == 0) = false := by simpa using hE1
    have hE2' : (E2 != 0) = true := by simpa using hE2
    rw [if_neg hE1] at HRa
    rw [if_neg hE2] at HRb HRc
    obtain rfl : [] = Ra := HRa.out
    obtain rfl : 0 = Rb := HRb.out
    obtain rfl : [] = Rc := HRc.out
    rw [show ([] : List Vl).length = 0 from rfl, show ([] : List Evt).length = 0 from rfl]
    clear Hgd HRa HRb HRc Hd1 Hd2 Hd3 Hmo HE1 HE2 Hwd hE1 hE2 HMd lvW11
    go_wp2_with fail
    ((with_reducible refine (happenings_any w11).mono ?_); rintro e w9 ⟨rfl, hl9⟩)
    go_wp2_with fail
    go_ret
    exact ⟨rfl, Hb11.out.trans (hl9.mono Hb11.out.size)⟩
end Go.Proofs.YtbbljokemhjkhaaGreatDoor
