/- What handref2.AudienceOf returns. -/
import Derived.Test.YtlnklkedpknbpaaGreatDoorAud
import Derived.Test.YtlnklkedpknbpaaGreatDoorAsked
namespace Go.Proofs.YtlnklkedpknbpaaGreatDoor
open Go Go.RowKit
def GivesSlI (xs : List IdV) (w : World) (e : Ending) (w' : World) : Prop := ∃ A c, e = .returned (.slice A xs.length c) ∧ Sl rId (Lt w.heap.size) w' A xs ∧ Below w.heap.size w w'
theorem Own.slF {α : Type} {r : Rep α} {f : α → List Value} (hf : r.Flat f) {M : Nat → Prop} {B E n c : Nat} {A : Option Addr} {w : World} {xs : List α} (h : Own r M B E w (.slice A n c) xs) : Sl r (fun _ => False) w A xs := by
  obtain ⟨A2, c2, e, _, hS⟩ := (h.flatM hf (M' := fun _ => False)).toSlC (fun _ _ h => h)
  simp only [Value.slice.injEq] at e
  obtain ⟨rfl, _, _⟩ := e
  exact hS
set_option maxHeartbeats 8000000 in
set_option maxRecDepth 100000 in
theorem refAudience_any (A Al Ai : Option Addr) (p : List Purp) (l : List Stm) (xs : List IdV) (c cl ci : Nat) (k0 : Int) (t0 pu rg : ByteArray) (ch at' : Int) (w : World) (hS : Sl rPurp (fun _ => False) w A p) (hg : GoodPol p) (hL : Sl rStm (fun _ => False) w Al l) (hgl : GoodL p l) (hl : l.length ≤ 100000) (hI : Sl rId (fun _ => False) w Ai xs) (hxl : xs.length ≤ 1000) (hat : 0 ≤ at' ∧ at' ≤ 4321439) :
    Calls Tryz.prog 43 #[.slice A p.length c, .slice Al l.length cl, .slice Ai xs.length ci, .agg (qqCs k0 t0 pu rg ch at')] w (GivesSlI (audAns p l xs pu rg ch at') w) := by
  have Ha := Lib.hid (fun (y : IdV) w' (h : Below w.heap.size w w') => refAsked_any (fun _ => False) A Al p l c cl y.k y.t pu rg ch at' w' (hS.keepB h) hg (hL.keepB h) hgl hl hat)
  have HI := Lib.hid (fun w' (h : Below w.heap.size w w') => hI.keepB h)
  obtain ⟨R, HR⟩ : ∃ R, Hid (audAns p l xs pu rg ch at' = R) := ⟨_, Lib.hid rfl⟩
  rw [HR.out]
  obtain ⟨f, hf⟩ : ∃ f : IdV → Bool × Int × Int, (fun y : IdV => mayAns p l y.k y.t pu rg ch at') = f := ⟨_, rfl⟩
  have Ha2 : Hid (∀ (y : IdV) w' (h : Below w.heap.size w w'), Calls Tryz.prog 26 #[.slice A p.length c, .slice Al l.length cl, .agg (qqCs y.k y.t pu rg ch at')] w' (GivesAns (f y) w')) := fun y w' h => by rw [← hf]; exact Ha.out y w' h
  have HR0 : Hid (audGo (fun y => (f y).1) [] (xs.drop 0) = R) := by
    show _ = _
    rw [List.drop_zero, aud_is, ← HR.out, audAns, ← hf]
    rfl
  clear hS hg hL hgl hI HR Ha hf
  have hfm := fieldMay
  have S := ((Mem.start w).new' (qqCs k0 t0 pu rg ch at') 31).nil rId w.heap.size 29
  replace S : Mem w (w.alloc (.cells (qqCs k0 t0 pu rg ch at') 31)) [.loc w.heap.size (qqCs k0 t0 pu rg ch at') 31, .own rId w.heap.size 29 (.slice none 0 0) []] := S
  replace S := S.swap
  go_enter Tryz.func43, Tryz.ntmps43
  go_wp2_with fail
  generalize w.alloc (.cells (qqCs k0 t0 pu rg ch at') 31) = w1 at *
  go_loopw [9, 14] (fun v i wr => ∃ (j : Nat) (out : List IdV) (k : Int) (t : ByteArray), j ≤ xs.length ∧ i = .int .i64 j ∧ out.length ≤ j ∧ Hid (audGo (fun y => (f y).1) out (xs.drop j) = R) ∧ Mem w wr [.own rId w.heap.size 29 v out, .loc w.heap.size (qqCs k t pu rg ch at') 31]) (fun _ i _ => xs.length - (intOf i).toNat)
  case atStart => exact ⟨0, [], k0, t0, Nat.zero_le _, rfl, Nat.le_refl _, HR0, S⟩
  case round =>
    clear S HR0
    obtain ⟨j, out, k, t, hj, rfl, hol, HR, S⟩ := hrel
    obtain ⟨Ao, co, rfl⟩ := (S.ow 0 rfl).len
    by_cases hlt : j < xs.length
    · obtain ⟨x, hf⟩ : ∃ x, xs[j]? = some x := ⟨_, List.getElem?_eq_getElem hlt⟩
      obtain ⟨blk, off, rfl, _, d0, d1⟩ := (HI.out wr S.b).idv j x hf
      have HR2 : Hid ((if x ∉ out ∧ (f x).1 = true then audGo (fun y => (f y).1) (out ++ [x]) (xs.drop (j + 1)) else audGo (fun y => (f y).1) out (xs.drop (j + 1))) = R) := by show _ = _; rw [← HR.out, audGo_at hf]
      clear hf HR
      go_upto_region 5 with fail
      clear d0 d1
      obtain ⟨X, hX⟩ : ∃ X, X = wr.heap.size := ⟨_, rfl⟩
      replace S := S.newAt (idCs x.k x.t) 29 X hX
      rw [← hX]
      clear hX
      generalize wr.alloc (.cells (idCs x.k x.t) 29) = w2 at *
      have c1 := (S.lv 1 rfl).all
      have c2 := (S.lv 2 rfl).all
      go_upto_region 6 with fail
      clear c1 c2
      have S2 := (S.set 1 0 (.int .i64 x.k) rfl).set 1 1 (.string x.t) rfl
      replace S2 : Mem w ((w2.setCell ⟨w.heap.size, 0, none⟩ (.int .i64 x.k)).setCell ⟨w.heap.size, 1, none⟩ (.string x.t)) [.own rId w.heap.size 29 (.slice Ao out.length co) out, .loc w.heap.size (qqCs x.k x.t pu rg ch at') 31, .loc X (idCs x.k x.t) 29] := S2
      clear S
      generalize (w2.setCell ⟨w.heap.size, 0, none⟩ (.int .i64 x.k)).setCell ⟨w.heap.size, 1, none⟩ (.string x.t) = w3 at *
      have Hc := Lib.hid (containsId_any (fun _ => False) Ao out co x w3 (S2.ow 0 rfl |>.slF flatId) (by omega))
      have c2 := (S2.lv 2 rfl).all
      go_wp2_with fail
      ((with_reducible refine (Hc.out).mono ?_); rintro e w4 ⟨rfl, hl4⟩)
      replace S2 := S2.below hl4
      clear hl4 Hc c2
      have Ha3 := Lib.hid (Ha2.out x)
      cases hx : decide (x ∈ out) with
      | true =>
        have HR3 : Hid (audGo (fun y => (f y).1) out (xs.drop (j + 1)) = R) := by show _ = _; rw [← HR2.out, if_neg (fun h => h.1 (of_decide_eq_true hx))]
        clear HR2 hx Ha3
        go_wp2_with fail
        go_roundw
        case rel => exact ⟨j + 1, out, x.k, x.t, by omega, by go_num, by omega, HR3, S2.del 2⟩
        case measure => simp [intOf]; omega
      | false =>
        have hx' : x ∉ out := of_decide_eq_false hx
        have HR3 : Hid ((if (f x).1 = true then audGo (fun y => (f y).1) (out ++ [x]) (xs.drop (j + 1)) else audGo (fun y => (f y).1) out (xs.drop (j + 1))) = R) := by
          show _ = _
          rw [← HR2.out]
          by_cases h : (f x).1 = true
          · rw [if_pos h, if_pos ⟨hx', h⟩]
          · rw [if_neg h, if_neg (fun h2 => h h2.2)]
        clear HR2 hx hx'
        generalize f x = an at *
        have c1 := (S2.lv 1 rfl).all
        go_wp2_with fail
        ((with_reducible refine (Ha3.out w4 S2.b).mono ?_); rintro e w5 ⟨rfl, hl5⟩)
        rw [show aVal an = Value.agg #[.bool an.1, .int .i64 an.2.1, .int .i64 an.2.2] from rfl]
        replace S2 := S2.below hl5
        clear hl5 Ha3 c1
        cases hm : an.1 with
        | false =>
          have HR4 : Hid (audGo (fun y => (f y).1) out (xs.drop (j + 1)) = R) := by show _ = _; rw [← HR3.out, if_neg (by simp [hm])]
          clear HR3
          go_wp2_with fail
          go_roundw
          case rel => exact ⟨j + 1, out, x.k, x.t, by omega, by go_num, by omega, HR4, S2.del 2⟩
          case measure => simp [intOf]; omega
        | true =>
          have HR4 : Hid (audGo (fun y => (f y).1) (out ++ [x]) (xs.drop (j + 1)) = R) := by show _ = _; rw [← HR3.out, if_pos hm]
          clear HR3
          have c2 := (S2.lv 2 rfl).all
          have hsz := S2.b.size
          go_wp2_with (at_builtin; refine S2.app 0 rfl tyId rfl _ _ rfl x 1 rfl rfl rfl (oneIdO x) hsz (by omega) (by decide) ?_; intro v' w6 S6)
          go_roundw
          case rel => exact ⟨j + 1, out ++ [x], x.k, x.t, by omega, by go_num, by simp; omega, HR4, S6.del 2⟩
          case measure => simp [intOf]; omega
    · obtain rfl : out = R := by rw [← HR.out, List.drop_eq_nil_of_le (by omega)]; rfl
      obtain ⟨A2, c2, e2, hS⟩ := ((S.ow 0 rfl).flatM flatId (M' := Lt w.heap.size)).toSlC (fun k h1 h2 => by unfold Lt at h2; omega)
      have He := Lib.hid e2
      have HS2 := Lib.hid hS.2
      clear hS e2 HR
      go_wp2_with fail
      go_ret
      exact ⟨A2, c2, congrArg Ending.returned He.out, HS2.out, S.b⟩
end Go.Proofs.YtlnklkedpknbpaaGreatDoor
