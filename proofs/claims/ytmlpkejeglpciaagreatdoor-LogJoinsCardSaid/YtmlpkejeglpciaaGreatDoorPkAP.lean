/- Several texts in one: SameG, Suit, LogAdd, LogRet. -/
import Derived.Test.YtmlpkejeglpciaaGreatDoorPkAD
import Derived.Test.YtmlpkejeglpciaaGreatDoorPkAE
import Derived.Test.YtmlpkejeglpciaaGreatDoorPkAG
import Derived.Test.YtmlpkejeglpciaaGreatDoorPkAK
import Derived.Test.YtmlpkejeglpciaaGreatDoorPkAC
import Derived.Test.YtmlpkejeglpciaaGreatDoorPkAO
/- Are two events equal? event.Same and handref2.SameEvent, whatever the events are. -/
namespace Go.Proofs.YtmlpkejeglpciaaGreatDoor
open Go Go.RowKit
theorem fld_ne {f g : Fld} (h : f ≠ g) : (f.name.toList == g.name.toList) = false ∨ ((f.name.toList == g.name.toList) = true ∧ (f.kind == g.kind) = false) ∨ ((f.name.toList == g.name.toList) = true ∧ (f.kind == g.kind) = true ∧ (f.text.toList == g.text.toList) = false) ∨ ((f.name.toList == g.name.toList) = true ∧ (f.kind == g.kind) = true ∧ (f.text.toList == g.text.toList) = true ∧ (f.num == g.num) = false) := by
  cases h1 : (f.name.toList == g.name.toList) with
  | false => exact .inl rfl
  | true =>
    cases h2 : (f.kind == g.kind) with
    | false => exact .inr (.inl ⟨rfl, rfl⟩)
    | true =>
      cases h3 : (f.text.toList == g.text.toList) with
      | false => exact .inr (.inr (.inl ⟨rfl, rfl, rfl⟩))
      | true =>
        cases h4 : (f.num == g.num) with
        | false => exact .inr (.inr (.inr ⟨rfl, rfl, rfl, rfl⟩))
        | true =>
          refine absurd ?_ h
          obtain ⟨a, b, c, d⟩ := f
          obtain ⟨a', b', c', d'⟩ := g
          simp only at h1 h2 h3 h4
          rw [beqS.1 h1, eq_of_beq h2, beqS.1 h3, eq_of_beq h4]
def GivesEq (P : Prop) (w : World) (e : Ending) (w' : World) : Prop := ∃ b : Bool, e = .returned (.bool b) ∧ (b = true ↔ P) ∧ Below w.heap.size w w'
set_option maxHeartbeats 4000000 in
set_option maxRecDepth 100000 in
theorem eqFldG_any (N N2 : Nat → Prop) (A A2 : Option Addr) (xs ys : List Fld) (c c2 : Nat) (w : World) (h1 : Sl rFld N w A xs) (h2 : Sl rFld N2 w A2 ys) (hl : xs.length ≤ 1000000) (hl2 : ys.length ≤ 1000000) :
    Calls Tryz.prog 126 #[.slice A xs.length c, .slice A2 ys.length c2] w (GivesEq (xs = ys) w) := by
  have H1 := Lib.hid h1
  have H2 := Lib.hid h2
  clear h1 h2
  obtain ⟨n, hn⟩ : ∃ n, n = ys.length := ⟨_, rfl⟩
  have Hn := Lib.hid hn
  rw [← hn] at hl2 ⊢
  clear hn
  obtain ⟨m, hm⟩ : ∃ m, m = xs.length := ⟨_, rfl⟩
  have Hm := Lib.hid hm
  rw [← hm] at hl ⊢
  clear hm
  go_enter Tryz.func126, Tryz.ntmps126
  by_cases hmn : m = n
  · subst hmn
    go_wp2_with fail
    go_loopw [13] (fun i wr => ∃ j : Nat, j ≤ m ∧ i = .int .i64 j ∧ Hid (xs.take j = ys.take j) ∧ Below w.heap.size w wr) (fun i _ => m - (intOf i).toNat)
    case atStart => exact ⟨0, Nat.zero_le _, rfl, rfl, Below.refl _ _⟩
    case round =>
      obtain ⟨j, hj, rfl, HE, hb⟩ := hrel
      by_cases hlt : j < m
      · obtain ⟨f, hf⟩ : ∃ f, xs[j]? = some f := ⟨_, List.getElem?_eq_getElem (by have := Hm.out; omega)⟩
        obtain ⟨g, hg⟩ : ∃ g, ys[j]? = some g := ⟨_, List.getElem?_eq_getElem (by have := Hn.out; omega)⟩
        obtain ⟨b1, o1, rfl, _, d0, d1, d2, d3⟩ := (H1.out.keepB hb).fld j f hf
        obtain ⟨b2, o2, rfl, _, f0, f1, f2, f3⟩ := (H2.out.keepB hb).fld j g hg
        have Hf := Lib.hid hf
        have Hg := Lib.hid hg
        clear hf hg
        by_cases he : f = g
        · subst he
          have HE2 : Hid (xs.take (j + 1) = ys.take (j + 1)) := by
            show _ = _
            rw [take_snoc Hf.out, take_snoc Hg.out, HE.out]
          go_wp2_with fail
          go_quiet (fail)
          go_wp2_with fail
          go_roundw
          case rel => exact ⟨j + 1, by omega, by go_num, HE2, hb.trans (below_drewN _ _ _)⟩
          case measure => simp [intOf]; omega
        · have Hne : Hid (¬ xs = ys) := fun e => by
            have h1 := Hf.out
            rw [e, Hg.out] at h1
            exact he (Option.some.inj h1).symm
          rcases fld_ne he with a1 | ⟨a1, a2⟩ | ⟨a1, a2, a3⟩ | ⟨a1, a2, a3, a4⟩
          all_goals (
            clear he
            go_wp2_with fail
            go_quiet (fail)
            go_wp2_with fail
            go_ret
            exact ⟨false, rfl, ⟨(fun h => by cases h), (fun h => absurd h Hne.out)⟩, hb.trans (below_drewN _ _ _)⟩)
      · obtain rfl : j = m := by omega
        have He : Hid (xs = ys) := by
          have h1 := HE.out
          rw [List.take_of_length_le (by have := Hm.out; omega), List.take_of_length_le (by have := Hn.out; omega)] at h1
          exact h1
        go_wp2_with fail
        go_ret
        exact ⟨true, rfl, ⟨(fun _ => He.out), (fun _ => rfl)⟩, hb⟩
  · have Hne : Hid (¬ xs = ys) := fun e => hmn (by rw [Hm.out, Hn.out, e])
    have hne : ((m : Int) == (n : Int)) = false := by simpa using (by omega : (m : Int) ≠ n)
    clear hmn
    go_wp2_with fail
    go_ret
    exact ⟨false, rfl, ⟨(fun h => by cases h), (fun h => absurd h Hne.out)⟩, Below.refl _ _⟩
set_option maxHeartbeats 4000000 in
set_option maxRecDepth 100000 in
theorem sameEvG_any (N N2 : Nat → Prop) (a b : Evt) (A A2 : Option Addr) (c c2 : Nat) (w : World) (h1 : Sl rFld N w A a.flds) (h2 : Sl rFld N2 w A2 b.flds) (hl : a.flds.length ≤ 1000000) (hl2 : b.flds.length ≤ 1000000) :
    Calls Tryz.prog 57 #[.agg (evCs a A c), .agg (evCs b A2 c2)] w (GivesEq (a = b) w) := by
  have S : Mem w ((w.alloc (.cells (evCs a A c) 47)).alloc (.cells (evCs b A2 c2) 47)) [.loc w.heap.size (evCs a A c) 47, .loc (w.heap.size + 1) (evCs b A2 c2) 47] := ((Mem.start w).new' _ _).newAt _ _ _ (by simp)
  have He := Lib.hid (eqFldG_any N N2 A A2 a.flds b.flds c c2 _ (h1.keepB S.b) (h2.keepB S.b) hl hl2)
  clear h1 h2 hl hl2
  go_enter Tryz.func57, Tryz.ntmps57
  go_upto_region 1 with fail
  obtain ⟨Y, hY⟩ : ∃ Y, Y = w.heap.size + 1 := ⟨_, rfl⟩
  obtain ⟨X, hX⟩ : ∃ X, X = w.heap.size := ⟨_, rfl⟩
  rw [← hY, ← hX] at S ⊢
  clear hY hX
  generalize (w.alloc (.cells (evCs a A c) 47)).alloc (.cells (evCs b A2 c2) 47) = w1 at *
  have c0 := (S.lv 0 rfl).all
  have c1 := (S.lv 1 rfl).all
  by_cases h1 : a.id = b.id
  · have b1 : (a.id.toList == b.id.toList) = true := beqS.2 h1
    by_cases h2 : a.name = b.name
    · have b2 : (a.name.toList == b.name.toList) = true := beqS.2 h2
      by_cases h3 : a.at' = b.at'
      · have b3 : (a.at' == b.at') = true := by simpa using h3
        by_cases h4 : a.kind = b.kind
        · have b4 : (a.kind == b.kind) = true := by simpa using h4
          by_cases h5 : a.text = b.text
          · have b5 : (a.text.toList == b.text.toList) = true := beqS.2 h5
            have Hab : Hid (a.flds = b.flds ↔ a = b) := by
              obtain ⟨i1, n1, t1, k1, x1, f1⟩ := a
              obtain ⟨i2, n2, t2, k2, x2, f2⟩ := b
              simp only at h1 h2 h3 h4 h5
              subst h1 h2 h3 h4 h5
              exact ⟨fun h => by simp only at h; rw [h], fun h => by simp only [Evt.mk.injEq] at h ⊢; exact h.2.2.2.2.2⟩
            clear h1 h2 h3 h4 h5
            go_wp2_with fail
            refine (He.out).mono ?_
            rintro r w2 ⟨bb, rfl, hbb, hl2⟩
            have S2 := S.below hl2
            have Hbb := Lib.hid (hbb.trans Hab.out)
            clear He hl2 c0 c1 S hbb Hab
            go_wp2_with fail
            go_ret
            exact ⟨_, rfl, Hbb.out, S2.b⟩
          · have b5 : (a.text.toList == b.text.toList) = false := Bool.eq_false_iff.2 (fun e => h5 (beqS.1 e))
            have Hn : Hid (¬ a = b) := fun e => h5 (by rw [e])
            clear h1 h2 h3 h4 h5
            go_wp2_with fail
            go_ret
            exact ⟨_, rfl, ⟨(fun h => by cases h), (fun h => absurd h Hn.out)⟩, S.b⟩
        · have b4 : (a.kind == b.kind) = false := by simpa using h4
          have Hn : Hid (¬ a = b) := fun e => h4 (by rw [e])
          clear h1 h2 h3 h4
          go_wp2_with fail
          go_ret
          exact ⟨_, rfl, ⟨(fun h => by cases h), (fun h => absurd h Hn.out)⟩, S.b⟩
      · have b3 : (a.at' == b.at') = false := by simpa using h3
        have Hn : Hid (¬ a = b) := fun e => h3 (by rw [e])
        clear h1 h2 h3
        go_wp2_with fail
        go_ret
        exact ⟨_, rfl, ⟨(fun h => by cases h), (fun h => absurd h Hn.out)⟩, S.b⟩
    · have b2 : (a.name.toList == b.name.toList) = false := Bool.eq_false_iff.2 (fun e => h2 (beqS.1 e))
      have Hn : Hid (¬ a = b) := fun e => h2 (by rw [e])
      clear h1 h2
      go_wp2_with fail
      go_ret
      exact ⟨_, rfl, ⟨(fun h => by cases h), (fun h => absurd h Hn.out)⟩, S.b⟩
  · have b1 : (a.id.toList == b.id.toList) = false := Bool.eq_false_iff.2 (fun e => h1 (beqS.1 e))
    have Hn : Hid (¬ a = b) := fun e => h1 (by rw [e])
    clear h1
    go_wp2_with fail
    go_ret
    exact ⟨_, rfl, ⟨(fun h => by cases h), (fun h => absurd h Hn.out)⟩, S.b⟩
set_option maxHeartbeats 4000000 in
set_option maxRecDepth 100000 in
theorem sameG_any (N N2 : Nat → Prop) (a b : Evt) (A A2 : Option Addr) (c c2 : Nat) (w : World) (h1 : Sl rFld N w A a.flds) (h2 : Sl rFld N2 w A2 b.flds) (hl : a.flds.length ≤ 1000000) (hl2 : b.flds.length ≤ 1000000) :
    Calls Tryz.prog 53 #[.agg (evCs a A c), .agg (evCs b A2 c2)] w (GivesEq (a = b) w) := by
  have S : Mem w ((w.alloc (.cells (evCs a A c) 47)).alloc (.cells (evCs b A2 c2) 47)) [.loc w.heap.size (evCs a A c) 47, .loc (w.heap.size + 1) (evCs b A2 c2) 47] := ((Mem.start w).new' _ _).newAt _ _ _ (by simp)
  have He := Lib.hid (eqFldG_any N N2 A A2 a.flds b.flds c c2 _ (h1.keepB S.b) (h2.keepB S.b) hl hl2)
  clear h1 h2 hl hl2
  go_enter Tryz.func53, Tryz.ntmps53
  go_upto_region 1 with fail
  obtain ⟨Y, hY⟩ : ∃ Y, Y = w.heap.size + 1 := ⟨_, rfl⟩
  obtain ⟨X, hX⟩ : ∃ X, X = w.heap.size := ⟨_, rfl⟩
  rw [← hY, ← hX] at S ⊢
  clear hY hX
  generalize (w.alloc (.cells (evCs a A c) 47)).alloc (.cells (evCs b A2 c2) 47) = w1 at *
  have c0 := (S.lv 0 rfl).all
  have c1 := (S.lv 1 rfl).all
  by_cases h1 : a.id = b.id
  · have b1 : (a.id.toList == b.id.toList) = true := beqS.2 h1
    by_cases h2 : a.name = b.name
    · have b2 : (a.name.toList == b.name.toList) = true := beqS.2 h2
      by_cases h3 : a.at' = b.at'
      · have b3 : (a.at' == b.at') = true := by simpa using h3
        by_cases h4 : a.kind = b.kind
        · have b4 : (a.kind == b.kind) = true := by simpa using h4
          by_cases h5 : a.text = b.text
          · have b5 : (a.text.toList == b.text.toList) = true := beqS.2 h5
            have Hab : Hid (a.flds = b.flds ↔ a = b) := by
              obtain ⟨i1, n1, t1, k1, x1, f1⟩ := a
              obtain ⟨i2, n2, t2, k2, x2, f2⟩ := b
              simp only at h1 h2 h3 h4 h5
              subst h1 h2 h3 h4 h5
              exact ⟨fun h => by simp only at h; rw [h], fun h => by simp only [Evt.mk.injEq] at h ⊢; exact h.2.2.2.2.2⟩
            clear h1 h2 h3 h4 h5
            go_wp2_with fail
            refine (He.out).mono ?_
            rintro r w2 ⟨bb, rfl, hbb, hl2⟩
            have S2 := S.below hl2
            have Hbb := Lib.hid (hbb.trans Hab.out)
            clear He hl2 c0 c1 S hbb Hab
            go_wp2_with fail
            go_ret
            exact ⟨_, rfl, Hbb.out, S2.b⟩
          · have b5 : (a.text.toList == b.text.toList) = false := Bool.eq_false_iff.2 (fun e => h5 (beqS.1 e))
            have Hn : Hid (¬ a = b) := fun e => h5 (by rw [e])
            clear h1 h2 h3 h4 h5
            go_wp2_with fail
            go_ret
            exact ⟨_, rfl, ⟨(fun h => by cases h), (fun h => absurd h Hn.out)⟩, S.b⟩
        · have b4 : (a.kind == b.kind) = false := by simpa using h4
          have Hn : Hid (¬ a = b) := fun e => h4 (by rw [e])
          clear h1 h2 h3 h4
          go_wp2_with fail
          go_ret
          exact ⟨_, rfl, ⟨(fun h => by cases h), (fun h => absurd h Hn.out)⟩, S.b⟩
      · have b3 : (a.at' == b.at') = false := by simpa using h3
        have Hn : Hid (¬ a = b) := fun e => h3 (by rw [e])
        clear h1 h2 h3
        go_wp2_with fail
        go_ret
        exact ⟨_, rfl, ⟨(fun h => by cases h), (fun h => absurd h Hn.out)⟩, S.b⟩
    · have b2 : (a.name.toList == b.name.toList) = false := Bool.eq_false_iff.2 (fun e => h2 (beqS.1 e))
      have Hn : Hid (¬ a = b) := fun e => h2 (by rw [e])
      clear h1 h2
      go_wp2_with fail
      go_ret
      exact ⟨_, rfl, ⟨(fun h => by cases h), (fun h => absurd h Hn.out)⟩, S.b⟩
  · have b1 : (a.id.toList == b.id.toList) = false := Bool.eq_false_iff.2 (fun e => h1 (beqS.1 e))
    have Hn : Hid (¬ a = b) := fun e => h1 (by rw [e])
    clear h1
    go_wp2_with fail
    go_ret
    exact ⟨_, rfl, ⟨(fun h => by cases h), (fun h => absurd h Hn.out)⟩, S.b⟩
end Go.Proofs.YtmlpkejeglpciaaGreatDoor

/- What event.suits and CheckEvent return. -/
namespace Go.Proofs.YtmlpkejeglpciaaGreatDoor
open Go.RowKit
def GivesAt {α : Type} (xs : List α) (o : Option α) (w : World) (e : Ending) (w' : World) : Prop :=
  ∃ (i : Nat) (b : Bool), e = .returned (.tuple #[.int .i64 i, .bool b]) ∧ i ≤ xs.length ∧ (b = true → ∃ p, xs[i]? = some p ∧ o = some p) ∧ (b = false → o = none) ∧ Below w.heap.size w w'
theorem suits1_any (p : Scm) (At : Option Addr) (n ct : Nat) (nm : ByteArray) (w : World) :
    Calls Tryz.prog 119 #[.agg #[.string p.name, .slice At n ct], .string nm] w fun e w' => e = .returned (.int .i64 (cmpS p.name nm)) ∧ Below w.heap.size w w' := by
  have Hb : Hid (Below w.heap.size w (w.alloc (.cells #[.string p.name, .slice At n ct] 73))) := (Below.refl _ _).alloc (Nat.le_refl _) _
  go_enter Tryz.func119, Tryz.ntmps119
  go_wp2_with fail
  refine (compareS_any p.name nm _).mono ?_
  rintro e _ ⟨rfl, rfl⟩
  go_wp2_with fail
  go_ret
  exact ⟨rfl, Hb.out⟩
theorem suits2_any (p : Nd) (nm : ByteArray) (w : World) :
    Calls Tryz.prog 122 #[.agg #[.string p.name, .int .i64 p.kind, .bool p.must], .string nm] w fun e w' => e = .returned (.int .i64 (cmpS p.name nm)) ∧ Below w.heap.size w w' := by
  have Hb : Hid (Below w.heap.size w (w.alloc (.cells #[.string p.name, .int .i64 p.kind, .bool p.must] 76))) := (Below.refl _ _).alloc (Nat.le_refl _) _
  go_enter Tryz.func122, Tryz.ntmps122
  go_wp2_with fail
  refine (compareS_any p.name nm _).mono ?_
  rintro e _ ⟨rfl, rfl⟩
  go_wp2_with fail
  go_ret
  exact ⟨rfl, Hb.out⟩
set_option maxHeartbeats 4000000 in
set_option maxRecDepth 100000 in
theorem bsearchS_any (N : Nat → Prop) (A : Option Addr) (xs : List Scm) (nm : ByteArray) (c : Nat) (w : World) (hS : Sl rScm N w A xs) (hn : xs.length ≤ 1000) (hri : RiseS xs) :
    Calls Tryz.prog 118 #[.slice A xs.length c, .string nm, .func (.func 119) #[] #[]] w (GivesAt xs (scmAt xs nm) w) := by
  have HS := Lib.hid hS
  have Hri := Lib.hid hri
  clear hS hri
  go_enter Tryz.func118, Tryz.ntmps118
  go_wp2_with fail
  go_loopw [9, 10] (fun a b wr => ∃ i j : Nat, i ≤ j ∧ j ≤ xs.length ∧ a = .int .i64 i ∧ b = .int .i64 j ∧ (∀ p f, p < i → xs[p]? = some f → ltS f.name nm = true) ∧ (∀ p f, j ≤ p → xs[p]? = some f → ltS f.name nm = false) ∧ Below w.heap.size w wr) (fun a b _ => (intOf b - intOf a).toNat)
  case atStart => exact ⟨0, xs.length, by omega, by omega, rfl, rfl, (fun p f h => by omega), (fun p f h hp => by rw [List.getElem?_eq_none h] at hp; cases hp), Below.refl _ _⟩
  case round =>
    obtain ⟨i, j, hij, hj, rfl, rfl, hlo, hhi, hbl⟩ := hrel
    have Hlo := Lib.hid hlo
    have Hhi := Lib.hid hhi
    have hsz := hbl.size
    clear hlo hhi
    by_cases hlt : i < j
    · obtain ⟨h, hh⟩ : ∃ h : Nat, h = (i + j) / 2 := ⟨_, rfl⟩
      have h1 : i ≤ h := by omega
      have h2 : h < j := by omega
      have eh : ((i : Int) + (j : Int)) / 2 = (h : Int) := by omega
      clear hh
      obtain ⟨f, hf⟩ : ∃ f, xs[h]? = some f := ⟨_, List.getElem?_eq_getElem (by omega)⟩
      have Hf := Lib.hid hf
      clear hf
      obtain ⟨blk, off, At, ct, rfl, hblk, d0, d1, _⟩ := (HS.out.keepB hbl).scm _ f Hf.out
      go_wp2_with fail
      refine (suits1_any f At f.needs.length ct nm _).mono ?_
      rintro e w1 ⟨rfl, hl_w1⟩
      have hz_w1 := hl_w1.size
      have Hb1 : Hid (Below w.heap.size w w1) := hbl.trans (hl_w1.mono hsz)
      have Hcn := Lib.hid (cmpS_neg f.name nm)
      generalize cmpS f.name nm = cm at *
      clear d0 d1
      clear hl_w1 hz_w1
      by_cases hc : cm < 0
      · have Hl : Hid (∀ p g, p < h + 1 → xs[p]? = some g → ltS g.name nm = true) := fun p g hp hg => by
          by_cases hph : p = h
          · subst hph
            rw [Hf.out] at hg
            cases hg
            exact Hcn.out.1 hc
          · exact ltS_trans (Hri.out p h g f (by omega) hg Hf.out) (Hcn.out.1 hc)
        go_wp2_with fail
        go_roundw
        case rel => exact ⟨h + 1, j, by omega, by omega, by go_num, rfl, Hl.out, Hhi.out, Hb1.out⟩
        case measure => simp [intOf]; omega
      · have hnl : ltS f.name nm = false := by
          cases hx : ltS f.name nm
          · rfl
          · exact absurd (Hcn.out.2 hx) hc
        have Hl : Hid (∀ p g, h ≤ p → xs[p]? = some g → ltS g.name nm = false) := fun p g hp hg => by
          by_cases hph : p = h
          · subst hph
            rw [Hf.out] at hg
            cases hg
            exact hnl
          · cases hx : ltS g.name nm
            · rfl
            · rw [ltS_trans (Hri.out h p f g (by omega) Hf.out hg) hx] at hnl
              cases hnl
        clear hnl
        go_wp2_with fail
        go_roundw
        case rel => exact ⟨i, h, by omega, by omega, rfl, rfl, Hlo.out, Hl.out, Hb1.out⟩
        case measure => simp [intOf]; omega
    · obtain rfl : i = j := by omega
      have Hne : Hid (∀ p g, p ≠ i → xs[p]? = some g → g.name ≠ nm) := fun p g hp hg e => by
        rcases Nat.lt_or_ge p i with hlt | hge
        · have := Hlo.out p g hlt hg
          rw [e, ltS_irr] at this
          cases this
        · by_cases hli : i < xs.length
          · have h3 := Hri.out i p xs[i] g (by omega) (List.getElem?_eq_getElem hli) hg
            rw [e] at h3
            rw [Hhi.out i xs[i] (Nat.le_refl _) (List.getElem?_eq_getElem hli)] at h3
            cases h3
          · have := lt_of_get hg
            omega
      by_cases hlen : i < xs.length
      · obtain ⟨f, hf⟩ : ∃ f, xs[i]? = some f := ⟨_, List.getElem?_eq_getElem hlen⟩
        have Hf := Lib.hid hf
        clear hf
        obtain ⟨blk, off, At, ct, rfl, hblk, d0, d1, _⟩ := (HS.out.keepB hbl).scm _ f Hf.out
        go_wp2_with fail
        refine (suits1_any f At f.needs.length ct nm _).mono ?_
        rintro e w1 ⟨rfl, hl_w1⟩
        have hz_w1 := hl_w1.size
        have Hb1 : Hid (Below w.heap.size w w1) := hbl.trans (hl_w1.mono hsz)
        obtain ⟨cm, Hcm⟩ : ∃ cm, Hid (cmpS f.name nm = cm) := ⟨_, Lib.hid rfl⟩
        rw [Hcm.out]
        clear d0 d1
        clear hl_w1 hz_w1
        go_wp2_with fail
        go_ret2
        refine ⟨i, (cm == 0), rfl, by omega, fun h => ⟨f, Hf.out, find_rise (nm := Scm.name) Hri.out Hf.out ((cmpS_zero _ _).1 (by rw [Hcm.out]; simpa using h))⟩, fun h => find_no (nm := Scm.name) fun p hp e => ?_, Hb1.out⟩
        obtain ⟨q, hq⟩ := List.mem_iff_getElem?.1 hp
        by_cases hqi : q = i
        · subst hqi
          rw [Hf.out] at hq
          cases hq
          rw [← Hcm.out, (cmpS_zero _ _).2 e] at h
          cases h
        · exact Hne.out q p hqi hq e
      · go_wp2_with fail
        go_ret2
        refine ⟨i, false, rfl, by omega, (fun h => by cases h), fun _ => find_no (nm := Scm.name) fun p hp e => ?_, hbl⟩
        obtain ⟨q, hq⟩ := List.mem_iff_getElem?.1 hp
        exact Hne.out q p (by have := lt_of_get hq; omega) hq e
set_option maxHeartbeats 4000000 in
set_option maxRecDepth 100000 in
theorem bsearchN_any (N : Nat → Prop) (A : Option Addr) (xs : List Nd) (nm : ByteArray) (c : Nat) (w : World) (hS : Sl rNd N w A xs) (hn : xs.length ≤ 1000) (hri : RiseN xs) :
    Calls Tryz.prog 121 #[.slice A xs.length c, .string nm, .func (.func 122) #[] #[]] w (GivesAt xs (ndAt xs nm) w) := by
  have HS := Lib.hid hS
  have Hri := Lib.hid hri
  clear hS hri
  go_enter Tryz.func121, Tryz.ntmps121
  go_wp2_with fail
  go_loopw [9, 10] (fun a b wr => ∃ i j : Nat, i ≤ j ∧ j ≤ xs.length ∧ a = .int .i64 i ∧ b = .int .i64 j ∧ (∀ p f, p < i → xs[p]? = some f → ltS f.name nm = true) ∧ (∀ p f, j ≤ p → xs[p]? = some f → ltS f.name nm = false) ∧ Below w.heap.size w wr) (fun a b _ => (intOf b - intOf a).toNat)
  case atStart => exact ⟨0, xs.length, by omega, by omega, rfl, rfl, (fun p f h => by omega), (fun p f h hp => by rw [List.getElem?_eq_none h] at hp; cases hp), Below.refl _ _⟩
  case round =>
    obtain ⟨i, j, hij, hj, rfl, rfl, hlo, hhi, hbl⟩ := hrel
    have Hlo := Lib.hid hlo
    have Hhi := Lib.hid hhi
    have hsz := hbl.size
    clear hlo hhi
    by_cases hlt : i < j
    · obtain ⟨h, hh⟩ : ∃ h : Nat, h = (i + j) / 2 := ⟨_, rfl⟩
      have h1 : i ≤ h := by omega
      have h2 : h < j := by omega
      have eh : ((i : Int) + (j : Int)) / 2 = (h : Int) := by omega
      clear hh
      obtain ⟨f, hf⟩ : ∃ f, xs[h]? = some f := ⟨_, List.getElem?_eq_getElem (by omega)⟩
      have Hf := Lib.hid hf
      clear hf
      obtain ⟨blk, off, rfl, hblk, d0, d1, d2⟩ := (HS.out.keepB hbl).nd _ f Hf.out
      go_wp2_with fail
      refine (suits2_any f nm _).mono ?_
      rintro e w1 ⟨rfl, hl_w1⟩
      have hz_w1 := hl_w1.size
      have Hb1 : Hid (Below w.heap.size w w1) := hbl.trans (hl_w1.mono hsz)
      have Hcn := Lib.hid (cmpS_neg f.name nm)
      generalize cmpS f.name nm = cm at *
      clear d0 d1 d2
      clear hl_w1 hz_w1
      by_cases hc : cm < 0
      · have Hl : Hid (∀ p g, p < h + 1 → xs[p]? = some g → ltS g.name nm = true) := fun p g hp hg => by
          by_cases hph : p = h
          · subst hph
            rw [Hf.out] at hg
            cases hg
            exact Hcn.out.1 hc
          · exact ltS_trans (Hri.out p h g f (by omega) hg Hf.out) (Hcn.out.1 hc)
        go_wp2_with fail
        go_roundw
        case rel => exact ⟨h + 1, j, by omega, by omega, by go_num, rfl, Hl.out, Hhi.out, Hb1.out⟩
        case measure => simp [intOf]; omega
      · have hnl : ltS f.name nm = false := by
          cases hx : ltS f.name nm
          · rfl
          · exact absurd (Hcn.out.2 hx) hc
        have Hl : Hid (∀ p g, h ≤ p → xs[p]? = some g → ltS g.name nm = false) := fun p g hp hg => by
          by_cases hph : p = h
          · subst hph
            rw [Hf.out] at hg
            cases hg
            exact hnl
          · cases hx : ltS g.name nm
            · rfl
            · rw [ltS_trans (Hri.out h p f g (by omega) Hf.out hg) hx] at hnl
              cases hnl
        clear hnl
        go_wp2_with fail
        go_roundw
        case rel => exact ⟨i, h, by omega, by omega, rfl, rfl, Hlo.out, Hl.out, Hb1.out⟩
        case measure => simp [intOf]; omega
    · obtain rfl : i = j := by omega
      have Hne : Hid (∀ p g, p ≠ i → xs[p]? = some g → g.name ≠ nm) := fun p g hp hg e => by
        rcases Nat.lt_or_ge p i with hlt | hge
        · have := Hlo.out p g hlt hg
          rw [e, ltS_irr] at this
          cases this
        · by_cases hli : i < xs.length
          · have h3 := Hri.out i p xs[i] g (by omega) (List.getElem?_eq_getElem hli) hg
            rw [e] at h3
            rw [Hhi.out i xs[i] (Nat.le_refl _) (List.getElem?_eq_getElem hli)] at h3
            cases h3
          · have := lt_of_get hg
            omega
      by_cases hlen : i < xs.length
      · obtain ⟨f, hf⟩ : ∃ f, xs[i]? = some f := ⟨_, List.getElem?_eq_getElem hlen⟩
        have Hf := Lib.hid hf
        clear hf
        obtain ⟨blk, off, rfl, hblk, d0, d1, d2⟩ := (HS.out.keepB hbl).nd _ f Hf.out
        go_wp2_with fail
        refine (suits2_any f nm _).mono ?_
        rintro e w1 ⟨rfl, hl_w1⟩
        have hz_w1 := hl_w1.size
        have Hb1 : Hid (Below w.heap.size w w1) := hbl.trans (hl_w1.mono hsz)
        obtain ⟨cm, Hcm⟩ : ∃ cm, Hid (cmpS f.name nm = cm) := ⟨_, Lib.hid rfl⟩
        rw [Hcm.out]
        clear d0 d1 d2
        clear hl_w1 hz_w1
        go_wp2_with fail
        go_ret2
        refine ⟨i, (cm == 0), rfl, by omega, fun h => ⟨f, Hf.out, find_rise (nm := Nd.name) Hri.out Hf.out ((cmpS_zero _ _).1 (by rw [Hcm.out]; simpa using h))⟩, fun h => find_no (nm := Nd.name) fun p hp e => ?_, Hb1.out⟩
        obtain ⟨q, hq⟩ := List.mem_iff_getElem?.1 hp
        by_cases hqi : q = i
        · subst hqi
          rw [Hf.out] at hq
          cases hq
          rw [← Hcm.out, (cmpS_zero _ _).2 e] at h
          cases h
        · exact Hne.out q p hqi hq e
      · go_wp2_with fail
        go_ret2
        refine ⟨i, false, rfl, by omega, (fun h => by cases h), fun _ => find_no (nm := Nd.name) fun p hp e => ?_, hbl⟩
        obtain ⟨q, hq⟩ := List.mem_iff_getElem?.1 hp
        exact Hne.out q p (by have := lt_of_get hq; omega) hq e
theorem suitFs_at {ns : List Nd} {fs : List Fld} {k : Nat} {f : Fld} (h : fs[k]? = some f) : suitFs ns (fs.drop k) = if suitF ns f ≠ 0 then suitF ns f else suitFs ns (fs.drop (k + 1)) := by rw [drop_at3 h, suitFs]
theorem suitNs_at {fs : List Fld} {ns : List Nd} {k : Nat} {n : Nd} (h : ns[k]? = some n) : suitNs fs (ns.drop k) = if suitN fs n ≠ 0 then suitN fs n else suitNs fs (ns.drop (k + 1)) := by rw [drop_at3 h, suitNs]
theorem finds_any {fs : List Fld} {nm : ByteArray} {o : Option Fld} (h : FindsTo fs nm o) : o.isSome = fs.any (fldIs nm) := by
  rw [Bool.eq_iff_iff, List.any_eq_true]
  constructor
  · intro h2
    obtain ⟨f, rfl⟩ := Option.isSome_iff_exists.1 h2
    exact ⟨f, (h.1 f rfl).1, beqS.2 (h.1 f rfl).2⟩
  · rintro ⟨f, hf, hn⟩
    cases o with
    | some g => rfl
    | none => exact absurd (beqS.1 hn) (h.2 rfl f hf)
set_option maxHeartbeats 8000000 in
set_option maxRecDepth 100000 in
theorem suits_any (N : Nat → Prop) (A Af : Option Addr) (l : List Scm) (c cf : Nat) (x : Evt) (w : World) (hS : Sl rScm N w A l) (hg : GoodScm l) (hF : Sl rFld N w Af x.flds) (hok : EvtOk x) (hT : Tabs w) (hM : MaxL w) :
    Calls Tryz.prog 51 #[.slice A l.length c, .agg (evCs x Af cf)] w fun e w' => e = .returned (.int .i64 (if evtFault x ≠ 0 then evtFault x else suit l x)) ∧ Below w.heap.size w w' := by
  have hb0 : Below w.heap.size w (w.alloc (.cells (evCs x Af cf) 47)) := (Below.refl _ _).alloc (Nat.le_refl _) _
  have lv0 := LV.new w w.heap.size (evCs x Af cf) 47 rfl
  obtain ⟨R, HR⟩ : ∃ R, Hid ((if evtFault x ≠ 0 then evtFault x else suit l x) = R) := ⟨_, Lib.hid rfl⟩
  rw [HR.out]
  have HSl := Lib.hid (fun w' (h : Below w.heap.size w w') => hS.keepB h)
  have HFl := Lib.hid (fun w' (h : Below w.heap.size w w') => hF.keepB h)
  have Hg := Lib.hid hg
  have Hfo : Hid (evtFault x = 0 → x.flds.length ≤ 30 ∧ Rising x.flds) := fun h => by
    obtain ⟨h1, _, h3⟩ := flds_ok (evtFault_flds h)
    exact ⟨h1, h3⟩
  have Hone := Lib.hid (fun w' (h : Below w.heap.size w w') => checkOne_any N Af cf x w' (hF.keepB h) hok (Utf8Tabs_below hT h) (hM.below h))
  have Hbs := Lib.hid (fun w' (h : Below w.heap.size w w') => bsearchS_any N A l x.name c w' (hS.keepB h) (by have := hg.len; omega) hg.rise)
  clear hS hg hF hok hT hM
  obtain ⟨F, HF⟩ : ∃ F, Hid (evtFault x = F) := ⟨_, Lib.hid rfl⟩
  rw [HF.out] at HR Hfo Hone
  clear HF
  have Hb0 := Lib.hid hb0
  go_enter Tryz.func51, Tryz.ntmps51
  go_upto_region 1 with fail
  generalize w.alloc (.cells (evCs x Af cf) 47) = w1 at *
  obtain ⟨Y, hY⟩ : ∃ Y, Y = w.heap.size := ⟨_, rfl⟩
  rw [← hY] at lv0 ⊢
  have c0 := lv0.all
  clear hb0 hY
  go_wp2_with fail
  refine (Hone.out w1 Hb0.out).mono ?_
  rintro e w2 ⟨rfl, hl2⟩
  have Hb2 : Hid (Below w.heap.size w w2) := Hb0.out.trans (hl2.mono Hb0.out.size)
  replace lv0 := LV.kb3 lv0 hl2 lv0.lt
  replace c0 := lv0.all
  clear hl2 Hone Hb0
  by_cases hF : F = 0
  · obtain ⟨hfl, hfr⟩ := Hfo.out hF
    have Hfr := Lib.hid hfr
    have Hn := Lib.hid (step_go HR.out hF)
    subst hF
    clear HR Hfo hfr
    unfold suit at Hn
    go_wp2_with fail
    refine (Hbs.out w2 Hb2.out).mono ?_
    rintro e w3 ⟨i, b, rfl, hi, hb1, hb2, hl3⟩
    have Hb3 : Hid (Below w.heap.size w w3) := Hb2.out.trans (hl3.mono Hb2.out.size)
    replace lv0 := LV.kb3 lv0 hl3 lv0.lt
    replace c0 := lv0.all
    have H1 := Lib.hid hb1
    have H2 := Lib.hid hb2
    clear hl3 Hbs Hb2 hb1 hb2
    cases b
    · have Hn2 : Hid (8 = R) := by show _ = _; rw [← Hn.out, H2.out rfl]
      clear H1 H2 Hn
      go_wp2_with fail
      go_ret
      exact ⟨ret_i Hn2.out, Hb3.out⟩
    · obtain ⟨s, hs, ho⟩ := H1.out rfl
      have Hn2 : Hid ((if suitFs s.needs x.flds ≠ 0 then suitFs s.needs x.flds else suitNs x.flds s.needs) = R) := by show _ = _; rw [← Hn.out, ho]; rfl
      have hsm := List.mem_of_getElem? hs
      have hnl := Hg.out.nl s hsm
      have Hrn := Lib.hid (Hg.out.nr s hsm)
      obtain ⟨blk, off, An, cn, rfl, hblk, d0, d1, hst⟩ := (HSl.out w3 Hb3.out).scm i s hs
      have Hst := Lib.hid hst
      have hil := lt_of_get hs
      clear Hn H1 H2 hst hs ho hsm
      go_wp2_with fail
      clear d0 d1
      go_loopw [39] (fun i wr => ∃ k : Nat, k ≤ x.flds.length ∧ i = .int .i64 k ∧ (if suitFs s.needs (x.flds.drop k) ≠ 0 then suitFs s.needs (x.flds.drop k) else suitNs x.flds s.needs) = R ∧ Below w3.heap.size w3 wr) (fun i _ => x.flds.length - (intOf i).toNat)
      case atStart => exact ⟨0, Nat.zero_le _, rfl, Hn2.out, Below.refl _ _⟩
      case round =>
        clear Hn2 c0
        obtain ⟨k, hk, rfl, hr, hbl⟩ := hrel
        have Hr := Lib.hid hr
        have Hbr : Hid (Below w.heap.size w wr) := Hb3.out.trans (hbl.mono Hb3.out.size)
        have lvr := LV.kb3 lv0 hbl lv0.lt
        clear hr
        by_cases hlt : k < x.flds.length
        · obtain ⟨f, hf⟩ : ∃ f, x.flds[k]? = some f := ⟨_, List.getElem?_eq_getElem hlt⟩
          have Hs : Hid ((if (if suitF s.needs f ≠ 0 then suitF s.needs f else suitFs s.needs (x.flds.drop (k + 1))) ≠ 0 then (if suitF s.needs f ≠ 0 then suitF s.needs f else suitFs s.needs (x.flds.drop (k + 1))) else suitNs x.flds s.needs) = R) := by show _ = _; rw [← suitFs_at hf]; exact Hr.out
          obtain ⟨blk, off, rfl, hblk, d0, d1, d2, d3⟩ := (HFl.out wr Hbr.out).fld k f hf
          have hb4 : Below wr.heap.size wr (wr.alloc (.cells #[.string f.name, .int .i64 f.kind, .string f.text, .int .i64 f.num] 123)) := (Below.refl _ _).alloc (Nat.le_refl _) _
          have Hb4 : Hid (Below w3.heap.size w3 (wr.alloc (.cells #[.string f.name, .int .i64 f.kind, .string f.text, .int .i64 f.num] 123))) := hbl.alloc hbl.size _
          have lvZ := LV.new wr wr.heap.size #[.string f.name, .int .i64 f.kind, .string f.text, .int .i64 f.num] 123 rfl
          have lvy := LV.kb3 lvr hb4 lvr.lt
          clear Hr hf lvr hb4
          go_upto_region 11 with fail
          clear d0 d1 d2 d3
          generalize wr.alloc (.cells #[.string f.name, .int .i64 f.kind, .string f.text, .int .i64 f.num] 123) = w4 at *
          obtain ⟨Z, hZ⟩ : ∃ Z, Z = wr.heap.size := ⟨_, rfl⟩
          rw [← hZ] at lvZ ⊢
          have z0 := lvZ.all
          clear hZ hbl Hbr
          have Hq := Lib.hid (bsearchN_any N An s.needs f.name cn w4 (Sl.keepB Hst.out Hb4.out) (by omega) Hrn.out)
          go_wp2_with fail
          refine (Hq.out).mono ?_
          rintro e w5 ⟨q, b, rfl, hq, hb1, hb2, hl5⟩
          have Hb5 : Hid (Below w3.heap.size w3 w5) := Hb4.out.trans (hl5.mono Hb4.out.size)
          have Hb6 : Hid (Below w.heap.size w w5) := Hb3.out.trans (Hb5.out.mono Hb3.out.size)
          replace lvZ := LV.kb3 lvZ hl5 lvZ.lt
          replace z0 := lvZ.all
          have H1 := Lib.hid hb1
          have H2 := Lib.hid hb2
          clear Hq hl5 hb1 hb2
          cases b
          · have Hn3 : Hid (8 = R) := by
              show _ = _
              rw [← Hs.out, show suitF s.needs f = 8 by unfold suitF; rw [H2.out rfl]]; rfl
            clear H1 H2 Hs
            go_wp2_with fail
            go_ret
            exact ⟨ret_i Hn3.out, Hb6.out⟩
          · obtain ⟨n, hn, ho⟩ := H1.out rfl
            obtain ⟨blk2, off2, rfl, hblk2, e0, e1, e2⟩ := (Sl.keepB Hst.out Hb5.out).nd q n hn
            have hql := lt_of_get hn
            have Hsf : Hid (suitF s.needs f = if n.kind = f.kind then 0 else 10) := by show _ = _; unfold suitF; rw [ho]
            have y0 := z0.1
            clear H1 H2 hn ho
            by_cases hkk : n.kind = f.kind
            · have Hn3 : Hid ((if suitFs s.needs (x.flds.drop (k + 1)) ≠ 0 then suitFs s.needs (x.flds.drop (k + 1)) else suitNs x.flds s.needs) = R) := by
                show _ = _
                rw [← Hs.out, Hsf.out, if_pos hkk]; rfl
              have hkb : (n.kind != f.kind) = false := by simpa using hkk
              clear Hs hkk Hsf
              go_wp2_with fail
              go_quiet (fail)
              go_wp2_with fail
              go_roundw
              case rel => exact ⟨k + 1, by omega, by go_num, Hn3.out, Hb5.out.trans (below_drewN _ _ _)⟩
              case measure => simp [intOf]; omega
            · have Hn3 : Hid (10 = R) := by
                show _ = _
                rw [← Hs.out, Hsf.out, if_neg hkk]; rfl
              have hkb : (n.kind != f.kind) = true := by simpa using hkk
              clear Hs hkk Hsf
              go_wp2_with fail
              go_quiet (fail)
              go_wp2_with fail
              go_ret
              exact ⟨ret_i Hn3.out, Hb6.out.trans (below_drewN _ _ _)⟩
        · have Hn3 : Hid (suitNs x.flds s.needs = R) := by
            show _ = _
            have h := Hr.out
            rw [List.drop_eq_nil_of_le (by omega : x.flds.length ≤ k)] at h
            exact h
          have Hbl := Lib.hid hbl
          clear Hr hbl
          go_wp2_with fail
          go_loopw [66] (fun i wx => ∃ j : Nat, j ≤ s.needs.length ∧ i = .int .i64 j ∧ suitNs x.flds (s.needs.drop j) = R ∧ Below wr.heap.size wr wx) (fun i _ => s.needs.length - (intOf i).toNat)
          case atStart => exact ⟨0, Nat.zero_le _, rfl, Hn3.out, Below.refl _ _⟩
          case round =>
            clear Hn3
            obtain ⟨j, hj, rfl, hr, hbl2⟩ := hrel
            have Hr := Lib.hid hr
            have Hbx : Hid (Below w.heap.size w wr) := Hbr.out.trans (hbl2.mono Hbr.out.size)
            have Hb3x : Hid (Below w3.heap.size w3 wr) := Hbl.out.trans (hbl2.mono Hbl.out.size)
            have lvx := LV.kb3 lvr hbl2 lvr.lt
            clear hr
            by_cases hltj : j < s.needs.length
            · obtain ⟨n, hn⟩ : ∃ n, s.needs[j]? = some n := ⟨_, List.getElem?_eq_getElem hltj⟩
              have hs : (if suitN x.flds n ≠ 0 then suitN x.flds n else suitNs x.flds (s.needs.drop (j + 1))) = R := by rw [← suitNs_at hn]; exact Hr.out
              obtain ⟨blk, off, rfl, hblk, d0, d1, d2⟩ := (Sl.keepB Hst.out Hb3x.out).nd j n hn
              obtain ⟨M, hM⟩ : ∃ M, n.must = M := ⟨_, rfl⟩
              unfold suitN at hs
              rw [hM] at d2 hs
              have Hs := Lib.hid hs
              have hb4 : Below wr.heap.size wr (wr.alloc (.cells #[.string n.name, .int .i64 n.kind, .bool M] 76)) := (Below.refl _ _).alloc (Nat.le_refl _) _
              have hbz := hbl2.alloc hbl2.size (.cells #[.string n.name, .int .i64 n.kind, .bool M] 76)
              have Hb4 : Hid (Below w.heap.size w (wr.alloc (.cells #[.string n.name, .int .i64 n.kind, .bool M] 76))) := Hbx.out.alloc Hbx.out.size _
              have lvZ := LV.new wr wr.heap.size #[.string n.name, .int .i64 n.kind, .bool M] 76 rfl
              have lvy := LV.kb3 lvx hb4 lvx.lt
              clear Hr hn hM hs hb4 lvx Hb3x
              go_upto_region 20 with fail
              clear d0 d1 d2
              generalize wr.alloc (.cells #[.string n.name, .int .i64 n.kind, .bool M] 76) = w4 at *
              obtain ⟨Z, hZ⟩ : ∃ Z, Z = wr.heap.size := ⟨_, rfl⟩
              rw [← hZ] at lvZ ⊢
              have z0 := lvZ.all
              have y0 := lvy.all
              clear hZ hbl2 Hbx
              have Hq := Lib.hid (find_any N Af x.flds n.name cf w4 (HFl.out w4 Hb4.out) (by omega) Hfr.out)
              go_wp2_with fail
              refine (Hq.out).mono ?_
              rintro e w5 ⟨o, ho, rfl, hl5⟩
              have hb5 := hbz.trans (hl5.mono hbz.size)
              have Hb5 : Hid (Below w.heap.size w w5) := Hb4.out.trans (hl5.mono Hb4.out.size)
              have hoa := finds_any ho
              rw [← hoa] at Hs
              replace lvZ := LV.kb3 lvZ hl5 lvZ.lt
              have z1 := fun o j => (LV.alloc lvZ o).all.1 j
              clear Hq hl5 hbz ho hoa y0 lvy Hb4 z0
              cases M <;> cases o
              · have Hn4 : Hid (suitNs x.flds (s.needs.drop (j + 1)) = R) := Hs.out
                simp only [valOf, Option.isSome]
                go_wp2_with fail
                go_roundw
                case rel => exact ⟨j + 1, by omega, by go_num, Hn4.out, hb5.alloc hb5.size _⟩
                case measure => simp [intOf]; omega
              · have Hn4 : Hid (suitNs x.flds (s.needs.drop (j + 1)) = R) := Hs.out
                simp only [valOf, Option.isSome]
                go_wp2_with fail
                go_roundw
                case rel => exact ⟨j + 1, by omega, by go_num, Hn4.out, hb5.alloc hb5.size _⟩
                case measure => simp [intOf]; omega
              · have Hn4 : Hid (3 = R) := Hs.out
                simp only [valOf, Option.isSome]
                go_wp2_with fail
                go_ret
                exact ⟨ret_i Hn4.out, Hb5.out.alloc Hb5.out.size _⟩
              · have Hn4 : Hid (suitNs x.flds (s.needs.drop (j + 1)) = R) := Hs.out
                simp only [valOf, Option.isSome]
                go_wp2_with fail
                go_roundw
                case rel => exact ⟨j + 1, by omega, by go_num, Hn4.out, hb5.alloc hb5.size _⟩
                case measure => simp [intOf]; omega
            · go_wp2_with fail
              go_ret
              exact ⟨ret_i (by rw [← Hr.out, List.drop_eq_nil_of_le (by omega)]; rfl), Hbx.out⟩
  · have Hn := Lib.hid (step_no HR.out hF)
    have hF' : (F != 0) = true := by simpa using hF
    go_wp2_with fail
    go_ret
    exact ⟨ret_i Hn.out, Hb2.out⟩
end Go.Proofs.YtmlpkejeglpciaaGreatDoor

/- (*Log).Add: an event is added, or it is told why not. -/
namespace Go.Proofs.YtmlpkejeglpciaaGreatDoor
open Go Go.RowKit
theorem len_g {w : World} {X : Nat} {L : List (ByteArray × Value)} {T E : TypeId} (h : MapG keyStr w X L) (hT : Tryz.prog.underlying T = some (.map keyStr.ty E)) (ty : TypeId) : (Builtin.len_ #[T] ty #[.map (some X)]).run Tryz.prog w = .ok (.int .i64 L.length) w := by
  obtain ⟨es, cl, hb, he⟩ := h
  have h1 := congrArg List.length he.kv
  rw [List.length_map, List.length_map, Array.length_toList] at h1
  simp [Builtin.len_, run_underlying hT, Go.MapKept.run_getObj_map hb, goInt, h1]
theorem gone_g {w : World} {X : Nat} {Lg : List (ByteArray × Value)} {T : TypeId} (h : MapG keyStr w X Lg) (hT : Tryz.prog.underlying T = some (.map keyStr.ty 4)) (hg : GnOk Lg) (s : ByteArray) : (Instr.lookup T (.map (some X)) (.string s) false).run Tryz.prog w = .ok (.bool (hasId (Lg.map Prod.fst) s)) w := by
  have h1 := look_g h hT (zeroBoolL w) s false
  rw [if_neg (by decide), hg.get s] at h1
  exact h1
def sufF (l : List Scm) (x : Evt) : Int := if evtFault x ≠ 0 then evtFault x else suit l x
def GivesAddL (X : Nat) (K : Option Addr) (n ck : Nat) (v : Value) (B : Nat) (qs : List EQ) (AT : Nat) (La : List (ByteArray × Value)) (GN : Nat) (Lg : List (ByteArray × Value)) (F : Int) (x : Evt) (w0 : World) (ch : List Chunk) (e : Ending) (w' : World) : Prop :=
  ∃ (ok : Bool) (er : Int), e = .returned (.tuple #[.bool ok, .int .i64 er]) ∧ AddTo (qs.map EQ.e) (Lg.map Prod.fst) x F ok er ∧
    ((ok = false ∧ Mem w0 w' (logP X K n ck v B qs AT La GN ch)) ∨
     (ok = true ∧ ∃ (i : Nat) (q : EQ) (v' : Value), q.e = x ∧ IsPlE (qs.map EQ.e) x i ∧ Mem w0 w' (logP X K n ck v' B (qs.take i ++ q :: qs.drop i) AT (updG x.id (.int .i64 x.at') La) GN ch)))
set_option maxHeartbeats 8000000 in
set_option maxRecDepth 100000 in
theorem add_log {w0 w : World} (ch : List Chunk) (X : Nat) (l : List Scm) (K : Option Addr) (ck : Nat) (v : Value) (B : Nat) (qs : List EQ) (AT : Nat) (La : List (ByteArray × Value)) (GN : Nat) (Lg : List (ByteArray × Value)) (x : Evt) (A : Option Addr) (c : Nat) (S : Mem w0 w (logP X K l.length ck v B qs AT La GN (.mapG keyStr GN Lg :: ch)))
    (hS : Sl rScm (fun _ => False) w K l) (hg : GoodScm l) (hF : Sl rFld (fun _ => False) w A x.flds) (hok : EvtOk x) (hfl : x.flds.length ≤ 1000) (hT : Tabs w) (hM : MaxL w) (hlo : LogE (qs.map EQ.e)) (hat : AtOk qs La) (hgn : GnOk Lg) (hap : ∀ q ∈ qs, q.e.id ∉ Lg.map Prod.fst) (hl : qs.length ≤ 900) (hqf : ∀ q ∈ qs, q.e.flds.length ≤ 1000) (hB : B ≤ w.heap.size) :
    Calls Tryz.prog 14 #[.pointer (some ⟨X, 0, none⟩), .agg (evCs x A c)] w (GivesAddL X K l.length ck v B qs AT La GN Lg (sufF l x) x w0 (.mapG keyStr GN Lg :: ch)) := by
  obtain ⟨F, hFF⟩ : ∃ F, sufF l x = F := ⟨_, rfl⟩
  have Hsu : Hid (∀ w', Below w.heap.size w w' → Calls Tryz.prog 51 #[.slice K l.length ck, .agg (evCs x A c)] w' fun e w'' => e = .returned (.int .i64 F) ∧ Below w'.heap.size w' w'') := fun w' h => by
    rw [← hFF]
    exact suits_any (fun _ => False) K A l ck c x w' (hS.keepB h) hg (hF.keepB h) hok (Utf8Tabs_below hT h) (hM.below h)
  rw [hFF]
  obtain ⟨A0, c0, rfl⟩ := (S.ow 1 rfl).len
  have hSq := (S.ow 1 rfl).slF flatEQ
  have hMa : MapG keyStr w AT La := S.ok (.mapG keyStr AT La) (.tail _ (.tail _ (.tail _ (.head _))))
  have hFd : FldsOk (fun _ => False) w qs := fun q hq => (S.fl 2 rfl q hq).mono (fun _ _ h => h.elim)
  obtain ⟨Y, hY⟩ : ∃ Y, Y = w.heap.size := ⟨_, rfl⟩
  have S1 : Mem w0 _ (.loc Y (evCs x A c) 47 :: logP X K l.length ck (.slice A0 qs.length c0) B qs AT La GN (.mapG keyStr GN Lg :: ch)) := (S.newAt (evCs x A c) 47 Y hY).front
  have hb1 : Below w.heap.size w (w.alloc (.cells (evCs x A c) 47)) := (Below.refl _ _).alloc (Nat.le_refl _) _
  have Hfd : Hid (∀ w', Below w.heap.size w w' → LV w' X (logCs K l.length ck (.slice A0 qs.length c0) AT GN) 83 → Calls Tryz.prog 52 #[.pointer (some ⟨X, 0, none⟩), .string x.id] w' (GivesFnd x.id qs w')) := fun w' h hX =>
    find_log (fun _ => False) X K l.length ck A0 c0 AT GN qs La x.id w' hX (hMa.keepB h) (hSq.keepB h) hat hlo (Nat.le_trans hl (by decide))
  have Hsm : Hid (∀ q ∈ qs, ∀ w', Below w.heap.size w w' → Calls Tryz.prog 53 #[.agg (evCs q.e q.A q.c), .agg (evCs x A c)] w' (GivesEq (q.e = x) w')) := fun q hq w' h =>
    sameG_any (fun _ => False) (fun _ => False) q.e x q.A A q.c c w' ((hFd q hq).keepB h) (hF.keepB h) (Nat.le_trans (hqf q hq) (by decide)) (Nat.le_trans hfl (by decide))
  have Hpt : Hid (∀ w', Below w.heap.size w w' → Mem w0 w' (logP X K l.length ck (.slice A0 qs.length c0) B qs AT La GN (.mapG keyStr GN Lg :: ch)) → Calls Tryz.prog 54 #[.pointer (some ⟨X, 0, none⟩), .agg (evCs x A c)] w' (GivesPut X K l.length ck B qs AT La GN x w0 (.mapG keyStr GN Lg :: ch))) := fun w' h S' =>
    put_log (.mapG keyStr GN Lg :: ch) X K l.length ck (.slice A0 qs.length c0) B qs AT La GN x A c S' (hF.keepB h) hfl hlo hl (Nat.le_trans hB h.size)
  have Hgn : Hid (GnOk Lg) := hgn
  have Hap := Lib.hid hap
  have Hl := Lib.hid hl
  clear hS hg hF hok hfl hT hM hlo hat hgn hap hqf hB hSq hMa hFd hFF S hl
  go_enter Tryz.func14, Tryz.ntmps14
  go_upto_region 1 with fail
  rw [← hY]
  clear hY
  generalize w.alloc (.cells (evCs x A c) 47) = w1 at *
  refine wp_region_mixT [] (fun wx => LV wx X (logCs K l.length ck (.slice A0 qs.length c0) AT GN) 83 ∧ LV wx Y (evCs x A c) 47) (.p 0 (.p 1 (.p 2 (.q 3 (.q 4 (.e 5 (.p 6 .z))))))) (by kernel_rfl) (by kernel_rfl) (fun _ hd => ⟨(S1.below (hd.below _)).lv 1 rfl, (S1.below (hd.below _)).lv 0 rfl⟩) (fun KK hKK wd hd => ?_)
  have S := S1.below (hd.below _)
  have hbd := hb1.trans ((hd.below w1.heap.size).mono hb1.size)
  clear hd S1 hb1
  refine mpT ?_
  refine mixT_loadR (.slice K l.length ck) rfl rfl rfl rfl (fun w' h => loadC1 rfl (h.1.cell 0 _ rfl)) ?_
  refine mpT ?_
  refine mixT_loadR (.agg (evCs x A c)) rfl rfl rfl rfl (fun w' h => loadEvA h.2) ?_
  refine mixT_l rfl rfl (fun K9 hK9 => ?_)
  have HS := Lib.hid S
  have Hbd := Lib.hid hbd
  have Hb := Lib.hid (Hsu.out wd hbd)
  clear S hbd Hsu
  go_wp2_with fail
  refine (Hb.out).mono ?_
  rintro e w3 ⟨rfl, hb⟩
  have S := HS.out.below hb
  have Hb3 := Lib.hid (Hbd.out.trans (hb.mono Hbd.out.size))
  have hC := (⟨S.lv 1 rfl, S.lv 0 rfl⟩ : LV w3 X (logCs K l.length ck (.slice A0 qs.length c0) AT GN) 83 ∧ LV w3 Y (evCs x A c) 47)
  clear HS hb Hb Hbd
  go_wp2_with fail
  refine ⟨hC, ?_⟩
  clear hC
  refine mpT ?_
  refine mixT_nil ?_
  simp only [Exit.then]
  refine hKK _ _ ?_
  clear hKK KK
  by_cases hE : F = 0
  · subst hE
    have y0 := (S.lv 0 rfl).all
    have Hf := Lib.hid (Hfd.out w3 Hb3.out (S.lv 1 rfl))
    have HS := Lib.hid S
    clear S Hfd
    go_wp2_with fail
    refine (Hf.out).mono ?_
    rintro e w4 ⟨q, b, rfl, hb4, hq⟩
    have S4 := HS.out.below hb4
    have Hb4 := Lib.hid (Hb3.out.trans (hb4.mono Hb3.out.size))
    have Hq := Lib.hid hq
    obtain ⟨O, hO⟩ : ∃ O, O = w4.heap.size := ⟨_, rfl⟩
    have S6 := (S4.newAt (evCs q.e q.A q.c) 47 O hO).front
    have HS6 : Hid (Mem w0 _ (.loc O (evCs q.e q.A q.c) 47 :: .loc Y (evCs x A c) 47 :: logP X K l.length ck (.slice A0 qs.length c0) B qs AT La GN (.mapG keyStr GN Lg :: ch))) := S6
    have T6 : Mem w _ [.loc O (evCs q.e q.A q.c) 47] := ((Mem.start w).below Hb4.out).newAt (evCs q.e q.A q.c) 47 O hO
    clear Hf hb4 hq S4 S6 HS y0 Hb3
    go_upto_region 5 with fail
    rw [← hO]
    clear hO
    generalize World.alloc _ _ = w5 at HS6 T6 ⊢
    have Hb5 := Lib.hid T6.b
    have S := HS6.out
    clear T6 HS6 Hb4
    rcases Hq.out with ⟨rfl, hq⟩ | ⟨rfl, hq, rfl⟩
    · obtain ⟨j, hj, hid⟩ := hasE_some hq
      have Hqm := Lib.hid (List.mem_of_getElem? hj)
      have Hid' := Lib.hid hid
      clear hq Hq hj hid
      refine wp_region_mix (fun wx => LV wx X (logCs K l.length ck (.slice A0 qs.length c0) AT GN) 83 ∧ LV wx Y (evCs x A c) 47 ∧ LV wx O (evCs q.e q.A q.c) 47) [(true, 0), (true, 1), (true, 2), (true, 3), (false, 4), (true, 5), (true, 6), (true, 7), (true, 8), (true, 9), (true, 10), (true, 11), (true, 12), (false, 13), (true, 14), (true, 15)] (by kernel_rfl) (by kernel_rfl) (fun w' hd => ⟨(S.below (hd.below _)).lv 2 rfl, (S.below (hd.below _)).lv 1 rfl, (S.below (hd.below _)).lv 0 rfl⟩) (fun KK hKK wd hd => ?_)
      have S7 := S.below (hd.below _)
      have Hb7 := Lib.hid (Hb5.out.trans ((hd.below w5.heap.size).mono Hb5.out.size))
      have hC : LV wd X (logCs K l.length ck (.slice A0 qs.length c0) AT GN) 83 ∧ LV wd Y (evCs x A c) 47 ∧ LV wd O (evCs q.e q.A q.c) 47 := ⟨S7.lv 2 rfl, S7.lv 1 rfl, S7.lv 0 rfl⟩
      have HS7 := Lib.hid S7
      clear hd S Hb5 S7
      refine mpR ?_
      refine mix_loadH (.agg (evCs q.e q.A q.c)) rfl rfl rfl (fun w' h => loadEvA h.2.2) ?_
      refine mpR ?_
      refine mix_loadH (.agg (evCs x A c)) rfl rfl rfl (fun w' h => loadEvA h.2.1) ?_
      refine mix_l rfl (fun K9 hK9 => ?_) hC
      have Ho := Lib.hid (Hsm.out q Hqm.out wd Hb7.out)
      go_wp2_with fail
      refine (Ho.out).mono ?_
      rintro e w8 ⟨bb, rfl, hbb, hb8⟩
      have S8 := HS7.out.below hb8
      have Hbb := Lib.hid hbb
      clear hC HS7 Ho hbb
      have hC : LV w8 X (logCs K l.length ck (.slice A0 qs.length c0) AT GN) 83 ∧ LV w8 Y (evCs x A c) 47 ∧ LV w8 O (evCs q.e q.A q.c) 47 := ⟨S8.lv 2 rfl, S8.lv 1 rfl, S8.lv 0 rfl⟩
      have HS7 := Lib.hid S8
      clear S8 hb8
      go_wp2_with fail
      refine ⟨hC, ?_⟩
      cases bb
      · have Hne : Hid (q.e ≠ x) := fun e => by have := Hbb.out.2 e; cases this
        refine mpR ?_
        refine mix_loadH (.map (some GN)) rfl rfl rfl (fun w' h => loadC1 rfl (h.1.cell 3 _ rfl)) ?_
        refine mpR ?_
        refine mix_loadH (.string x.id) rfl rfl rfl (fun w' h => loadC1 rfl (h.2.1.cell 0 _ rfl)) ?_
        refine mpR ?_
        refine mix_l rfl (fun K9 hK9 => ?_) hC
        have hlk := gone_g (HS7.out.ok (.mapG keyStr GN Lg) (.tail _ (.tail _ (.tail _ (.tail _ (.tail _ (.tail _ (.head _)))))))) (T := 81) (by kernel_rfl) Hgn.out x.id
        have hg0 : hasId (Lg.map Prod.fst) x.id = false := hasId_not (by rw [← Hid'.out]; exact Hap.out q Hqm.out)
        rw [hg0] at hlk
        go_wp2_with fail
        refine ⟨hC, ?_⟩
        clear hlk hg0
        refine mpR ?_
        refine mix_nil ?_
        simp only [Exit.then]
        refine hKK _ _ ?_
        clear hKK KK hC
        have HS9 : Hid (Mem w0 w8 (logP X K l.length ck (.slice A0 qs.length c0) B qs AT La GN (.mapG keyStr GN Lg :: ch))) := (HS7.out.del 0).del 0
        go_wp2_with fail
        go_ret2
        exact ⟨false, 13, rfl, .inr (.inr (.inl ⟨rfl, ⟨q.e, List.mem_map_of_mem Hqm.out, Hid'.out, Hne.out⟩, rfl, rfl⟩)), .inl ⟨rfl, HS9.out⟩⟩
      · have He : Hid (q.e = x) := Hbb.out.1 rfl
        refine mpR ?_
        refine mix_l rfl (fun K9 hK9 => ?_) hC
        go_wp2_with fail
        refine mpR ?_
        refine mix_nil ?_
        simp only [Exit.then]
        refine hKK _ _ ?_
        clear hKK KK hC
        have HS9 : Hid (Mem w0 w8 (logP X K l.length ck (.slice A0 qs.length c0) B qs AT La GN (.mapG keyStr GN Lg :: ch))) := (HS7.out.del 0).del 0
        go_wp2_with fail
        go_ret2
        exact ⟨false, 0, rfl, .inr (.inl ⟨rfl, by rw [← He.out]; exact List.mem_map_of_mem Hqm.out, rfl, rfl⟩), .inl ⟨rfl, HS9.out⟩⟩
    · have Hno : Hid (∀ y ∈ qs.map EQ.e, y.id ≠ x.id) := fun y hy => by
        obtain ⟨q, hqm, rfl⟩ := List.mem_map.1 hy
        exact hasE_none.1 hq q hqm
      clear hq Hq
      refine wp_region_mix (fun wx => LV wx X (logCs K l.length ck (.slice A0 qs.length c0) AT GN) 83 ∧ LV wx Y (evCs x A c) 47 ∧ LV wx O (evCs zqE.e zqE.A zqE.c) 47) [(true, 0), (true, 1), (true, 2), (true, 3), (false, 4), (true, 5), (true, 6), (true, 7), (true, 8), (true, 9), (true, 10), (true, 11), (true, 12), (false, 13), (true, 14), (true, 15)] (by kernel_rfl) (by kernel_rfl) (fun w' hd => ⟨(S.below (hd.below _)).lv 2 rfl, (S.below (hd.below _)).lv 1 rfl, (S.below (hd.below _)).lv 0 rfl⟩) (fun KK hKK wd hd => ?_)
      have S7 := S.below (hd.below _)
      have Hb7 := Lib.hid (Hb5.out.trans ((hd.below w5.heap.size).mono Hb5.out.size))
      have hC : LV wd X (logCs K l.length ck (.slice A0 qs.length c0) AT GN) 83 ∧ LV wd Y (evCs x A c) 47 ∧ LV wd O (evCs zqE.e zqE.A zqE.c) 47 := ⟨S7.lv 2 rfl, S7.lv 1 rfl, S7.lv 0 rfl⟩
      have HS7 := Lib.hid S7
      clear hd S Hb5 S7
      refine mpR ?_
      refine mix_l rfl (fun K9 hK9 => ?_) hC
      go_wp2_with fail
      refine mpR ?_
      refine mix_loadH (.map (some GN)) rfl rfl rfl (fun w' h => loadC1 rfl (h.1.cell 3 _ rfl)) ?_
      refine mpR ?_
      refine mix_loadH (.string x.id) rfl rfl rfl (fun w' h => loadC1 rfl (h.2.1.cell 0 _ rfl)) ?_
      refine mpR ?_
      refine mix_l rfl (fun K9 hK9 => ?_) hC
      have hlk := gone_g (HS7.out.ok (.mapG keyStr GN Lg) (.tail _ (.tail _ (.tail _ (.tail _ (.tail _ (.tail _ (.head _)))))))) (T := 81) (by kernel_rfl) Hgn.out x.id
      obtain ⟨g, hg⟩ : ∃ g, hasId (Lg.map Prod.fst) x.id = g := ⟨_, rfl⟩
      rw [hg] at hlk
      have Hg := Lib.hid hg
      clear hg
      go_wp2_with fail
      refine ⟨hC, ?_⟩
      clear hlk
      refine mpR ?_
      refine mix_nil ?_
      simp only [Exit.then]
      refine hKK _ _ ?_
      clear hKK KK hC
      have HS9 : Hid (Mem w0 wd (.loc Y (evCs x A c) 47 :: logP X K l.length ck (.slice A0 qs.length c0) B qs AT La GN (.mapG keyStr GN Lg :: ch))) := HS7.out.del 0
      cases g
      · have Hgn0 : Hid (x.id ∉ Lg.map Prod.fst) := hasId_no Hg.out
        have l0 := (HS9.out.lv 1 rfl).all
        have y0 := (HS9.out.lv 0 rfl).all
        have hln : ((5000 : Int) ≤ (qs.length : Int)) = False := by have := Hl.out; simp; omega
        have Hp := Lib.hid (Hpt.out wd Hb7.out (HS9.out.del 0))
        go_wp2_with fail
        refine (Hp.out).mono ?_
        rintro e w9 ⟨i, q9, v9, rfl, hqx, hpl, S9⟩
        have Hf := Lib.hid (⟨i, q9, v9, hqx, hpl, S9⟩ : ∃ (i : Nat) (q : EQ) (v' : Value), q.e = x ∧ IsPlE (qs.map EQ.e) x i ∧ Mem w0 w9 (logP X K l.length ck v' B (qs.take i ++ q :: qs.drop i) AT (updG x.id (.int .i64 x.at') La) GN (.mapG keyStr GN Lg :: ch)))
        clear hqx hpl S9 Hp
        go_wp2_with fail
        go_ret2
        exact ⟨true, 0, rfl, .inr (.inr (.inr (.inr ⟨rfl, Hno.out, Hgn0.out, rfl, rfl⟩))), .inr ⟨rfl, Hf.out⟩⟩
      · have Hgn1 : Hid (x.id ∈ Lg.map Prod.fst) := (hasId_iff _ _).1 Hg.out
        have HS10 : Hid (Mem w0 wd (logP X K l.length ck (.slice A0 qs.length c0) B qs AT La GN (.mapG keyStr GN Lg :: ch))) := HS9.out.del 0
        go_wp2_with fail
        go_ret2
        exact ⟨false, 0, rfl, .inr (.inr (.inr (.inl ⟨rfl, Hno.out, Hgn1.out, rfl, rfl⟩))), .inl ⟨rfl, HS10.out⟩⟩
  · have Hn : Hid (¬ F = 0) := hE
    have HS : Hid (Mem w0 w3 (logP X K l.length ck (.slice A0 qs.length c0) B qs AT La GN (.mapG keyStr GN Lg :: ch))) := S.del 0
    clear S
    go_wp2_with fail
    go_ret2
    exact ⟨false, F, rfl, .inl ⟨Hn.out, rfl, rfl⟩, .inl ⟨rfl, HS.out⟩⟩
end Go.Proofs.YtmlpkejeglpciaaGreatDoor

/- (*Log).Retract: an id is retracted, and its event goes. -/
namespace Go.Proofs.YtmlpkejeglpciaaGreatDoor
open Go Go.RowKit
def GivesRetL (X : Nat) (K : Option Addr) (n ck : Nat) (v : Value) (B : Nat) (qs : List EQ) (AT : Nat) (La : List (ByteArray × Value)) (GN : Nat) (Lg : List (ByteArray × Value)) (s : ByteArray) (w0 : World) (ch : List Chunk) (e : Ending) (w' : World) : Prop :=
  ∃ (ok : Bool) (er : Int), e = .returned (.tuple #[.bool ok, .int .i64 er]) ∧ RetTo (qs.map EQ.e) (Lg.map Prod.fst) s (L.isKey s) ok er ∧
    ((L.isKey s = false ∧ Mem w0 w' (logP X K n ck v B qs AT La GN (.mapG keyStr GN Lg :: ch))) ∨
     (L.isKey s = true ∧ hasE s qs = none ∧ Mem w0 w' (logP X K n ck v B qs AT La GN (.mapG keyStr GN (updG s (.bool true) Lg) :: ch))) ∨
     (L.isKey s = true ∧ ∃ (i : Nat) (q : EQ) (v' : Value), qs[i]? = some q ∧ q.e.id = s ∧ Mem w0 w' (logP X K n ck v' B (qs.take i ++ qs.drop (i + 1)) AT (delG s La) GN (.mapG keyStr GN (updG s (.bool true) Lg) :: ch))))
set_option maxHeartbeats 8000000 in
set_option maxRecDepth 100000 in
theorem ret_log {w0 w : World} (ch : List Chunk) (X : Nat) (K : Option Addr) (n ck : Nat) (v : Value) (B : Nat) (qs : List EQ) (AT : Nat) (La : List (ByteArray × Value)) (GN : Nat) (Lg : List (ByteArray × Value)) (s : ByteArray) (S : Mem w0 w (logP X K n ck v B qs AT La GN (.mapG keyStr GN Lg :: ch)))
    (hs : s.size ≤ 1000) (hlo : LogE (qs.map EQ.e)) (hat : AtOk qs La) (hgn : GnOk Lg) (hap : ∀ q ∈ qs, q.e.id ∉ Lg.map Prod.fst) (hl : qs.length ≤ 900) (hgl : Lg.length ≤ 900) :
    Calls Tryz.prog 46 #[.pointer (some ⟨X, 0, none⟩), .string s] w (GivesRetL X K n ck v B qs AT La GN Lg s w0 ch) := by
  have Hk := Lib.hid (isKey_any s w (Nat.le_trans hs (by decide)))
  have Htk : Hid (∀ w', Mem w0 w' (logP X K n ck v B qs AT La GN (.mapG keyStr GN (updG s (.bool true) Lg) :: ch)) → Calls Tryz.prog 60 #[.pointer (some ⟨X, 0, none⟩), .string s] w' (GivesTake X K n ck v B qs AT La GN s w0 (.mapG keyStr GN (updG s (.bool true) Lg) :: ch))) := fun w' S' =>
    take_log _ X K n ck v B qs AT La GN s S' hat hlo hl
  have hM : MapG keyStr w GN Lg := S.ok (.mapG keyStr GN Lg) (.tail _ (.tail _ (.tail _ (.tail _ (.head _)))))
  have hln := len_g hM (T := 81) (E := 4) (by kernel_rfl)
  have hlk := gone_g hM (T := 81) (by kernel_rfl) hgn s
  have HS := Lib.hid S
  have x0 := (S.lv 0 rfl).all
  have Hap := Lib.hid hap
  have hgl2 : ((5000 : Int) ≤ (Lg.length : Int)) = False := by simp; omega
  cases hk : L.isKey s
  · rw [hk] at Hk
    have Hf := Lib.hid hk
    clear hk S hM hap hat hlo hgn hlk hln hl hgl hgl2
    go_enter Tryz.func46, Tryz.ntmps46
    go_wp2_with fail
    refine (Hk.out).mono ?_
    rintro e w2 ⟨rfl, rfl⟩
    clear Hk
    go_wp2_with fail
    go_ret2
    exact ⟨false, 5, rfl, .inl ⟨Hf.out, rfl, rfl⟩, .inl ⟨Hf.out, HS.out⟩⟩
  · rw [hk] at Hk
    have Hf := Lib.hid hk
    obtain ⟨g, hg⟩ : ∃ g, hasId (Lg.map Prod.fst) s = g := ⟨_, rfl⟩
    rw [hg] at hlk
    have Hg := Lib.hid hg
    clear hk S hM hap hat hlo hgn hl hgl hg
    go_enter Tryz.func46, Tryz.ntmps46
    go_wp2_with fail
    refine (Hk.out).mono ?_
    rintro e w2 ⟨rfl, rfl⟩
    clear Hk
    go_wp2_with (first | (at_mapUpdate; refine HS.out.putG 4 rfl (T := 81) (E := 4) (by kernel_rfl) rfl _ _ _ rfl rfl s rfl (.bool true) rfl ?_; intro w3 S3))
    have S4 : Mem w0 w3 (logP X K n ck v B qs AT La GN (.mapG keyStr GN (updG s (.bool true) Lg) :: ch)) := S3
    have Ht := Lib.hid (Htk.out w3 S4)
    clear S3 S4 HS x0 hlk hln Htk
    refine (Ht.out).mono ?_
    rintro e w4 (⟨hn, rfl, S5⟩ | ⟨i, q, v', hi, hid, rfl, S5⟩)
    · have Hn := Lib.hid hn
      have HS5 := Lib.hid S5
      clear hn S5 Ht
      go_wp2_with fail
      go_ret2
      refine ⟨false, 0, rfl, ?_, .inr (.inl ⟨Hf.out, Hn.out, HS5.out⟩)⟩
      cases g
      · exact .inr (.inr (.inr ⟨Hf.out, hasId_no Hg.out, fun y hy => by
          obtain ⟨q, hqm, rfl⟩ := List.mem_map.1 hy
          exact hasE_none.1 Hn.out q hqm, rfl, rfl⟩))
      · exact .inr (.inl ⟨Hf.out, (hasId_iff _ _).1 Hg.out, rfl, rfl⟩)
    · have Hi := Lib.hid hi
      have Hid' := Lib.hid hid
      have HS5 := Lib.hid S5
      clear hi hid S5 Ht
      go_wp2_with fail
      go_ret2
      exact ⟨true, 0, rfl, .inr (.inr (.inl ⟨Hf.out, by rw [← Hid'.out]; exact Hap.out q (List.mem_of_getElem? Hi.out), ⟨q.e, List.mem_map_of_mem (List.mem_of_getElem? Hi.out), Hid'.out⟩, rfl, rfl⟩)), .inr (.inr ⟨Hf.out, i, q, v', Hi.out, Hid'.out, HS5.out⟩)⟩
end Go.Proofs.YtmlpkejeglpciaaGreatDoor
