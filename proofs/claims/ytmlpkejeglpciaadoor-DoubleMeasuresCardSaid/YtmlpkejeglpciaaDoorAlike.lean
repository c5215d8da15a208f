/- What slices.Equal of code points, person.alike and handref2.alike return. -/
import Derived.Test.YtmlpkejeglpciaaDoorMeas
import Derived.Test.YtmlpkejeglpciaaDoorFind
import Derived.Test.YtmlpkejeglpciaaDoorFar
namespace Go.Proofs.YtmlpkejeglpciaaDoor
open Go.RowKit
/-- the cells of a slice of code points -/
def Cps (w : World) (aa : Option Addr) (a : List Int) : Prop :=
  ∀ i, i < a.length → ∃ blk off x, aa = some ⟨blk, off, none⟩ ∧ blk < w.heap.size ∧ a[i]? = some x ∧ w.cell? ⟨blk, off + i, none⟩ = some (.int .i32 x)
theorem Cps.below {w w' : World} {aa : Option Addr} {a : List Int} (h : Cps w aa a) (hb : Below w.heap.size w w') : Cps w' aa a := by
  intro i hi
  obtain ⟨blk, off, x, e1, e2, e3, e4⟩ := h i hi
  exact ⟨blk, off, x, e1, Nat.lt_of_lt_of_le e2 hb.size, e3, (hb.cell (p := ⟨blk, off + i, none⟩) e2).trans e4⟩
set_option maxHeartbeats 4000000 in
set_option maxRecDepth 100000 in
theorem equalRune_any (aa ab : Option Addr) (a b : List Int) (ca cb : Nat) (w : World) (ha : Cps w aa a) (hb : Cps w ab b) (hna : a.length ≤ 100000000) (_hnb : b.length ≤ 100000000) :
    Calls Tryd.prog 62 #[.slice aa a.length ca, .slice ab b.length cb] w fun e w' => e = .returned (.bool (a == b)) ∧ Below w.heap.size w w' := by
  have Ha := Lib.hid ha
  have Hb := Lib.hid hb
  clear ha hb
  go_enter Tryd.func62, Tryd.ntmps62
  by_cases hl : a.length = b.length
  · have hl' : ((a.length : Int) = (b.length : Int)) := by omega
    go_wp2_with fail
    go_loopw [13] (fun i wr => ∃ k : Nat, k ≤ a.length ∧ i = .int .i64 k ∧ (∀ p, p < k → a[p]? = b[p]?) ∧ Below w.heap.size w wr) (fun i _ => a.length - (intOf i).toNat)
    case atStart => exact ⟨0, by omega, rfl, (fun p h => by omega), Below.refl _ _⟩
    case round =>
      obtain ⟨k, hk, rfl, hp, hbl⟩ := hrel
      have Hp := Lib.hid hp
      clear hp
      by_cases hlt : k < a.length
      · obtain ⟨blk, off, x, rfl, hblk, hx, hc⟩ := Ha.out k hlt
        obtain ⟨blk', off', y, rfl, hblk', hy, hc'⟩ := Hb.out k (by omega)
        have d := (hbl.cell (p := ⟨blk, off + k, none⟩) hblk).trans hc
        have d' := (hbl.cell (p := ⟨blk', off' + k, none⟩) hblk').trans hc'
        have Hx := Lib.hid hx
        have Hy := Lib.hid hy
        clear hc hc' hx hy
        by_cases hxy : x = y
        · subst hxy
          go_wp2_with fail
          go_quiet (fail)
          go_wp2_with fail
          go_roundw
          case rel =>
            refine ⟨k + 1, by omega, by go_num, fun p h => ?_, hbl.trans (below_drewN _ _ _)⟩
            by_cases hpk : p = k
            · subst hpk; rw [Hx.out, Hy.out]
            · exact Hp.out p (by omega)
          case measure => simp [intOf]; omega
        · go_wp2_with fail
          go_quiet (fail)
          go_wp2_with fail
          go_ret
          refine ⟨ret_b ?_, hbl.trans (below_drewN _ _ _)⟩
          symm
          rw [beq_eq_false_iff_ne]
          intro h
          have h1 := Hx.out
          rw [h, Hy.out] at h1
          exact hxy (Option.some.inj h1).symm
      · go_wp2_with fail
        go_ret
        refine ⟨ret_b ?_, hbl⟩
        symm
        rw [beq_iff_eq]
        apply List.ext_getElem?
        intro p
        by_cases h : p < k
        · exact Hp.out p h
        · rw [List.getElem?_eq_none (by omega), List.getElem?_eq_none (by omega)]
  · have hl' : ¬ ((a.length : Int) = (b.length : Int)) := by omega
    go_wp2_with fail
    go_ret
    refine ⟨ret_b ?_, Below.refl _ _⟩
    symm
    rw [beq_eq_false_iff_ne]
    intro h
    exact hl (by rw [h])
end Go.Proofs.YtmlpkejeglpciaaDoor
