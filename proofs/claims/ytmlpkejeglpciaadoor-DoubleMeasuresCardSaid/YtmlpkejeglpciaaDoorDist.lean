/- What person.distance returns: the edit distance of two lists of numbers, by rows. -/
import Derived.Test.YtmlpkejeglpciaaDoorSlices
import Derived.Test.YtmlpkejeglpciaaDoorDistLaw
import Derived.Laws.Cover1
namespace Go.Proofs.YtmlpkejeglpciaaDoor
open Go.RowKit

theorem tyInts : STy 22 3 1 8 (.int .i64 0) := ⟨Tryd.underlying22, by kernel_rfl, rfl, by decide⟩

/-- n numbers as cells -/
def rowOf (n : Nat) (g : Nat → Nat) : List Value := (List.range n).map fun t => Value.int .i64 (g t)
theorem rowOf_len (n : Nat) (g : Nat → Nat) : (rowOf n g).length = n := by simp [rowOf]
theorem rowOf_get (n : Nat) (g : Nat → Nat) (j : Nat) (h : j < n) : (rowOf n g)[j]? = some (.int .i64 (g j)) := by simp [rowOf, h]
theorem rowOf_set (n : Nat) (g : Nat → Nat) (j u : Nat) : (rowOf n g).set j (.int .i64 u) = rowOf n (fun t => if t = j then u else g t) := by
  apply List.ext_getElem?
  intro i
  rw [List.getElem?_set]
  by_cases hi : i < n
  · rw [rowOf_get n (fun t => if t = j then u else g t) i hi, rowOf_get n g i hi]
    by_cases hij : j = i
    · subst hij; simp [rowOf_len, hi]
    · rw [if_neg hij, if_neg (Ne.symm hij)]
  · by_cases hij : j = i
    · subst hij; simp [hi, rowOf]
    · rw [if_neg hij]; simp [rowOf, hi]
/-- the row of n numbers is there -/
def RowIs (B n : Nat) (g : Nat → Nat) (w : World) : Prop := w.ownsRow B 3 1 (.slice (some ⟨B, 0, none⟩) n n) n (rowOf n g)
theorem RowIs.cell {B n : Nat} {g : Nat → Nat} {w : World} (h : RowIs B n g w) (j : Nat) (hj : j < n) : w.cell? ⟨B, j, none⟩ = some (.int .i64 (g j)) := by
  have := World.ownsRow.cellAt h j (by omega)
  rw [this, rowOf_get n g j hj]
theorem RowIs.free {B n : Nat} {g : Nat → Nat} {w : World} (h : RowIs B n g w) (j : Nat) : w.frozen? ⟨B, j, none⟩ = false := World.ownsRow.frozenAt h j
theorem RowIs.put {B n : Nat} {g : Nat → Nat} {w : World} (h : RowIs B n g w) (j u : Nat) : RowIs B n (fun t => if t = j then u else g t) (w.setCell ⟨B, j, none⟩ (.int .i64 u)) := by
  have := (World.ownsRow.stored h j (.int .i64 u)).1
  unfold RowIs
  rw [← rowOf_set]
  exact this
theorem rowOf_made (n : Nat) : (madeCells (Value.int .i64 0).cells (n * 1)).toList = rowOf n (fun _ => 0) := by
  rw [Nat.mul_one]
  show (madeCells #[Value.int .i64 0] n).toList = _
  rw [toList_madeCells_one]
  apply List.ext_getElem?
  intro i
  by_cases hi : i < n
  · rw [rowOf_get n _ i hi]; simp [hi]
  · simp [rowOf, hi]

@[go_sem high] theorem run_min3 {P : Program} (w : World) (ts : Array TypeId) (t : TypeId) (x y z : Int) :
    (Builtin.min_ ts t #[.int .i64 x, .int .i64 y, .int .i64 z]).run P w = .ok (.int .i64 (min (min x y) z)) w := by
  rw [run_min_int3]
  congr 2
  rw [Int.min_def, Int.min_def]
  repeat' split
  all_goals omega

set_option maxHeartbeats 2000000 in
set_option maxRecDepth 100000 in
theorem dist_any (va vb : Value) (a b : List Int) (w : World) (ha : Rd w va a.length 1 (a.map (Value.int .i32))) (hb : Rd w vb b.length 1 (b.map (Value.int .i32))) (hna : a.length ≤ 100000000) (hnb : b.length ≤ 100000000) :
    Calls Tryd.prog 47 #[va, vb] w fun e w' => e = .returned (.int .i64 (D.pre a b a.length b.length)) ∧ Below w.heap.size w w' := by
  obtain ⟨aa, ca, rfl⟩ : ∃ x c, va = .slice x a.length c := by
    rcases ha.2 with ⟨x, c, rfl, h0⟩ | ⟨blk, off, cap, rfl, _⟩
    · exact ⟨x, c, by rw [h0]⟩
    · exact ⟨_, cap, rfl⟩
  obtain ⟨ab, cb, rfl⟩ : ∃ x c, vb = .slice x b.length c := by
    rcases hb.2 with ⟨x, c, rfl, h0⟩ | ⟨blk, off, cap, rfl, _⟩
    · exact ⟨x, c, by rw [h0]⟩
    · exact ⟨_, cap, rfl⟩
  have Ha : Hid (∀ i, i < a.length → ∃ blk off x, aa = some ⟨blk, off, none⟩ ∧ blk < w.heap.size ∧ a[i]? = some x ∧ w.cell? ⟨blk, off + i, none⟩ = some (.int .i32 x)) := by
    intro i hi
    rcases ha.2 with ⟨x, c, he, h0⟩ | ⟨blk, off, cap, he, hk, hc⟩
    · omega
    · cases he
      exact ⟨blk, off, _, rfl, hk, List.getElem?_eq_getElem hi, hc i _ (by simp [hi])⟩
  have Hb : Hid (∀ i, i < b.length → ∃ blk off x, ab = some ⟨blk, off, none⟩ ∧ blk < w.heap.size ∧ b[i]? = some x ∧ w.cell? ⟨blk, off + i, none⟩ = some (.int .i32 x)) := by
    intro i hi
    rcases hb.2 with ⟨x, c, he, h0⟩ | ⟨blk, off, cap, he, hk, hc⟩
    · omega
    · cases he
      exact ⟨blk, off, _, rfl, hk, List.getElem?_eq_getElem hi, hc i _ (by simp [hi])⟩
  clear ha hb
  go_enter Tryd.func47, Tryd.ntmps47
  go_wp2_with (at_make; refine make_n tyInts rfl _ _ rfl w.heap.size (b.length + 1) _ _ rfl rfl (by omega) (by omega) (Nat.le_refl _) (by omega) (by decide) ?_; intro w1 hown1 hg1 hl1; rw [rowOf_made] at hown1; clear hg1)
  have Hr1 := Lib.hid (show RowIs w.heap.size (b.length + 1) (fun _ => 0) w1 from hown1)
  clear hown1
  go_loopw [19] (fun i wr => ∃ k g, k ≤ b.length + 1 ∧ i = .int .i64 k ∧ RowIs w.heap.size (b.length + 1) g wr ∧ (∀ t, t < k → g t = t) ∧ Below w.heap.size w wr) (fun i _ => b.length + 1 - (intOf i).toNat)
  case atStart => exact ⟨0, fun _ => 0, by omega, rfl, Hr1.out, fun t ht => absurd ht (by omega), hl1⟩
  case round =>
    obtain ⟨k, g, hk, rfl, hrow, hg, hbl⟩ := hrel
    clear Hr1 hl1
    have Hrow := Lib.hid hrow
    have Hg := Lib.hid hg
    clear hrow hg
    by_cases hlt : k < b.length + 1
    · have c1 := Hrow.out.cell k hlt
      have f1 := Hrow.out.free k
      go_wp2_with fail
      go_roundw
      case rel =>
        refine ⟨k + 1, _, by omega, by go_num, Hrow.out.put k k, fun t ht => ?_, hbl.setCell (p := ⟨w.heap.size, k, none⟩) (Nat.le_refl _) _⟩
        by_cases h : t = k
        · rw [if_pos h, h]
        · rw [if_neg h]; exact Hg.out t (by omega)
      case measure => simp [intOf]; omega
    · have Hp0 : Hid (∀ t, t ≤ b.length → g t = D.pre a b 0 t) := fun t ht => Hg.out t (by omega)
      clear Hg
      go_wp2_with fail
      obtain ⟨wo, hwo⟩ : ∃ wo : World, wo = wr := ⟨_, rfl⟩
      subst hwo
      go_loopw [29] (fun i wr => ∃ k g, k ≤ a.length ∧ i = .int .i64 k ∧ RowIs w.heap.size (b.length + 1) g wr ∧ (∀ t, t ≤ b.length → g t = D.pre a b k t) ∧ Below w.heap.size w wr) (fun i _ => a.length - (intOf i).toNat)
      case atStart => exact ⟨0, g, by omega, rfl, Hrow.out, Hp0.out, hbl⟩
      case round =>
        clear Hp0 Hrow hbl hlt hk
        obtain ⟨i, g2, hi, rfl, hrow, hg, hbl⟩ := hrel
        have Hrow := Lib.hid hrow
        have Hg := Lib.hid hg
        clear hrow hg
        by_cases hlt : i < a.length
        · have c0 := Hrow.out.cell 0 (by omega)
          rw [Hg.out 0 (by omega), D.pre_col a b i] at c0
          have f0 := Hrow.out.free 0
          obtain ⟨blk, off, x, rfl, hblk, hx, hca⟩ := Ha.out i hlt
          have Hx := Lib.hid hx
          clear hx
          have hca' : wr.cell? ⟨blk, off + i, none⟩ = some (.int .i32 x) := by rw [hbl.cell (p := ⟨blk, off + i, none⟩) hblk]; exact hca
          clear hca
          have Hrow2 := Lib.hid (Hrow.out.put 0 (i + 1))
          have hbl2 := hbl.setCell (p := ⟨w.heap.size, 0, none⟩) (Nat.le_refl _) (.int .i64 ((i + 1 : Nat) : Int))
          go_wp2_with fail
          have e1 : (.int .i64 ((i : Int) + 1) : Value) = .int .i64 ((i + 1 : Nat) : Int) := by go_num
          rw [e1]
          clear e1 c0 f0 hca'
          generalize wr.setCell ⟨w.heap.size, 0, none⟩ (.int .i64 ((i + 1 : Nat) : Int)) = wz at *
          go_loopw [9, 43] (fun bf j wr => ∃ k g, k ≤ b.length ∧ j = .int .i64 k ∧ bf = .int .i64 (D.pre a b i k) ∧ RowIs w.heap.size (b.length + 1) g wr ∧ (∀ t, t ≤ b.length → g t = if t ≤ k then D.pre a b (i + 1) t else D.pre a b i t) ∧ Below w.heap.size w wr) (fun _ j _ => b.length - (intOf j).toNat)
          case atStart =>
            refine ⟨0, _, by omega, rfl, by rw [D.pre_col], Hrow2.out, fun t ht => ?_, hbl2⟩
            by_cases h : t = 0
            · subst h; simp [D.pre_col]
            · rw [if_neg h, if_neg (by omega)]; exact Hg.out t ht
          case round =>
            clear Hrow2 hbl2 Hrow Hg hbl
            obtain ⟨j, g3, hj, rfl, rfl, hrow, hg, hbl⟩ := hrel
            have Hrow := Lib.hid hrow
            have Hg := Lib.hid hg
            clear hrow hg
            by_cases hjl : j < b.length
            · obtain ⟨blk2, off2, y, rfl, hblk2, hy, hcb⟩ := Hb.out j hjl
              have Hy := Lib.hid hy
              clear hy
              have hcb' : wr.cell? ⟨blk2, off2 + j, none⟩ = some (.int .i32 y) := by rw [hbl.cell (p := ⟨blk2, off2 + j, none⟩) hblk2]; exact hcb
              clear hcb
              have cj := Hrow.out.cell j (by omega)
              have cj1 := Hrow.out.cell (j + 1) (by omega)
              rw [Hg.out j (by omega), if_pos (Nat.le_refl _)] at cj
              rw [Hg.out (j + 1) (by omega), if_neg (by omega)] at cj1
              have fj1 := Hrow.out.free (j + 1)
              have l1 := D.pre_le a b i j
              have l2 := D.pre_le a b (i + 1) j
              have l3 := D.pre_le a b i (j + 1)
              have Hs := Lib.hid (D.pre_succ a b i j)
              have Hput := Lib.hid (Hrow.out.put (j + 1) (D.pre a b (i + 1) (j + 1)))
              have hblp := hbl.setCell (p := ⟨w.heap.size, j + 1, none⟩) (Nat.le_refl _) (.int .i64 ((D.pre a b (i + 1) (j + 1) : Nat) : Int))
              have Hend : Hid (∀ t, t ≤ b.length → (fun t => if t = j + 1 then D.pre a b (i + 1) (j + 1) else g3 t) t = if t ≤ j + 1 then D.pre a b (i + 1) t else D.pre a b i t) := fun t ht => by
                show (if t = j + 1 then _ else _) = _
                by_cases h : t = j + 1
                · subst h; simp
                · rw [if_neg h, Hg.out t ht]
                  by_cases h2 : t ≤ j
                  · rw [if_pos h2, if_pos (by omega)]
                  · rw [if_neg h2, if_neg (by omega)]
              obtain ⟨p1, hp1⟩ : ∃ p, D.pre a b i j = p := ⟨_, rfl⟩
              obtain ⟨p2, hp2⟩ : ∃ p, D.pre a b (i + 1) j = p := ⟨_, rfl⟩
              obtain ⟨p3, hp3⟩ : ∃ p, D.pre a b i (j + 1) = p := ⟨_, rfl⟩
              have Hp3 := Lib.hid hp3
              rw [hp1, hp2, hp3] at Hs
              rw [hp2] at cj
              rw [hp3] at cj1
              rw [hp1] at l1 ⊢
              rw [hp2] at l2
              rw [hp3] at l3
              clear hp1 hp2 hp3
              by_cases hxy : x = y
              · have e1 : (x != y) = false := by simp [hxy]
                have hab : a[i]? = b[j]? := by rw [Hx.out, Hy.out, hxy]
                rw [if_pos hab] at Hs
                have Hv : Hid (min (min (p1 : Int) ((p2 : Int) + 1)) ((p3 : Int) + 1) = ((D.pre a b (i + 1) (j + 1) : Nat) : Int)) := by show _ = _; rw [Hs.out]; omega
                clear hxy hab
                go_wp2_with fail
                rw [show (min (p1 : Int) (min (p2 : Int) (p3 : Int) + 1)) = ((D.pre a b (i + 1) (j + 1) : Nat) : Int) from by rw [← Hv.out]; omega]
                go_roundw
                case rel => exact ⟨j + 1, _, by omega, by go_num, by rw [Hp3.out], Hput.out, Hend.out, hblp⟩
                case measure => simp [intOf]; omega
              · have e1 : (x != y) = true := by simpa using hxy
                have hab : ¬ a[i]? = b[j]? := by rw [Hx.out, Hy.out]; intro h; exact hxy (Option.some.inj h)
                rw [if_neg hab] at Hs
                have Hv : Hid (min (min ((p1 : Int) + 1) ((p2 : Int) + 1)) ((p3 : Int) + 1) = ((D.pre a b (i + 1) (j + 1) : Nat) : Int)) := by show _ = _; rw [Hs.out]; omega
                clear hxy hab
                go_wp2_with fail
                rw [show (min (p1 : Int) (min (p2 : Int) (p3 : Int)) + 1) = ((D.pre a b (i + 1) (j + 1) : Nat) : Int) from by rw [← Hv.out]; omega]
                go_roundw
                case rel => exact ⟨j + 1, _, by omega, by go_num, by rw [Hp3.out], Hput.out, Hend.out, hblp⟩
                case measure => simp [intOf]; omega
            · go_wp2_with fail
              go_roundw
              case rel =>
                refine ⟨i + 1, g3, by omega, by go_num, Hrow.out, fun t ht => ?_, hbl⟩
                rw [Hg.out t ht, if_pos (by omega)]
              case measure => simp [intOf]; omega
        · have hia : i = a.length := by omega
          have cm := Hrow.out.cell b.length (by omega)
          rw [Hg.out b.length (Nat.le_refl _), hia] at cm
          clear hia
          go_wp2_with fail
          go_ret
          exact ⟨rfl, hbl⟩
end Go.Proofs.YtmlpkejeglpciaaDoor
