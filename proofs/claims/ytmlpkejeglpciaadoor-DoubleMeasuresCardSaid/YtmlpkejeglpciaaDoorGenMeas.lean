/- What the generator Measures makes. -/
import Derived.Test.YtmlpkejeglpciaaDoorFacts
import Derived.Test.YtmlpkejeglpciaaDoorGenFlds
import Derived.Test.YtmlpkejeglpciaaDoorMeas
import Derived.Test.YtmlpkejeglpciaaDoorGenZone
namespace Go.Proofs.YtmlpkejeglpciaaDoor
open Go.RowKit
theorem tyMeas : STy 26 45 rMeas.size 40 (.agg #[.string ⟨#[]⟩, .int .i64 0, .int .i64 0, .int .i64 0]) := ⟨Tryd.underlying26, by kernel_rfl, rfl, by decide⟩
theorem flatMeas : rMeas.Flat Meas.cells := fun _ _ _ _ => Iff.rfl
theorem oneMeas (m : Meas) : ∀ u ∈ m.cells, u.oneCell' = true := fun u hu => by
  simp only [Meas.cells, List.mem_cons, List.not_mem_nil, or_false] at hu
  rcases hu with rfl | rfl | rfl | rfl <;> rfl
/-- measures are made -/
def DrawsMeas (b m : Nat) (w : World) (e : Ending) (w' : World) : Prop := ∃ (v : Value) (xs : List Meas), e = .returned v ∧ Own rMeas (Lt w.heap.size) w.heap.size 45 w' v xs ∧ xs.length ≤ 3 ∧ (∀ m ∈ xs, m.name.size ≤ 100) ∧ G b m w w'
theorem Names.at {w : World} (h : Names w) (k : Nat) (hk : k < 6) : ∃ s : ByteArray, s.size ≤ 100 ∧ w.cell? ⟨0, k, none⟩ = some (.string s) := by
  obtain ⟨h0, h1, h2, h3, h4, h5⟩ := h
  obtain rfl | rfl | rfl | rfl | rfl | rfl : k = 0 ∨ k = 1 ∨ k = 2 ∨ k = 3 ∨ k = 4 ∨ k = 5 := by omega
  · exact ⟨_, by decide, h0⟩
  · exact ⟨_, by decide, h1⟩
  · exact ⟨_, by decide, h2⟩
  · exact ⟨_, by decide, h3⟩
  · exact ⟨_, by decide, h4⟩
  · exact ⟨_, by decide, h5⟩
theorem names_set {xs : List Meas} {p : Nat} {x : Meas} (h : ∀ m ∈ xs, m.name.size ≤ 100) (hx : x.name.size ≤ 100) : ∀ m ∈ xs.set p x, m.name.size ≤ 100 := fun m hm => by
  rcases List.mem_or_eq_of_mem_set hm with h' | h'
  · exact h m h'
  · rw [h']; exact hx
theorem names_snoc {xs : List Meas} {x : Meas} (h : ∀ m ∈ xs, m.name.size ≤ 100) (hx : x.name.size ≤ 100) : ∀ m ∈ xs ++ [x], m.name.size ≤ 100 := fun m hm => by
  rcases List.mem_append.1 hm with h' | h'
  · exact h m h'
  · rw [List.mem_singleton.1 h']; exact hx
def measFact (B : Nat) (i : Nat) (v : Value) (w : World) : Prop :=
  match i with
  | 1 => IsI 0 5 v
  | 2 => ∃ k : Nat, k < 6 ∧ v = .pointer (some ⟨0, k, none⟩)
  | 3 => IsS 100 v
  | 5 => IsI 1 3 v
  | 7 => IsLit B [1, 5, 10, -3] v w
  | 8 => IsI (-3) 10 v
  | 9 => ∃ (s : ByteArray) (h p : Int), v = .agg #[.string s, .int .i64 h, .int .i64 0, .int .i64 p] ∧ s.size ≤ 100 ∧ 1 ≤ h ∧ h ≤ 3 ∧ -3 ≤ p ∧ p ≤ 10
  | 10 => IsNew B #[.string ⟨#[]⟩, .int .i64 0, .int .i64 0, .int .i64 0] 45 v w
  | _ => True
set_option maxHeartbeats 4000000 in
set_option maxRecDepth 100000 in
theorem measures_any (b m : Nat) (w : World) (hs : Strm b m w) (hm : m ≤ 100000000) (hN : Names w) (hNb : 0 ≠ b) :
    Calls Tryd.prog 4 #[.pointer (some ⟨b, 0, none⟩)] w (DrawsMeas b (m + 100) w) := by
  have S := (St.start hs).nil rMeas w.heap.size 45
  have HN := Lib.hid hN
  clear hs hN
  go_enter Tryd.func4, Tryd.ntmps4
  go_wp2_with fail
  refine (pick_le b _ _ _ (1) (3) S.g.s (by first | rfl | simp) (by first | rfl | simp) (intsIn_of (by decide)) (by simp) (by simp) (by omega)).mono ?_
  rintro e w1 ⟨n1, n1_lo, n1_hi, rfl, hk_w1, hs_w1⟩
  replace S := S.step hk_w1 hs_w1
  clear hk_w1 hs_w1
  obtain ⟨n, rfl⟩ := Int.eq_ofNat_of_zero_le (by omega : 0 ≤ n1)
  go_wp2_with fail
  go_loopw [3, 9] (fun v i wr => ∃ (k : Nat) (xs : List Meas), k ≤ n ∧ i = .int .i64 k ∧ xs.length = k ∧ (∀ m ∈ xs, m.name.size ≤ 100) ∧ St b (m + 1 + 20 * k) w wr [.own rMeas w.heap.size 45 v xs]) (fun _ i _ => n - (intOf i).toNat)
  case atStart => exact ⟨0, [], by omega, rfl, rfl, (fun _ h => by cases h), S.mono (by omega)⟩
  case round =>
    clear S
    obtain ⟨k, xs, hk, rfl, hxl, hsm, S⟩ := hrel
    have Hsm := Lib.hid hsm
    have Hxl := Lib.hid hxl
    have hxk : xs.length ≤ 3 := by omega
    have hxn : n ≤ k → 1 ≤ xs.length := fun h => by omega
    clear hsm hxl
    by_cases hkn : k < n
    · go_wp2_with fail
      refine wp_region_mixG 11 (fun _ => True) [.q 0, .q 4, .q 6, .f [1, 2, 3, 5, 7, 8, 9, 10], .e 11] (by kernel_rfl) (by kernel_rfl) (fun _ _ => trivial) (fun KK hKK wd hd => ?_)
      replace S := S.below (hd.below _)
      have hbd : b < wd.heap.size := Nat.lt_of_lt_of_le S.b0 S.g.size
      clear hd
      refine mpG ?_
      refine free_plan [(1, 12, []), (2, 13, [(1, 12)]), (3, 14, [(2, 13)]), (5, 16, [(1, 12)]), (7, 18, []), (8, 19, [(5, 16), (7, 18)]), (9, 20, [(3, 14), (5, 16), (8, 19)]), (10, 4, [])] rfl (by kernel_rfl) (fun c w' => G b (m + 1 + 20 * k + c) wd w') (SK b) (measFact wd.heap.size) (G.start S.g.s) (fun _ _ _ => trivial) ?_ (by rfl) ?_ ?_
      · refine all_cons (fun _ _ _ _ h => h) (all_cons (fun _ _ _ _ h => h) (all_cons (fun _ _ _ _ h => h) (all_cons (fun _ _ _ _ h => h) (all_cons (fun v _ _ k h => IsLit.keep h k hbd) (all_cons (fun _ _ _ _ h => h) (all_cons (fun _ _ _ _ h => h) (all_cons (fun v _ _ k h => IsNew.keep h k hbd) all_nil)))))))
      · refine all_cons ?_ (all_cons ?_ (all_cons ?_ (all_cons ?_ (all_cons ?_ (all_cons ?_ (all_cons ?_ (all_cons ?_ all_nil)))))))
        all_goals (intro o ho c ν w2 hc hinv hp; cases ho; simp only [fillD, List.foldl_cons, List.foldl_nil]; simp only [List.length_cons, List.length_nil] at hc)
        · go_wp2_with fail
          refine (next_any b _ _ _ hinv.s (by omega) (by omega) (by omega)).mono ?_
          rintro e w3 ⟨r, r_lo, r_hi, rfl, hk_w3, hs_w3⟩
          go_wp2_with fail
          refine ⟨_, rfl, hk_w3, (hinv.step hk_w3 hs_w3).mono (by omega), ?_⟩
          exact ⟨r, rfl, by omega, by omega⟩
        · obtain ⟨z, e1, z1, z2⟩ := (hp (1, 12) (by simp) : IsI 0 5 (ν 1))
          obtain ⟨q, rfl⟩ := Int.eq_ofNat_of_zero_le z1
          simp only [e1]
          go_wp2_with fail
          first | exact ⟨_, rfl, SK.refl _ _, hinv.mono (by omega), q, by omega, rfl⟩ | exact ⟨SK.refl _ _, hinv.mono (by omega), q, by omega, rfl⟩
        · obtain ⟨q, hq, e1⟩ := (hp (2, 13) (by simp) : ∃ k : Nat, k < 6 ∧ ν 2 = .pointer (some ⟨0, k, none⟩))
          obtain ⟨s, hs, hc⟩ := ((HN.out.keep S.g.k hNb).keep hinv.k hNb).at q hq
          simp only [e1]
          go_wp2_with fail
          first | exact ⟨_, rfl, SK.refl _ _, hinv.mono (by omega), s, rfl, hs⟩ | exact ⟨SK.refl _ _, hinv.mono (by omega), s, rfl, hs⟩
        · go_wp2_with fail
          refine (range_any b _ _ _ _ hinv.s (by omega) (by omega) (by omega) (by omega)).mono ?_
          rintro e w3 ⟨r, r_lo, r_hi, rfl, hk_w3, hs_w3⟩
          go_wp2_with fail
          refine ⟨_, rfl, hk_w3, (hinv.step hk_w3 hs_w3).mono (by omega), ?_⟩
          exact ⟨r, rfl, by omega, by omega⟩
        · go_wp2_with fail
          first | exact ⟨_, rfl, (SK.refl _ _).alloc _, (hinv.alloc _).mono (by omega), w2.heap.size, rfl, LV.new _ _ _ _ rfl, hinv.size⟩ | exact ⟨(SK.refl _ _).alloc _, (hinv.alloc _).mono (by omega), w2.heap.size, rfl, LV.new _ _ _ _ rfl, hinv.size⟩
        · have h7 : IsLit wd.heap.size [1, 5, 10, -3] (ν 7) w2 := hp (7, 18) (by simp)
          go_wp2_with fail
          refine (h7.pick hinv.s hbd (by simp) (by simp) (by omega)).mono ?_
          rintro e w3 ⟨r, hr, rfl, hk_w3, hs_w3⟩
          go_wp2_with fail
          refine ⟨_, rfl, hk_w3, (hinv.step hk_w3 hs_w3).mono (by omega), ?_⟩
          exact ⟨r, rfl, by simp at hr; omega, by simp at hr; omega⟩
        · obtain ⟨s, e1, h1⟩ := (hp (3, 14) (by simp) : IsS 100 (ν 3))
          obtain ⟨h, e2, h2, h3⟩ := (hp (5, 16) (by simp) : IsI 1 3 (ν 5))
          obtain ⟨p, e3, h4, h5⟩ := (hp (8, 19) (by simp) : IsI (-3) 10 (ν 8))
          simp only [e1, e2, e3]
          go_wp2_with fail
          first | exact ⟨_, rfl, SK.refl _ _, hinv.mono (by omega), s, h, p, rfl, h1, h2, h3, h4, h5⟩ | exact ⟨SK.refl _ _, hinv.mono (by omega), s, h, p, rfl, h1, h2, h3, h4, h5⟩
        · go_wp2_with fail
          first | exact ⟨_, rfl, (SK.refl _ _).alloc _, (hinv.alloc _).mono (by omega), w2.heap.size, rfl, LV.new _ _ _ _ rfl, hinv.size⟩ | exact ⟨(SK.refl _ _).alloc _, (hinv.alloc _).mono (by omega), w2.heap.size, rfl, LV.new _ _ _ _ rfl, hinv.size⟩
      · intro ν w2 hinv hf
        obtain ⟨s, hv, p, e9, hs, hh1, hh2, hp1, hp2⟩ := (hf (9, 20, [(3, 14), (5, 16), (8, 19)]) (by simp) : ∃ (s : ByteArray) (h p : Int), ν 9 = .agg #[.string s, .int .i64 h, .int .i64 0, .int .i64 p] ∧ s.size ≤ 100 ∧ 1 ≤ h ∧ h ≤ 3 ∧ -3 ≤ p ∧ p ≤ 10)
        obtain ⟨X, e10, lvX, hX⟩ := (hf (10, 4, []) (by simp) : IsNew wd.heap.size #[.string ⟨#[]⟩, .int .i64 0, .int .i64 0, .int .i64 0] 45 (ν 10) w2)
        replace S := S.call hinv (.loc X #[.string ⟨#[]⟩, .int .i64 0, .int .i64 0, .int .i64 0] 45) lvX (fun k e => by cases e; exact hX)
        simp only [fillD, List.map_cons, List.map_nil, List.foldl_cons, List.foldl_nil, e9, e10]
        clear hf hinv lvX e9 e10
        generalize ν 1 = q1
        generalize ν 2 = q2
        generalize ν 3 = q3
        generalize ν 5 = q5
        generalize ν 7 = q7
        generalize ν 8 = q8
        have lvX := S.lv 1 rfl
        have x0 : w2.cell? ⟨X, 0, none⟩ = some (.string ⟨#[]⟩) := lvX.cell 0 _ rfl
        have x1 : w2.cell? ⟨X, 1, none⟩ = some (.int .i64 0) := lvX.cell 1 _ rfl
        have x2 : w2.cell? ⟨X, 2, none⟩ = some (.int .i64 0) := lvX.cell 2 _ rfl
        have x3 : w2.cell? ⟨X, 3, none⟩ = some (.int .i64 0) := lvX.cell 3 _ rfl
        have f0 := lvX.free 0
        have f1 := lvX.free 1
        have f2 := lvX.free 2
        have f3 := lvX.free 3
        refine mixG_l rfl rfl (fun K hK => ?_)
        go_wp2_with fail
        refine ⟨fun h => absurd rfl h, ?_⟩
        refine mixG_nil ?_
        simp only [Exit.then]
        refine hKK _ _ ?_
        have S2 : St b (m + 1 + 20 * k + 8) w ((((w2.setCell ⟨X, 0, none⟩ (.string s)).setCell ⟨X, 1, none⟩ (.int .i64 hv)).setCell ⟨X, 2, none⟩ (.int .i64 0)).setCell ⟨X, 3, none⟩ (.int .i64 p)) [.own rMeas w.heap.size 45 u3 xs, .loc X #[.string s, .int .i64 hv, .int .i64 0, .int .i64 p] 45] :=
          (((S.set 1 0 (.string s) rfl).set 1 1 (.int .i64 hv) rfl).set 1 2 (.int .i64 0) rfl).set 1 3 (.int .i64 p) rfl
        clear x0 x1 x2 x3 f0 f1 f2 f3 lvX S
        generalize (((w2.setCell ⟨X, 0, none⟩ (.string s)).setCell ⟨X, 1, none⟩ (.int .i64 hv)).setCell ⟨X, 2, none⟩ (.int .i64 0)).setCell ⟨X, 3, none⟩ (.int .i64 p) = w3 at *
        have S := S2
        clear S2
        have x1 : w3.cell? ⟨X, 1, none⟩ = some (.int .i64 hv) := (S.lv 1 rfl).cell 1 _ rfl
        by_cases hh : hv = 1
        · subst hh
          obtain ⟨wz, hwz⟩ : ∃ wz, wz = w3 := ⟨_, rfl⟩
          rw [← hwz] at S
          have q0 : World.cell? w3 ⟨X, 0, none⟩ = some (.string s) := by rw [← hwz]; exact (S.lv 1 rfl).cell 0 _ rfl
          have q1 : World.cell? w3 ⟨X, 1, none⟩ = some (.int .i64 1) := by rw [← hwz]; exact (S.lv 1 rfl).cell 1 _ rfl
          have q2 : World.cell? w3 ⟨X, 2, none⟩ = some (.int .i64 0) := by rw [← hwz]; exact (S.lv 1 rfl).cell 2 _ rfl
          have q3 : World.cell? w3 ⟨X, 3, none⟩ = some (.int .i64 p) := by rw [← hwz]; exact (S.lv 1 rfl).cell 3 _ rfl
          have hsz := S.g.size
          rw [hwz] at S hsz
          clear hwz
          go_wp2_with (at_builtin; refine S.app 0 rfl tyMeas rfl _ _ rfl ⟨s, 1, 0, p⟩ 1 rfl (by first | rfl | (show Value.slice (some ⟨w4.heap.size, 0, none⟩) 1 1 = _; simp [World.setCell])) rfl (oneMeas ⟨s, 1, 0, p⟩) hsz (by omega) (by decide) ?_; intro v' w6 S6)
          go_roundw
          case rel => exact ⟨k + 1, xs ++ [⟨s, 1, 0, p⟩], by omega, by go_num, by simp [Hxl.out], names_snoc Hsm.out hs, (S6.del 1).mono (by omega)⟩
          case measure => simp [intOf]; omega
        · have hh' : (hv == 1) = false := by simpa using hh
          go_wp2_with fail
          refine (pick_le b _ _ _ (1) (20) S.g.s (by first | rfl | simp) (by first | rfl | simp) (intsIn_of (by decide)) (by simp) (by simp) (by omega)).mono ?_
          rintro e w4 ⟨fr, fr_lo, fr_hi, rfl, hk_w4, hs_w4⟩
          replace S := S.step hk_w4 hs_w4
          clear hk_w4 hs_w4
          have y2 : w4.cell? ⟨X, 2, none⟩ = some (.int .i64 0) := (S.lv 1 rfl).cell 2 _ rfl
          have g2 := (S.lv 1 rfl).free 2
          have S2 : St b (m + 1 + 20 * k + 8 + 1) w (w4.setCell ⟨X, 2, none⟩ (.int .i64 fr)) [.own rMeas w.heap.size 45 u3 xs, .loc X #[.string s, .int .i64 hv, .int .i64 fr, .int .i64 p] 45] := S.set 1 2 (.int .i64 fr) rfl
          clear S x1
          have S := S2
          clear S2
          obtain ⟨wz, hwz⟩ : ∃ wz, wz = (w4.setCell ⟨X, 2, none⟩ (.int .i64 fr)) := ⟨_, rfl⟩
          rw [← hwz] at S
          have q0 : World.cell? (w4.setCell ⟨X, 2, none⟩ (.int .i64 fr)) ⟨X, 0, none⟩ = some (.string s) := by rw [← hwz]; exact (S.lv 1 rfl).cell 0 _ rfl
          have q1 : World.cell? (w4.setCell ⟨X, 2, none⟩ (.int .i64 fr)) ⟨X, 1, none⟩ = some (.int .i64 hv) := by rw [← hwz]; exact (S.lv 1 rfl).cell 1 _ rfl
          have q2 : World.cell? (w4.setCell ⟨X, 2, none⟩ (.int .i64 fr)) ⟨X, 2, none⟩ = some (.int .i64 fr) := by rw [← hwz]; exact (S.lv 1 rfl).cell 2 _ rfl
          have q3 : World.cell? (w4.setCell ⟨X, 2, none⟩ (.int .i64 fr)) ⟨X, 3, none⟩ = some (.int .i64 p) := by rw [← hwz]; exact (S.lv 1 rfl).cell 3 _ rfl
          have hsz := S.g.size
          rw [hwz] at S hsz
          clear hwz
          go_wp2_with (at_builtin; refine S.app 0 rfl tyMeas rfl _ _ rfl ⟨s, hv, fr, p⟩ 1 rfl (by first | rfl | (show Value.slice (some ⟨w4.heap.size, 0, none⟩) 1 1 = _; simp [World.setCell])) rfl (oneMeas ⟨s, hv, fr, p⟩) hsz (by omega) (by decide) ?_; intro v' w6 S6)
          go_roundw
          case rel => exact ⟨k + 1, xs ++ [⟨s, hv, fr, p⟩], by omega, by go_num, by simp [Hxl.out], names_snoc Hsm.out hs, (S6.del 1).mono (by omega)⟩
          case measure => simp [intOf]; omega
    · have hx1 := hxn (by omega)
      clear hxn
      have ho := S.outOwn 0 rfl
      obtain ⟨g, cap, rfl, hcap⟩ := ho.form (by omega)
      clear ho
      go_wp2_with fail
      refine (flip_any b _ _ _ S.g.s (by omega) (by omega) (by omega)).mono ?_
      rintro e w2 ⟨r2, rfl, hk_w2, hs_w2⟩
      replace S := S.step hk_w2 hs_w2
      clear hk_w2 hs_w2
      cases r2
      · go_wp2_with fail
        go_ret
        exact ⟨_, xs, rfl, S.outOwn 0 rfl, by omega, Hsm.out, S.g.mono (by omega)⟩
      · obtain ⟨x0, hx0⟩ : ∃ x0, xs[0]? = some x0 := ⟨_, List.getElem?_eq_getElem (by omega)⟩
        have Hx0 := Lib.hid hx0
        clear hx0
        go_wp2_with fail
        refine (next_any b _ _ _ S.g.s (by omega) (by omega) (by omega)).mono ?_
        rintro e w3 ⟨r3, r3_lo, r3_hi, rfl, hk_w3, hs_w3⟩
        replace S := S.step hk_w3 hs_w3
        clear hk_w3 hs_w3
        obtain rfl | rfl | rfl | rfl : r3 = 0 ∨ r3 = 1 ∨ r3 = 2 ∨ r3 = 3 := by omega
        · go_wp2_with fail
          refine (one_le b _ _ _ (100) S.g.s (by first | rfl | simp) (by first | rfl | simp) (strsLe_of (by decide)) (by simp) (by simp) (by omega)).mono ?_
          rintro e w4 ⟨nm, nm_le, rfl, hk_w4, hs_w4⟩
          replace S := S.step hk_w4 hs_w4
          clear hk_w4 hs_w4
          obtain ⟨c0, f0⟩ := Own.cellP flatMeas (S.ow 0 rfl) rfl 0 x0 Hx0.out 0 _ rfl
          have c0' : w4.cell? ⟨g, 0, none⟩ = some (.string x0.name) := c0
          have f0' : w4.frozen? ⟨g, 0, none⟩ = false := f0
          clear c0 f0
          have S2 : St b _ w (w4.setCell ⟨g, 0, none⟩ (.string nm)) [.own rMeas w.heap.size 45 (.slice (some ⟨g, 0, none⟩) xs.length cap) (xs.set 0 ⟨nm, x0.how, x0.far, x0.pts⟩)] := St.put flatMeas S 0 rfl rfl 0 x0 ⟨nm, x0.how, x0.far, x0.pts⟩ Hx0.out 0 (by decide) (.string nm) rfl
          go_wp2_with fail
          go_ret
          exact ⟨_, _, rfl, S2.outOwn 0 rfl, by simp; omega, names_set (p := 0) (x := ⟨nm, x0.how, x0.far, x0.pts⟩) Hsm.out nm_le, S2.g.mono (by omega)⟩
        · go_wp2_with fail
          refine (odd_any b _ _ _ _ S.g.s (by omega) (by omega) (by omega) (by omega)).mono ?_
          rintro e w4 ⟨o4, o4_lo, o4_hi, rfl, hk_w4, hs_w4⟩
          replace S := S.step hk_w4 hs_w4
          clear hk_w4 hs_w4
          go_wp2_with fail
          refine (odd_any b _ _ _ _ S.g.s (by omega) (by omega) (by omega) (by omega)).mono ?_
          rintro e w5 ⟨o5, o5_lo, o5_hi, rfl, hk_w5, hs_w5⟩
          replace S := S.step hk_w5 hs_w5
          clear hk_w5 hs_w5
          obtain ⟨c1, f1⟩ := Own.cellP flatMeas (S.ow 0 rfl) rfl 0 x0 Hx0.out 1 _ rfl
          have c1' : w5.cell? ⟨g, 1, none⟩ = some (.int .i64 x0.how) := c1
          have f1' : w5.frozen? ⟨g, 1, none⟩ = false := f1
          obtain ⟨c2, f2⟩ := Own.cellP flatMeas (S.ow 0 rfl) rfl 0 x0 Hx0.out 2 _ rfl
          have c2' : w5.cell? ⟨g, 2, none⟩ = some (.int .i64 x0.far) := c2
          have f2' : w5.frozen? ⟨g, 2, none⟩ = false := f2
          clear c1 f1 c2 f2
          have S2 : St b _ w (w5.setCell ⟨g, 1, none⟩ (.int .i64 o4)) [.own rMeas w.heap.size 45 (.slice (some ⟨g, 0, none⟩) xs.length cap) (xs.set 0 ⟨x0.name, o4, x0.far, x0.pts⟩)] := St.put flatMeas S 0 rfl rfl 0 x0 ⟨x0.name, o4, x0.far, x0.pts⟩ Hx0.out 1 (by decide) (.int .i64 o4) rfl
          have S3 : St b _ w ((w5.setCell ⟨g, 1, none⟩ (.int .i64 o4)).setCell ⟨g, 2, none⟩ (.int .i64 o5)) [.own rMeas w.heap.size 45 (.slice (some ⟨g, 0, none⟩) xs.length cap) ((xs.set 0 ⟨x0.name, o4, x0.far, x0.pts⟩).set 0 ⟨x0.name, o4, o5, x0.pts⟩)] := St.put flatMeas S2 0 rfl (by simp) 0 ⟨x0.name, o4, x0.far, x0.pts⟩ ⟨x0.name, o4, o5, x0.pts⟩ (by rw [List.getElem?_set_self (by omega)]) 2 (by decide) (.int .i64 o5) rfl
          have hx0 : x0.name.size ≤ 100 := Hsm.out x0 (List.mem_of_getElem? Hx0.out)
          go_wp2_with fail
          go_ret
          exact ⟨_, _, rfl, S3.outOwn 0 rfl, by simp; omega, names_set (p := 0) (x := ⟨x0.name, o4, o5, x0.pts⟩) (names_set (p := 0) (x := ⟨x0.name, o4, x0.far, x0.pts⟩) Hsm.out hx0) hx0, S3.g.mono (by omega)⟩
        · go_wp2_with fail
          refine (odd_any b _ _ _ _ S.g.s (by omega) (by omega) (by omega) (by omega)).mono ?_
          rintro e w4 ⟨o4, o4_lo, o4_hi, rfl, hk_w4, hs_w4⟩
          replace S := S.step hk_w4 hs_w4
          clear hk_w4 hs_w4
          obtain ⟨c1, f1⟩ := Own.cellP flatMeas (S.ow 0 rfl) rfl 0 x0 Hx0.out 3 _ rfl
          have c1' : w4.cell? ⟨g, 3, none⟩ = some (.int .i64 x0.pts) := c1
          have f1' : w4.frozen? ⟨g, 3, none⟩ = false := f1
          clear c1 f1
          have S2 : St b _ w (w4.setCell ⟨g, 3, none⟩ (.int .i64 o4)) [.own rMeas w.heap.size 45 (.slice (some ⟨g, 0, none⟩) xs.length cap) (xs.set 0 ⟨x0.name, x0.how, x0.far, o4⟩)] := St.put flatMeas S 0 rfl rfl 0 x0 ⟨x0.name, x0.how, x0.far, o4⟩ Hx0.out 3 (by decide) (.int .i64 o4) rfl
          have hx0 : x0.name.size ≤ 100 := Hsm.out x0 (List.mem_of_getElem? Hx0.out)
          go_wp2_with fail
          go_ret
          exact ⟨_, _, rfl, S2.outOwn 0 rfl, by simp; omega, names_set (p := 0) (x := ⟨x0.name, x0.how, x0.far, o4⟩) Hsm.out hx0, S2.g.mono (by omega)⟩
        · go_wp2_with fail
          go_ret
          exact ⟨_, [], rfl, Own.nil _ _ _ _ _, by simp, (fun _ h => by cases h), S.g.mono (by omega)⟩
end Go.Proofs.YtmlpkejeglpciaaDoor
