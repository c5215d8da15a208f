/- What person.alike and handref2.alike return. -/
import Derived.Test.YtmlpkejeglpciaaDoorAlike
import Derived.Test.YtmlpkejeglpciaaDoorMix
import Derived.Test.YtmlpkejeglpciaaDoorShelf
namespace Go.Proofs.YtmlpkejeglpciaaDoor
open Go.RowKit
def cps (t : ByteArray) : List Int := pts t.size t
def alikeB (m : Meas) (k1 : Int) (t1 : ByteArray) (n1 : Int) (k2 : Int) (t2 : ByteArray) (n2 : Int) : Bool :=
  if m.how = 1 then decide (k1 = k2 ∧ t1.toList = t2.toList ∧ n1 = n2)
  else if ¬ (k1 = 1 ∧ k2 = 1) then false
  else if m.how = 2 then decide (far t1 t2 ≤ m.far)
  else decide (m.far ≤ (cps t1).length) && decide (m.far ≤ (cps t2).length) && ((cps t1).take m.far.toNat == (cps t2).take m.far.toNat)
/-- a measure and two values lie boxed in these blocks -/
def Box3 (X : Nat) (m : Meas) (k1 : Int) (t1 : ByteArray) (n1 : Int) (k2 : Int) (t2 : ByteArray) (n2 : Int) (w : World) : Prop :=
  LV w X #[.string m.name, .int .i64 m.how, .int .i64 m.far, .int .i64 m.pts] 45 ∧ LV w (X + 1) #[.int .i64 k1, .string t1, .int .i64 n1] 49 ∧ LV w (X + 2) #[.int .i64 k2, .string t2, .int .i64 n2] 49
def box3 (w : World) (m : Meas) (k1 : Int) (t1 : ByteArray) (n1 : Int) (k2 : Int) (t2 : ByteArray) (n2 : Int) : World :=
  ((w.alloc (.cells #[.string m.name, .int .i64 m.how, .int .i64 m.far, .int .i64 m.pts] 45)).alloc (.cells #[.int .i64 k1, .string t1, .int .i64 n1] 49)).alloc (.cells #[.int .i64 k2, .string t2, .int .i64 n2] 49)
theorem box3_box (w : World) (m : Meas) (k1 : Int) (t1 : ByteArray) (n1 : Int) (k2 : Int) (t2 : ByteArray) (n2 : Int) : Box3 w.heap.size m k1 t1 n1 k2 t2 n2 (box3 w m k1 t1 n1 k2 t2 n2) :=
  ⟨((LV.new w w.heap.size _ 45 rfl).alloc _).alloc _, (LV.new (w.alloc _) (w.heap.size + 1) _ 49 (by simp)).alloc _, LV.new ((w.alloc _).alloc _) (w.heap.size + 2) _ 49 (by simp)⟩
theorem box3_below (w : World) (m : Meas) (k1 : Int) (t1 : ByteArray) (n1 : Int) (k2 : Int) (t2 : ByteArray) (n2 : Int) : Below w.heap.size w (box3 w m k1 t1 n1 k2 t2 n2) :=
  (((Below.refl _ _).alloc (Nat.le_refl _) _).alloc (by simp) _).alloc (by simp; omega) _
theorem Box3.below {X : Nat} {m : Meas} {k1 k2 n1 n2 : Int} {t1 t2 : ByteArray} {w w' : World} (h : Box3 X m k1 t1 n1 k2 t2 n2 w) (hb : Below w.heap.size w w') : Box3 X m k1 t1 n1 k2 t2 n2 w' :=
  ⟨(hb.block _ h.1.lt).trans h.1, (hb.block _ h.2.1.lt).trans h.2.1, (hb.block _ h.2.2.lt).trans h.2.2⟩
theorem below3 (w : World) (o1 o2 o3 : Obj) : Below w.heap.size w (((w.alloc o1).alloc o2).alloc o3) := (((Below.refl _ _).alloc (Nat.le_refl _) _).alloc (by simp) _).alloc (by simp; omega) _
theorem Box3.loadFar {X : Nat} {m : Meas} {k1 k2 n1 n2 : Int} {t1 t2 : ByteArray} {w : World} (h : Box3 X m k1 t1 n1 k2 t2 n2 w) : (Instr.loadAt 3 (.pointer (some ⟨X, 2, none⟩))).run Tryd.prog w = .ok (.int .i64 m.far) w := by
  have c : w.cell? ⟨X, 2, none⟩ = some (.int .i64 m.far) := h.1.cell 2 _ rfl
  go_simp
theorem own_form {w : World} {B E : Nat} {v : Value} {l : List Value} {n : Nat} (h : w.ownsRow B E 1 v n l) : ∃ A c, v = .slice A n c := by
  rcases h.2 with ⟨rfl, h0⟩ | ⟨g, cap, cur, rfl, _⟩
  · exact ⟨none, 0, by rw [h0]⟩
  · exact ⟨_, cap, rfl⟩
theorem own_some {w : World} {B E : Nat} {v : Value} {l : List Value} {n : Nat} (h : w.ownsRow B E 1 v n l) (hn : 1 ≤ n) : ∃ g cap, v = .slice (some ⟨g, 0, none⟩) n cap ∧ n ≤ cap ∧ g < w.heap.size ∧ ∀ i u, l[i]? = some u → w.cell? ⟨g, i, none⟩ = some u := by
  have hlt := h.lt
  have hcs := fun g => h.cells (g := g)
  rcases h.2 with ⟨rfl, h0⟩ | ⟨g, cap, cur, rfl, hB, hg, h5, _⟩
  · omega
  · refine ⟨g, cap, rfl, h5, (hlt g rfl).2, fun i u hu => ?_⟩
    have := hcs g rfl i u hu
    rwa [add_at, Nat.zero_add] at this
set_option maxHeartbeats 4000000 in
set_option maxRecDepth 100000 in
theorem alike_any (m : Meas) (k1 n1 k2 n2 : Int) (t1 t2 : ByteArray) (w : World) (hT : Tabs w) (ht1 : t1.size ≤ 200) (ht2 : t2.size ≤ 200) (hfar : m.how ≠ 1 → 1 ≤ m.far ∧ m.far ≤ 20) :
    Calls Tryd.prog 40 #[.agg #[.string m.name, .int .i64 m.how, .int .i64 m.far, .int .i64 m.pts], .agg #[.int .i64 k1, .string t1, .int .i64 n1], .agg #[.int .i64 k2, .string t2, .int .i64 n2]] w
      fun e w' => e = .returned (.bool (alikeB m k1 t1 n1 k2 t2 n2)) ∧ Below w.heap.size w w' := by
  have HT := Lib.hid hT
  clear hT
  have hB := box3_box w m k1 t1 n1 k2 t2 n2
  have Hb := Lib.hid (box3_below w m k1 t1 n1 k2 t2 n2)
  have lvM := hB.1
  have lvV := hB.2.1
  have lvW := hB.2.2
  by_cases h1 : m.how = 1
  · obtain ⟨nm, how, fr, pn⟩ := m
    obtain rfl : how = 1 := h1
    clear Hb hB lvM lvV lvW
    obtain ⟨R, HR⟩ : ∃ R, Hid (alikeB ⟨nm, 1, fr, pn⟩ k1 t1 n1 k2 t2 n2 = R) := ⟨_, Lib.hid rfl⟩
    rw [HR.out]
    go_enter Tryd.func40, Tryd.ntmps40
    go_wp2_with fail
    all_goals (go_ret; refine ⟨ret_b ?_, below3 _ _ _ _⟩; rw [← HR.out, alikeB, if_pos rfl]; clear HR HT; simp_all)
  · have h1' : (m.how == 1) = false := by simpa using h1
    by_cases hk : k1 = 1 ∧ k2 = 1
    · obtain ⟨rfl, rfl⟩ := hk
      have hf := hfar h1
      clear hfar
      obtain ⟨nm, how, fr, pn⟩ := m
      dsimp only at *
      obtain ⟨n, rfl⟩ := Int.eq_ofNat_of_zero_le (by omega : (0 : Int) ≤ fr)
      obtain ⟨R, HR⟩ : ∃ R, Hid (alikeB ⟨nm, how, n, pn⟩ 1 t1 n1 1 t2 n2 = R) := ⟨_, Lib.hid rfl⟩
      rw [HR.out]
      have HR2 : Hid ((if how = 2 then decide ((far t1 t2 : Int) ≤ (n : Int)) else decide ((n : Int) ≤ (cps t1).length) && decide ((n : Int) ≤ (cps t2).length) && ((cps t1).take n == (cps t2).take n)) = R) := by
        show _ = _
        rw [← HR.out, alikeB, if_neg h1, if_neg (show ¬ ¬ ((1 : Int) = 1 ∧ (1 : Int) = 1) from fun h => h ⟨rfl, rfl⟩)]
        simp only [Int.toNat_natCast]
      clear HR
      have hla : (cps t1).length ≤ 200 := Nat.le_trans (pts_len _ t1 (Nat.le_refl _)) ht1
      have hlb : (cps t2).length ≤ 200 := Nat.le_trans (pts_len _ t2 (Nat.le_refl _)) ht2
      have hfar' : far t1 t2 = D.pre (cps t1) (cps t2) (cps t1).length (cps t2).length := rfl
      rw [hfar'] at HR2
      clear hfar'
      have HP1 := Lib.hid (fun w' (h : Below w.heap.size w w') => points_any t1 w' (by omega) (Utf8Tabs_below HT.out h))
      have HP2 := Lib.hid (fun w' (h : Below w.heap.size w w') => points_any t2 w' (by omega) (Utf8Tabs_below HT.out h))
      clear HT
      change Hid (∀ w', Below w.heap.size w w' → Calls _ _ _ _ (GivesI32 (cps t1) w')) at HP1
      change Hid (∀ w', Below w.heap.size w w' → Calls _ _ _ _ (GivesI32 (cps t2) w')) at HP2
      generalize cps t1 = x at *
      generalize cps t2 = y at *
      go_enter Tryd.func40, Tryd.ntmps40
      go_wp2_with fail
      have hC : Box3 w.heap.size ⟨nm, how, n, pn⟩ 1 t1 n1 1 t2 n2 (box3 w ⟨nm, how, n, pn⟩ 1 t1 n1 1 t2 n2) := hB
      have Hb0 : Hid (Below w.heap.size w (box3 w ⟨nm, how, n, pn⟩ 1 t1 n1 1 t2 n2)) := Hb
      clear hB Hb lvM lvV lvW
      refine wp_region_mix (Box3 w.heap.size ⟨nm, how, n, pn⟩ 1 t1 n1 1 t2 n2) [(true, 0), (true, 1), (true, 3), (true, 4), (false, 2), (false, 5), (true, 6), (true, 7)] (by kernel_rfl) (by kernel_rfl) (fun w' hd => hC.below (hd.below _)) (fun KK hKK wd hd_wd => ?_)
      have hC1 := hC.below (hd_wd.below _)
      have Hb1 : Hid (Below w.heap.size w wd) := Hb0.out.trans (hd_wd.below _)
      clear hC Hb0 hd_wd
      refine mpR ?_
      refine mix_load (.string t1) rfl rfl rfl rfl (fun _ => rfl) (fun w' h => h.2.1.cell 1 _ rfl) ?_
      refine mpR ?_
      refine mix_load (.string t2) rfl rfl rfl rfl (fun _ => rfl) (fun w' h => h.2.2.cell 1 _ rfl) ?_
      refine mix_l rfl (fun K hK => ?_) hC1
      go_wp2_with fail
      refine (HP1.out _ Hb1.out).mono ?_
      rintro e wp1 ⟨va, rfl, hoa, hl1⟩
      have hC2 := hC1.below hl1
      have Hb2 : Hid (Below w.heap.size w wp1) := Hb1.out.trans (hl1.mono Hb1.out.size)
      have Hoa1 := Lib.hid hoa
      clear hl1 hC1 hoa
      go_wp2_with fail
      refine ⟨hC2, ?_⟩
      refine mix_l rfl (fun K2 hK2 => ?_) hC2
      go_wp2_with fail
      refine (HP2.out _ Hb2.out).mono ?_
      rintro e wp2 ⟨vb, rfl, hob, hl2⟩
      have hC := hC2.below hl2
      have Hob := Lib.hid hob
      have Hoa := Lib.hid (own_keep Hoa1.out hl2)
      have Hb0 : Hid (Below w.heap.size w wp2) := Hb2.out.trans (hl2.mono Hb2.out.size)
      clear hob hl2 hC2 Hb2 Hoa1 Hb1 HP1 HP2
      go_wp2_with fail
      refine ⟨hC, ?_⟩
      refine mpR ?_
      refine mix_nil ?_
      simp only [Exit.then]
      refine hKK _ _ ?_
      have lvM1 : wp2.cell? ⟨w.heap.size, 1, none⟩ = some (.int .i64 how) := hC.1.cell 1 _ rfl
      by_cases h2 : how = 2
      · subst h2
        have HR3 : Hid (decide ((D.pre x y x.length y.length : Int) ≤ (n : Int)) = R) := by show _ = _; rw [← HR2.out, if_pos rfl]
        clear HR2
        have Hd := Lib.hid (fun w' (h : Below wp2.heap.size wp2 w') => dist_any va vb x y w' (Rd.ofOwn (own_keep Hoa.out h)) (Rd.ofOwn (own_keep Hob.out h)) (by omega) (by omega))
        obtain ⟨A1, c1, rfl⟩ := own_form Hoa.out
        obtain ⟨A2, c2, rfl⟩ := own_form Hob.out
        generalize D.pre x y x.length y.length = dd at *
        clear Hoa Hob
        go_wp2_with fail
        refine wp_region_mix (Box3 w.heap.size ⟨nm, 2, n, pn⟩ 1 t1 n1 1 t2 n2) [(true, 0), (true, 1), (true, 3), (true, 4), (false, 2), (true, 5), (true, 6)] (by kernel_rfl) (by kernel_rfl) (fun w' hd => hC.below (hd.below _)) (fun KK hKK wd hd => ?_)
        have hCd := hC.below (hd.below _)
        have Hbd := Lib.hid (hd.below wp2.heap.size)
        clear hd hC lvM1
        refine mpR ?_
        refine mix_load (.int .i64 n) rfl rfl rfl rfl (fun _ => rfl) (fun w' h => h.1.cell 2 _ rfl) ?_
        refine mix_l rfl (fun K hK => ?_) hCd
        go_wp2_with fail
        refine (Hd.out _ Hbd.out).mono ?_
        rintro e wq ⟨rfl, hlq⟩
        have hCq := hCd.below hlq
        go_wp2_with fail
        refine ⟨hCq, ?_⟩
        refine mpR ?_
        refine mix_nil ?_
        simp only [Exit.then]
        refine hKK _ _ ?_
        go_wp2_with fail
        go_ret
        exact ⟨ret_b (by rw [← HR3.out]; exact decide_eq_decide.2 (by omega)), Hb0.out.trans ((Hbd.out.trans (hlq.mono Hbd.out.size)).mono Hb0.out.size)⟩
      · have h2' : (how == 2) = false := by simpa using h2
        have HR3 : Hid ((decide ((n : Int) ≤ x.length) && decide ((n : Int) ≤ y.length) && (x.take n == y.take n)) = R) := by show _ = _; rw [← HR2.out, if_neg h2]
        clear HR2
        go_wp2_with fail
        clear lvM1
        by_cases hx : n ≤ x.length
        · obtain ⟨ga, ca, rfl, hca, hga, cella⟩ := own_some Hoa.out (by omega)
          by_cases hy : n ≤ y.length
          · obtain ⟨gb, cb, rfl, hcb, hgb, cellb⟩ := own_some Hob.out (by omega)
            have HE : Hid (∀ w', Below wp2.heap.size wp2 w' → Calls Tryd.prog 62 #[.slice (some ⟨ga, 0, none⟩) n ca, .slice (some ⟨gb, 0, none⟩) n cb] w' fun e w'' => e = .returned (.bool (x.take n == y.take n)) ∧ Below w'.heap.size w' w'') := fun w' hw => by
              have h1 := equalRune_any (some ⟨ga, 0, none⟩) (some ⟨gb, 0, none⟩) (x.take n) (y.take n) ca cb w' (fun i hi => ?_) (fun i hi => ?_) (by simp; omega) (by simp; omega)
              · rw [List.length_take, List.length_take, Nat.min_eq_left hx, Nat.min_eq_left hy] at h1
                exact h1
              · have hi' : i < n := by simp at hi; omega
                refine ⟨ga, 0, x[i]'(by omega), rfl, Nat.lt_of_lt_of_le hga hw.size, by rw [List.getElem?_take, if_pos hi', List.getElem?_eq_getElem (by omega)], ?_⟩
                rw [hw.cell (p := ⟨ga, 0 + i, none⟩) hga, Nat.zero_add]
                exact cella i _ (by simp [List.getElem?_eq_getElem (show i < x.length by omega)])
              · have hi' : i < n := by simp at hi; omega
                refine ⟨gb, 0, y[i]'(by omega), rfl, Nat.lt_of_lt_of_le hgb hw.size, by rw [List.getElem?_take, if_pos hi', List.getElem?_eq_getElem (by omega)], ?_⟩
                rw [hw.cell (p := ⟨gb, 0 + i, none⟩) hgb, Nat.zero_add]
                exact cellb i _ (by simp [List.getElem?_eq_getElem (show i < y.length by omega)])
            have hxi : (n : Int) ≤ (x.length : Int) := by omega
            have hyi : (n : Int) ≤ (y.length : Int) := by omega
            clear cella cellb
            refine wp_region_mix (Box3 w.heap.size ⟨nm, how, n, pn⟩ 1 t1 n1 1 t2 n2) [(true, 0), (true, 1), (true, 2), (true, 3), (true, 4), (true, 5), (true, 6), (true, 7), (true, 8), (true, 9), (true, 10), (true, 11), (true, 12), (true, 13), (true, 14), (true, 15), (true, 16), (true, 17), (true, 18), (true, 19), (true, 20), (false, 21), (true, 22), (true, 23)] (by kernel_rfl) (by kernel_rfl) (fun w' hd => hC.below (hd.below _)) (fun KK hKK wd hd => ?_)
            have hCd := hC.below (hd.below _)
            have Hbd := Lib.hid (hd.below wp2.heap.size)
            clear hd hC Hoa Hob
            refine mpR ?_
            refine mix_load (.int .i64 n) rfl rfl rfl rfl (fun _ => rfl) (fun w' h => h.1.cell 2 _ rfl) ?_
            refine mpR ?_
            refine mix_loadH (.int .i64 n) rfl rfl rfl (fun w' h => h.loadFar) ?_
            refine mpR ?_
            refine mix_loadH (.int .i64 n) rfl rfl rfl (fun w' h => h.loadFar) ?_
            refine mpR ?_
            refine mix_loadH (.int .i64 n) rfl rfl rfl (fun w' h => h.loadFar) ?_
            refine mpR ?_
            refine mix_l rfl (fun K hK => ?_) hCd
            go_wp2_with fail
            refine (HE.out _ Hbd.out).mono ?_
            rintro e wq ⟨rfl, hlq⟩
            have hCq := hCd.below hlq
            go_wp2_with fail
            refine ⟨hCq, ?_⟩
            refine mpR ?_
            refine mix_nil ?_
            simp only [Exit.then]
            refine hKK _ _ ?_
            go_wp2_with fail
            go_ret
            exact ⟨ret_b (by rw [← HR3.out, decide_eq_true hxi, decide_eq_true hyi]; rfl), Hb0.out.trans ((Hbd.out.trans (hlq.mono Hbd.out.size)).mono Hb0.out.size)⟩
          · have hxi : (n : Int) ≤ (x.length : Int) := by omega
            have hyi : ¬ (n : Int) ≤ (y.length : Int) := by omega
            obtain ⟨A2, c2, rfl⟩ := own_form Hob.out
            clear cella
            refine wp_region_mix (Box3 w.heap.size ⟨nm, how, n, pn⟩ 1 t1 n1 1 t2 n2) [(true, 0), (true, 1), (true, 2), (true, 3), (true, 4), (true, 5), (true, 6), (true, 7), (true, 8), (true, 9), (true, 10), (true, 11), (true, 12), (true, 13), (true, 14), (true, 15), (true, 16), (true, 17), (true, 18), (true, 19), (true, 20), (false, 21), (true, 22), (true, 23)] (by kernel_rfl) (by kernel_rfl) (fun w' hd => hC.below (hd.below _)) (fun KK hKK wd hd => ?_)
            have hCd := hC.below (hd.below _)
            have Hbd := Lib.hid (hd.below wp2.heap.size)
            clear hd hC Hoa Hob
            refine mpR ?_
            refine mix_load (.int .i64 n) rfl rfl rfl rfl (fun _ => rfl) (fun w' h => h.1.cell 2 _ rfl) ?_
            refine mpR ?_
            refine mix_loadH (.int .i64 n) rfl rfl rfl (fun w' h => h.loadFar) ?_
            refine mpR ?_
            refine mix_l rfl (fun K hK => ?_) hCd
            go_wp2_with fail
            refine mpR ?_
            refine mix_nil ?_
            simp only [Exit.then]
            refine hKK _ _ ?_
            go_wp2_with fail
            go_ret
            exact ⟨ret_b (by rw [← HR3.out, decide_eq_true hxi, decide_eq_false (show ¬ (n : Int) ≤ (y.length : Int) by omega)]; rfl), Hb0.out.trans (Hbd.out.mono Hb0.out.size)⟩
        · obtain ⟨A1, c1, rfl⟩ := own_form Hoa.out
          have hxi : ¬ (n : Int) ≤ (x.length : Int) := by omega
          obtain ⟨A2, c2, rfl⟩ := own_form Hob.out
          refine wp_region_mix (Box3 w.heap.size ⟨nm, how, n, pn⟩ 1 t1 n1 1 t2 n2) [(true, 0), (true, 1), (true, 2), (true, 3), (true, 4), (true, 5), (true, 6), (true, 7), (true, 8), (true, 9), (true, 10), (true, 11), (true, 12), (true, 13), (true, 14), (true, 15), (true, 16), (true, 17), (true, 18), (true, 19), (true, 20), (false, 21), (true, 22), (true, 23)] (by kernel_rfl) (by kernel_rfl) (fun w' hd => hC.below (hd.below _)) (fun KK hKK wd hd => ?_)
          have hCd := hC.below (hd.below _)
          have Hbd := Lib.hid (hd.below wp2.heap.size)
          clear hd hC Hoa Hob
          refine mpR ?_
          refine mix_load (.int .i64 n) rfl rfl rfl rfl (fun _ => rfl) (fun w' h => h.1.cell 2 _ rfl) ?_
          refine mpR ?_
          refine mix_l rfl (fun K hK => ?_) hCd
          go_wp2_with fail
          refine mpR ?_
          refine mix_nil ?_
          simp only [Exit.then]
          refine hKK _ _ ?_
          go_wp2_with fail
          go_ret
          exact ⟨ret_b (by rw [← HR3.out, decide_eq_false (show ¬ (n : Int) ≤ (x.length : Int) by omega)]; rfl), Hb0.out.trans (Hbd.out.mono Hb0.out.size)⟩
    · clear hB Hb lvM lvV lvW HT
      obtain ⟨R, HR⟩ : ∃ R, Hid (alikeB m k1 t1 n1 k2 t2 n2 = R) := ⟨_, Lib.hid rfl⟩
      rw [HR.out]
      have HR2 : Hid (false = R) := by
        show _ = _
        rw [← HR.out, alikeB, if_neg h1, if_pos hk]
      clear HR
      go_enter Tryd.func40, Tryd.ntmps40
      by_cases e1 : k1 = 1
      · subst e1
        have e2 : (k2 == 1) = false := by simpa using fun h => hk ⟨rfl, h⟩
        clear hk
        go_wp2_with fail
        go_ret
        exact ⟨ret_b HR2.out, below3 _ _ _ _⟩
      · have e2 : (k1 == 1) = false := by simpa using e1
        clear hk
        go_wp2_with fail
        go_ret
        exact ⟨ret_b HR2.out, below3 _ _ _ _⟩
set_option maxHeartbeats 4000000 in
set_option maxRecDepth 100000 in
theorem refAlike_any (m : Meas) (k1 n1 k2 n2 : Int) (t1 t2 : ByteArray) (w : World) (hT : Tabs w) (ht1 : t1.size ≤ 200) (ht2 : t2.size ≤ 200) (hfar : m.how ≠ 1 → 1 ≤ m.far ∧ m.far ≤ 20) :
    Calls Tryd.prog 30 #[.agg #[.string m.name, .int .i64 m.how, .int .i64 m.far, .int .i64 m.pts], .agg #[.int .i64 k1, .string t1, .int .i64 n1], .agg #[.int .i64 k2, .string t2, .int .i64 n2]] w
      fun e w' => e = .returned (.bool (alikeB m k1 t1 n1 k2 t2 n2)) ∧ Below w.heap.size w w' := by
  have HT := Lib.hid hT
  clear hT
  have hB := box3_box w m k1 t1 n1 k2 t2 n2
  have Hb := Lib.hid (box3_below w m k1 t1 n1 k2 t2 n2)
  have lvM := hB.1
  have lvV := hB.2.1
  have lvW := hB.2.2
  by_cases h1 : m.how = 1
  · obtain ⟨nm, how, fr, pn⟩ := m
    obtain rfl : how = 1 := h1
    clear Hb hB lvM lvV lvW
    obtain ⟨R, HR⟩ : ∃ R, Hid (alikeB ⟨nm, 1, fr, pn⟩ k1 t1 n1 k2 t2 n2 = R) := ⟨_, Lib.hid rfl⟩
    rw [HR.out]
    go_enter Tryd.func30, Tryd.ntmps30
    go_wp2_with fail
    all_goals (go_ret; refine ⟨ret_b ?_, below3 _ _ _ _⟩; rw [← HR.out, alikeB, if_pos rfl]; clear HR HT; simp_all)
  · have h1' : (m.how == 1) = false := by simpa using h1
    by_cases hk : k1 = 1 ∧ k2 = 1
    · obtain ⟨rfl, rfl⟩ := hk
      have hf := hfar h1
      clear hfar
      obtain ⟨nm, how, fr, pn⟩ := m
      dsimp only at *
      obtain ⟨n, rfl⟩ := Int.eq_ofNat_of_zero_le (by omega : (0 : Int) ≤ fr)
      obtain ⟨R, HR⟩ : ∃ R, Hid (alikeB ⟨nm, how, n, pn⟩ 1 t1 n1 1 t2 n2 = R) := ⟨_, Lib.hid rfl⟩
      rw [HR.out]
      have HR2 : Hid ((if how = 2 then decide ((far t1 t2 : Int) ≤ (n : Int)) else decide ((n : Int) ≤ (cps t1).length) && decide ((n : Int) ≤ (cps t2).length) && ((cps t1).take n == (cps t2).take n)) = R) := by
        show _ = _
        rw [← HR.out, alikeB, if_neg h1, if_neg (show ¬ ¬ ((1 : Int) = 1 ∧ (1 : Int) = 1) from fun h => h ⟨rfl, rfl⟩)]
        simp only [Int.toNat_natCast]
      clear HR
      have hla : (cps t1).length ≤ 200 := Nat.le_trans (pts_len _ t1 (Nat.le_refl _)) ht1
      have hlb : (cps t2).length ≤ 200 := Nat.le_trans (pts_len _ t2 (Nat.le_refl _)) ht2
      have hfar' : far t1 t2 = D.pre (cps t1) (cps t2) (cps t1).length (cps t2).length := rfl
      rw [hfar'] at HR2
      clear hfar'
      by_cases h2 : how = 2
      · subst h2
        have HF := Lib.hid (fun w' (h : Below w.heap.size w w') => refFar_any t1 t2 w' ht1 ht2 (Utf8Tabs_below HT.out h))
        have HR3 : Hid (decide ((far t1 t2 : Int) ≤ (n : Int)) = R) := by show _ = _; rw [← HR2.out, if_pos rfl]; rfl
        generalize far t1 t2 = dd at *
        clear HR2 HT
        go_enter Tryd.func30, Tryd.ntmps30
        go_wp2_with fail
        have hC : Box3 w.heap.size ⟨nm, 2, n, pn⟩ 1 t1 n1 1 t2 n2 (box3 w ⟨nm, 2, n, pn⟩ 1 t1 n1 1 t2 n2) := hB
        have Hb0 : Hid (Below w.heap.size w (box3 w ⟨nm, 2, n, pn⟩ 1 t1 n1 1 t2 n2)) := Hb
        clear hB Hb lvM lvV lvW
        refine wp_region_mix (Box3 w.heap.size ⟨nm, 2, n, pn⟩ 1 t1 n1 1 t2 n2) [(true, 0), (true, 1), (true, 2), (true, 3), (true, 5), (true, 6), (false, 4), (true, 7), (true, 8)] (by kernel_rfl) (by kernel_rfl) (fun w' hd => hC.below (hd.below _)) (fun KK hKK wd hd => ?_)
        have hCd := hC.below (hd.below _)
        have Hbd : Hid (Below w.heap.size w wd) := Hb0.out.trans (hd.below _)
        clear hd hC
        refine mpR ?_
        refine mix_load (.string t1) rfl rfl rfl rfl (fun _ => rfl) (fun w' h => h.2.1.cell 1 _ rfl) ?_
        refine mpR ?_
        refine mix_load (.string t2) rfl rfl rfl rfl (fun _ => rfl) (fun w' h => h.2.2.cell 1 _ rfl) ?_
        refine mpR ?_
        refine mix_load (.int .i64 n) rfl rfl rfl rfl (fun _ => rfl) (fun w' h => h.1.cell 2 _ rfl) ?_
        refine mix_l rfl (fun K hK => ?_) hCd
        go_wp2_with fail
        refine (HF.out _ Hbd.out).mono ?_
        rintro e wq ⟨rfl, hlq⟩
        have hCq := hCd.below hlq
        go_wp2_with fail
        refine ⟨hCq, ?_⟩
        refine mpR ?_
        refine mix_nil ?_
        simp only [Exit.then]
        refine hKK _ _ ?_
        go_wp2_with fail
        go_ret
        exact ⟨ret_b (by rw [← HR3.out]; exact decide_eq_decide.2 (by omega)), Hbd.out.trans (hlq.mono Hbd.out.size)⟩
      · have h2' : (how == 2) = false := by simpa using h2
        have HP1 := Lib.hid (fun w' (h : Below w.heap.size w w') => refpoints_any t1 w' (by omega) (Utf8Tabs_below HT.out h))
        have HP2 := Lib.hid (fun w' (h : Below w.heap.size w w') => refpoints_any t2 w' (by omega) (Utf8Tabs_below HT.out h))
        have HR3 : Hid ((decide ((n : Int) ≤ (cps t1).length) && decide ((n : Int) ≤ (cps t2).length) && ((cps t1).take n == (cps t2).take n)) = R) := by show _ = _; rw [← HR2.out, if_neg h2]
        clear HT HR2
        change Hid (∀ w', Below w.heap.size w w' → Calls _ _ _ _ (GivesI64 (cps t1) w')) at HP1
        change Hid (∀ w', Below w.heap.size w w' → Calls _ _ _ _ (GivesI64 (cps t2) w')) at HP2
        generalize cps t1 = x at *
        generalize cps t2 = y at *
        go_enter Tryd.func30, Tryd.ntmps30
        go_wp2_with fail
        have hC : Box3 w.heap.size ⟨nm, how, n, pn⟩ 1 t1 n1 1 t2 n2 (box3 w ⟨nm, how, n, pn⟩ 1 t1 n1 1 t2 n2) := hB
        have Hb0 : Hid (Below w.heap.size w (box3 w ⟨nm, how, n, pn⟩ 1 t1 n1 1 t2 n2)) := Hb
        clear hB Hb lvM lvV lvW
        refine wp_region_mix (Box3 w.heap.size ⟨nm, how, n, pn⟩ 1 t1 n1 1 t2 n2) [(true, 0), (true, 1), (true, 3), (true, 4), (false, 2), (false, 5), (true, 6), (true, 7)] (by kernel_rfl) (by kernel_rfl) (fun w' hd => hC.below (hd.below _)) (fun KK hKK wd hd_wd => ?_)
        have hC1 := hC.below (hd_wd.below _)
        have Hb1 : Hid (Below w.heap.size w wd) := Hb0.out.trans (hd_wd.below _)
        clear hC Hb0 hd_wd
        refine mpR ?_
        refine mix_load (.string t1) rfl rfl rfl rfl (fun _ => rfl) (fun w' h => h.2.1.cell 1 _ rfl) ?_
        refine mpR ?_
        refine mix_load (.string t2) rfl rfl rfl rfl (fun _ => rfl) (fun w' h => h.2.2.cell 1 _ rfl) ?_
        refine mix_l rfl (fun K hK => ?_) hC1
        go_wp2_with fail
        refine (HP1.out _ Hb1.out).mono ?_
        rintro e wp1 ⟨va, rfl, hoa, hl1⟩
        have hC2 := hC1.below hl1
        have Hb2 : Hid (Below w.heap.size w wp1) := Hb1.out.trans (hl1.mono Hb1.out.size)
        have Hoa1 := Lib.hid hoa
        clear hl1 hC1 hoa
        go_wp2_with fail
        refine ⟨hC2, ?_⟩
        refine mix_l rfl (fun K2 hK2 => ?_) hC2
        go_wp2_with fail
        refine (HP2.out _ Hb2.out).mono ?_
        rintro e wp2 ⟨vb, rfl, hob, hl2⟩
        have hC := hC2.below hl2
        have Hob := Lib.hid hob
        have Hoa := Lib.hid (own_keep Hoa1.out hl2)
        have Hb0 : Hid (Below w.heap.size w wp2) := Hb2.out.trans (hl2.mono Hb2.out.size)
        clear hob hl2 hC2 Hb2 Hoa1 Hb1 HP1 HP2
        go_wp2_with fail
        refine ⟨hC, ?_⟩
        refine mpR ?_
        refine mix_nil ?_
        simp only [Exit.then]
        refine hKK _ _ ?_
        go_wp2_with fail
        by_cases hx : n ≤ x.length
        · obtain ⟨ga, ca, rfl, hca, hga, cella⟩ := own_some Hoa.out (by omega)
          by_cases hy : n ≤ y.length
          · obtain ⟨gb, cb, rfl, hcb, hgb, cellb⟩ := own_some Hob.out (by omega)
            have HE : Hid (∀ w', Below wp2.heap.size wp2 w' → Calls Tryd.prog 52 #[.slice (some ⟨ga, 0, none⟩) n ca, .slice (some ⟨gb, 0, none⟩) n cb] w' fun e w'' => e = .returned (.bool (x.take n == y.take n)) ∧ Below w'.heap.size w' w'') := fun w' hw => by
              refine (Tryd.slices_Equal_int ga 0 n ca gb 0 n cb x y w' hx hy (by omega) (by omega) (fun i hi => ?_) (fun i hi => ?_)).mono ?_
              · rw [hw.cell (p := ⟨ga, 0 + i, none⟩) hga, Nat.zero_add]
                exact cella i _ (by simp [List.getElem?_eq_getElem hi])
              · rw [hw.cell (p := ⟨gb, 0 + i, none⟩) hgb, Nat.zero_add]
                exact cellb i _ (by simp [List.getElem?_eq_getElem hi])
              · rintro e w'' ⟨h1, q, rfl⟩
                exact ⟨h1, below_drewN _ _ _⟩
            have hxi : (n : Int) ≤ (x.length : Int) := by omega
            have hyi : (n : Int) ≤ (y.length : Int) := by omega
            clear cella cellb
            refine wp_region_mix (Box3 w.heap.size ⟨nm, how, n, pn⟩ 1 t1 n1 1 t2 n2) [(true, 0), (true, 1), (true, 2), (true, 3), (true, 4), (true, 5), (true, 6), (true, 7), (true, 8), (true, 9), (true, 10), (true, 11), (true, 12), (true, 13), (true, 14), (true, 15), (true, 16), (true, 17), (true, 18), (true, 19), (true, 20), (false, 21), (true, 22), (true, 23)] (by kernel_rfl) (by kernel_rfl) (fun w' hd => hC.below (hd.below _)) (fun KK hKK wd hd => ?_)
            have hCd := hC.below (hd.below _)
            have Hbd := Lib.hid (hd.below wp2.heap.size)
            clear hd hC Hoa Hob
            refine mpR ?_
            refine mix_load (.int .i64 n) rfl rfl rfl rfl (fun _ => rfl) (fun w' h => h.1.cell 2 _ rfl) ?_
            refine mpR ?_
            refine mix_loadH (.int .i64 n) rfl rfl rfl (fun w' h => h.loadFar) ?_
            refine mpR ?_
            refine mix_loadH (.int .i64 n) rfl rfl rfl (fun w' h => h.loadFar) ?_
            refine mpR ?_
            refine mix_loadH (.int .i64 n) rfl rfl rfl (fun w' h => h.loadFar) ?_
            refine mpR ?_
            refine mix_l rfl (fun K hK => ?_) hCd
            go_wp2_with fail
            refine (HE.out _ Hbd.out).mono ?_
            rintro e wq ⟨rfl, hlq⟩
            have hCq := hCd.below hlq
            go_wp2_with fail
            refine ⟨hCq, ?_⟩
            refine mpR ?_
            refine mix_nil ?_
            simp only [Exit.then]
            refine hKK _ _ ?_
            go_wp2_with fail
            go_ret
            exact ⟨ret_b (by rw [← HR3.out, decide_eq_true hxi, decide_eq_true hyi]; rfl), Hb0.out.trans ((Hbd.out.trans (hlq.mono Hbd.out.size)).mono Hb0.out.size)⟩
          · have hxi : (n : Int) ≤ (x.length : Int) := by omega
            have hyi : ¬ (n : Int) ≤ (y.length : Int) := by omega
            obtain ⟨A2, c2, rfl⟩ := own_form Hob.out
            clear cella
            refine wp_region_mix (Box3 w.heap.size ⟨nm, how, n, pn⟩ 1 t1 n1 1 t2 n2) [(true, 0), (true, 1), (true, 2), (true, 3), (true, 4), (true, 5), (true, 6), (true, 7), (true, 8), (true, 9), (true, 10), (true, 11), (true, 12), (true, 13), (true, 14), (true, 15), (true, 16), (true, 17), (true, 18), (true, 19), (true, 20), (false, 21), (true, 22), (true, 23)] (by kernel_rfl) (by kernel_rfl) (fun w' hd => hC.below (hd.below _)) (fun KK hKK wd hd => ?_)
            have hCd := hC.below (hd.below _)
            have Hbd := Lib.hid (hd.below wp2.heap.size)
            clear hd hC Hoa Hob
            refine mpR ?_
            refine mix_load (.int .i64 n) rfl rfl rfl rfl (fun _ => rfl) (fun w' h => h.1.cell 2 _ rfl) ?_
            refine mpR ?_
            refine mix_loadH (.int .i64 n) rfl rfl rfl (fun w' h => h.loadFar) ?_
            refine mpR ?_
            refine mix_l rfl (fun K hK => ?_) hCd
            go_wp2_with fail
            refine mpR ?_
            refine mix_nil ?_
            simp only [Exit.then]
            refine hKK _ _ ?_
            go_wp2_with fail
            go_ret
            exact ⟨ret_b (by rw [← HR3.out, decide_eq_true hxi, decide_eq_false (show ¬ (n : Int) ≤ (y.length : Int) by omega)]; rfl), Hb0.out.trans (Hbd.out.mono Hb0.out.size)⟩
        · obtain ⟨A1, c1, rfl⟩ := own_form Hoa.out
          have hxi : ¬ (n : Int) ≤ (x.length : Int) := by omega
          obtain ⟨A2, c2, rfl⟩ := own_form Hob.out
          refine wp_region_mix (Box3 w.heap.size ⟨nm, how, n, pn⟩ 1 t1 n1 1 t2 n2) [(true, 0), (true, 1), (true, 2), (true, 3), (true, 4), (true, 5), (true, 6), (true, 7), (true, 8), (true, 9), (true, 10), (true, 11), (true, 12), (true, 13), (true, 14), (true, 15), (true, 16), (true, 17), (true, 18), (true, 19), (true, 20), (false, 21), (true, 22), (true, 23)] (by kernel_rfl) (by kernel_rfl) (fun w' hd => hC.below (hd.below _)) (fun KK hKK wd hd => ?_)
          have hCd := hC.below (hd.below _)
          have Hbd := Lib.hid (hd.below wp2.heap.size)
          clear hd hC Hoa Hob
          refine mpR ?_
          refine mix_load (.int .i64 n) rfl rfl rfl rfl (fun _ => rfl) (fun w' h => h.1.cell 2 _ rfl) ?_
          refine mpR ?_
          refine mix_l rfl (fun K hK => ?_) hCd
          go_wp2_with fail
          refine mpR ?_
          refine mix_nil ?_
          simp only [Exit.then]
          refine hKK _ _ ?_
          go_wp2_with fail
          go_ret
          exact ⟨ret_b (by rw [← HR3.out, decide_eq_false (show ¬ (n : Int) ≤ (x.length : Int) by omega)]; rfl), Hb0.out.trans (Hbd.out.mono Hb0.out.size)⟩
    · clear hB Hb lvM lvV lvW HT
      obtain ⟨R, HR⟩ : ∃ R, Hid (alikeB m k1 t1 n1 k2 t2 n2 = R) := ⟨_, Lib.hid rfl⟩
      rw [HR.out]
      have HR2 : Hid (false = R) := by
        show _ = _
        rw [← HR.out, alikeB, if_neg h1, if_pos hk]
      clear HR
      go_enter Tryd.func30, Tryd.ntmps30
      by_cases e1 : k1 = 1
      · subst e1
        have e2 : (k2 == 1) = false := by simpa using fun h => hk ⟨rfl, h⟩
        clear hk
        go_wp2_with fail
        go_ret
        exact ⟨ret_b HR2.out, below3 _ _ _ _⟩
      · have e2 : (k1 == 1) = false := by simpa using e1
        clear hk
        go_wp2_with fail
        go_ret
        exact ⟨ret_b HR2.out, below3 _ _ _ _⟩
end Go.Proofs.YtmlpkejeglpciaaDoor
