/- Several texts in one: BusLaw, Busiest, LawBus. -/
import Derived.Test.YthlcdepjmoddnaaGreatDoorPackO
import Derived.Test.YthlcdepjmoddnaaGreatDoorPackQ
import Derived.Test.YthlcdepjmoddnaaGreatDoorPackZ
/- The window with the most events, in plain words: by counting up to an end that moves on, and by counting all anew. -/
namespace Go.Proofs.YthlcdepjmoddnaaGreatDoor
open Go.RowKit
/-- how many events stand ahead of a moment -/
def ahead (l : List Evt) (t : Int) : Nat := l.countP (fun e => decide (e.at' < t))
/-- how many events stand in a window -/
def inside (l : List Evt) (a t : Int) : Nat := l.countP (fun e => decide (a ≤ e.at' ∧ e.at' ≤ t))
def atOf (l : List Evt) (k : Nat) : Int := (l[k]?.map Evt.at').getD 0
def stepB (s : Int × Int) (a n : Int) : Int × Int := if s.2 < n then (a, n) else s
/-- what the program has after k events -/
def busP (l : List Evt) (t : Int) : Nat → Int × Int
  | 0 => (0, 0)
  | k + 1 => stepB (busP l t k) (atOf l k) ((ahead l (atOf l k + t) : Int) - k)
/-- what the reference has after k events -/
def busR (l : List Evt) (t : Int) : Nat → Int × Int
  | 0 => (0, 0)
  | k + 1 => stepB (busR l t k) (atOf l k) (inside l (atOf l k) (atOf l k + t - 1))
theorem atOf_get {l : List Evt} {k : Nat} {e : Evt} (h : l[k]? = some e) : atOf l k = e.at' := by unfold atOf; rw [h]; rfl
theorem ahead_le (l : List Evt) (t : Int) : ahead l t ≤ l.length := List.countP_le_length
/-- in a list whose moments rise those ahead of a moment are the first -/
theorem ahead_iff : ∀ {l : List Evt} {t : Int}, l.Pairwise (fun a b => a.at' ≤ b.at') → ∀ {k : Nat} {e : Evt}, l[k]? = some e → (e.at' < t ↔ k < ahead l t)
  | [], _, _, k, e, h => by simp at h
  | x :: r, t, hp, k, e, h => by
    obtain ⟨h1, h2⟩ := List.pairwise_cons.1 hp
    have hz : ahead (x :: r) t = ahead r t + (if x.at' < t then 1 else 0) := by
      unfold ahead
      rw [List.countP_cons]
      simp
    cases k with
    | zero =>
      obtain rfl : x = e := by simpa using h
      rw [hz]
      by_cases hx : x.at' < t
      · simp [hx]
      · rw [if_neg hx]
        have : ahead r t = 0 := by
          unfold ahead
          rw [List.countP_eq_zero]
          intro b hb
          have := h1 b hb
          simp; omega
        simp [this, hx]
    | succ k =>
      have hk : r[k]? = some e := by simpa using h
      have ih := ahead_iff (t := t) h2 hk
      rw [hz]
      by_cases hx : x.at' < t
      · rw [if_pos hx, ih]; omega
      · have := h1 e (List.mem_of_getElem? hk)
        rw [if_neg hx, Nat.add_zero]
        have h3 : ¬ e.at' < t := by omega
        have h4 : ¬ k < ahead r t := fun h => h3 (ih.2 h)
        exact ⟨fun h => absurd h h3, fun h => absurd (by omega : k < ahead r t) h4⟩
theorem inside_eq : ∀ (l : List Evt) (a t : Int), a ≤ t → (inside l a (t - 1) : Int) = (ahead l t : Int) - ahead l a
  | [], _, _, _ => by simp [inside, ahead]
  | x :: r, a, t, h => by
    have ih := inside_eq r a t h
    unfold inside ahead at *
    rw [List.countP_cons, List.countP_cons, List.countP_cons]
    by_cases h1 : x.at' < a
    · have h2 : x.at' < t := by omega
      have h3 : ¬ a ≤ x.at' := by omega
      simp only [h1, h2, h3, decide_true, decide_false, false_and, if_true]
      simp only [Bool.false_eq_true, if_false]
      omega
    · by_cases h2 : x.at' < t
      · have h3 : a ≤ x.at' ∧ x.at' ≤ t - 1 := by omega
        simp only [h1, h2, decide_true, decide_false, if_true, Bool.false_eq_true, if_false]
        rw [decide_eq_true h3, if_pos rfl]
        omega
      · have h3 : ¬ (a ≤ x.at' ∧ x.at' ≤ t - 1) := by omega
        simp only [h1, h2, decide_false, Bool.false_eq_true, if_false]
        rw [decide_eq_false h3, if_neg (by simp)]
        omega
theorem stepB_ge (s : Int × Int) (a n : Int) : s.2 ≤ (stepB s a n).2 ∧ n ≤ (stepB s a n).2 := by
  unfold stepB
  split
  · rename_i h; exact ⟨by show s.2 ≤ n; omega, Int.le_refl _⟩
  · exact ⟨Int.le_refl _, by omega⟩
theorem busR_ge (l : List Evt) (t : Int) : ∀ (k j : Nat), j < k → (inside l (atOf l j) (atOf l j + t - 1) : Int) ≤ (busR l t k).2
  | 0, j, h => by omega
  | k + 1, j, h => by
    have h1 := stepB_ge (busR l t k) (atOf l k) (inside l (atOf l k) (atOf l k + t - 1))
    show _ ≤ (stepB (busR l t k) (atOf l k) (inside l (atOf l k) (atOf l k + t - 1))).2
    by_cases hj : j = k
    · subst hj; exact h1.2
    · have := busR_ge l t k j (by omega)
      omega
theorem bus_eq {l : List Evt} {t : Int} (hp : l.Pairwise (fun a b => a.at' ≤ b.at')) (ht : 0 ≤ t) : ∀ k, k ≤ l.length → busP l t k = busR l t k
  | 0, _ => rfl
  | k + 1, hk => by
    have ih := bus_eq hp ht k (by omega)
    obtain ⟨e, he⟩ : ∃ e, l[k]? = some e := ⟨_, List.getElem?_eq_getElem (by omega)⟩
    have hat := atOf_get he
    show stepB (busP l t k) (atOf l k) _ = stepB (busR l t k) (atOf l k) _
    rw [ih, inside_eq l (atOf l k) (atOf l k + t) (by omega), hat]
    have hle : ahead l e.at' ≤ k := by
      rcases Nat.lt_or_ge k (ahead l e.at') with h | h
      · have := (ahead_iff (t := e.at') hp he).2 h; omega
      · exact h
    rcases Nat.eq_or_lt_of_le hle with h | h
    · rw [h]
    · obtain ⟨x, hx⟩ : ∃ x, l[ahead l e.at']? = some x := ⟨_, List.getElem?_eq_getElem (by omega)⟩
      have h1 : ¬ x.at' < e.at' := fun h2 => by have := (ahead_iff (t := e.at') hp hx).1 h2; omega
      have h2 : x.at' ≤ e.at' := by
        obtain ⟨g1, rfl⟩ := List.getElem?_eq_some_iff.1 hx
        obtain ⟨g2, rfl⟩ := List.getElem?_eq_some_iff.1 he
        exact List.pairwise_iff_getElem.1 hp _ _ g1 g2 h
      have h3 : x.at' = e.at' := by omega
      have h4 := busR_ge l t k (ahead l e.at') h
      rw [atOf_get hx, h3, inside_eq l e.at' (e.at' + t) (by omega)] at h4
      unfold stepB
      rw [if_neg (by omega), if_neg (by omega)]
theorem GoodEvs.rise {l : List Evt} (h : GoodEvs l) : l.Pairwise (fun a b => a.at' ≤ b.at') := h.ord.imp befE_at
end Go.Proofs.YthlcdepjmoddnaaGreatDoor

/- What event.Busiest and handref2.BusiestOf return. -/
namespace Go.Proofs.YthlcdepjmoddnaaGreatDoor
open Go Go.RowKit
/-- the answer of Busiest -/
def busAns (l : List Evt) (t : Int) : (Int × Int) × Int := if evsFault l ≠ 0 then ((0, 0), evsFault l) else if ¬ (1 ≤ t ∧ t ≤ 4321440) then ((0, 0), 1) else (busP l t l.length, 0)
def busV (p : (Int × Int) × Int) : Value := .tuple #[.int .i64 p.1.1, .int .i64 p.1.2, .int .i64 p.2]
theorem ahead_mono (l : List Evt) {s t : Int} (h : s ≤ t) : ahead l s ≤ ahead l t := List.countP_mono_left (fun x _ hx => by simp only [decide_eq_true_eq] at *; omega)
theorem busP_range {l : List Evt} {t : Int} : ∀ k, 0 ≤ (busP l t k).2 ∧ (busP l t k).2 ≤ l.length
  | 0 => ⟨Int.le_refl _, Int.natCast_nonneg _⟩
  | k + 1 => by
    have ih := busP_range (l := l) (t := t) k
    have := ahead_le l (atOf l k + t)
    show 0 ≤ (stepB _ _ _).2 ∧ (stepB _ _ _).2 ≤ _
    unfold stepB
    split
    · rename_i h
      exact ⟨by show 0 ≤ (_ : Int); omega, by show (_ : Int) ≤ _; omega⟩
    · exact ih
set_option maxHeartbeats 8000000 in
set_option maxRecDepth 100000 in
theorem busiest_any (N : Nat → Prop) (A : Option Addr) (xs : List Evt) (c : Nat) (t : Int) (w : World) (hS : Sl rEvt N w A xs) (hok : EvsOk xs) (hT : Tabs w) (hM : MaxL w) :
    Calls Tryz.prog 22 #[.slice A xs.length c, .int .i64 t] w fun e w' => e = .returned (busV (busAns xs t)) ∧ Below w.heap.size w w' := by
  have Hch := Lib.hid (checkEvs_any N A xs c w hS hok hT hM)
  have HSl := Lib.hid (fun w' (h : Below w.heap.size w w') => hS.keepB h)
  clear hS hok hT hM
  obtain ⟨R, HR⟩ : ∃ R, Hid (busV (busAns xs t) = R) := ⟨_, Lib.hid rfl⟩
  rw [HR.out]
  unfold busAns at HR
  by_cases hF : evsFault xs = 0
  · have HG := Lib.hid (evs_good hF)
    rw [hF] at Hch
    have HR1 : Hid (busV (if ¬ (1 ≤ t ∧ t ≤ 4321440) then ((0, 0), 1) else (busP xs t xs.length, 0)) = R) := by show _ = _; rw [← HR.out, if_neg (not_not_intro hF)]
    clear HR hF
    have hlen := HG.out.len
    go_enter Tryz.func22, Tryz.ntmps22
    go_wp2_with fail
    ((with_reducible refine (Hch.out).mono ?_); rintro e w1 ⟨rfl, hl1⟩)
    clear Hch
    go_wp2_with fail
    ((with_reducible refine (ewithin_any t 1 4321440 w1).mono ?_); rintro e _ ⟨rfl, rfl⟩)
    by_cases ht : 1 ≤ t ∧ t ≤ 4321440
    · have HR2 : Hid (busV (busP xs t xs.length, 0) = R) := by show _ = _; rw [← HR1.out, if_neg (not_not_intro ht)]
      have hd : decide (1 ≤ t ∧ t ≤ 4321440) = true := decide_eq_true ht
      obtain ⟨ht1, ht2⟩ := ht
      clear HR1
      go_wp2_with fail
      go_loopw [8, 9, 10, 23] (fun s8 s9 s10 i wr => ∃ (k E : Nat), k ≤ xs.length ∧ E ≤ xs.length ∧ i = .int .i64 k ∧ s8 = .int .i64 (busP xs t k).1 ∧ s9 = .int .i64 (busP xs t k).2 ∧ s10 = .int .i64 E ∧ Hid (∀ e, xs[k]? = some e → E ≤ ahead xs (e.at' + t)) ∧ Below w.heap.size w wr) (fun _ _ _ i _ => xs.length - (intOf i).toNat)
      case atStart => exact ⟨0, 0, Nat.zero_le _, Nat.zero_le _, rfl, rfl, rfl, rfl, (fun _ _ => Nat.zero_le _), hl1⟩
      case round =>
        clear hl1
        obtain ⟨k, E, hk, hE, rfl, rfl, rfl, rfl, HE, hbl⟩ := hrel
        have hbr := busP_range (l := xs) (t := t) k
        by_cases hlt : k < xs.length
        · obtain ⟨x, hx⟩ : ∃ x, xs[k]? = some x := ⟨_, List.getElem?_eq_getElem hlt⟩
          have hxr := HG.out.range (List.mem_of_getElem? hx)
          have HE1 : Hid (E ≤ ahead xs (x.at' + t)) := HE.out x hx
          have Hst : Hid (busP xs t (k + 1) = stepB (busP xs t k) x.at' ((ahead xs (x.at' + t) : Int) - k)) := by show _ = _; rw [← atOf_get hx]; rfl
          obtain ⟨blk, off, Af, cf, rfl, hblk, d0, d1, d2, d3, d4, d5, hst⟩ := (HSl.out wr hbl).evt k x hx
          have Hx := Lib.hid hx
          have Hbl := Lib.hid (hbl.alloc hbl.size (.cells (evCs x Af cf) 32))
          clear hst hx HE hbl
          obtain ⟨P, hP⟩ : ∃ P, busP xs t k = P := ⟨_, rfl⟩
          rw [hP] at Hst hbr ⊢
          have HP := Lib.hid hP
          clear hP
          obtain ⟨p1, p2⟩ := P
          simp only at hbr
          go_upto_region 10 with fail
          clear d0 d1 d2 d3 d4 d5
          have lvY := LV.new wr wr.heap.size (evCs x Af cf) 32 rfl
          obtain ⟨Y, hY⟩ : ∃ Y, Y = wr.heap.size := ⟨_, rfl⟩
          rw [← hY] at lvY ⊢
          clear hY
          generalize wr.alloc (.cells (evCs x Af cf) 32) = w2 at *
          have y0 := lvY.all
          have hw : IntKind.i64.wrap (x.at' + t) = x.at' + t := IntWalk.i64_in _ (by omega)
          go_loopw [10] (fun s10 wq => ∃ E : Nat, E ≤ xs.length ∧ s10 = .int .i64 E ∧ Hid (E ≤ ahead xs (x.at' + t)) ∧ Below w2.heap.size w2 wq) (fun s10 _ => xs.length - (intOf s10).toNat)
          case atStart => exact ⟨E, hE, rfl, HE1, Below.refl _ _⟩
          case round =>
            clear HE1 hE
            obtain ⟨E, hE, rfl, HE1, hbq⟩ := hrel
            have lvZ := LV.kb3 lvY hbq lvY.lt
            have Hbt : Hid (Below w.heap.size w wr) := Hbl.out.trans (hbq.mono Hbl.out.size)
            have Hbq := Lib.hid hbq
            clear hbq y0
            have z2 : wr.cell? ⟨Y, 2, none⟩ = some (.int .i64 x.at') := lvZ.cell 2 _ rfl
            by_cases hlt2 : E < xs.length
            · obtain ⟨y, hy⟩ : ∃ y, xs[E]? = some y := ⟨_, List.getElem?_eq_getElem hlt2⟩
              obtain ⟨blk2, off2, Ay, cy, hq, _, _, _, d2, _⟩ := (HSl.out wr Hbt.out).evt E y hy
              cases hq
              have Hy := Lib.hid hy
              have hd : decide (E < xs.length) = true := decide_eq_true hlt2
              clear hy
              by_cases hyt : y.at' < x.at' + t
              · have HE2 : Hid (E + 1 ≤ ahead xs (x.at' + t)) := by
                  have := (ahead_iff HG.out.rise Hy.out).1 hyt
                  show _ ≤ _
                  omega
                have hyd : decide (y.at' < x.at' + t) = true := decide_eq_true hyt
                clear HE1
                go_wp2_with fail
                go_quiet (fail)
                go_wp2_with fail
                go_roundw
                case rel => exact ⟨E + 1, by omega, by go_num, HE2, Hbq.out.trans ((below_drewN _ _ _).mono Hbq.out.size)⟩
                case measure => simp [intOf]; omega
              · have HE2 : Hid (ahead xs (x.at' + t) = E) := by
                  have h1 : ¬ E < ahead xs (x.at' + t) := fun h => hyt ((ahead_iff HG.out.rise Hy.out).2 h)
                  have h2 := HE1.out
                  show _ = _
                  omega
                have hyd : decide (y.at' < x.at' + t) = false := decide_eq_false hyt
                clear HE1
                go_wp2_with fail
                go_quiet (fail)
                have HE3 : Hid (∀ e, xs[k + 1]? = some e → E ≤ ahead xs (e.at' + t)) := fun e he => by
                  have h1 := HG.out.at_le (Nat.le_succ k) Hx.out he
                  have h2 := ahead_mono xs (s := x.at' + t) (t := e.at' + t) (by omega)
                  have h3 := HE2.out
                  omega
                have Hst2 : Hid (busP xs t (k + 1) = stepB (p1, p2) x.at' ((E : Int) - k)) := by show _ = _; rw [Hst.out, HE2.out]
                have hw3 : IntKind.i64.wrap ((E : Int) - k) = (E : Int) - k := IntWalk.i64_in _ (by omega)
                clear Hst HE2 Hx lvY z2 hw
                have Hbz : Hid (Below w.heap.size w (wr.drewN nq)) := Hbt.out.trans ((below_drewN _ _ _).mono Hbt.out.size)
                have z2 : (wr.drewN nq).cell? ⟨Y, 2, none⟩ = some (.int .i64 x.at') := (LV.kb3 lvZ (below_drewN _ wr nq) lvZ.lt).cell 2 _ rfl
                clear Hbt Hbq lvZ
                generalize wr.drewN nq = wz at *
                by_cases hb : p2 < (E : Int) - k
                · have Hst3 : Hid (busP xs t (k + 1) = (x.at', (E : Int) - k)) := by show _ = _; rw [Hst2.out]; exact if_pos hb
                  clear Hst2
                  go_wp2_with fail
                  go_roundw
                  case rel => exact ⟨k + 1, E, by omega, hE, by go_num, by rw [Hst3.out], by rw [Hst3.out], rfl, HE3, Hbz.out⟩
                  case measure => simp [intOf]; omega
                · have Hst3 : Hid (busP xs t (k + 1) = (p1, p2)) := by show _ = _; rw [Hst2.out]; exact if_neg hb
                  clear Hst2
                  go_wp2_with fail
                  go_roundw
                  case rel => exact ⟨k + 1, E, by omega, hE, by go_num, by rw [Hst3.out], by rw [Hst3.out], rfl, HE3, Hbz.out⟩
                  case measure => simp [intOf]; omega
            · have HE2 : Hid (ahead xs (x.at' + t) = E) := by
                have h1 := ahead_le xs (x.at' + t)
                have h2 := HE1.out
                show _ = _
                omega
              have hd : decide (E < xs.length) = false := decide_eq_false hlt2
              clear HE1
              go_wp2_with fail
              go_quiet (fail)
              have HE3 : Hid (∀ e, xs[k + 1]? = some e → E ≤ ahead xs (e.at' + t)) := fun e he => by
                have h1 := HG.out.at_le (Nat.le_succ k) Hx.out he
                have h2 := ahead_mono xs (s := x.at' + t) (t := e.at' + t) (by omega)
                have h3 := HE2.out
                omega
              have Hst2 : Hid (busP xs t (k + 1) = stepB (p1, p2) x.at' ((E : Int) - k)) := by show _ = _; rw [Hst.out, HE2.out]
              have hw3 : IntKind.i64.wrap ((E : Int) - k) = (E : Int) - k := IntWalk.i64_in _ (by omega)
              clear Hst HE2 Hx lvY z2 hw
              have Hbz : Hid (Below w.heap.size w (wr.drewN nq)) := Hbt.out.trans ((below_drewN _ _ _).mono Hbt.out.size)
              have z2 : (wr.drewN nq).cell? ⟨Y, 2, none⟩ = some (.int .i64 x.at') := (LV.kb3 lvZ (below_drewN _ wr nq) lvZ.lt).cell 2 _ rfl
              clear Hbt Hbq lvZ
              generalize wr.drewN nq = wz at *
              by_cases hb : p2 < (E : Int) - k
              · have Hst3 : Hid (busP xs t (k + 1) = (x.at', (E : Int) - k)) := by show _ = _; rw [Hst2.out]; exact if_pos hb
                clear Hst2
                go_wp2_with fail
                go_roundw
                case rel => exact ⟨k + 1, E, by omega, hE, by go_num, by rw [Hst3.out], by rw [Hst3.out], rfl, HE3, Hbz.out⟩
                case measure => simp [intOf]; omega
              · have Hst3 : Hid (busP xs t (k + 1) = (p1, p2)) := by show _ = _; rw [Hst2.out]; exact if_neg hb
                clear Hst2
                go_wp2_with fail
                go_roundw
                case rel => exact ⟨k + 1, E, by omega, hE, by go_num, by rw [Hst3.out], by rw [Hst3.out], rfl, HE3, Hbz.out⟩
                case measure => simp [intOf]; omega
        · have Hn : Hid (busV (busP xs t xs.length, 0) = R) := HR2
          have hk' : k = xs.length := by omega
          have Hbl := Lib.hid hbl
          clear hbl HE
          subst hk'
          obtain ⟨P, hP⟩ : ∃ P, busP xs t xs.length = P := ⟨_, rfl⟩
          rw [hP] at Hn ⊢
          clear hP
          go_wp2_with fail
          go_ret3
          exact ⟨by rw [← Hn.out]; rfl, Hbl.out⟩
    · have Hn : Hid (busV ((0, 0), 1) = R) := by show _ = _; rw [← HR1.out, if_pos ht]
      have hd : decide (1 ≤ t ∧ t ≤ 4321440) = false := decide_eq_false ht
      clear HR1
      go_wp2_with fail
      go_ret3
      exact ⟨by rw [← Hn.out]; rfl, hl1⟩
  · have Hn : Hid (busV ((0, 0), evsFault xs) = R) := by show _ = _; rw [← HR.out, if_pos hF]
    generalize evsFault xs = F at *
    have hF' : (F != 0) = true := by simpa using hF
    clear HR
    go_enter Tryz.func22, Tryz.ntmps22
    go_wp2_with fail
    ((with_reducible refine (Hch.out).mono ?_); rintro e w1 ⟨rfl, hl1⟩)
    go_wp2_with fail
    go_ret3
    exact ⟨by rw [← Hn.out]; rfl, hl1⟩
theorem inside_take (xs : List Evt) (a t : Int) (k : Nat) (y : Evt) (h : xs[k]? = some y) : inside (xs.take (k + 1)) a t = inside (xs.take k) a t + (if a ≤ y.at' ∧ y.at' ≤ t then 1 else 0) := by
  unfold inside
  obtain ⟨hk, rfl⟩ := List.getElem?_eq_some_iff.1 h
  rw [List.take_add_one, List.getElem?_eq_getElem hk, Option.toList_some, List.countP_append, List.countP_singleton]
  simp only [decide_eq_true_eq]
theorem inside_le (xs : List Evt) (a t : Int) (k : Nat) : inside (xs.take k) a t ≤ k := by
  unfold inside
  exact Nat.le_trans List.countP_le_length (by rw [List.length_take]; omega)
theorem busR_range (l : List Evt) (t : Int) : ∀ k, 0 ≤ (busR l t k).2 ∧ (busR l t k).2 ≤ l.length
  | 0 => ⟨Int.le_refl _, Int.natCast_nonneg _⟩
  | k + 1 => by
    have ih := busR_range l t k
    have : inside l (atOf l k) (atOf l k + t - 1) ≤ l.length := List.countP_le_length
    show 0 ≤ (stepB _ _ _).2 ∧ (stepB _ _ _).2 ≤ _
    unfold stepB
    split
    · exact ⟨by show 0 ≤ (_ : Int); omega, by show (_ : Int) ≤ _; omega⟩
    · exact ih
def busW (p : Int × Int) : Value := .tuple #[.int .i64 p.1, .int .i64 p.2]
set_option maxHeartbeats 8000000 in
set_option maxRecDepth 100000 in
theorem busiestOf_any (N : Nat → Prop) (A : Option Addr) (xs : List Evt) (c : Nat) (t : Int) (w : World) (hS : Sl rEvt N w A xs) (hG : GoodEvs xs) (ht1 : 1 ≤ t) (ht2 : t ≤ 4321440) :
    Calls Tryz.prog 23 #[.slice A xs.length c, .int .i64 t] w fun e w' => e = .returned (busW (busR xs t xs.length)) ∧ Below w.heap.size w w' := by
  have HSl := Lib.hid (fun w' (h : Below w.heap.size w w') => hS.keepB h)
  have HG := Lib.hid hG
  have hlen := hG.len
  clear hS hG
  obtain ⟨R, HR⟩ : ∃ R, Hid (busW (busR xs t xs.length) = R) := ⟨_, Lib.hid rfl⟩
  rw [HR.out]
  go_enter Tryz.func23, Tryz.ntmps23
  go_wp2_with fail
  go_loopw [6, 7, 15] (fun s6 s7 i wr => ∃ k : Nat, k ≤ xs.length ∧ i = .int .i64 k ∧ s6 = .int .i64 (busR xs t k).1 ∧ s7 = .int .i64 (busR xs t k).2 ∧ Below w.heap.size w wr) (fun _ _ i _ => xs.length - (intOf i).toNat)
  case atStart => exact ⟨0, Nat.zero_le _, rfl, rfl, rfl, Below.refl _ _⟩
  case round =>
    obtain ⟨k, hk, rfl, rfl, rfl, hbl⟩ := hrel
    have hbr := busR_range xs t k
    by_cases hlt : k < xs.length
    · obtain ⟨x, hx⟩ : ∃ x, xs[k]? = some x := ⟨_, List.getElem?_eq_getElem hlt⟩
      have hxr := HG.out.range (List.mem_of_getElem? hx)
      have Hst : Hid (busR xs t (k + 1) = stepB (busR xs t k) x.at' (inside xs x.at' (x.at' + t - 1))) := by show _ = _; rw [← atOf_get hx]; rfl
      obtain ⟨blk, off, Af, cf, rfl, hblk, d0, d1, d2, d3, d4, d5, hst⟩ := (HSl.out wr hbl).evt k x hx
      have Hbl := Lib.hid (hbl.alloc hbl.size (.cells (evCs x Af cf) 32))
      clear hst hx hbl
      obtain ⟨P, hP⟩ : ∃ P, busR xs t k = P := ⟨_, rfl⟩
      rw [hP] at Hst hbr ⊢
      clear hP
      obtain ⟨p1, p2⟩ := P
      simp only at hbr
      go_upto_region 5 with fail
      clear d0 d1 d2 d3 d4 d5
      have lvY := LV.new wr wr.heap.size (evCs x Af cf) 32 rfl
      obtain ⟨Y, hY⟩ : ∃ Y, Y = wr.heap.size := ⟨_, rfl⟩
      rw [← hY] at lvY ⊢
      clear hY
      generalize wr.alloc (.cells (evCs x Af cf) 32) = w2 at *
      have hw : IntKind.i64.wrap (x.at' + t) = x.at' + t := IntWalk.i64_in _ (by omega)
      have hw2 : IntKind.i64.wrap (x.at' + t - 1) = x.at' + t - 1 := IntWalk.i64_in _ (by omega)
      go_wp2_with fail
      go_loopw [10, 21] (fun s10 j wq => ∃ m : Nat, m ≤ xs.length ∧ j = .int .i64 m ∧ s10 = .int .i64 (inside (xs.take m) x.at' (x.at' + t - 1) : Nat) ∧ Below w2.heap.size w2 wq) (fun _ j _ => xs.length - (intOf j).toNat)
      case atStart => exact ⟨0, Nat.zero_le _, rfl, rfl, Below.refl _ _⟩
      case round =>
        obtain ⟨m, hm, rfl, rfl, hbq⟩ := hrel
        have lvZ := LV.kb3 lvY hbq lvY.lt
        have Hbt : Hid (Below w.heap.size w wr) := Hbl.out.trans (hbq.mono Hbl.out.size)
        have hil := inside_le xs x.at' (x.at' + t - 1) m
        by_cases hlt2 : m < xs.length
        · obtain ⟨y, hy⟩ : ∃ y, xs[m]? = some y := ⟨_, List.getElem?_eq_getElem hlt2⟩
          have Hin := Lib.hid (inside_take xs x.at' (x.at' + t - 1) m y hy)
          obtain ⟨blk2, off2, Ay, cy, hq, _, e0, e1, e2, e3, e4, e5, _⟩ := (HSl.out wr Hbt.out).evt m y hy
          cases hq
          have Hbq2 := Lib.hid (hbq.alloc hbq.size (.cells (evCs y Ay cy) 32))
          clear hy
          have lvZ2 := LV.kb3 lvZ ((Below.refl _ wr).alloc (Nat.le_refl _) (.cells (evCs y Ay cy) 32)) lvZ.lt
          have lvV := LV.new wr wr.heap.size (evCs y Ay cy) 32 rfl
          generalize inside (xs.take m) x.at' (x.at' + t - 1) = n at *
          go_upto_region 9 with fail
          clear e0 e1 e2 e3 e4 e5
          obtain ⟨V, hV⟩ : ∃ V, V = wr.heap.size := ⟨_, rfl⟩
          rw [← hV] at lvV ⊢
          clear hV lvZ hbq
          generalize wr.alloc (.cells (evCs y Ay cy) 32) = w3 at *
          have z2 : w3.cell? ⟨Y, 2, none⟩ = some (.int .i64 x.at') := lvZ2.cell 2 _ rfl
          have v2 : w3.cell? ⟨V, 2, none⟩ = some (.int .i64 y.at') := lvV.cell 2 _ rfl
          have Hcin := Lib.hid (in_any y.at' x.at' (x.at' + t - 1) w3)
          by_cases hin : x.at' ≤ y.at' ∧ y.at' ≤ x.at' + t - 1
          · rw [if_pos hin] at Hin
            rw [decide_eq_true hin] at Hcin
            clear hin
            go_wp2_with fail
            ((with_reducible refine (Hcin.out).mono ?_); rintro e _ ⟨rfl, rfl⟩)
            clear z2 v2
            go_wp2_with fail
            go_roundw
            case rel => exact ⟨m + 1, by omega, by go_num, by rw [Hin.out]; go_num, Hbq2.out⟩
            case measure => simp [intOf]; omega
          · rw [if_neg hin] at Hin
            rw [decide_eq_false hin] at Hcin
            clear hin
            go_wp2_with fail
            ((with_reducible refine (Hcin.out).mono ?_); rintro e _ ⟨rfl, rfl⟩)
            clear z2 v2
            go_wp2_with fail
            go_roundw
            case rel => exact ⟨m + 1, by omega, by go_num, by rw [Hin.out]; rfl, Hbq2.out⟩
            case measure => simp [intOf]; omega
        · have Hall : Hid (inside (xs.take m) x.at' (x.at' + t - 1) = inside xs x.at' (x.at' + t - 1)) := by show _ = _; rw [List.take_of_length_le (by omega)]
          have z2 : wr.cell? ⟨Y, 2, none⟩ = some (.int .i64 x.at') := lvZ.cell 2 _ rfl
          rw [← Hall.out] at Hst
          clear Hall hbq lvZ
          generalize inside (xs.take m) x.at' (x.at' + t - 1) = n at *
          by_cases hb : p2 < n
          · have Hst2 : Hid (busR xs t (k + 1) = (x.at', (n : Int))) := by show _ = _; rw [Hst.out]; exact if_pos hb
            clear Hst
            go_wp2_with fail
            go_roundw
            case rel => exact ⟨k + 1, by omega, by go_num, by rw [Hst2.out], by rw [Hst2.out], Hbt.out⟩
            case measure => simp [intOf]; omega
          · have Hst2 : Hid (busR xs t (k + 1) = (p1, p2)) := by show _ = _; rw [Hst.out]; exact if_neg hb
            clear Hst
            go_wp2_with fail
            go_roundw
            case rel => exact ⟨k + 1, by omega, by go_num, by rw [Hst2.out], by rw [Hst2.out], Hbt.out⟩
            case measure => simp [intOf]; omega
    · have hk' : k = xs.length := by omega
      have Hbl := Lib.hid hbl
      clear hbl
      subst hk'
      obtain ⟨P, hP⟩ : ∃ P, busR xs t xs.length = P := ⟨_, rfl⟩
      rw [hP] at HR ⊢
      clear hP
      go_wp2_with fail
      go_ret2
      exact ⟨by rw [← HR.out]; rfl, Hbl.out⟩
end Go.Proofs.YthlcdepjmoddnaaGreatDoor

/- The law EventBusiest walked: it returns true, and nothing that was there has turned. -/
namespace Go.Proofs.YthlcdepjmoddnaaGreatDoor
open Go Go.RowKit
set_option maxHeartbeats 8000000 in
set_option maxRecDepth 100000 in
theorem eventBusiest_any (v : Value) (w : World) (hv : IntsIn v w) (hT : Tabs w) (hM : MaxL w) (hN : Names w) (hE : ENames w) (hP : Pool w) :
    Calls Tryz.prog 4 #[v] w fun e w' => e = .returned (.bool true) ∧ Below w.heap.size w w' := by
  obtain ⟨va, vn, vc, rfl⟩ : ∃ a n c, v = .slice a n c := by
    rcases hv with ⟨a, c, rfl⟩ | ⟨k, off, len, cap, rfl, _⟩
    · exact ⟨_, _, _, rfl⟩
    · exact ⟨_, _, _, rfl⟩
  have g0 := G.start (Strm.start hv)
  clear hv
  have S := St.start g0.s
  have hPn : 2 ≠ w.heap.size := Nat.ne_of_lt hP.lt
  have hNn : 1 ≠ w.heap.size := Nat.ne_of_lt hN.lt
  have hEn : 0 ≠ w.heap.size := Nat.ne_of_lt hE.lt
  have hb0 : Below w.heap.size w (w.alloc (.cells #[.slice va vn vc, .int .i64 0] 25)) := (Below.refl _ _).alloc (Nat.le_refl _) _
  have Hb0 := Lib.hid hb0
  have HTM : Hid (∀ w', Below w.heap.size w w' → Tabs w' ∧ MaxL w') := fun w' h => ⟨Utf8Tabs_below hT h, hM.below h⟩
  have HP := Lib.hid (hP.keep (b := w.heap.size) ((SK.refl _ w).alloc (.cells #[.slice va vn vc, .int .i64 0] 25)) hPn)
  have HN := Lib.hid (hN.keep (b := w.heap.size) ((SK.refl _ w).alloc (.cells #[.slice va vn vc, .int .i64 0] 25)) hNn)
  have HE := Lib.hid (hE.keep (b := w.heap.size) ((SK.refl _ w).alloc (.cells #[.slice va vn vc, .int .i64 0] 25)) hEn)
  have hw0 : w.heap.size ≤ (w.alloc (.cells #[.slice va vn vc, .int .i64 0] 25)).heap.size := by simp
  clear hP hM hN hE hT hb0
  go_enter Tryz.func4, Tryz.ntmps4
  go_wp2_with fail
  ((with_reducible refine (range_any w.heap.size _ _ _ _ S.g.s (by omega) (by omega) (by omega) (by omega)).mono ?_); rintro e w1 ⟨many, m_lo, m_hi, rfl, hk_w1, hs_w1⟩)
  replace S := S.step hk_w1 hs_w1
  clear hk_w1 hs_w1
  obtain ⟨n, rfl⟩ := Int.eq_ofNat_of_zero_le m_lo
  go_wp2_with fail
  ((with_reducible refine (some_any w.heap.size _ n _ S.g.s (by omega) (by omega) (HN.out.keep S.g.k hNn) hNn (HE.out.keep S.g.k hEn) hEn (HP.out.keep S.g.k hPn) hPn (fun w' h => HTM.out w' (Hb0.out.trans ((S.g.k.trans h).below (Nat.le_refl _) hw0)))).mono ?_); rintro e w2 ⟨A, c, xs, rfl, hxl, hxs, hc, T⟩)
  replace S := S.join T
  have Hxs := Lib.hid hxs
  have Hc0 := Lib.hid hc
  clear T hxs hc
  go_wp2_with fail
  ((with_reducible refine (pick_le w.heap.size _ _ _ 0 4321441 S.g.s (by first | rfl | simp) (by first | rfl | simp) (by repeat (first | exact intsIn_nil | refine intsIn_cons (by omega) ?_)) (by simp) (by simp) (by omega)).mono ?_); rintro e w3 ⟨t, t_lo, t_hi, rfl, hk_w3, hs_w3⟩)
  replace S := S.step hk_w3 hs_w3
  clear hk_w3 hs_w3
  have Hb3 : Hid (Below w.heap.size w w3) := Hb0.out.trans (S.g.k.below (Nat.le_refl _) hw0)
  have hS3 := (S.slc 0 rfl)
  have hok : EvsOk xs := evsOk_sm (by omega) Hxs.out
  obtain ⟨hT3, hM3⟩ := HTM.out _ Hb3.out
  clear S
  have Hc := Lib.hid (busiest_any _ A xs c t w3 hS3 hok hT3 hM3)
  obtain ⟨F, hF⟩ : ∃ F, evsFault xs = F := ⟨_, rfl⟩
  by_cases hF0 : F = 0
  · subst hF0
    have HG := Lib.hid (evs_good hF)
    by_cases ht : 1 ≤ t ∧ t ≤ 4321440
    · have hb : busAns xs t = (busR xs t xs.length, 0) := by unfold busAns; rw [if_neg (not_not_intro hF), if_neg (not_not_intro ht), bus_eq HG.out.rise (by omega) _ (Nat.le_refl _)]
      rw [hb] at Hc
      rw [hF]
      have Hr := Lib.hid (fun w' (h : Below w3.heap.size w3 w') => busiestOf_any _ A xs c t w' (hS3.keepB h) HG.out ht.1 ht.2)
      obtain ⟨ht1, ht2⟩ := ht
      clear hb hF
      generalize busR xs t xs.length = P at *
      obtain ⟨p1, p2⟩ := P
      replace Hc : Hid (Calls Tryz.prog 22 #[.slice A xs.length c, .int .i64 t] w3 fun e w' => e = .returned (.tuple #[.int .i64 p1, .int .i64 p2, .int .i64 0]) ∧ Below w3.heap.size w3 w') := Hc
      replace Hr : Hid (∀ w', Below w3.heap.size w3 w' → Calls Tryz.prog 23 #[.slice A xs.length c, .int .i64 t] w' fun e w'' => e = .returned (.tuple #[.int .i64 p1, .int .i64 p2]) ∧ Below w'.heap.size w' w'') := Hr
      clear hS3
      generalize xs.length = n3 at *
      go_wp2_with fail
      ((with_reducible refine (Hc.out).mono ?_); rintro e w4 ⟨rfl, hl4⟩)
      have Hr4 := Lib.hid (Hr.out w4 hl4)
      have Hb4 : Hid (Below w.heap.size w w4) := Hb3.out.trans (hl4.mono Hb3.out.size)
      clear Hc Hr hl4
      go_wp2_with fail
      ((with_reducible refine (Hr4.out).mono ?_); rintro e w5 ⟨rfl, hl5⟩)
      have Hb5 : Hid (Below w.heap.size w w5) := Hb4.out.trans (hl5.mono Hb4.out.size)
      clear Hr4 hl5
      go_wp2_with fail
      ((with_reducible refine (happenings_any w5).mono ?_); rintro e w9 ⟨rfl, hl9⟩)
      go_wp2_with fail
      go_ret
      exact ⟨rfl, Hb5.out.trans (hl9.mono Hb5.out.size)⟩
    · have hb : busAns xs t = ((0, 0), 1) := by unfold busAns; rw [if_neg (not_not_intro hF), if_pos ht]
      rw [hb] at Hc
      rw [hF]
      replace Hc : Hid (Calls Tryz.prog 22 #[.slice A xs.length c, .int .i64 t] w3 fun e w' => e = .returned (.tuple #[.int .i64 0, .int .i64 0, .int .i64 1]) ∧ Below w3.heap.size w3 w') := Hc
      clear hS3 hb hF
      generalize xs.length = n3 at *
      by_cases h1 : t < 1
      · clear ht
        go_wp2_with fail
        ((with_reducible refine (Hc.out).mono ?_); rintro e w4 ⟨rfl, hl4⟩)
        have Hb4 : Hid (Below w.heap.size w w4) := Hb3.out.trans (hl4.mono Hb3.out.size)
        clear Hc hl4
        go_wp2_with fail
        ((with_reducible refine (happenings_any w4).mono ?_); rintro e w9 ⟨rfl, hl9⟩)
        go_wp2_with fail
        go_ret
        exact ⟨rfl, Hb4.out.trans (hl9.mono Hb4.out.size)⟩
      · have h2 : 4321440 < t := by omega
        clear ht
        go_wp2_with fail
        ((with_reducible refine (Hc.out).mono ?_); rintro e w4 ⟨rfl, hl4⟩)
        have Hb4 : Hid (Below w.heap.size w w4) := Hb3.out.trans (hl4.mono Hb3.out.size)
        clear Hc hl4
        go_wp2_with fail
        ((with_reducible refine (happenings_any w4).mono ?_); rintro e w9 ⟨rfl, hl9⟩)
        go_wp2_with fail
        go_ret
        exact ⟨rfl, Hb4.out.trans (hl9.mono Hb4.out.size)⟩
  · have hb : busAns xs t = ((0, 0), F) := by unfold busAns; rw [hF, if_pos hF0]
    rw [hb] at Hc
    rw [hF]
    replace Hc : Hid (Calls Tryz.prog 22 #[.slice A xs.length c, .int .i64 t] w3 fun e w' => e = .returned (.tuple #[.int .i64 0, .int .i64 0, .int .i64 F]) ∧ Below w3.heap.size w3 w') := Hc
    have hF' : (F == 0) = false := by simpa using hF0
    clear hS3 hb hF hF0
    generalize xs.length = n3 at *
    go_wp2_with fail
    ((with_reducible refine (Hc.out).mono ?_); rintro e w4 ⟨rfl, hl4⟩)
    have Hb4 : Hid (Below w.heap.size w w4) := Hb3.out.trans (hl4.mono Hb3.out.size)
    clear Hc hl4
    go_wp2_with fail
    ((with_reducible refine (happenings_any w4).mono ?_); rintro e w9 ⟨rfl, hl9⟩)
    go_wp2_with fail
    go_ret
    exact ⟨rfl, Hb4.out.trans (hl9.mono Hb4.out.size)⟩
end Go.Proofs.YthlcdepjmoddnaaGreatDoor
