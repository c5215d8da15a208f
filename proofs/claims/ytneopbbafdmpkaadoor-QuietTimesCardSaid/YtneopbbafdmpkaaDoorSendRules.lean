/- What send.CheckRules returns. -/
import Derived.Test.YtneopbbafdmpkaaDoorSendPool
namespace Go.Proofs.YtneopbbafdmpkaaDoor
open Go.RowKit
theorem quietGo_bad (prev : Option Int) (x : Int) (r : List Int) (h : isCh x = false) : quietGo prev (x :: r) = 4 := by rw [quietGo, if_pos h]
theorem quietGo_le (p x : Int) (r : List Int) (h : isCh x = true) (hxy : x ≤ p) : quietGo (some p) (x :: r) = 7 := by rw [quietGo, if_neg (by simp [h]), if_pos (by simpa using hxy)]
theorem quietGo_one (x : Int) (r : List Int) (h : isCh x = true) : quietGo none (x :: r) = quietGo (some x) r := by rw [quietGo, if_neg (by simp [h]), if_neg (by simp)]
theorem quietGo_ok (p x : Int) (r : List Int) (h : isCh x = true) (hxy : ¬ x ≤ p) : quietGo (some p) (x :: r) = quietGo (some x) r := by rw [quietGo, if_neg (by simp [h]), if_neg (by simpa using hxy)]
theorem ranksGo_bad (seen : List ByteArray) (x : ByteArray) (r : List ByteArray) (h : L.isKey x = false) : ranksGo seen (x :: r) = 5 := by rw [ranksGo, if_pos h]
theorem ranksGo_twice (seen : List ByteArray) (x : ByteArray) (r : List ByteArray) (h : L.isKey x = true) (h2 : Lib.containsS seen x = true) : ranksGo seen (x :: r) = 6 := by rw [ranksGo, if_neg (by simp [h]), if_pos h2]
theorem ranksGo_ok (seen : List ByteArray) (x : ByteArray) (r : List ByteArray) (h : L.isKey x = true) (h2 : Lib.containsS seen x = false) : ranksGo seen (x :: r) = ranksGo (seen ++ [x]) r := by rw [ranksGo, if_neg (by simp [h]), if_neg (by simp [h2])]
def prevI (xs : List Int) (k : Nat) : Option Int := if k = 0 then none else xs[k - 1]?
theorem prevI_zero (xs : List Int) : prevI xs 0 = none := rfl
theorem prevI_succ {xs : List Int} {k : Nat} {x : Int} (h : xs[k]? = some x) : prevI xs (k + 1) = some x := by rw [prevI, if_neg (Nat.succ_ne_zero k), Nat.add_sub_cancel, h]
theorem rng_no {P : Prop} [Decidable P] {x R : Int} (h : (if ¬ P then 1 else x) = R) (hp : ¬ P) : 1 = R := by rw [if_pos hp] at h; exact h
theorem rng_go {P : Prop} [Decidable P] {x R : Int} (h : (if ¬ P then 1 else x) = R) (hp : P) : x = R := by rw [if_neg (not_not_intro hp)] at h; exact h
theorem big_no {P : Prop} [Decidable P] {x R : Int} (h : (if P then 2 else x) = R) (hp : P) : 2 = R := by rw [if_pos hp] at h; exact h
theorem big_go {P : Prop} [Decidable P] {x R : Int} (h : (if P then 2 else x) = R) (hp : ¬ P) : x = R := by rw [if_neg hp] at h; exact h
theorem take_snoc {α : Type} {xs : List α} {k : Nat} {x : α} (h : xs[k]? = some x) : xs.take (k + 1) = xs.take k ++ [x] := by rw [List.take_add_one, h]; rfl
/-- rules that lie in memory -/
structure RulesIn (N : Nat → Prop) (w : World) (r : SRules) (Aq Ar Ac Ap Ad : Option Addr) : Prop where
  q : Sl rInt N w Aq r.quiet
  k : Sl rStr N w Ar r.ranks
  c : Sl rCap N w Ac r.caps
  p : Sl rPool N w Ap r.pools
  d : Sl rInt N w Ad r.delays
/-- rules of modest size -/
structure RulesOk (r : SRules) : Prop where
  ql : r.quiet.length ≤ 1000
  rl : r.ranks.length ≤ 1000
  cl : r.caps.length ≤ 1000
  pl : r.pools.length ≤ 1000
  dl : r.delays.length ≤ 1000
  rs : ∀ s ∈ r.ranks, s.size ≤ 1000
  cs : ∀ c ∈ r.caps, c.purpose.size ≤ 1000
  ps : ∀ p ∈ r.pools, p.name.size ≤ 1000 ∧ p.warm.length ≤ 1000
set_option maxHeartbeats 8000000 in
set_option maxRecDepth 100000 in
theorem checkRules_any (N : Nat → Prop) (r : SRules) (Aq Ar Ac Ap Ad : Option Addr) (cq cr cc cpp cd : Nat) (w : World) (hI : RulesIn N w r Aq Ar Ac Ap Ad) (hO : RulesOk r) (hcap : r.ranks.length ≤ cr ∧ r.pools.length ≤ cpp) :
    Calls Tryd.prog 26 #[.agg #[.slice Aq r.quiet.length cq, .int .i64 r.qfrom, .int .i64 r.qto, .slice Ar r.ranks.length cr, .slice Ac r.caps.length cc, .slice Ap r.pools.length cpp, .slice Ad r.delays.length cd]] w fun e w' => e = .returned (.int .i64 (rulesFault r)) ∧ Below w.heap.size w w' := by
  have Hq := Lib.hid hI.q
  have HR0 : Hid (rulesFault r = rulesFault r) := rfl
  obtain ⟨qt, qf, qo, rk, cp, po, dl⟩ := r
  obtain ⟨Rq, HRq⟩ : ∃ R, Hid (quietGo none qt = R) := ⟨_, Lib.hid rfl⟩
  obtain ⟨Rr, HRr⟩ : ∃ R, Hid (ranksGo [] rk = R) := ⟨_, Lib.hid rfl⟩
  obtain ⟨Rc, HRc⟩ : ∃ R, Hid (capsFault cp = R) := ⟨_, Lib.hid rfl⟩
  obtain ⟨Rp, HRp⟩ : ∃ R, Hid (poolsFault po = R) := ⟨_, Lib.hid rfl⟩
  obtain ⟨Rd, HRd⟩ : ∃ R, Hid (delaysFault dl = R) := ⟨_, Lib.hid rfl⟩
  obtain ⟨R, HR⟩ : ∃ R, Hid ((if Rq ≠ 0 then Rq else if ¬ ((0 ≤ qf ∧ qf ≤ 1439) ∧ (0 ≤ qo ∧ qo ≤ 1439)) then 1 else if 30 < rk.length then 2 else if Rr ≠ 0 then Rr else if Rc ≠ 0 then Rc else if Rp ≠ 0 then Rp else Rd) = R) := ⟨_, Lib.hid rfl⟩
  have hspec : rulesFault ⟨qt, qf, qo, rk, cp, po, dl⟩ = R := by rw [rulesFault]; dsimp only; rw [HRq.out, HRr.out, HRc.out, HRp.out, HRd.out]; exact HR.out
  rw [hspec]
  clear hspec HR0
  have HbW : Hid (Below w.heap.size w (w.alloc (.cells #[.slice Aq qt.length cq, .int .i64 qf, .int .i64 qo, .slice Ar rk.length cr, .slice Ac cp.length cc, .slice Ap po.length cpp, .slice Ad dl.length cd] 30))) := (Below.refl _ _).alloc (Nat.le_refl _) _
  have lvX := LV.new w w.heap.size #[.slice Aq qt.length cq, .int .i64 qf, .int .i64 qo, .slice Ar rk.length cr, .slice Ac cp.length cc, .slice Ap po.length cpp, .slice Ad dl.length cd] 30 rfl
  have HSq : Hid (Sl rInt N _ Aq qt) := Lib.hid (hI.q.keepB HbW.out)
  have HSr : Hid (Sl rStr N _ Ar rk) := Lib.hid (hI.k.keepB HbW.out)
  have HSc : Hid (Sl rCap N _ Ac cp) := Lib.hid (hI.c.keepB HbW.out)
  have HSp : Hid (Sl rPool N _ Ap po) := Lib.hid (hI.p.keepB HbW.out)
  have HSd : Hid (Sl rInt N _ Ad dl) := Lib.hid (hI.d.keepB HbW.out)
  obtain ⟨hql, hrl, hcl, hpl, hdl, hrs, hcs, hps⟩ := hO
  dsimp only at hql hrl hcl hpl hdl hrs hcs hps
  have Hrs := Lib.hid hrs
  have Hcs := Lib.hid hcs
  have Hps := Lib.hid hps
  obtain ⟨hcap1, hcap2⟩ := hcap
  dsimp only at hcap1 hcap2
  clear hI Hq hrs hcs hps
  have HCh := Lib.hid (fun n w => isChannel_any n w)
  have HWi := Lib.hid (fun n a b w => swithin_any n a b w)
  have HKey : Hid (∀ s w, s.size ≤ 1000 → Calls Tryd.prog 41 #[.string s] w fun e w' => e = .returned (.bool (L.isKey s)) ∧ Below w.heap.size w w') := fun s w hs => (isKey_any s w (by omega)).mono fun e w' ⟨h1, h2⟩ => ⟨h1, h2 ▸ Below.refl _ _⟩
  go_enter Tryd.func26, Tryd.ntmps26
  go_wp2_with fail
  generalize w.alloc (.cells #[.slice Aq qt.length cq, .int .i64 qf, .int .i64 qo, .slice Ar rk.length cr, .slice Ac cp.length cc, .slice Ap po.length cpp, .slice Ad dl.length cd] 30) = W0 at *
  go_loopw [12] (fun i wr => ∃ k : Nat, k ≤ qt.length ∧ i = .int .i64 k ∧ quietGo (prevI qt k) (qt.drop k) = Rq ∧ W0 = wr) (fun i _ => qt.length - (intOf i).toNat)
  case atStart => exact ⟨0, Nat.zero_le _, rfl, HRq.out, rfl⟩
  case round =>
    clear HRq
    obtain ⟨k, hk, rfl, hr, rfl⟩ := hrel
    have Hr := Lib.hid hr
    clear hr
    have r0 : W0.cell? ⟨w.heap.size, 0, none⟩ = some (.slice Aq qt.length cq) := lvX.cell 0 _ rfl
    by_cases hlt : k < qt.length
    · obtain ⟨x, hx⟩ : ∃ x, qt[k]? = some x := ⟨_, List.getElem?_eq_getElem hlt⟩
      obtain ⟨blk, off, rfl, hblk, d0⟩ := HSq.out.int k x hx
      have Hs : Hid (quietGo (prevI qt k) (x :: qt.drop (k + 1)) = Rq) := by show _ = _; rw [← Hr.out, drop_at3 hx]
      have Hx := Lib.hid hx
      clear Hr hx
      by_cases h1 : isCh x = true
      · go_wp2_with fail
        ((with_reducible refine (HCh.out _ _).mono ?_); rintro e _ ⟨rfl, rfl⟩)
        rw [h1]
        by_cases hk0 : k = 0
        · have hk1 : decide ((0 : Int) < (k : Int)) = false := by simp; omega
          have Hn : Hid (quietGo (prevI qt (k + 1)) (qt.drop (k + 1)) = Rq) := by
            show _ = _
            have e := Hs.out
            rw [show prevI qt k = none by rw [hk0]; rfl, quietGo_one x _ h1] at e
            rw [prevI_succ Hx.out]
            exact e
          clear Hs
          go_wp2_with fail
          go_roundw
          case rel => exact ⟨k + 1, by omega, by go_num, Hn.out, by first | rfl | trivial⟩
          case measure => simp [intOf]; omega
        · obtain ⟨j, rfl⟩ : ∃ j, k = j + 1 := ⟨k - 1, by omega⟩
          obtain ⟨y, hy⟩ : ∃ y, qt[j]? = some y := ⟨_, List.getElem?_eq_getElem (by omega)⟩
          obtain ⟨_, _, e, _, d1⟩ := HSq.out.int j y hy
          cases e
          have hk1 : decide ((0 : Int) < (j : Int) + 1) = true := by rw [decide_eq_true_eq]; omega
          have hk3 : (j : Int) + 1 - 1 = (j : Int) := by omega
          have Hs2 : Hid (quietGo (some y) (x :: qt.drop (j + 1 + 1)) = Rq) := by
            show _ = _
            rw [← Hs.out, prevI_succ hy]
          clear Hs hy hk0
          by_cases hxy : x ≤ y
          · have Hn : Hid (7 = R) := by
              show _ = _
              have e : (7 : Int) = Rq := by rw [← Hs2.out, quietGo_le y x _ h1 hxy]
              rw [e]
              exact step_no HR.out (by rw [← e]; decide)
            clear Hs2 HR
            go_wp2_with fail
            go_ret
            exact ⟨ret_i Hn.out, HbW.out⟩
          · have Hn : Hid (quietGo (prevI qt (j + 1 + 1)) (qt.drop (j + 1 + 1)) = Rq) := by
              show _ = _
              rw [prevI_succ Hx.out, ← Hs2.out, quietGo_ok y x _ h1 hxy]
            clear Hs2
            go_wp2_with fail
            go_roundw
            case rel => exact ⟨j + 1 + 1, by omega, by go_num, Hn.out, by first | rfl | trivial⟩
            case measure => simp [intOf]; omega
      · have h1 : isCh x = false := by simpa using h1
        have Hn : Hid (4 = R) := by
          show _ = _
          have e : (4 : Int) = Rq := by rw [← Hs.out, quietGo_bad _ x _ h1]
          rw [e]
          exact step_no HR.out (by rw [← e]; decide)
        clear Hs HR
        go_wp2_with fail
        ((with_reducible refine (HCh.out _ _).mono ?_); rintro e _ ⟨rfl, rfl⟩)
        rw [h1]
        go_wp2_with fail
        go_ret
        exact ⟨ret_i Hn.out, HbW.out⟩
    · have HR2 : Hid ((if ¬ ((0 ≤ qf ∧ qf ≤ 1439) ∧ (0 ≤ qo ∧ qo ≤ 1439)) then 1 else if 30 < rk.length then 2 else if Rr ≠ 0 then Rr else if Rc ≠ 0 then Rc else if Rp ≠ 0 then Rp else Rd) = R) := by
        show _ = _
        exact step_go HR.out (by rw [← Hr.out, List.drop_eq_nil_of_le (by omega)]; rfl)
      clear HR Hr r0
      have r1 : W0.cell? ⟨w.heap.size, 1, none⟩ = some (.int .i64 qf) := lvX.cell 1 _ rfl
      have r2 : W0.cell? ⟨w.heap.size, 2, none⟩ = some (.int .i64 qo) := lvX.cell 2 _ rfl
      have r3 : W0.cell? ⟨w.heap.size, 3, none⟩ = some (.slice Ar rk.length cr) := lvX.cell 3 _ rfl
      by_cases h1 : (0 ≤ qf ∧ qf ≤ 1439)
      · have e1 : decide (0 ≤ qf ∧ qf ≤ 1439) = true := by simpa using h1
        by_cases h2 : (0 ≤ qo ∧ qo ≤ 1439)
        · have e2 : decide (0 ≤ qo ∧ qo ≤ 1439) = true := by simpa using h2
          go_wp2_with fail
          ((with_reducible refine (HWi.out _ _ _ _).mono ?_); rintro e _ ⟨rfl, rfl⟩)
          rw [e1]
          go_wp2_with fail
          ((with_reducible refine (HWi.out _ _ _ _).mono ?_); rintro e _ ⟨rfl, rfl⟩)
          rw [e2]
          by_cases h3 : 30 < rk.length
          · have Hn : Hid (2 = R) := big_no (rng_go HR2.out ⟨h1, h2⟩) h3
            clear HR2
            go_wp2_with fail
            go_ret
            exact ⟨ret_i Hn.out, HbW.out⟩
          · have HR3 : Hid ((if Rr ≠ 0 then Rr else if Rc ≠ 0 then Rc else if Rp ≠ 0 then Rp else Rd) = R) := big_go (rng_go HR2.out ⟨h1, h2⟩) h3
            clear HR2
            go_wp2_with fail
            clear r1 r2 r3
            go_loopw [54] (fun i wr => ∃ k : Nat, k ≤ rk.length ∧ i = .int .i64 k ∧ ranksGo (rk.take k) (rk.drop k) = Rr ∧ Below W0.heap.size W0 wr) (fun i _ => rk.length - (intOf i).toNat)
            case atStart => exact ⟨0, Nat.zero_le _, rfl, HRr.out, Below.refl _ _⟩
            case round =>
              clear HRr
              obtain ⟨k, hk, rfl, hr, hbl⟩ := hrel
              have Hr := Lib.hid hr
              have Hbl := Lib.hid hbl
              have Hbw := Lib.hid (HbW.out.trans (hbl.mono HbW.out.size))
              have lvr := LV.kb3 lvX hbl lvX.lt
              have HSr1 := Lib.hid (HSr.out.keepB hbl)
              clear hr hbl
              by_cases hlt : k < rk.length
              · obtain ⟨x, hx⟩ : ∃ x, rk[k]? = some x := ⟨_, List.getElem?_eq_getElem hlt⟩
                obtain ⟨blk, off, rfl, hblk, d0⟩ := HSr1.out.str k x hx
                have hxs := Hrs.out x (List.mem_of_getElem? hx)
                have Hs : Hid (ranksGo (rk.take k) (x :: rk.drop (k + 1)) = Rr) := by show _ = _; rw [← Hr.out, drop_at3 hx]
                have Htk := Lib.hid (take_snoc hx)
                have HKx := Lib.hid (fun w => HKey.out x w hxs)
                clear Hr hx
                by_cases h1 : L.isKey x = true
                · rw [h1] at HKx
                  go_wp2_with fail
                  ((with_reducible refine (HKx.out _).mono ?_); rintro e w1 ⟨rfl, hl1⟩)
                  have Hb1 := Lib.hid (Hbl.out.trans (hl1.mono Hbl.out.size))
                  have Hbw1 := Lib.hid (Hbw.out.trans (hl1.mono Hbw.out.size))
                  have r3 : w1.cell? ⟨w.heap.size, 3, none⟩ = some (.slice (some ⟨blk, off, none⟩) rk.length cr) := (LV.kb3 lvr hl1 lvr.lt).cell 3 _ rfl
                  have Hc := Lib.hid (containsStr_any N _ rk cr k x w1 (HSr1.out.keepB hl1) (by omega) (by omega))
                  obtain ⟨ct, hct⟩ : ∃ ct, Lib.containsS (rk.take k) x = ct := ⟨_, rfl⟩
                  rw [hct] at Hc
                  have Hct := Lib.hid hct
                  clear hl1 HKx hct
                  go_wp2_with fail
                  ((with_reducible refine (Hc.out).mono ?_); rintro e _ ⟨rfl, rfl⟩)
                  cases ct
                  · have Hn : Hid (ranksGo (rk.take (k + 1)) (rk.drop (k + 1)) = Rr) := by show _ = _; rw [← Hs.out, ranksGo_ok _ x _ h1 Hct.out, Htk.out]
                    clear Hs
                    go_wp2_with fail
                    go_roundw
                    case rel => exact ⟨k + 1, by omega, by go_num, Hn.out, Hb1.out⟩
                    case measure => simp [intOf]; omega
                  · have Hn : Hid (6 = R) := by
                      show _ = _
                      have e : (6 : Int) = Rr := by rw [← Hs.out, ranksGo_twice _ x _ h1 Hct.out]
                      rw [e]
                      exact step_no HR3.out (by rw [← e]; decide)
                    clear Hs HR3
                    go_wp2_with fail
                    go_ret
                    exact ⟨ret_i Hn.out, Hbw1.out⟩
                · have h1 : L.isKey x = false := by simpa using h1
                  rw [h1] at HKx
                  have Hn : Hid (5 = R) := by
                    show _ = _
                    have e : (5 : Int) = Rr := by rw [← Hs.out, ranksGo_bad _ x _ h1]
                    rw [e]
                    exact step_no HR3.out (by rw [← e]; decide)
                  clear Hs HR3
                  go_wp2_with fail
                  ((with_reducible refine (HKx.out _).mono ?_); rintro e w1 ⟨rfl, hl1⟩)
                  have Hbw1 := Lib.hid (Hbw.out.trans (hl1.mono Hbw.out.size))
                  clear hl1 HKx
                  go_wp2_with fail
                  go_ret
                  exact ⟨ret_i Hn.out, Hbw1.out⟩
              · have HR4 : Hid ((if Rc ≠ 0 then Rc else if Rp ≠ 0 then Rp else Rd) = R) := by
                  show _ = _
                  exact step_go HR3.out (by rw [← Hr.out, List.drop_eq_nil_of_le (by omega)]; rfl)
                clear HR3 Hr HSr1
                have r4 : wr.cell? ⟨w.heap.size, 4, none⟩ = some (.slice Ac cp.length cc) := lvr.cell 4 _ rfl
                have Hc1 := Lib.hid (checkCaps_any N Ac cp cc wr (HSc.out.keepB Hbl.out) (fun f hf => by have := Hcs.out f hf; omega) (by omega))
                rw [HRc.out] at Hc1
                go_wp2_with fail
                ((with_reducible refine (Hc1.out).mono ?_); rintro e w2 ⟨rfl, hl2⟩)
                have Hb2 := Lib.hid (Hbl.out.trans (hl2.mono Hbl.out.size))
                have Hbw2 := Lib.hid (Hbw.out.trans (hl2.mono Hbw.out.size))
                have lv2 := LV.kb3 lvr hl2 lvr.lt
                clear Hc1 hl2 r4 HRc
                by_cases h5 : Rc = 0
                · subst h5
                  have HR5 : Hid ((if Rp ≠ 0 then Rp else Rd) = R) := step_go HR4.out rfl
                  have r5 : w2.cell? ⟨w.heap.size, 5, none⟩ = some (.slice Ap po.length cpp) := lv2.cell 5 _ rfl
                  have Hc2 := Lib.hid (checkPools_any N Ap po cpp w2 (HSp.out.keepB Hb2.out) (fun f hf => by have := Hps.out f hf; exact ⟨by omega, by omega⟩) (by omega) (by omega))
                  rw [HRp.out] at Hc2
                  clear HR4 HRp
                  go_wp2_with fail
                  ((with_reducible refine (Hc2.out).mono ?_); rintro e w3 ⟨rfl, hl3⟩)
                  have Hb3 := Lib.hid (Hb2.out.trans (hl3.mono Hb2.out.size))
                  have Hbw3 := Lib.hid (Hbw2.out.trans (hl3.mono Hbw2.out.size))
                  have lv3 := LV.kb3 lv2 hl3 lv2.lt
                  clear Hc2 hl3 r5
                  by_cases h6 : Rp = 0
                  · subst h6
                    have HR6 : Hid (delaysFault dl = R) := by show _ = _; rw [HRd.out]; exact step_go HR5.out rfl
                    clear HR5 HRd
                    have r6 : w3.cell? ⟨w.heap.size, 6, none⟩ = some (.slice Ad dl.length cd) := lv3.cell 6 _ rfl
                    by_cases h7 : 10 < dl.length
                    · have Hn : Hid (2 = R) := by show _ = _; rw [← HR6.out, delaysFault, if_pos h7]
                      clear HR6
                      go_wp2_with fail
                      go_ret
                      exact ⟨ret_i Hn.out, Hbw3.out⟩
                    · have Hd := Lib.hid (delays_any 1 100000 N Ad dl cd w3 (HSd.out.keepB Hb3.out) (by omega) (fun w' n => delay1_any n w'))
                      have HR7 : Hid ((if dl.any (fun n => !(decide (1 ≤ n ∧ n ≤ 100000))) then 1 else 0) = R) := by show _ = _; rw [← HR6.out, delaysFault, if_neg h7]
                      obtain ⟨ad, had⟩ : ∃ ad, dl.any (fun n => !(decide ((1 : Int) ≤ n ∧ n ≤ 100000))) = ad := ⟨_, rfl⟩
                      rw [had] at Hd HR7
                      clear HR6 had
                      go_wp2_with fail
                      ((with_reducible refine (Hd.out).mono ?_); rintro e w4 ⟨rfl, hl4⟩)
                      have Hbw4 := Lib.hid (Hbw3.out.trans (hl4.mono Hbw3.out.size))
                      cases ad
                      · have Hn : Hid (0 = R) := by show _ = _; rw [← HR7.out]; simp
                        clear HR7
                        go_wp2_with fail
                        go_ret
                        exact ⟨ret_i Hn.out, Hbw4.out⟩
                      · have Hn : Hid (1 = R) := by show _ = _; rw [← HR7.out]; simp
                        clear HR7
                        go_wp2_with fail
                        go_ret
                        exact ⟨ret_i Hn.out, Hbw4.out⟩
                  · have h6' : (Rp != 0) = true := by simpa using h6
                    have Hn : Hid (Rp = R) := by show _ = _; rw [← HR5.out, if_pos h6]
                    clear HR5 h6
                    go_wp2_with fail
                    go_ret
                    exact ⟨ret_i Hn.out, Hbw3.out⟩
                · have h5' : (Rc != 0) = true := by simpa using h5
                  have Hn : Hid (Rc = R) := by show _ = _; rw [← HR4.out, if_pos h5]
                  clear HR4 h5
                  go_wp2_with fail
                  go_ret
                  exact ⟨ret_i Hn.out, Hbw2.out⟩
        · have e2 : decide (0 ≤ qo ∧ qo ≤ 1439) = false := by simpa using h2
          have Hn : Hid (1 = R) := rng_no HR2.out (fun h => h2 h.2)
          clear HR2
          go_wp2_with fail
          ((with_reducible refine (HWi.out _ _ _ _).mono ?_); rintro e _ ⟨rfl, rfl⟩)
          rw [e1]
          go_wp2_with fail
          ((with_reducible refine (HWi.out _ _ _ _).mono ?_); rintro e _ ⟨rfl, rfl⟩)
          rw [e2]
          go_wp2_with fail
          go_ret
          exact ⟨ret_i Hn.out, HbW.out⟩
      · have e1 : decide (0 ≤ qf ∧ qf ≤ 1439) = false := by simpa using h1
        have Hn : Hid (1 = R) := rng_no HR2.out (fun h => h1 h.1)
        clear HR2
        go_wp2_with fail
        ((with_reducible refine (HWi.out _ _ _ _).mono ?_); rintro e _ ⟨rfl, rfl⟩)
        rw [e1]
        go_wp2_with fail
        go_ret
        exact ⟨ret_i Hn.out, HbW.out⟩
end Go.Proofs.YtneopbbafdmpkaaDoor
