/- Several texts in one: GenRT, GenRU. -/
import Derived.Test.YteabhkmhogmoiaaGreatDoorPackJ
import Derived.Test.YteabhkmhogmoiaaGreatDoorPackC
/- What the generator RightTouches makes: touches, each without a fault. -/
namespace Go.Proofs.YteabhkmhogmoiaaGreatDoor
open Go Go.RowKit
def DrawsRT (b m n : Nat) (w : World) (e : Ending) (w' : World) : Prop := ∃ (v : Value) (qs : List TQ), e = .returned v ∧ qs.length ≤ n ∧ (∀ q ∈ qs, TchSm q.t ∧ tchFault q.t 0 = 0) ∧ St b m w w' [.own rTQ w.heap.size 86 v qs, .tdat qs]
theorem one_fault (t : Tch) : tchsFault [t] = tchFault t 0 := by
  unfold tchsFault
  rw [if_neg (by simp)]
  unfold tchsGo
  by_cases h : tchFault t 0 ≠ 0
  · rw [if_pos h]
  · rw [if_neg h, tchsGo]; omega
theorem no_ok {t : Tch} {last : Int} (h : tchFault t last = 0) : 1 ≤ t.no ∧ t.no ≤ 1000000 := by
  unfold tchFault tchE at h
  split at h
  · cases h
  · rename_i h2
    rw [Bool.not_eq_false, Bool.and_eq_true, decide_eq_true_eq] at h2
    exact h2.1
end Go.Proofs.YteabhkmhogmoiaaGreatDoor

/- handmake.RightTouches once more: the numbers rise. -/
namespace Go.Proofs.YteabhkmhogmoiaaGreatDoor
open Go Go.RowKit
def RtQ (qs : List TQ) : Prop := (∀ q ∈ qs, TchSm q.t ∧ tchFault q.t 0 = 0) ∧ qs.Pairwise (fun a b => a.t.no < b.t.no)
def DrawsRU (b m n : Nat) (w : World) (e : Ending) (w' : World) : Prop := ∃ (v : Value) (qs : List TQ), e = .returned v ∧ qs.length ≤ n ∧ RtQ qs ∧ St b m w w' [.own rTQ w.heap.size 86 v qs, .tdat qs]
theorem RtQ.last {qs : List TQ} {l : Nat} {q : TQ} (h : RtQ qs) (hl : qs.length = l + 1) (hq : qs[l]? = some q) : ∀ x ∈ qs, x.t.no ≤ q.t.no := fun x hx => by
  obtain ⟨i, hi, rfl⟩ := List.getElem_of_mem hx
  obtain ⟨hl2, rfl⟩ := List.getElem?_eq_some_iff.1 hq
  rcases Nat.lt_or_ge i l with h1 | h1
  · exact Int.le_of_lt (List.pairwise_iff_getElem.1 h.2 i l hi hl2 h1)
  · obtain rfl : i = l := by omega
    exact Int.le_refl _
theorem RtQ.snoc {qs : List TQ} {x : TQ} {n : Int} (h : RtQ qs) (hx : TchSm x.t ∧ tchFault x.t 0 = 0) (hn : x.t.no = n) (hlt : ∀ y ∈ qs, y.t.no < n) : RtQ (qs ++ [x]) := by
  refine ⟨fun q hq => ?_, List.pairwise_append.2 ⟨h.2, List.pairwise_singleton _ _, fun y hy z hz => ?_⟩⟩
  · rcases List.mem_append.1 hq with hq | hq
    · exact h.1 q hq
    · rw [List.mem_singleton.1 hq]; exact hx
  · rw [List.mem_singleton.1 hz, hn]; exact hlt y hy
theorem tchFault_last {t : Tch} {last : Int} (h : tchFault t 0 = 0) (hl : last < t.no) : tchFault t last = 0 := by
  unfold tchFault at *
  have h1 := no_ok (t := t) (last := 0) h
  rw [decide_eq_false (show ¬ t.no ≤ 0 by omega)] at h
  rw [decide_eq_false (show ¬ t.no ≤ last by omega)]
  exact h
theorem rtq_go : ∀ (l : List Tch) (last : Int), (∀ t ∈ l, tchFault t 0 = 0) → l.Pairwise (fun a b => a.no < b.no) → (∀ t ∈ l, last < t.no) → tchsGo last l = 0
  | [], _, _, _, _ => rfl
  | t :: r, last, h, hp, hl => by
    obtain ⟨h1, h2⟩ := List.pairwise_cons.1 hp
    rw [tchsGo, if_neg (by simpa using tchFault_last (h t (List.mem_cons_self ..)) (hl t (List.mem_cons_self ..)))]
    exact rtq_go r t.no (fun x hx => h x (List.mem_cons_of_mem _ hx)) h2 h1
theorem RtQ.fault {qs : List TQ} (h : RtQ qs) (hl : qs.length ≤ 2000) : tchsFault (qs.map TQ.t) = 0 := by
  unfold tchsFault
  rw [if_neg (by rw [List.length_map]; omega)]
  refine rtq_go _ 0 (fun t ht => ?_) ?_ (fun t ht => ?_)
  · obtain ⟨q, hq, rfl⟩ := List.mem_map.1 ht
    exact (h.1 q hq).2
  · rw [List.pairwise_map]; exact h.2
  · obtain ⟨q, hq, rfl⟩ := List.mem_map.1 ht
    have := (no_ok (h.1 q hq).2).1
    omega
set_option maxHeartbeats 8000000 in
set_option maxRecDepth 100000 in
theorem rightTouchesU_any (b m n B : Nat) (w : World) (hs : Strm b m w) (hm : m ≤ 1000000) (hn : n ≤ 16) (hN : Names w) (hNb : 0 ≠ b) (hP : Pool w) (hPb : 1 ≠ b) (hB : B ≤ b) (hBw : B ≤ w.heap.size) (hT : ∀ w', Below B w w' → Tabs w' ∧ MaxL w') :
    Calls Tryz.prog 64 #[.pointer (some ⟨b, 0, none⟩), .int .i64 n] w (DrawsRU b (m + 600 * n + 10) n w) := by
  have S0 := (St.start hs).nil rTQ w.heap.size 86
  have S1 := S0.call (G.start S0.g.s) (.tdat []) (fun q hq => by cases hq) (fun k e => by cases e)
  have S : St b m w w [.own rTQ w.heap.size 86 (.slice none 0 0) [], .tdat []] := S1
  have HN := Lib.hid hN
  have HP := Lib.hid hP
  have HT : Hid (∀ n w', G b n w w' → Tabs w' ∧ MaxL w') := fun n w' h => hT w' (h.k.below hB hBw)
  clear hs hN hP S0 S1 hT hB hBw
  go_enter Tryz.func64, Tryz.ntmps64
  go_wp2_with fail
  go_loopw [5, 10] (fun s5 i wr => ∃ (k : Nat) (A : Option Addr) (c : Nat) (qs : List TQ), k ≤ n ∧ i = .int .i64 k ∧ s5 = .slice A qs.length c ∧ Hid (qs.length ≤ k) ∧ Hid (RtQ qs) ∧ St b (m + 600 * k) w wr [.own rTQ w.heap.size 86 (.slice A qs.length c) qs, .tdat qs]) (fun _ i _ => n - (intOf i).toNat)
  case atStart => exact ⟨0, none, 0, [], Nat.zero_le _, rfl, rfl, Nat.le_refl _, ⟨by simp, List.Pairwise.nil⟩, S⟩
  case round =>
    clear S
    obtain ⟨k, A, c, qs, hk, rfl, rfl, Hql, Hqs, S⟩ := hrel
    by_cases hkn : k < n
    · by_cases hl0 : 0 < qs.length
      · obtain ⟨q, hq⟩ : ∃ q, qs[qs.length - 1]? = some q := ⟨_, List.getElem?_eq_getElem (by omega)⟩
        obtain ⟨l, hl⟩ : ∃ l, qs.length = l + 1 := ⟨qs.length - 1, by omega⟩
        have hqn := no_ok (Hqs.out.1 q (List.mem_of_getElem? hq)).2
        have Hql2 := Hql.out
        have hql : qs.length ≤ 200 := by omega
        obtain ⟨g, cap, e, hcap⟩ := (S.ow 0 rfl).form (by omega)
        simp only [Value.slice.injEq] at e
        obtain ⟨rfl, _, rfl⟩ := e
        rw [show qs.length - 1 = l by omega] at hq
        go_wp2_with fail
        refine wp_region_mix (fun wc => wc.cell? ⟨g, l * 5, none⟩ = some (.int .i64 q.t.no)) [(true, 0), (true, 1), (true, 2), (true, 3), (true, 4), (true, 5), (true, 6), (false, 7), (false, 8), (true, 9), (true, 10)] (by kernel_rfl) (by kernel_rfl) (fun _ hd => (((S.below (hd.below _)).ow 0 rfl).tqAt rfl _ q hq).1.1) (fun KK hKK wd hd => ?_)
        replace S := S.below (hd.below _)
        clear hd
        have hC0 : wd.cell? ⟨g, l * 5, none⟩ = some (.int .i64 q.t.no) := ((S.ow 0 rfl).tqAt rfl _ q hq).1.1
        have hCa : ∀ o, (wd.alloc o).cell? ⟨g, l * 5, none⟩ = some (.int .i64 q.t.no) := fun o => (((S.alloc o).ow 0 rfl).tqAt rfl _ q hq).1.1
        repeat (refine mix_p rfl (fun K hK => ?_); go_simp; (try go_bits); (try simp (disch := omega) only [if_pos]); (try simp (disch := omega) only [if_neg]); (try simp (disch := omega) only [dif_pos]); (try simp (disch := omega) only [dif_neg]); (try go_simp); (refine hK _ ?_; clear hK K))
        refine mix_load (.int .i64 q.t.no) rfl rfl rfl rfl (fun _ => rfl) (fun _ h => h) ?_
        repeat (refine mix_p rfl (fun K hK => ?_); go_simp; (try go_bits); (try simp (disch := omega) only [if_pos]); (try simp (disch := omega) only [if_neg]); (try simp (disch := omega) only [dif_pos]); (try simp (disch := omega) only [dif_neg]); (try go_simp); (refine hK _ ?_; clear hK K))
        refine mix_l rfl (fun K hK => ?_) hC0
        go_wp2_with fail
        refine ⟨hCa _, ?_⟩
        refine mix_l rfl (fun K hK => ?_) (hCa _)
        go_wp2_with fail
        ((with_reducible refine (pick_le b _ _ _ (1) (2) S.g.s (by first | rfl | simp) (by first | rfl | simp) (intsIn_of (by decide)) (by simp) (by simp) (by omega)).mono ?_); rintro e w2 ⟨d, d_lo, d_hi, rfl, hk_w2, hs_w2⟩)
        replace S := S.step hk_w2 hs_w2
        clear hk_w2 hs_w2
        have hCc : w2.cell? ⟨g, l * 5, none⟩ = some (.int .i64 q.t.no) := ((S.ow 0 rfl).tqAt rfl _ q hq).1.1
        have hwr : IntKind.i64.wrap (q.t.no + d) = q.t.no + d := IntWalk.i64_in _ (by omega)
        obtain ⟨n2, hn2⟩ : ∃ n2, q.t.no + d = n2 := ⟨_, rfl⟩
        rw [hn2] at hwr
        have Hno : Hid (-10000000000 ≤ n2 ∧ n2 ≤ 10000000000) := by show _ ∧ _; omega
        go_wp2_with fail
        refine ⟨hCc, ?_⟩
        clear hCc hCa hC0
        repeat (refine mix_p rfl (fun K hK => ?_); go_simp; (try go_bits); (try simp (disch := omega) only [if_pos]); (try simp (disch := omega) only [if_neg]); (try simp (disch := omega) only [dif_pos]); (try simp (disch := omega) only [dif_neg]); (try go_simp); (refine hK _ ?_; clear hK K))
        refine mix_nil ?_
        simp only [Exit.then]
        refine hKK _ _ ?_
        have Hlt : Hid (∀ y ∈ qs, y.t.no < n2) := fun y hy => by have := Hqs.out.last hl hq y hy; omega
        have Hqe := Lib.hid hl
        clear hqn hq hl hl0 hcap hwr hn2 d_lo d_hi
        (try rw [Hqe.out] at S)
        go_wp2_with fail
        ((with_reducible refine (touch_any b _ n2 _ S.g.s (by omega) Hno.out (HN.out.keep S.g.k hNb) hNb (HP.out.keep S.g.k hPb) hPb).mono ?_); rintro e w3 ⟨t, A1, c1, B1, d1, rfl, ht, T⟩)
        have S3 := S.join T
        obtain ⟨Y, hY⟩ : ∃ Y, Y = w3.heap.size := ⟨_, rfl⟩
        have S4 : St b (m + 600 * k + 502) w _ [.own rTQ w.heap.size 86 (.slice (some ⟨g, 0, none⟩) (l + 1) c) qs, .tdat qs, .sl rId A1 t.ids, .sl rFld B1 t.flds, .loc Y (tcCs t A1 c1 B1 d1) 86] := (S3.newAt (tcCs t A1 c1 B1 d1) 86 Y hY).mono (by omega)
        have Ht := Lib.hid ht
        clear S S3 T ht
        go_upto_region 9 with fail
        rw [← hY]
        clear hY
        generalize w3.alloc (.cells (tcCs t A1 c1 B1 d1) 86) = w4 at *
        obtain ⟨A9, c9, e9, S5⟩ := ((S4.newAt (tcCs t A1 c1 B1 d1) 86 w4.heap.size rfl).asOwn flatTQ 5 rfl [(⟨t, A1, c1, B1, d1⟩ : TQ)] rfl rfl (by simp) rfl 1 rfl).frz 5 rfl
        cases e9
        have S6 := S5.call (G.start S5.g.s) (.tdat []) (fun q hq => by cases hq) (fun k e => by cases e)
        have S7 := (S6.addTd 6 2 3 rfl rfl rfl ⟨t, A1, c1, B1, d1⟩ rfl rfl rfl rfl).tchs 5 6 rfl rfl
        replace S7 : St b (m + 600 * k + 502) w (w4.alloc (.cells (tcCs t A1 c1 B1 d1) 86)) [.own rTQ w.heap.size 86 (.slice (some ⟨g, 0, none⟩) (l + 1) c) qs, .tdat qs, .sl rId A1 t.ids, .sl rFld B1 t.flds, .loc Y (tcCs t A1 c1 B1 d1) 86, .sl rTch (some ⟨w4.heap.size, 0, none⟩) [t], .tdat [⟨t, A1, c1, B1, d1⟩]] := S7
        have hTM := HT.out _ _ S7.g
        have Hc : Hid (Calls Tryz.prog 48 #[.slice (some ⟨w4.heap.size, 0, none⟩) 1 1] (w4.alloc (.cells (tcCs t A1 c1 B1 d1) 86)) fun e w' => e = .returned (.int .i64 (tchFault t 0)) ∧ Below (w4.alloc (.cells (tcCs t A1 c1 B1 d1) 86)).heap.size (w4.alloc (.cells (tcCs t A1 c1 B1 d1) 86)) w') := by
          have := refTouches_any (fun _ => False) (some ⟨w4.heap.size, 0, none⟩) [t] 1 _ ((S7.slc 5 rfl).mono (fun _ _ h => h.elim)) ⟨by simp, fun x hx => by rw [List.mem_singleton.1 hx]; exact Ht.out.ok⟩ hTM.1 hTM.2
          rw [one_fault] at this
          exact this
        obtain ⟨E, HE⟩ : ∃ E, Hid (tchFault t 0 = E) := ⟨_, Lib.hid rfl⟩
        rw [HE.out] at Hc
        have y4 := (S4.lv 4 rfl).all
        clear hTM S4 S5 S6
        go_wp2_with fail
        ((with_reducible refine (Hc.out).mono ?_); rintro e w5 ⟨rfl, hl5⟩)
        have S := S7.below hl5
        clear Hc S7 y4 hl5
        have y4 := (S.lv 4 rfl).all
        by_cases h0 : E = 0
        · have h1 : (E == 0) = true := by simpa using h0
          have HE0 : Hid (tchFault t 0 = 0) := by show _ = _; rw [HE.out, h0]
          clear h0 HE
          by_cases h2 : t.no = n2
          · have h3 : (t.no == n2) = true := by simpa using h2
            have Hnn := Lib.hid h2
            clear h2
            have hsz := S.g.size
            have hql : qs.length ≤ 200 := by have := Hql.out; omega
            go_wp2_with (at_builtin; refine S.app 0 rfl tyTch rfl _ _ rfl (⟨t, A1, c1, B1, d1⟩ : TQ) 1 rfl rfl rfl (oneTQ ⟨t, A1, c1, B1, d1⟩) hsz (by omega) (by decide) ?_; intro v' w10 S6; obtain ⟨A6, c6, rfl⟩ := (S6.ow 0 rfl).len)
            have S8 := (((((S6.addTd 1 2 3 rfl rfl rfl ⟨t, A1, c1, B1, d1⟩ rfl rfl rfl rfl).del 6).del 5).del 4).del 3).del 2
            go_roundw
            case rel =>
              refine ⟨k + 1, A6, c6, qs ++ [⟨t, A1, c1, B1, d1⟩], by omega, by go_num, by simp, by show _ ≤ _; simp; have := Hql.out; omega, ?_, S8.mono (by omega)⟩
              exact Hqs.out.snoc ⟨Ht.out, HE0.out⟩ Hnn.out Hlt.out
            case measure => simp [intOf]; omega
          · have h3 : (t.no == n2) = false := by simpa using h2
            clear h2
            have S8 := ((((S.del 6).del 5).del 4).del 3).del 2
            go_wp2_with fail
            go_roundw
            case rel => exact ⟨k + 1, (some ⟨g, 0, none⟩), c, qs, by omega, by go_num, by first | rfl | rw [Hqe.out], by show _ ≤ _; have := Hql.out; omega, Hqs.out, by first | exact S8.mono (by omega) | (rw [Hqe.out]; exact S8.mono (by omega))⟩
            case measure => simp [intOf]; omega
        · have h1 : (E == 0) = false := by simpa using h0
          clear h0
          have S8 := ((((S.del 6).del 5).del 4).del 3).del 2
          go_wp2_with fail
          go_roundw
          case rel => exact ⟨k + 1, (some ⟨g, 0, none⟩), c, qs, by omega, by go_num, by first | rfl | rw [Hqe.out], by show _ ≤ _; have := Hql.out; omega, Hqs.out, by first | exact S8.mono (by omega) | (rw [Hqe.out]; exact S8.mono (by omega))⟩
          case measure => simp [intOf]; omega
      · have hq0 : qs.length = 0 := by omega
        have Hno : Hid (-10000000000 ≤ (1 : Int) ∧ (1 : Int) ≤ 10000000000) := by show _ ∧ _; omega
        have Hlt : Hid (∀ y ∈ qs, y.t.no < (1 : Int)) := fun y hy => by rw [List.length_eq_zero_iff.1 hq0] at hy; cases hy
        have Hqe := Lib.hid hq0
        go_upto_region 8 with fail
        clear hl0 hq0 Hqe
        have Hqe : Hid (qs.length = qs.length) := rfl
        (try rw [Hqe.out] at S)
        go_wp2_with fail
        ((with_reducible refine (touch_any b _ 1 _ S.g.s (by omega) Hno.out (HN.out.keep S.g.k hNb) hNb (HP.out.keep S.g.k hPb) hPb).mono ?_); rintro e w3 ⟨t, A1, c1, B1, d1, rfl, ht, T⟩)
        have S3 := S.join T
        obtain ⟨Y, hY⟩ : ∃ Y, Y = w3.heap.size := ⟨_, rfl⟩
        have S4 : St b (m + 600 * k + 502) w _ [.own rTQ w.heap.size 86 (.slice A (qs.length) c) qs, .tdat qs, .sl rId A1 t.ids, .sl rFld B1 t.flds, .loc Y (tcCs t A1 c1 B1 d1) 86] := (S3.newAt (tcCs t A1 c1 B1 d1) 86 Y hY).mono (by omega)
        have Ht := Lib.hid ht
        clear S S3 T ht
        go_upto_region 9 with fail
        rw [← hY]
        clear hY
        generalize w3.alloc (.cells (tcCs t A1 c1 B1 d1) 86) = w4 at *
        obtain ⟨A9, c9, e9, S5⟩ := ((S4.newAt (tcCs t A1 c1 B1 d1) 86 w4.heap.size rfl).asOwn flatTQ 5 rfl [(⟨t, A1, c1, B1, d1⟩ : TQ)] rfl rfl (by simp) rfl 1 rfl).frz 5 rfl
        cases e9
        have S6 := S5.call (G.start S5.g.s) (.tdat []) (fun q hq => by cases hq) (fun k e => by cases e)
        have S7 := (S6.addTd 6 2 3 rfl rfl rfl ⟨t, A1, c1, B1, d1⟩ rfl rfl rfl rfl).tchs 5 6 rfl rfl
        replace S7 : St b (m + 600 * k + 502) w (w4.alloc (.cells (tcCs t A1 c1 B1 d1) 86)) [.own rTQ w.heap.size 86 (.slice A (qs.length) c) qs, .tdat qs, .sl rId A1 t.ids, .sl rFld B1 t.flds, .loc Y (tcCs t A1 c1 B1 d1) 86, .sl rTch (some ⟨w4.heap.size, 0, none⟩) [t], .tdat [⟨t, A1, c1, B1, d1⟩]] := S7
        have hTM := HT.out _ _ S7.g
        have Hc : Hid (Calls Tryz.prog 48 #[.slice (some ⟨w4.heap.size, 0, none⟩) 1 1] (w4.alloc (.cells (tcCs t A1 c1 B1 d1) 86)) fun e w' => e = .returned (.int .i64 (tchFault t 0)) ∧ Below (w4.alloc (.cells (tcCs t A1 c1 B1 d1) 86)).heap.size (w4.alloc (.cells (tcCs t A1 c1 B1 d1) 86)) w') := by
          have := refTouches_any (fun _ => False) (some ⟨w4.heap.size, 0, none⟩) [t] 1 _ ((S7.slc 5 rfl).mono (fun _ _ h => h.elim)) ⟨by simp, fun x hx => by rw [List.mem_singleton.1 hx]; exact Ht.out.ok⟩ hTM.1 hTM.2
          rw [one_fault] at this
          exact this
        obtain ⟨E, HE⟩ : ∃ E, Hid (tchFault t 0 = E) := ⟨_, Lib.hid rfl⟩
        rw [HE.out] at Hc
        have y4 := (S4.lv 4 rfl).all
        clear hTM S4 S5 S6
        go_wp2_with fail
        ((with_reducible refine (Hc.out).mono ?_); rintro e w5 ⟨rfl, hl5⟩)
        have S := S7.below hl5
        clear Hc S7 y4 hl5
        have y4 := (S.lv 4 rfl).all
        by_cases h0 : E = 0
        · have h1 : (E == 0) = true := by simpa using h0
          have HE0 : Hid (tchFault t 0 = 0) := by show _ = _; rw [HE.out, h0]
          clear h0 HE
          by_cases h2 : t.no = 1
          · have h3 : (t.no == 1) = true := by simpa using h2
            have Hnn := Lib.hid h2
            clear h2
            have hsz := S.g.size
            have hql : qs.length ≤ 200 := by have := Hql.out; omega
            go_wp2_with (at_builtin; refine S.app 0 rfl tyTch rfl _ _ rfl (⟨t, A1, c1, B1, d1⟩ : TQ) 1 rfl rfl rfl (oneTQ ⟨t, A1, c1, B1, d1⟩) hsz (by omega) (by decide) ?_; intro v' w10 S6; obtain ⟨A6, c6, rfl⟩ := (S6.ow 0 rfl).len)
            have S8 := (((((S6.addTd 1 2 3 rfl rfl rfl ⟨t, A1, c1, B1, d1⟩ rfl rfl rfl rfl).del 6).del 5).del 4).del 3).del 2
            go_roundw
            case rel =>
              refine ⟨k + 1, A6, c6, qs ++ [⟨t, A1, c1, B1, d1⟩], by omega, by go_num, by simp, by show _ ≤ _; simp; have := Hql.out; omega, ?_, S8.mono (by omega)⟩
              exact Hqs.out.snoc ⟨Ht.out, HE0.out⟩ Hnn.out Hlt.out
            case measure => simp [intOf]; omega
          · have h3 : (t.no == 1) = false := by simpa using h2
            clear h2
            have S8 := ((((S.del 6).del 5).del 4).del 3).del 2
            go_wp2_with fail
            go_roundw
            case rel => exact ⟨k + 1, A, c, qs, by omega, by go_num, by first | rfl | rw [Hqe.out], by show _ ≤ _; have := Hql.out; omega, Hqs.out, by first | exact S8.mono (by omega) | (rw [Hqe.out]; exact S8.mono (by omega))⟩
            case measure => simp [intOf]; omega
        · have h1 : (E == 0) = false := by simpa using h0
          clear h0
          have S8 := ((((S.del 6).del 5).del 4).del 3).del 2
          go_wp2_with fail
          go_roundw
          case rel => exact ⟨k + 1, A, c, qs, by omega, by go_num, by first | rfl | rw [Hqe.out], by show _ ≤ _; have := Hql.out; omega, Hqs.out, by first | exact S8.mono (by omega) | (rw [Hqe.out]; exact S8.mono (by omega))⟩
          case measure => simp [intOf]; omega
    · have hkk : k = n := by omega
      subst hkk
      go_wp2_with fail
      go_ret
      exact ⟨_, qs, rfl, Hql.out, Hqs.out, S.mono (by omega)⟩
end Go.Proofs.YteabhkmhogmoiaaGreatDoor
