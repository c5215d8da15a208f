/- The law PoolRooms walked: it returns true, and nothing that was there has turned. -/
import Derived.Test.YtneopbbafdmpkaaDoorGenRules
import Derived.Test.YtneopbbafdmpkaaDoorSendRef
import Derived.Test.YtneopbbafdmpkaaDoorSendRoom2
namespace Go.Proofs.YtneopbbafdmpkaaDoor
open Go.RowKit
theorem sl_or {α : Type} {r : Rep α} {w : World} {A : Option Addr} {xs : List α} {B : Nat} {ds : List Chunk} (h : Sl r (Lt B) w A xs) (hd : ∀ e ∈ ds, e.blk = none) : Sl r (fun k => k < B ∨ ∃ e ∈ ds, e.blk = some k) w A xs :=
  h.mono (fun k _ hk => by
    rcases hk with hk | ⟨e, he, hk⟩
    · exact hk
    · rw [hd e he] at hk; cases hk)
/-- the rules as pieces of memory -/
abbrev RC (r : SRules) (Aq Ar Ac Ap Ad : Option Addr) : List Chunk := [.sl rInt Aq r.quiet, .sl rStr Ar r.ranks, .sl rCap Ac r.caps, .sl rPool Ap r.pools, .sl rInt Ad r.delays]
theorem St.rules {b m n : Nat} {w0 w w' : World} {cs : List Chunk} (S : St b m w0 w cs) {r : SRules} {Aq Ar Ac Ap Ad : Option Addr} (g : G b n w w') (h : RulesIn (Lt w.heap.size) w' r Aq Ar Ac Ap Ad) : St b n w0 w' (cs ++ RC r Aq Ar Ac Ap Ad) := by
  have hn : ∀ e ∈ RC r Aq Ar Ac Ap Ad, e.blk = none := all_cons rfl (all_cons rfl (all_cons rfl (all_cons rfl (all_cons rfl all_nil))))
  refine S.callN g (RC r Aq Ar Ac Ap Ad) (all_cons (sl_or h.q hn) (all_cons (sl_or h.k hn) (all_cons (sl_or h.c hn) (all_cons (sl_or h.p hn) (all_cons (sl_or h.d hn) all_nil))))) (fun d hd k e => by rw [hn d hd] at e; cases e) ?_
  refine List.pairwise_iff_forall_sublist.2 (fun {a c} h k e => ?_)
  rw [hn a (h.subset (by simp))] at e
  cases e
theorem roomV_form (r : SRules) (nm : ByteArray) (day : Int) : ∃ n e : Int, roomV r nm day = .tuple #[.int .i64 n, .int .i64 e] := by
  unfold roomV
  split
  · exact ⟨_, _, rfl⟩
  · split
    · exact ⟨_, _, rfl⟩
    · split
      · exact ⟨_, _, rfl⟩
      · exact ⟨_, _, rfl⟩
theorem pool_cells {N : Nat → Prop} {w : World} {A : Option Addr} {xs : List SPool} (h : Sl rPool N w A xs) (hn : 0 < xs.length) : ∃ blk off, A = some ⟨blk, off, none⟩ ∧ blk < w.heap.size := by
  obtain ⟨blk, off, _, _, e, hb, _⟩ := h.pool 0 xs[0] (List.getElem?_eq_getElem hn)
  exact ⟨blk, off, e, hb⟩
theorem pool_name {N : Nat → Prop} {w : World} {blk off : Nat} {xs : List SPool} (h : Sl rPool N w (some ⟨blk, off, none⟩) xs) (k : Nat) (q : SPool) (hq : xs[k]? = some q) : w.cell? ⟨blk, off + k * 5, none⟩ = some (.string q.name) := by
  obtain ⟨_, _, _, _, e, _, h1, _⟩ := h.pool k q hq
  cases e
  exact h1
theorem rules_of {b m : Nat} {w0 w : World} {cs : List Chunk} (S : St b m w0 w cs) {r : SRules} {Aq Ar Ac Ap Ad : Option Addr} (h : ∃ ds, cs = RC r Aq Ar Ac Ap Ad ++ ds) : RulesIn (Mut w0.heap.size cs) w r Aq Ar Ac Ap Ad := by
  obtain ⟨ds, rfl⟩ := h
  exact ⟨S.slc 0 rfl, S.slc 1 rfl, S.slc 2 rfl, S.slc 3 rfl, S.slc 4 rfl⟩
theorem tup2 {a b c d : Int} (h : Value.tuple #[.int .i64 a, .int .i64 b] = .tuple #[.int .i64 c, .int .i64 d]) : c = a ∧ d = b := by
  injection h with h
  simp at h
  exact ⟨h.1.symm, h.2.symm⟩
theorem kindP1 : kindP 1 = 1 := rfl
theorem kindP2 : kindP 2 = 2 := rfl
theorem kindP3 : kindP 3 = 4 := rfl
theorem kindP4 : kindP 4 = 3 := rfl
theorem ch_cases {ch : Int} (h : isCh ch = true) : ch = 1 ∨ ch = 2 ∨ ch = 3 ∨ ch = 4 := by
  simp [isCh] at h
  omega
set_option maxHeartbeats 8000000 in
set_option maxRecDepth 100000 in
theorem poolRooms_any (v : Value) (w : World) (hv : IntsIn v w) :
    Calls Tryd.prog 3 #[v] w fun e w' => e = .returned (.bool true) ∧ Below w.heap.size w w' := by
  obtain ⟨va, vn, vc, rfl⟩ : ∃ a n c, v = .slice a n c := by
    rcases hv with ⟨a, c, rfl⟩ | ⟨k, off, len, cap, rfl, _⟩
    · exact ⟨_, _, _, rfl⟩
    · exact ⟨_, _, _, rfl⟩
  have g0 := G.start (Strm.start hv)
  clear hv
  have S := St.start g0.s
  clear g0
  go_enter Tryd.func3, Tryd.ntmps3
  go_wp2_with fail
  ((with_reducible refine (sendRules_any w.heap.size 0 _ S.g.s (by omega)).mono ?_); rintro e w1 ⟨r, Aq, Ar, Ac, Ap, Ad, cq, cr, cc, cpp, cd, rfl, hI, hO, hcap, hp4, g1⟩)
  replace S := S.rules g1 hI
  have HO := Lib.hid hO
  have HCap := Lib.hid hcap
  clear g1 hI hO hcap
  go_wp2_with fail
  replace S := S.new' #[.slice Aq r.quiet.length cq, .int .i64 r.qfrom, .int .i64 r.qto, .slice Ar r.ranks.length cr, .slice Ac r.caps.length cc, .slice Ap r.pools.length cpp, .slice Ad r.delays.length cd] 30
  go_wp2_with fail
  ((with_reducible refine (pick_le w.heap.size _ _ _ (-1) 3001 S.g.s (by first | rfl | simp) (by first | rfl | simp) (intsIn_of (by decide)) (by simp) (by simp) (by omega)).mono ?_); rintro e w2 ⟨day, day_lo, day_hi, rfl, hk_w2, hs_w2⟩)
  replace S := S.step hk_w2 hs_w2
  clear hk_w2 hs_w2
  go_wp2_with fail
  ((with_reducible refine (range_any w.heap.size _ _ _ _ S.g.s (by omega) (by omega) (by omega) (by omega)).mono ?_); rintro e w3 ⟨ch, ch_lo, ch_hi, rfl, hk_w3, hs_w3⟩)
  replace S := S.step hk_w3 hs_w3
  clear hk_w3 hs_w3
  replace S := S.new' #[.string ⟨#[110, 111, 110, 101]⟩] 9
  generalize w1.heap.size = Z at *
  go_upto_region 4 with fail
  generalize w3.heap.size = X at *
  generalize w3.alloc (.cells #[.string ⟨#[110, 111, 110, 101]⟩] 9) = w4 at *
  have HS := Lib.hid S
  clear S
  go_cut [6, 32] (fun s6 s32 wx => s6 = .int .i64 day ∧ ∃ q : Bool, s32 = .bool q ∧ (q = true → 0 < r.pools.length) ∧ St w.heap.size 410 (w.alloc (.cells #[.slice va vn vc, .int .i64 0] 25)) wx (RC r Aq Ar Ac Ap Ad ++ [.loc Z (rulesV r Aq Ar Ac Ap Ad cq cr cc cpp cd) 30, .loc X #[.string ⟨#[110, 111, 110, 101]⟩] 9]))
  case first =>
    have S := HS.out
    have z5 : w4.cell? ⟨Z, 5, none⟩ = some (.slice Ap r.pools.length cpp) := (S.lv 5 rfl).cell 5 _ rfl
    by_cases hp0 : 0 < r.pools.length
    · go_wp2_with fail
      ((with_reducible refine (flip_any w.heap.size _ _ _ S.g.s (by omega) (by omega) (by omega)).mono ?_); rintro e w5 ⟨r2, rfl, hk_w5, hs_w5⟩)
      replace S := S.step hk_w5 hs_w5
      clear hk_w5 hs_w5
      clear z5
      go_wp2_with fail
      go_meet
      exact ⟨rfl, !r2, rfl, fun _ => hp0, S.mono (by omega)⟩
    · go_wp2_with fail
      go_meet
      exact ⟨rfl, false, rfl, (fun h => by cases h), S.mono (by omega)⟩
  case rest =>
  clear HS
  obtain ⟨rfl, q, rfl, hq0, S⟩ := hcut
  have HS := Lib.hid S
  have HQ := Lib.hid hq0
  clear S hq0
  go_upto_if 32 with fail
  go_cut [6] (fun s6 wx => s6 = .int .i64 day ∧ ∃ nm : ByteArray, St w.heap.size 420 (w.alloc (.cells #[.slice va vn vc, .int .i64 0] 25)) wx (RC r Aq Ar Ac Ap Ad ++ [.loc Z (rulesV r Aq Ar Ac Ap Ad cq cr cc cpp cd) 30, .loc X #[.string nm] 9]))
  case first =>
      have S := HS.out
      clear HS
      cases q
      · go_wp2_with fail
        go_meet
        exact ⟨rfl, _, S.mono (by omega)⟩
      · have hp0 := HQ.out rfl
        clear HQ
        go_wp2_with fail
        obtain ⟨blk, off, rfl, _⟩ := pool_cells (S.slc 3 rfl) hp0
        refine wp_region_mixG 10 (fun wc => wc.cell? ⟨Z, 5, none⟩ = some (.slice (some ⟨blk, off, none⟩) r.pools.length cpp) ∧ ∀ (k : Nat) (q : SPool), r.pools[k]? = some q → wc.cell? ⟨blk, off + k * 5, none⟩ = some (.string q.name)) [.q 0, .q 1, .q 2, .q 3, .q 4, .q 5, .e 6, .q 7, .q 8, .q 9, .e 10] (by kernel_rfl) (by kernel_rfl) (fun _ hd => ⟨((S.below (hd.below _)).lv 5 rfl).cell 5 _ rfl, pool_name ((S.below (hd.below _)).slc 3 rfl)⟩) (fun KK hKK wd hd => ?_)
        replace S := S.below (hd.below _)
        clear hd
        repeat (refine mixG_p rfl (fun K hK => ?_); go_simp; (try go_bits); (try simp (disch := omega) only [if_pos]); (try simp (disch := omega) only [if_neg]); (try simp (disch := omega) only [dif_pos]); (try simp (disch := omega) only [dif_neg]); (try go_simp); (refine hK _ ?_; clear hK K))
        refine mixG_load (.slice (some ⟨blk, off, none⟩) r.pools.length cpp) rfl rfl rfl rfl (fun _ => rfl) (fun _ h => h.1) ?_
        repeat (refine mixG_p rfl (fun K hK => ?_); go_simp; (try go_bits); (try simp (disch := omega) only [if_pos]); (try simp (disch := omega) only [if_neg]); (try simp (disch := omega) only [dif_pos]); (try simp (disch := omega) only [dif_neg]); (try go_simp); (refine hK _ ?_; clear hK K))
        refine mixG_load (.slice (some ⟨blk, off, none⟩) r.pools.length cpp) rfl rfl rfl rfl (fun _ => rfl) (fun _ h => h.1) ?_
        repeat (refine mixG_p rfl (fun K hK => ?_); go_simp; (try go_bits); (try simp (disch := omega) only [if_pos]); (try simp (disch := omega) only [if_neg]); (try simp (disch := omega) only [dif_pos]); (try simp (disch := omega) only [dif_neg]); (try go_simp); (refine hK _ ?_; clear hK K))
        refine mixG_l rfl rfl (fun K hK => ?_)
        go_wp2_with fail
        ((with_reducible refine (next_any w.heap.size _ _ _ S.g.s (by omega) (by omega) (by omega)).mono ?_); rintro e w6 ⟨ri, ri_lo, ri_hi, rfl, hk_w6, hs_w6⟩)
        replace S := S.step hk_w6 hs_w6
        clear hk_w6 hs_w6
        obtain ⟨k, rfl⟩ := Int.eq_ofNat_of_zero_le (by omega : 0 ≤ ri)
        have hk : k < r.pools.length := by omega
        obtain ⟨q, hq⟩ : ∃ q, r.pools[k]? = some q := ⟨_, List.getElem?_eq_getElem hk⟩
        have hC : w6.cell? ⟨Z, 5, none⟩ = some (.slice (some ⟨blk, off, none⟩) r.pools.length cpp) ∧ ∀ (k : Nat) (q : SPool), r.pools[k]? = some q → w6.cell? ⟨blk, off + k * 5, none⟩ = some (.string q.name) := ⟨(S.lv 5 rfl).cell 5 _ rfl, pool_name (S.slc 3 rfl)⟩
        have HC := Lib.hid hC
        clear hC
        have Hq := Lib.hid hq
        clear hq
        go_wp2_with fail
        refine ⟨by first | exact HC.out | exact fun _ => HC.out, ?_⟩
        clear HC
        repeat (refine mixG_p rfl (fun K hK => ?_); go_simp; (try go_bits); (try simp (disch := omega) only [if_pos]); (try simp (disch := omega) only [if_neg]); (try simp (disch := omega) only [dif_pos]); (try simp (disch := omega) only [dif_neg]); (try go_simp); (refine hK _ ?_; clear hK K))
        refine mixG_load (.string q.name) rfl rfl rfl rfl (fun _ => rfl) (fun _ h => h.2 k q Hq.out) ?_
        have x0 : w6.cell? ⟨X, 0, none⟩ = some (.string ⟨#[110, 111, 110, 101]⟩) := (S.lv 6 rfl).cell 0 _ rfl
        have f0 := (S.lv 6 rfl).free 0
        refine mixG_l rfl rfl (fun K hK => ?_)
        go_wp2_with fail
        refine ⟨fun h => absurd rfl h, ?_⟩
        refine mixG_nil ?_
        simp only [Exit.then]
        refine hKK _ _ ?_
        clear x0 f0
        go_wp2_with fail
        go_meet
        exact ⟨rfl, q.name, (S.set 6 0 (.string q.name) rfl).mono (by omega)⟩
  case rest =>
    clear HS HQ
    obtain ⟨rfl, nm, S⟩ := hcut
    obtain ⟨n, e, hne⟩ := roomV_form r nm day
    have HN := Lib.hid hne
    have hI := rules_of S ⟨_, rfl⟩
    have Hr := Lib.hid (Room_any _ r Aq Ar Ac Ap Ad cq cr cc cpp cd nm day wc hI HO.out HCap.out)
    rw [hne] at Hr
    clear hne hI
    have zz := S.lv 5 rfl
    have z0 : wc.cell? ⟨Z, 0, none⟩ = some (.slice Aq r.quiet.length cq) := zz.cell 0 _ rfl
    have z1 : wc.cell? ⟨Z, 1, none⟩ = some (.int .i64 r.qfrom) := zz.cell 1 _ rfl
    have z2 : wc.cell? ⟨Z, 2, none⟩ = some (.int .i64 r.qto) := zz.cell 2 _ rfl
    have z3 : wc.cell? ⟨Z, 3, none⟩ = some (.slice Ar r.ranks.length cr) := zz.cell 3 _ rfl
    have z4 : wc.cell? ⟨Z, 4, none⟩ = some (.slice Ac r.caps.length cc) := zz.cell 4 _ rfl
    have z5 : wc.cell? ⟨Z, 5, none⟩ = some (.slice Ap r.pools.length cpp) := zz.cell 5 _ rfl
    have z6 : wc.cell? ⟨Z, 6, none⟩ = some (.slice Ad r.delays.length cd) := zz.cell 6 _ rfl
    clear zz
    have x0 : wc.cell? ⟨X, 0, none⟩ = some (.string nm) := (S.lv 6 rfl).cell 0 _ rfl
    go_wp2_with fail
    ((with_reducible refine (Hr.out).mono ?_); rintro e6 w6 ⟨rfl, hl6⟩)
    replace S := S.below hl6
    clear z0 z1 z2 z3 z4 z5 z6 x0 hl6 Hr
    have Hk := Lib.hid (KindOf_any ch w6)
    obtain ⟨K, HK⟩ : ∃ K, Hid ((if isCh ch = true then kindP ch else 0) = K) := ⟨_, Lib.hid rfl⟩
    obtain ⟨K2, HK2⟩ : ∃ K2, Hid ((if isCh ch = true then 0 else 4 : Int) = K2) := ⟨_, Lib.hid rfl⟩
    rw [HK.out, HK2.out] at Hk
    go_wp2_with fail
    ((with_reducible refine (Hk.out).mono ?_); rintro e7 w7 ⟨rfl, hl7⟩)
    replace S := S.below hl7
    clear hl7 Hk
    go_upto_region 8 with fail
    have HS := Lib.hid S
    clear S
    go_cut [6, 8, 9, 10, 11, 60] (fun s6 s8 s9 s10 s11 s60 wx => s6 = .int .i64 day ∧ s8 = .int .i64 n ∧ s9 = .int .i64 e ∧ s10 = .int .i64 K ∧ s11 = .int .i64 K2 ∧ s60 = .bool (!isCh ch) ∧ w7 = wx)
    case first =>
      by_cases h1 : ch < 1
      · go_wp2_with fail
        go_meet
        exact ⟨rfl, rfl, rfl, rfl, rfl, by simp [isCh]; omega, rfl⟩
      · by_cases h2 : 4 < ch
        · go_wp2_with fail
          go_meet
          exact ⟨rfl, rfl, rfl, rfl, rfl, by simp [isCh]; omega, rfl⟩
        · go_wp2_with fail
          go_meet
          exact ⟨rfl, rfl, rfl, rfl, rfl, by simp [isCh]; omega, rfl⟩
    case rest =>
    obtain ⟨rfl, rfl, rfl, rfl, rfl, rfl, rfl⟩ := hcut
    go_upto_if 60 with fail
    go_cut [6, 8, 9] (fun s6 s8 s9 wx => s6 = .int .i64 day ∧ s8 = .int .i64 n ∧ s9 = .int .i64 e ∧ St w.heap.size 420 (w.alloc (.cells #[.slice va vn vc, .int .i64 0] 25)) wx (RC r Aq Ar Ac Ap Ad ++ [.loc Z (rulesV r Aq Ar Ac Ap Ad cq cr cc cpp cd) 30, .loc X #[.string nm] 9]))
    case first =>
      by_cases hc : isCh ch = true
      · have i1 : ∀ w, (Instr.index 42 (.agg #[.int .i64 0, .int .i64 1, .int .i64 2, .int .i64 4, .int .i64 3]) (.int .i64 1)).run Tryd.prog w = .ok (.int .i64 1) w := fun _ => by kernel_rfl
        have i2 : ∀ w, (Instr.index 42 (.agg #[.int .i64 0, .int .i64 1, .int .i64 2, .int .i64 4, .int .i64 3]) (.int .i64 2)).run Tryd.prog w = .ok (.int .i64 2) w := fun _ => by kernel_rfl
        have i3 : ∀ w, (Instr.index 42 (.agg #[.int .i64 0, .int .i64 1, .int .i64 2, .int .i64 4, .int .i64 3]) (.int .i64 3)).run Tryd.prog w = .ok (.int .i64 4) w := fun _ => by kernel_rfl
        have i4 : ∀ w, (Instr.index 42 (.agg #[.int .i64 0, .int .i64 1, .int .i64 2, .int .i64 4, .int .i64 3]) (.int .i64 4)).run Tryd.prog w = .ok (.int .i64 3) w := fun _ => by kernel_rfl
        have HK3 := Lib.hid (HK.out.symm.trans (if_pos hc))
        have HK4 := Lib.hid (HK2.out.symm.trans (if_pos hc))
        clear HK HK2
        obtain rfl | rfl | rfl | rfl := ch_cases hc
        all_goals
          obtain rfl : K = _ := HK3.out
          obtain rfl : K2 = _ := HK4.out
          clear HK3 HK4
          rw [hc]
          clear hc
          simp only [kindP1, kindP2, kindP3, kindP4]
          go_wp2_with fail
          go_meet
          exact ⟨rfl, rfl, rfl, HS.out⟩
      · have HK3 := Lib.hid (HK.out.symm.trans (if_neg hc))
        have HK4 := Lib.hid (HK2.out.symm.trans (if_neg hc))
        clear HK HK2
        obtain rfl : K = _ := HK3.out
        obtain rfl : K2 = _ := HK4.out
        clear HK3 HK4
        have hc2 : isCh ch = false := by simpa using hc
        rw [hc2]
        clear hc hc2
        go_wp2_with fail
        go_meet
        exact ⟨rfl, rfl, rfl, HS.out⟩
    case rest =>
      clear HS HK HK2 ch_lo ch_hi
      obtain ⟨rfl, rfl, rfl, S⟩ := hcut
      have hI := rules_of S ⟨_, rfl⟩
      have Hr := Lib.hid (refRules_any _ r Aq Ar Ac Ap Ad cq cr cc cpp cd wc hI HO.out HCap.out)
      obtain ⟨F, HF⟩ : ∃ F, Hid (rulesFault r = F) := ⟨_, Lib.hid rfl⟩
      rw [HF.out] at Hr
      clear hI
      have zz := S.lv 5 rfl
      have z0 : wc.cell? ⟨Z, 0, none⟩ = some (.slice Aq r.quiet.length cq) := zz.cell 0 _ rfl
      have z1 : wc.cell? ⟨Z, 1, none⟩ = some (.int .i64 r.qfrom) := zz.cell 1 _ rfl
      have z2 : wc.cell? ⟨Z, 2, none⟩ = some (.int .i64 r.qto) := zz.cell 2 _ rfl
      have z3 : wc.cell? ⟨Z, 3, none⟩ = some (.slice Ar r.ranks.length cr) := zz.cell 3 _ rfl
      have z4 : wc.cell? ⟨Z, 4, none⟩ = some (.slice Ac r.caps.length cc) := zz.cell 4 _ rfl
      have z5 : wc.cell? ⟨Z, 5, none⟩ = some (.slice Ap r.pools.length cpp) := zz.cell 5 _ rfl
      have z6 : wc.cell? ⟨Z, 6, none⟩ = some (.slice Ad r.delays.length cd) := zz.cell 6 _ rfl
      clear zz
      go_wp2_with fail
      ((with_reducible refine (Hr.out).mono ?_); rintro e6 w6 ⟨rfl, hl6⟩)
      replace S := S.below hl6
      clear z0 z1 z2 z3 z4 z5 z6 hl6 Hr
      obtain ⟨I, HIx⟩ : ∃ I, Hid (idxGo (byName nm) 0 r.pools = I) := ⟨_, Lib.hid rfl⟩
      have Hix := Lib.hid (indexLaw_any X (byName nm) _ Ap r.pools r.pools.length cpp w6 (S.slc 3 rfl) (Nat.le_refl _) (by have := HO.out.pl; omega) (fun w' q Aw nw cw hb _ => sameLaw_any X nm q Aw nw cw w' ((S.lv 6 rfl).kb3 hb (S.lv 6 rfl).lt)))
      rw [List.take_length, HIx.out] at Hix
      have z5 : w6.cell? ⟨Z, 5, none⟩ = some (.slice Ap r.pools.length cpp) := (S.lv 5 rfl).cell 5 _ rfl
      go_wp2_with fail
      ((with_reducible refine (Hix.out).mono ?_); rintro e7 w7 ⟨rfl, hl7⟩)
      replace S := S.below hl7
      clear z5 Hix hl7
      have Hs := Lib.hid (sends_any w7)
      have HB : Hid (Below w.heap.size w w7) := ((Below.refl _ _).alloc (Nat.le_refl _) _).trans (S.g.k.below (Nat.le_refl _) (by simp))
      by_cases hF : F = 0
      · subst hF
        by_cases hI0 : I < 0
        · obtain ⟨rfl, rfl⟩ : n = 0 ∧ e = 8 := tup2 (by rw [← HN.out, roomV, if_neg (by simp [HF.out]), HIx.out, if_pos hI0])
          clear HN HIx HF S HO HCap
          go_wp2_with fail
          ((with_reducible refine (Hs.out).mono ?_); rintro e8 w8 ⟨rfl, hl8⟩)
          go_wp2_with fail
          go_ret
          exact ⟨rfl, HB.out.trans (hl8.mono HB.out.size)⟩
        · obtain ⟨k, q, hk, hq⟩ := idxGo_get (byName nm) r.pools 0 (by rw [HIx.out]; omega)
          rw [HIx.out] at hk
          obtain rfl : I = (k : Int) := by omega
          clear hk
          by_cases hd : 0 ≤ day ∧ day ≤ 3000
          · obtain ⟨blk, off, Aw, cw, rfl, hblk, d0, d1, d2, d3, d4, hw⟩ := (S.slc 3 rfl).pool k q hq
            have hklt : k < r.pools.length := lt_of_get hq
            have Hrm := Lib.hid (roomOf_any _ q Aw cw day w7 hw (Nat.le_trans (HO.out.ps q (List.mem_of_getElem? hq)).2 (by omega)) (rules_pools HF.out q (List.mem_of_getElem? hq)).2 hd (rules_pools HF.out q (List.mem_of_getElem? hq)).1)
            obtain ⟨rfl, rfl⟩ : n = roomP q day ∧ e = 0 := tup2 (by rw [← HN.out, roomV, if_neg (by simp [HF.out]), HIx.out, if_neg hI0, if_neg (not_not_intro hd)]; simp [hq])
            have z5 := (S.lv 5 rfl).cell 5 _ rfl
            clear HN HIx HF S HO HCap hw hq
            generalize roomP q day = n at *
            obtain ⟨n0, ch, per, fi, wa⟩ := q
            dsimp only at *
            have t1 : ¬ day < 0 := by omega
            have t2 : ¬ 3000 < day := by omega
            clear hd hI0
            go_wp2_with fail
            ((with_reducible refine (Hrm.out).mono ?_); rintro e8 w8 ⟨rfl, hl8⟩)
            have HB8 : Hid (Below w.heap.size w w8) := HB.out.trans (hl8.mono HB.out.size)
            have Hs := Lib.hid (sends_any w8)
            go_wp2_with fail
            ((with_reducible refine (Hs.out).mono ?_); rintro e9 w9 ⟨rfl, hl9⟩)
            go_wp2_with fail
            go_ret
            exact ⟨rfl, HB8.out.trans (hl9.mono HB8.out.size)⟩
          · obtain ⟨rfl, rfl⟩ : n = 0 ∧ e = 1 := tup2 (by rw [← HN.out, roomV, if_neg (by simp [HF.out]), HIx.out, if_neg hI0, if_pos hd])
            clear HN HIx HF S HO HCap hq
            by_cases t1 : day < 0
            · clear hd
              go_wp2_with fail
              ((with_reducible refine (Hs.out).mono ?_); rintro e8 w8 ⟨rfl, hl8⟩)
              go_wp2_with fail
              go_ret
              exact ⟨rfl, HB.out.trans (hl8.mono HB.out.size)⟩
            · have t2 : 3000 < day := by omega
              clear hd
              go_wp2_with fail
              ((with_reducible refine (Hs.out).mono ?_); rintro e8 w8 ⟨rfl, hl8⟩)
              go_wp2_with fail
              go_ret
              exact ⟨rfl, HB.out.trans (hl8.mono HB.out.size)⟩
      · obtain ⟨rfl, rfl⟩ : n = 0 ∧ e = F := tup2 (by rw [← HN.out, roomV, if_pos (by rw [HF.out]; exact hF), HF.out])
        have hF' : (e != 0) = true := by simpa using hF
        clear HN HIx HF S HO HCap
        go_wp2_with fail
        ((with_reducible refine (Hs.out).mono ?_); rintro e8 w8 ⟨rfl, hl8⟩)
        go_wp2_with fail
        go_ret
        exact ⟨rfl, HB.out.trans (hl8.mono HB.out.size)⟩
end Go.Proofs.YtneopbbafdmpkaaDoor
