/- What consent.purposeOf and termOf return on a right policy. -/
import Derived.Test.YtlnklkedpknbpaaGreatDoorConsFind
namespace Go.Proofs.YtlnklkedpknbpaaGreatDoor
open Go.RowKit
/-- two results, the first of which lies in a cell -/
theorem results_cs {P : Program} {fn : Func} {t s : Tmp} {T : TypeId} {a : Addr} {v u : Value} {w : World} {tmps : Array Value} (h : fn.results = #[.cell t T, .tmp s]) (hp : tmps.getD t undef = .pointer (some a)) (hs : tmps.getD s undef = u) (hl : (loadVar T a).run P w = .ok v w) : (results fn tmps).run P w = .ok (.tuple #[v, u]) w := by
  have hp' : tmps[t]?.getD undef = .pointer (some a) := by simpa using hp
  have hs' : tmps[s]?.getD undef = u := by simpa using hs
  simp [results, h, asAddr, hp', hs', hl]
theorem loadP {w : World} {X : Nat} {a0 a1 : Value} (h : LV w X #[a0, a1] 58) : (loadVar 58 ⟨X, 0, none⟩).run Tryz.prog w = .ok (.agg #[a0, a1]) w := by
  have c0 := h.cell 0 _ rfl
  have c1 := h.cell 1 _ rfl
  go_simp
theorem loadT {w : World} {X : Nat} {t : PTerm} (h : tLV w X t) : (loadVar 34 ⟨X, 0, none⟩).run Tryz.prog w = .ok (tVal t) w := by
  have c0 := h.cell 0 _ rfl
  have c1 := h.cell 1 _ rfl
  have c2 := h.cell 2 _ rfl
  have c3 := h.cell 3 _ rfl
  have c4 := h.cell 4 _ rfl
  go_simp
/-- a purpose, or the empty one, and whether there is one -/
def GivesPurp (N : Nat → Prop) (o : Option Purp) (w : World) (e : Ending) (w' : World) : Prop :=
  ∃ (At : Option Addr) (ct : Nat), e = .returned (.tuple #[.agg #[.string (o.getD ⟨⟨#[]⟩, []⟩).name, .slice At (o.getD ⟨⟨#[]⟩, []⟩).terms.length ct], .bool o.isSome]) ∧ Sl rTerm N w' At (o.getD ⟨⟨#[]⟩, []⟩).terms ∧ Below w.heap.size w w'
set_option maxHeartbeats 4000000 in
set_option maxRecDepth 100000 in
theorem purposeOf_any (N : Nat → Prop) (A : Option Addr) (xs : List Purp) (nm : ByteArray) (c : Nat) (w : World) (hS : Sl rPurp N w A xs) (hn : xs.length ≤ 1000) (hri : RiseP xs) :
    Calls Tryz.prog 64 #[.slice A xs.length c, .string nm] w (GivesPurp N (purpAt xs nm) w) := by
  have hb0 : Below w.heap.size w (w.alloc (.cells #[.string ⟨#[]⟩, .slice none 0 0] 58)) := (Below.refl _ _).alloc (Nat.le_refl _) _
  have lv0 := LV.new w w.heap.size #[.string ⟨#[]⟩, .slice none 0 0] 58 rfl
  have HS := Lib.hid hS
  have Hb := Lib.hid (bsearchP_any N A xs nm c _ (hS.keepB hb0) hn hri)
  unfold GivesP at Hb
  clear hS
  generalize purpAt xs nm = o at *
  go_enter Tryz.func64, Tryz.ntmps64
  go_wp2_with fail
  ((with_reducible refine (Hb.out).mono ?_); rintro e w1 ⟨i, b, rfl, hi, hb1, hb2, hbl⟩)
  have lv1 := LV.kb3 lv0 hbl lv0.lt
  have HB1 : Hid (Below w.heap.size w w1) := hb0.trans (hbl.mono hb0.size)
  have Hb1 := Lib.hid hb1
  have Hb2 := Lib.hid hb2
  have x0 : w1.cell? ⟨w.heap.size, 0, none⟩ = some (.string ⟨#[]⟩) := lv1.cell 0 _ rfl
  have x1 : w1.cell? ⟨w.heap.size, 1, none⟩ = some (.slice none 0 0) := lv1.cell 1 _ rfl
  have f0 := lv1.free 0
  have f1 := lv1.free 1
  clear hb0 lv0 Hb hbl hb1 hb2
  cases b
  · obtain rfl : o = none := Hb2.out rfl
    go_wp2_with fail
    have l2 := (lv1.set 0 (.string ⟨#[]⟩) #[.string ⟨#[]⟩, .slice none 0 0] rfl).set 1 (.slice none 0 0) #[.string ⟨#[]⟩, .slice none 0 0] rfl
    exact bodyPost_ret (results_cs rfl rfl rfl (loadP l2)) rfl ⟨none, 0, rfl, Sl.nil, (HB1.out.setCell (p := ⟨w.heap.size, 0, none⟩) (Nat.le_refl _) _).setCell (p := ⟨w.heap.size, 1, none⟩) (Nat.le_refl _) _⟩
  · obtain ⟨p, hp, ho⟩ := Hb1.out rfl
    subst ho
    obtain ⟨blk, off, At, ct, rfl, hblk, e0, e1, hst⟩ := HS.out.purp i p hp
    have d0 := (HB1.out.cell (p := ⟨blk, off + i * 2, none⟩) hblk).trans e0
    have d1 := (HB1.out.cell (p := ⟨blk, off + i * 2 + 1, none⟩) hblk).trans e1
    clear e0 e1
    have hlt := lt_of_get hp
    have Hst := Lib.hid hst
    clear hst Hb1 Hb2 hp
    go_wp2_with fail
    have l2 := (lv1.set 0 (.string p.name) #[.string p.name, .slice none 0 0] rfl).set 1 (.slice At p.terms.length ct) #[.string p.name, .slice At p.terms.length ct] rfl
    have HB3 := (HB1.out.setCell (p := ⟨w.heap.size, 0, none⟩) (Nat.le_refl _) (.string p.name)).setCell (p := ⟨w.heap.size, 1, none⟩) (Nat.le_refl _) (.slice At p.terms.length ct)
    exact bodyPost_ret (results_cs rfl rfl rfl (loadP l2)) rfl ⟨At, ct, rfl, Sl.keepB Hst.out HB3, HB3⟩
abbrev byT (rg : ByteArray) (ch : Int) (t : PTerm) : Bool := (t.region.toList == rg.toList) && decide (t.channel = ch)
theorem byT_iff (rg : ByteArray) (ch : Int) (t : PTerm) : byT rg ch t = true ↔ t.region = rg ∧ t.channel = ch := by
  rw [byT, Bool.and_eq_true, decide_eq_true_eq]
  refine and_congr_left fun _ => ⟨fun h2 => ?_, fun h => by rw [h]; simp⟩
  rw [ByteArray.toList_eq, ByteArray.toList_eq] at h2
  exact WideShapes.bytes_inj (by simpa using h2)
/-- the term of a region and a channel -/
def findT (ts : List PTerm) (rg : ByteArray) (ch : Int) : Option PTerm := ts.find? (byT rg ch)
theorem tCmp_zero (a b : PTerm) : tCmp a b = 0 ↔ a.region = b.region ∧ a.channel = b.channel := by
  unfold tCmp
  by_cases h : cmpS a.region b.region = 0
  · rw [if_neg (not_not_intro h)]
    have e := (cmpS_zero _ _).1 h
    unfold Lib.compareInt
    constructor
    · intro h2
      refine ⟨e, ?_⟩
      split at h2
      · cases h2
      · split at h2
        · cases h2
        · omega
    · rintro ⟨_, h2⟩
      rw [h2]
      simp
  · rw [if_pos h]
    exact ⟨fun h2 => absurd h2 h, fun ⟨h2, _⟩ => absurd ((cmpS_zero _ _).2 h2) h⟩
theorem tCmp_congr {a b c : PTerm} (h : b.region = c.region ∧ b.channel = c.channel) : tCmp a b = tCmp a c := by unfold tCmp; rw [h.1, h.2]
theorem findT_some {ts : List PTerm} {t : PTerm} (hr : RiseT ts) (k : Nat) (s : PTerm) (hk : ts[k]? = some s) (h0 : tCmp s t = 0) : findT ts t.region t.channel = some s := by
  unfold findT
  rw [List.find?_eq_some_iff_getElem]
  obtain ⟨hlt, rfl⟩ := List.getElem?_eq_some_iff.1 hk
  refine ⟨(byT_iff _ _ _).2 ((tCmp_zero _ _).1 h0), k, hlt, rfl, fun j hj => ?_⟩
  simp only [Bool.not_eq_true', Bool.eq_false_iff]
  intro h
  have h1 := hr j k ts[j] ts[k] hj (List.getElem?_eq_getElem (by omega)) hk
  have h2 := (byT_iff _ _ _).1 h
  have h3 := (tCmp_zero _ _).1 h0
  rw [(tCmp_zero _ _).2 ⟨h2.1.trans h3.1.symm, h2.2.trans h3.2.symm⟩] at h1
  omega
theorem findT_none {ts : List PTerm} {t : PTerm} (h : ∀ s ∈ ts, tCmp s t ≠ 0) : findT ts t.region t.channel = none := by
  unfold findT
  rw [List.find?_eq_none]
  exact fun s hs hb => h s hs ((tCmp_zero _ _).2 ((byT_iff _ _ _).1 hb))
/-- where a term stands, or would stand -/
def GivesT (ts : List PTerm) (t : PTerm) (w : World) (e : Ending) (w' : World) : Prop :=
  ∃ (i : Nat) (b : Bool), e = .returned (.tuple #[.int .i64 i, .bool b]) ∧ i ≤ ts.length ∧ (b = true → ∃ s, ts[i]? = some s ∧ findT ts t.region t.channel = some s) ∧ (b = false → findT ts t.region t.channel = none) ∧ Below w.heap.size w w'
set_option maxHeartbeats 4000000 in
set_option maxRecDepth 100000 in
theorem bsearchT_any (N : Nat → Prop) (A : Option Addr) (xs : List PTerm) (t : PTerm) (c : Nat) (w : World) (hS : Sl rTerm N w A xs) (hn : xs.length ≤ 1000) (hri : RiseT xs) :
    Calls Tryz.prog 118 #[.slice A xs.length c, tVal t, .func (.func 119) #[] #[]] w (GivesT xs t w) := by
  have hb0 : Below w.heap.size w (w.alloc (.cells #[.string t.region, .int .i64 t.channel, .bool t.free, .int .i64 t.days, .int .i64 t.wait] 34)) := (Below.refl _ _).alloc (Nat.le_refl _) _
  have lv0 : tLV _ w.heap.size t := LV.new w w.heap.size #[.string t.region, .int .i64 t.channel, .bool t.free, .int .i64 t.days, .int .i64 t.wait] 34 rfl
  have HS := Lib.hid (hS.keepB hb0)
  have Hri := Lib.hid hri
  clear hS hri
  go_enter Tryz.func118, Tryz.ntmps118
  go_wp2_with fail
  generalize hW : w.alloc (.cells #[.string t.region, .int .i64 t.channel, .bool t.free, .int .i64 t.days, .int .i64 t.wait] 34) = W at *
  obtain ⟨Y, hY⟩ : ∃ Y, Y = w.heap.size := ⟨_, rfl⟩
  rw [← hY] at lv0 ⊢
  have HY := Lib.hid hY
  clear hY hW
  go_loopw [9, 10] (fun a b wr => ∃ i j : Nat, i ≤ j ∧ j ≤ xs.length ∧ a = .int .i64 i ∧ b = .int .i64 j ∧ (∀ p f, p < i → xs[p]? = some f → tCmp f t < 0) ∧ (∀ p f, j ≤ p → xs[p]? = some f → 0 ≤ tCmp f t) ∧ Below W.heap.size W wr) (fun a b _ => (intOf b - intOf a).toNat)
  case atStart => exact ⟨0, xs.length, by omega, by omega, rfl, rfl, (fun p f h => by omega), (fun p f h hp => by rw [List.getElem?_eq_none h] at hp; cases hp), Below.refl _ _⟩
  case round =>
    obtain ⟨i, j, hij, hj, rfl, rfl, hlo, hhi, hbl⟩ := hrel
    have Hlo := Lib.hid hlo
    have Hhi := Lib.hid hhi
    have hsz := hbl.size
    have lvr : tLV wr Y t := LV.kb3 lv0 hbl lv0.lt
    have hSr := HS.out.keepB hbl
    clear hlo hhi
    by_cases hlt : i < j
    · obtain ⟨h, hh⟩ : ∃ h : Nat, h = (i + j) / 2 := ⟨_, rfl⟩
      have h1 : i ≤ h := by omega
      have h2 : h < j := by omega
      have eh : ((i : Int) + (j : Int)) / 2 = (h : Int) := by omega
      clear hh
      obtain ⟨f, hf⟩ : ∃ f, xs[h]? = some f := ⟨_, List.getElem?_eq_getElem (by omega)⟩
      obtain ⟨blk, off, rfl, _, _⟩ := hSr.term h f hf
      have Hf := Lib.hid hf
      clear hf
      go_wp2_with fail
      refine wp_region_mix (fun w' => tLV w' Y t ∧ Sl rTerm N w' (some ⟨blk, off, none⟩) xs) [(true, 0), (true, 1), (true, 2), (true, 3), (true, 4), (true, 5), (false, 6), (true, 7)] (by kernel_rfl) (by kernel_rfl) (fun w' hd => ⟨LV.kb3 lvr (hd.below _) lvr.lt, Sl.keepB hSr (hd.below _)⟩) (fun KK hKK wd hd => ?_)
      have hC : tLV wd Y t ∧ Sl rTerm N wd (some ⟨blk, off, none⟩) xs := ⟨LV.kb3 lvr (hd.below _) lvr.lt, Sl.keepB hSr (hd.below _)⟩
      have Hbd : Hid (Below W.heap.size W wd) := hbl.trans ((hd.below _).mono hsz)
      clear hd lvr hSr hbl
      repeat (refine mix_p rfl (fun K hK => ?_); go_simp; (try go_bits); (try simp (disch := omega) only [if_pos]); (try simp (disch := omega) only [if_neg]); (try simp (disch := omega) only [dif_pos]); (try simp (disch := omega) only [dif_neg]); (try go_simp); (refine hK _ ?_; clear hK K))
      refine mix_loadR (tVal f) rfl rfl rfl rfl (fun w' hw => hw.2.ldTerm h f Hf.out) ?_
      refine mix_loadR (tVal t) rfl rfl rfl rfl (fun w' hw => tLV.load hw.1) ?_
      refine mix_l rfl (fun K hK => ?_) hC
      have Hto := Lib.hid (termOrder_any f t wd)
      have Hlt3 : Hid (∀ p g, p < h → xs[p]? = some g → tCmp g f < 0) := fun p g hp hg => Hri.out p h g f hp hg Hf.out
      have Hgt3 : Hid (∀ p g, h < p → xs[p]? = some g → tCmp f g < 0) := fun p g hp hg => Hri.out h p f g hp Hf.out hg
      obtain ⟨cm, Hcm⟩ : ∃ cm, Hid (tCmp f t = cm) := ⟨_, Lib.hid rfl⟩
      rw [Hcm.out] at Hto
      go_wp2_with fail
      ((with_reducible refine (Hto.out).mono ?_); rintro e w2 ⟨rfl, hl2⟩)
      have hC2 : tLV w2 Y t ∧ Sl rTerm N w2 (some ⟨blk, off, none⟩) xs := ⟨LV.kb3 hC.1 hl2 hC.1.lt, Sl.keepB hC.2 hl2⟩
      have Hb2 : Hid (Below W.heap.size W w2) := Hbd.out.trans (hl2.mono Hbd.out.size)
      clear hl2 hC Hbd Hto
      go_wp2_with fail
      refine ⟨hC2, ?_⟩
      repeat (refine mix_p rfl (fun K hK => ?_); go_simp; (try go_bits); (try simp (disch := omega) only [if_pos]); (try simp (disch := omega) only [if_neg]); (try simp (disch := omega) only [dif_pos]); (try simp (disch := omega) only [dif_neg]); (try go_simp); (refine hK _ ?_; clear hK K))
      refine mix_nil ?_
      simp only [Exit.then]
      refine hKK _ _ ?_
      clear hC2
      by_cases hc : cm < 0
      · have Hl : Hid (∀ p g, p < h + 1 → xs[p]? = some g → tCmp g t < 0) := fun p g hp hg => by
          by_cases hph : p = h
          · subst hph
            rw [Hf.out] at hg
            cases hg
            rw [Hcm.out]
            exact hc
          · exact tCmp_neg_trans (Hlt3.out p g (by omega) hg) (by rw [Hcm.out]; exact hc)
        go_wp2_with fail
        go_roundw
        case rel => exact ⟨h + 1, j, by omega, by omega, by go_num, rfl, Hl.out, Hhi.out, Hb2.out⟩
        case measure => simp [intOf]; omega
      · have Hl : Hid (∀ p g, h ≤ p → xs[p]? = some g → 0 ≤ tCmp g t) := fun p g hp hg => by
          rcases Int.lt_or_le (tCmp g t) 0 with hx | hx
          case inr => exact hx
          exfalso
          by_cases hph : p = h
          · subst hph
            rw [Hf.out] at hg
            cases hg
            rw [Hcm.out] at hx
            exact hc hx
          · have := tCmp_neg_trans (Hgt3.out p g (by omega) hg) hx
            rw [Hcm.out] at this
            exact hc this
        go_wp2_with fail
        go_roundw
        case rel => exact ⟨i, h, by omega, by omega, rfl, rfl, Hlo.out, Hl.out, Hb2.out⟩
        case measure => simp [intOf]; omega
    · obtain rfl : i = j := by omega
      have Hne : Hid (∀ p g, p ≠ i → xs[p]? = some g → tCmp g t ≠ 0) := fun p g hp hg e => by
        rcases Nat.lt_or_ge p i with hlt | hge
        · have := Hlo.out p g hlt hg
          omega
        · by_cases hli : i < xs.length
          · have h3 := Hri.out i p xs[i] g (by omega) (List.getElem?_eq_getElem hli) hg
            rw [tCmp_congr ((tCmp_zero _ _).1 e)] at h3
            have := Hhi.out i xs[i] (Nat.le_refl _) (List.getElem?_eq_getElem hli)
            omega
          · have := lt_of_get hg
            omega
      by_cases hlen : i < xs.length
      · obtain ⟨f, hf⟩ : ∃ f, xs[i]? = some f := ⟨_, List.getElem?_eq_getElem hlen⟩
        obtain ⟨blk, off, rfl, _, _⟩ := hSr.term i f hf
        have Hf := Lib.hid hf
        clear hf
        go_wp2_with fail
        refine wp_region_mix (fun w' => tLV w' Y t ∧ Sl rTerm N w' (some ⟨blk, off, none⟩) xs) [(true, 0), (true, 1), (true, 2), (true, 3), (true, 4), (true, 5), (true, 6), (true, 7), (true, 8), (true, 9), (true, 10), (false, 11), (true, 12), (true, 13), (true, 14), (true, 15)] (by kernel_rfl) (by kernel_rfl) (fun w' hd => ⟨LV.kb3 lvr (hd.below _) lvr.lt, Sl.keepB hSr (hd.below _)⟩) (fun KK hKK wd hd => ?_)
        have hC : tLV wd Y t ∧ Sl rTerm N wd (some ⟨blk, off, none⟩) xs := ⟨LV.kb3 lvr (hd.below _) lvr.lt, Sl.keepB hSr (hd.below _)⟩
        have Hbd : Hid (Below W.heap.size W wd) := hbl.trans ((hd.below _).mono hsz)
        clear hd lvr hSr hbl
        repeat (refine mix_p rfl (fun K hK => ?_); go_simp; (try go_bits); (try simp (disch := omega) only [if_pos]); (try simp (disch := omega) only [if_neg]); (try simp (disch := omega) only [dif_pos]); (try simp (disch := omega) only [dif_neg]); (try go_simp); (refine hK _ ?_; clear hK K))
        refine mix_loadG (tVal f) rfl (by simp [Region.wanted, yielded, go_sem]) rfl rfl (fun w' hw => hw.2.ldTerm i f Hf.out) ?_
        refine mix_loadG (tVal t) rfl (by simp [Region.wanted, yielded, go_sem]) rfl rfl (fun w' hw => tLV.load hw.1) ?_
        refine mix_l rfl (fun K hK => ?_) hC
        have Hto := Lib.hid (termOrder_any f t wd)
        obtain ⟨cm, Hcm⟩ : ∃ cm, Hid (tCmp f t = cm) := ⟨_, Lib.hid rfl⟩
        rw [Hcm.out] at Hto
        go_wp2_with fail
        ((with_reducible refine (Hto.out).mono ?_); rintro e w2 ⟨rfl, hl2⟩)
        have hC2 : tLV w2 Y t ∧ Sl rTerm N w2 (some ⟨blk, off, none⟩) xs := ⟨LV.kb3 hC.1 hl2 hC.1.lt, Sl.keepB hC.2 hl2⟩
        have Hb2 : Hid (Below W.heap.size W w2) := Hbd.out.trans (hl2.mono Hbd.out.size)
        clear hl2 hC Hbd Hto
        go_wp2_with fail
        refine ⟨hC2, ?_⟩
        repeat (refine mix_p rfl (fun K hK => ?_); go_simp; (try go_bits); (try simp (disch := omega) only [if_pos]); (try simp (disch := omega) only [if_neg]); (try simp (disch := omega) only [dif_pos]); (try simp (disch := omega) only [dif_neg]); (try go_simp); (refine hK _ ?_; clear hK K))
        refine mix_nil ?_
        simp only [Exit.then]
        refine hKK _ _ ?_
        clear hC2
        go_wp2_with fail
        go_ret2
        refine ⟨i, (cm == 0), rfl, by omega, fun h => ⟨f, Hf.out, findT_some Hri.out i f Hf.out (by rw [Hcm.out]; simpa using h)⟩, fun h => findT_none fun p hp e => ?_, hb0.trans (Hb2.out.mono hb0.size)⟩
        obtain ⟨q, hq⟩ := List.mem_iff_getElem?.1 hp
        by_cases hqi : q = i
        · subst hqi
          rw [Hf.out] at hq
          cases hq
          rw [← Hcm.out, e] at h
          cases h
        · exact Hne.out q p hqi hq e
      · go_wp2_with fail
        refine wp_region_mix (fun _ => True) [(true, 0), (true, 1), (true, 2), (true, 3), (true, 4), (true, 5), (true, 6), (true, 7), (true, 8), (true, 9), (true, 10), (false, 11), (true, 12), (true, 13), (true, 14), (true, 15)] (by kernel_rfl) (by kernel_rfl) (fun _ _ => trivial) (fun KK hKK wd hd => ?_)
        have Hbd : Hid (Below W.heap.size W wd) := hbl.trans ((hd.below _).mono hsz)
        clear hd lvr hSr hbl
        repeat (refine mix_p rfl (fun K hK => ?_); go_simp; (try go_bits); (try simp (disch := omega) only [if_pos]); (try simp (disch := omega) only [if_neg]); (try simp (disch := omega) only [dif_pos]); (try simp (disch := omega) only [dif_neg]); (try go_simp); (refine hK _ ?_; clear hK K))
        refine mix_l rfl (fun K hK => ?_) trivial
        go_wp2_with fail
        refine ⟨trivial, ?_⟩
        repeat (refine mix_p rfl (fun K hK => ?_); go_simp; (try go_bits); (try simp (disch := omega) only [if_pos]); (try simp (disch := omega) only [if_neg]); (try simp (disch := omega) only [dif_pos]); (try simp (disch := omega) only [dif_neg]); (try go_simp); (refine hK _ ?_; clear hK K))
        refine mix_nil ?_
        simp only [Exit.then]
        refine hKK _ _ ?_
        go_wp2_with fail
        go_ret2
        refine ⟨i, false, rfl, by omega, (fun h => by cases h), fun _ => findT_none fun p hp e => ?_, hb0.trans (Hbd.out.mono hb0.size)⟩
        obtain ⟨q, hq⟩ := List.mem_iff_getElem?.1 hp
        exact Hne.out q p (by have := lt_of_get hq; omega) hq e
end Go.Proofs.YtlnklkedpknbpaaGreatDoor
