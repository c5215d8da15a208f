/- Several texts in one: NewGroup, PartsLaw, Grp, MapGR, Parts. -/
import Derived.Test.YtfdcgedcfafmcaaGreatDoorPackP
import Derived.Deep.DeepCutAuto
/- What newGroup returns: touches under rules, and which touches have each id. -/
namespace Go.Proofs.YtfdcgedcfafmcaaGreatDoor
open Go Go.RowKit
def GivesGrp (r : Rul) (K : Option Addr) (ck : Nat) (W : Option Addr) (cw : Nat) (S : Option Addr) (cs : Nat) (A : Option Addr) (c : Nat) (ts : List Tch) (w : World) (e : Ending) (w' : World) : Prop :=
  ∃ (G X : Nat) (qs : List HQ), e = .returned (.pointer (some ⟨G, 0, none⟩)) ∧ Mem w w' (.loc G (grCs r K ck W cw S cs A ts.length c X) 159 :: havC w.heap.size X qs) ∧ HavOk ts ts.length [] (qs.map HQ.kl)
theorem oneJ (y : Int) : ∀ u ∈ ([.int .i64 y] : List Value), u.oneCell' = true := fun u hu => by rw [List.mem_singleton.1 hu]; rfl
theorem notin_take {α : Type} {l : List α} {n : Nat} {x : α} (hn : l.Nodup) (hx : l[n]? = some x) : x ∉ l.take n := fun h => by
  obtain ⟨m, hm⟩ := List.mem_iff_getElem?.1 h
  have hmn : m < n := by
    have := lt_of_get hm
    rw [List.length_take] at this
    omega
  rw [List.getElem?_take_of_lt hmn] at hm
  obtain ⟨h1, e1⟩ := List.getElem?_eq_some_iff.1 hm
  obtain ⟨h2, e2⟩ := List.getElem?_eq_some_iff.1 hx
  exact List.pairwise_iff_getElem.1 hn m n h1 h2 hmn (e1.trans e2.symm)
set_option maxHeartbeats 4000000 in
set_option maxRecDepth 100000 in
theorem newGroup_any (N : Nat → Prop) (r : Rul) (K W S A : Option Addr) (ck cw cs c : Nat) (ts : List Tch) (w : World) (hT : Sl rTch N w A ts) (hl : ts.length ≤ 1000000) (hnd : ∀ t ∈ ts, t.ids.Nodup) (hil : ∀ t ∈ ts, t.ids.length ≤ 1000000) :
    Calls Tryz.prog 37 #[.agg (ruCs r K ck W cw S cs), .slice A ts.length c] w (GivesGrp r K ck W cw S cs A c ts w) := by
  have HT := Lib.hid (fun w' (h : Below w.heap.size w w') => hT.keepB h)
  have Hnd := Lib.hid hnd
  have Hil := Lib.hid hil
  have S0 := (Mem.start w).newAt (ruCs r K ck W cw S cs) 29 w.heap.size rfl
  have y0 := (S0.lv 0 rfl).all
  have hmm := @run_makeMap Tryz.prog
  clear hT hnd hil
  go_enter Tryz.func37, Tryz.ntmps37
  go_wp2_with fail
  obtain ⟨B, hB⟩ : ∃ B, B = w.heap.size := ⟨_, rfl⟩
  obtain ⟨X, hX⟩ : ∃ X, X = w.heap.size + 1 := ⟨_, rfl⟩
  obtain ⟨G, hG⟩ : ∃ G, G = w.heap.size + 1 + 1 := ⟨_, rfl⟩
  have S1 := (S0.newMapG keyId X (by rw [alloc_size]; exact hX)).newAt (grCs r K ck W cw S cs A ts.length c X) 159 G (by rw [alloc_size, alloc_size]; exact hG)
  have S2 : Mem w _ (.loc G (grCs r K ck W cw S cs A ts.length c X) 159 :: havC B X []) := (S1.del 0).front
  rw [← hG, ← hX]
  clear hG hX hmm y0 S0 S1
  have Hb := Lib.hid hB
  clear hB
  generalize World.alloc _ _ = w1 at S2 ⊢
  go_loopw [17] (fun i wr => ∃ (k : Nat) (qs : List HQ), k ≤ ts.length ∧ i = .int .i64 k ∧ Hid (HavOk ts k [] (qs.map HQ.kl)) ∧ Mem w wr (.loc G (grCs r K ck W cw S cs A ts.length c X) 159 :: havC B X qs)) (fun i _ => ts.length - (intOf i).toNat)
  case atStart => exact ⟨0, [], Nat.zero_le _, rfl, HavOk.start ts, S2⟩
  case round =>
    clear S2
    obtain ⟨k, qs, hk, rfl, HO, S2⟩ := hrel
    by_cases hlt : k < ts.length
    · obtain ⟨t, ht⟩ : ∃ t, ts[k]? = some t := ⟨_, List.getElem?_eq_getElem hlt⟩
      obtain ⟨blk, off, Ai, ci, Af, cf, rfl, hblk, d0, d1, d2, d3, d4, hi, hf⟩ := (HT.out w (Below.refl _ _)).tch k t ht
      have hcl := fun (p : Addr) (hp : p.block < w.heap.size) => S2.b.cell hp
      rw [← hcl _ hblk] at d0 d1 d2 d3 d4
      clear hcl
      have HI := Lib.hid (fun w' (h : Below w.heap.size w w') => hi.keepB h)
      have Hn := Lib.hid (Hnd.out t (List.mem_of_getElem? ht))
      have hil : t.ids.length ≤ 1000000 := Hil.out t (List.mem_of_getElem? ht)
      have Ht := Lib.hid ht
      clear hi hf ht
      go_upto_region 5 with fail
      clear d0 d1 d2 d3 d4
      obtain ⟨Y, hY⟩ : ∃ Y, Y = wr.heap.size := ⟨_, rfl⟩
      have S3 : Mem w _ (.loc Y (tcCs t Ai ci Af cf) 85 :: .loc G (grCs r K ck W cw S cs (some ⟨blk, off, none⟩) ts.length c X) 159 :: havC B X qs) := (S2.newAt (tcCs t Ai ci Af cf) 85 Y hY).front
      rw [← hY]
      clear hY S2
      generalize wr.alloc (.cells (tcCs t Ai ci Af cf) 85) = w4 at *
      have c3 := (S3.lv 0 rfl).all
      go_wp2_with fail
      clear c3
      go_loopw [25] (fun i wr => ∃ (n : Nat) (qs : List HQ), n ≤ t.ids.length ∧ i = .int .i64 n ∧ Hid (HavOk ts k (t.ids.take n) (qs.map HQ.kl)) ∧ Mem w wr (.loc Y (tcCs t Ai ci Af cf) 85 :: .loc G (grCs r K ck W cw S cs (some ⟨blk, off, none⟩) ts.length c X) 159 :: havC B X qs)) (fun i _ => t.ids.length - (intOf i).toNat)
      case atStart => exact ⟨0, qs, Nat.zero_le _, rfl, HO.out, S3⟩
      case round =>
        clear S3 HO
        obtain ⟨n, q1, hn, rfl, HO, S3⟩ := hrel
        by_cases hlt2 : n < t.ids.length
        · obtain ⟨x, hx⟩ : ∃ x, t.ids[n]? = some x := ⟨_, List.getElem?_eq_getElem hlt2⟩
          obtain ⟨ib, io, rfl, hib, c0, c1⟩ := (HI.out wr S3.b).idv n x hx
          have Hx := Lib.hid hx
          clear hx
          go_upto_region 8 with fail
          clear c0 c1
          obtain ⟨Z, hZ⟩ : ∃ Z, Z = wr.heap.size := ⟨_, rfl⟩
          have S4 : Mem w _ (.loc Z #[.int .i64 x.k, .string x.t] 41 :: .loc Y (tcCs t (some ⟨ib, io, none⟩) ci Af cf) 85 :: .loc G (grCs r K ck W cw S cs (some ⟨blk, off, none⟩) ts.length c X) 159 :: havC B X q1) := (S3.newAt #[.int .i64 x.k, .string x.t] 41 Z hZ).front
          rw [← hZ]
          clear hZ S3
          generalize wr.alloc (.cells #[.int .i64 x.k, .string x.t] 41) = w5 at *
          obtain ⟨qs1, j, q, e1, e2, e3, e4, e5, e6, e7, e8⟩ := hq_step q1 (by have := HO.out.1; rw [kl_keys] at this; exact this) x
          have hsB : B ≤ w5.heap.size := by rw [Hb.out]; exact S4.b.size
          go_wp2_with fail
          refine wp_region_mix (fun w' => LV w' G (grCs r K ck W cw S cs (some ⟨blk, off, none⟩) ts.length c X) 159 ∧ LV w' Z #[.int .i64 x.k, .string x.t] 41) [(true, 0), (true, 1), (true, 2), (true, 3), (true, 4), (true, 5), (false, 6), (false, 7), (true, 8), (true, 10), (false, 9), (false, 11)] (by kernel_rfl) (by kernel_rfl) (fun w' hd => ⟨(S4.below (hd.below _)).lv 2 rfl, (S4.below (hd.below _)).lv 0 rfl⟩) (fun KK hKK wd hd => ?_)
          have S5 := S4.below (hd.below _)
          have hsB2 : B ≤ wd.heap.size := by rw [hd.heap]; exact hsB
          have hC : LV wd G (grCs r K ck W cw S cs (some ⟨blk, off, none⟩) ts.length c X) 159 ∧ LV wd Z #[.int .i64 x.k, .string x.t] 41 := ⟨S5.lv 2 rfl, S5.lv 0 rfl⟩
          clear hd S4 hsB
          repeat (refine mix_p rfl (fun K hK => ?_); go_simp; (try go_bits); (try simp (disch := omega) only [if_pos]); (try simp (disch := omega) only [if_neg]); (try simp (disch := omega) only [dif_pos]); (try simp (disch := omega) only [dif_neg]); (try go_simp); (refine hK _ ?_; clear hK K))
          refine mix_loadG (.map (some X)) rfl (by first | (simp [Region.wanted, go_sem]; done) | simp [Region.wanted, yielded, go_sem]) rfl rfl (fun w' h => loadC rfl (h.1.cell 5 _ rfl)) ?_
          repeat (refine mix_p rfl (fun K hK => ?_); go_simp; (try go_bits); (try simp (disch := omega) only [if_pos]); (try simp (disch := omega) only [if_neg]); (try simp (disch := omega) only [dif_pos]); (try simp (disch := omega) only [dif_neg]); (try go_simp); (refine hK _ ?_; clear hK K))
          refine mix_loadG (.agg #[.int .i64 x.k, .string x.t]) rfl (by first | (simp [Region.wanted, go_sem]; done) | simp [Region.wanted, yielded, go_sem]) rfl rfl (fun w' h => loadAtI (h.2.cell 0 _ rfl) (h.2.cell 1 _ rfl)) ?_
          repeat (refine mix_p rfl (fun K hK => ?_); go_simp; (try go_bits); (try simp (disch := omega) only [if_pos]); (try simp (disch := omega) only [if_neg]); (try simp (disch := omega) only [dif_pos]); (try simp (disch := omega) only [dif_neg]); (try go_simp); (refine hK _ ?_; clear hK K))
          refine mix_l rfl (fun K9 hK9 => ?_) hC
          go_wp2_with fail
          obtain ⟨V, hV⟩ : ∃ V, V = wd.heap.size := ⟨_, rfl⟩
          have S6 : Mem w _ (.loc V #[.int .i64 k] 3 :: .loc Z #[.int .i64 x.k, .string x.t] 41 :: .loc Y (tcCs t (some ⟨ib, io, none⟩) ci Af cf) 85 :: .loc G (grCs r K ck W cw S cs (some ⟨blk, off, none⟩) ts.length c X) 159 :: havC B X q1) := (S5.newAt #[.int .i64 k] 3 V hV).front
          have hsB3 : B ≤ (wd.alloc (.cells #[.int .i64 k] 3)).heap.size := by rw [alloc_size]; omega
          rw [← hV]
          clear hV S5 hC hsB2
          generalize wd.alloc (.cells #[.int .i64 k] 3) = w6 at *
          refine ⟨⟨S6.lv 3 rfl, S6.lv 1 rfl⟩, ?_⟩
          refine mix_l rfl (fun K9 hK9 => ?_) ⟨S6.lv 3 rfl, S6.lv 1 rfl⟩
          refine S6.entryG (K := keyId) 4 rfl (T := 157) (E := 22) (by kernel_rfl) zeroInts rfl _ _ rfl rfl x rfl ?_
          intro st w7 S7 hsz7
          rw [e4, e5] at S7
          rw [e4]
          have S8 : Mem w w7 (.loc V #[.int .i64 k] 3 :: .loc Z #[.int .i64 x.k, .string x.t] 41 :: .loc Y (tcCs t (some ⟨ib, io, none⟩) ci Af cf) 85 :: .loc G (grCs r K ck W cw S cs (some ⟨blk, off, none⟩) ts.length c X) 159 :: .ent keyId X (qs1.map HQ.kv) x st :: qs1.map (hq B)) := e8 B w w7 [.loc V #[.int .i64 k] 3, .loc Z #[.int .i64 x.k, .string x.t] 41, .loc Y (tcCs t (some ⟨ib, io, none⟩) ci Af cf) 85, .loc G (grCs r K ck W cw S cs (some ⟨blk, off, none⟩) ts.length c X) 159, .ent keyId X (qs1.map HQ.kv) x st] S7
          have hsB4 : B ≤ w7.heap.size := Nat.le_trans hsB3 hsz7
          have hqv : q.v = .slice q.A q.js.length q.c := rfl
          rw [hqv]
          clear S6 S7 hsB3 hsz7 hqv
          go_wp2_with fail
          refine ⟨⟨S8.lv 3 rfl, S8.lv 1 rfl⟩, ?_⟩
          repeat (refine mix_p rfl (fun K hK => ?_); go_simp; (try go_bits); (try simp (disch := omega) only [if_pos]); (try simp (disch := omega) only [if_neg]); (try simp (disch := omega) only [dif_pos]); (try simp (disch := omega) only [dif_neg]); (try go_simp); (refine hK _ ?_; clear hK K))
          have hcs : ∀ (j : Nat) (u : Value), ([(k : Int)].map (fun n => [Value.int .i64 n])).flatten[j]? = some u → w7.cell? ((⟨V, 0, none⟩ : Addr).add j) = some u := fun j u hu => by
            have h0 := (S8.lv 0 rfl).cell 0 _ rfl
            cases j with
            | zero => simp at hu; subst hu; exact h0
            | succ j => simp at hu
          have hjl : q.js.length ≤ 2000000 := by
            have h1 := HO.out.2 x
            rw [← e6, h1, some1_getD, List.length_append]
            have h2 := hav_len (ts.take k) x
            rw [List.length_take] at h2
            have h3 : (if x ∈ t.ids.take n then [k] else []).length ≤ 1 := by split <;> simp
            omega
          refine mix_l rfl (fun K9 hK9 => ?_) ⟨S8.lv 3 rfl, S8.lv 1 rfl⟩
          refine S8.appN flatInt (j + 5) (by show (qs1.map (hq B))[j]? = _; rw [List.getElem?_map, e1]; rfl) tyIntP rfl _ _ rfl [(k : Int)] 1 1 rfl rfl ⟨V, 0, none⟩ rfl hcs (fun y _ => oneJ y) (fun _ => rfl) hsB4 (by rw [iL_len]; simp only [List.length_singleton]; omega) (by decide) ?_
          intro v9 w9 S9
          have S10 : Mem w w9 (.loc V #[.int .i64 k] 3 :: .loc Z #[.int .i64 x.k, .string x.t] 41 :: .loc Y (tcCs t (some ⟨ib, io, none⟩) ci Af cf) 85 :: .loc G (grCs r K ck W cw S cs (some ⟨blk, off, none⟩) ts.length c X) 159 :: .ent keyId X (qs1.map HQ.kv) x st :: (qs1.map (hq B)).set j (.own rInt B 3 v9 (iL (q.js ++ [k])))) := by rw [iL_snoc]; exact S9
          have hi9 : ((qs1.map (hq B)).set j (.own rInt B 3 v9 (iL (q.js ++ [k]))))[j]? = some (.own rInt B 3 v9 (iL (q.js ++ [k]))) := List.getElem?_set_self (by rw [List.length_map]; exact lt_of_get e1)
          obtain ⟨A9, c9, e9⟩ := (S10.ow (j + 5) hi9).len
          rw [iL_len] at e9
          subst e9
          have S11 : Mem w w9 (.loc V #[.int .i64 k] 3 :: .loc Z #[.int .i64 x.k, .string x.t] 41 :: .loc Y (tcCs t (some ⟨ib, io, none⟩) ci Af cf) 85 :: .loc G (grCs r K ck W cw S cs (some ⟨blk, off, none⟩) ts.length c X) 159 :: .ent keyId X (qs1.map HQ.kv) x st :: (qs1.set j ⟨q.x, A9, c9, q.js ++ [k]⟩).map (hq B)) := by rw [List.map_set]; exact S10
          obtain ⟨ha1, ha2⟩ := hq_add (qs := q1) e1 e2 e3 e6 e7 A9 c9 k
          clear S8 S9 S10 hi9 hcs hjl e6 e7 e8
          go_wp2_with fail
          refine ⟨⟨S11.lv 3 rfl, S11.lv 1 rfl⟩, ?_⟩
          refine mix_l rfl (fun K9 hK9 => ?_) ⟨S11.lv 3 rfl, S11.lv 1 rfl⟩
          refine S11.estoreG 4 rfl rfl _ _ _ rfl rfl rfl (HQ.v ⟨q.x, A9, c9, q.js ++ [k]⟩) rfl ?_
          intro w10 S12
          rw [ha1] at S12
          go_wp2_with fail
          refine ⟨⟨S12.lv 3 rfl, S12.lv 1 rfl⟩, ?_⟩
          have S13 : Mem w w10 (.loc Y (tcCs t (some ⟨ib, io, none⟩) ci Af cf) 85 :: .loc G (grCs r K ck W cw S cs (some ⟨blk, off, none⟩) ts.length c X) 159 :: havC B X (qs1.set j ⟨q.x, A9, c9, q.js ++ [k]⟩)) := (S12.del 0).del 0
          have HO2 : Hid (HavOk ts k (t.ids.take (n + 1)) ((qs1.set j ⟨q.x, A9, c9, q.js ++ [k]⟩).map HQ.kl)) := by
            show HavOk _ _ _ _
            rw [take_snoc Hx.out, ← ha2]
            exact HO.out.add (notin_take Hn.out Hx.out)
          clear S11 S12 HO ha1 ha2
          repeat (refine mix_p rfl (fun K hK => ?_); go_simp; (try go_bits); (try simp (disch := omega) only [if_pos]); (try simp (disch := omega) only [if_neg]); (try simp (disch := omega) only [dif_pos]); (try simp (disch := omega) only [dif_neg]); (try go_simp); (refine hK _ ?_; clear hK K))
          refine mix_nil ?_
          simp only [Exit.then]
          refine hKK _ _ ?_
          clear hKK KK
          generalize qs1.set j ⟨q.x, A9, c9, q.js ++ [k]⟩ = q2 at *
          go_wp2_with fail
          go_roundw
          case rel => exact ⟨n + 1, q2, by omega, by go_num, HO2, S13⟩
          case measure => simp [intOf]; omega
        · obtain rfl : n = t.ids.length := by omega
          have Hn2 : Hid (HavOk ts (k + 1) [] (q1.map HQ.kl)) := HavOk.next Ht.out (by have := HO.out; rw [List.take_length] at this; exact this)
          have S9 : Mem w wr (.loc G (grCs r K ck W cw S cs (some ⟨blk, off, none⟩) ts.length c X) 159 :: havC B X q1) := S3.del 0
          clear S3 HO
          go_wp2_with fail
          go_roundw
          case rel => exact ⟨k + 1, q1, by omega, by go_num, Hn2, S9⟩
          case measure => simp [intOf]; omega
    · obtain rfl : k = ts.length := by omega
      go_wp2_with fail
      go_ret
      exact ⟨G, X, qs, rfl, Hb.out ▸ S2, HO.out⟩
end Go.Proofs.YtfdcgedcfafmcaaGreatDoor

/- Parts: the plain law of the loop over all ids that join. -/
namespace Go.Proofs.YtfdcgedcfafmcaaGreatDoor
open Go Go.RowKit
def joinsX (r : Rul) (l : List Tch) (out : Option IdV) (x : IdV) : Bool := joinsP r l x && decide (out ≠ some x)
def EdgeX (r : Rul) (l : List Tch) (out : Option IdV) (i j : Nat) : Prop := ∃ x, joinsX r l out x = true ∧ x ∈ idsAt l i ∧ x ∈ idsAt l j
theorem EdgeX.symm {r : Rul} {l : List Tch} {out : Option IdV} (i j : Nat) : EdgeX r l out i j → EdgeX r l out j i := fun ⟨x, h, h1, h2⟩ => ⟨x, h, h2, h1⟩
structure Joined (r : Rul) (ts : List Tch) (out : Option IdV) (done : List (IdV × List Nat)) (c : Nat → Nat) : Prop where
  labs : Labs ts.length (EdgeX r ts out) c
  same : ∀ p ∈ done, joinsX r ts out p.1 = true → ∀ i ∈ p.2, ∀ j ∈ p.2, c i = c j
theorem Joined.start (r : Rul) (ts : List Tch) (out : Option IdV) : Joined r ts out [] id := ⟨Labs.start _ _, fun _ h => by cases h⟩
theorem Joined.skip {r : Rul} {ts : List Tch} {out : Option IdV} {done : List (IdV × List Nat)} {c : Nat → Nat} (h : Joined r ts out done c) {p : IdV × List Nat} (hp : joinsX r ts out p.1 = false) : Joined r ts out (done ++ [p]) c := by
  refine ⟨h.labs, fun q hq hj => ?_⟩
  rcases List.mem_append.1 hq with hq | hq
  · exact h.same q hq hj
  · rw [List.mem_singleton.1 hq, hp] at hj; cases hj
theorem Joined.step {r : Rul} {ts : List Tch} {out : Option IdV} {done : List (IdV × List Nat)} {c : Nat → Nat} (h : Joined r ts out done c) {x : IdV} (hx : joinsX r ts out x = true) {a b : Nat} (ha : a ∈ hav ts x) (hb : b ∈ hav ts x) : Joined r ts out done (joinC (c a) (c b) c) :=
  ⟨h.labs.join EdgeX.symm (hav_lt ha) (hav_lt hb) ⟨x, hx, mem_idsAt.2 ha, mem_idsAt.2 hb⟩, fun q hq hj i hi j hj' => joinC_keep (h.same q hq hj i hi j hj')⟩
theorem Joined.next {r : Rul} {ts : List Tch} {out : Option IdV} {done : List (IdV × List Nat)} {c : Nat → Nat} (h : Joined r ts out done c) {p : IdV × List Nat} {a : Nat} (hp : ∀ j ∈ p.2, c j = c a) : Joined r ts out (done ++ [p]) c := by
  refine ⟨h.labs, fun q hq hj i hi j hj' => ?_⟩
  rcases List.mem_append.1 hq with hq | hq
  · exact h.same q hq hj i hi j hj'
  · rw [List.mem_singleton.1 hq] at hi hj'
    rw [hp i hi, hp j hj']
theorem HavOk.entry {ts : List Tch} {L : List (IdV × List Nat)} (h : HavOk ts ts.length [] L) {p : IdV × List Nat} (hp : p ∈ L) : p.2 = hav ts p.1 ∧ p.2 ≠ [] := by
  obtain ⟨x, js⟩ := p
  obtain ⟨i, hi⟩ := List.mem_iff_getElem?.1 hp
  have h1 := (getG_at h.1 hi).1
  have h2 := h.2 x
  rw [h1, List.take_length] at h2
  simp only [List.not_mem_nil, if_false, List.append_nil] at h2
  unfold some1 at h2
  split at h2
  · cases h2
  · rename_i hne
    obtain rfl := Option.some.inj h2
    exact ⟨rfl, hne⟩
theorem HavOk.has {ts : List Tch} {L : List (IdV × List Nat)} (h : HavOk ts ts.length [] L) {x : IdV} {j : Nat} (hj : j ∈ hav ts x) : (x, hav ts x) ∈ L := by
  have h2 := h.2 x
  rw [List.take_length] at h2
  simp only [List.not_mem_nil, if_false, List.append_nil] at h2
  unfold some1 at h2
  rw [if_neg (fun e => by rw [e] at hj; cases hj)] at h2
  exact getG_mem h2
theorem Joined.fin {r : Rul} {ts : List Tch} {out : Option IdV} {done L : List (IdV × List Nat)} {c : Nat → Nat} (h : Joined r ts out done c) (hp : done.Perm L) (hL : HavOk ts ts.length [] L) : IsPart ts.length (EdgeX r ts out) c :=
  h.labs.part fun i j _ _ ⟨x, hx, h1, h2⟩ => by
    have a1 := mem_idsAt.1 h1
    have a2 := mem_idsAt.1 h2
    exact h.same (x, hav ts x) (hp.mem_iff.2 (hL.has a1)) hx i a1 j a2
end Go.Proofs.YtfdcgedcfafmcaaGreatDoor

/- A group of touches in memory, as all its methods read it; joins told by the law's own word. -/
namespace Go.Proofs.YtfdcgedcfafmcaaGreatDoor
open Go Go.RowKit
structure Grp (N : Nat → Prop) (w : World) (G X : Nat) (r : Rul) (K W S A : Option Addr) (ck cw cs c : Nat) (ts : List Tch) (qs : List HQ) : Prop where
  g : LV w G (grCs r K ck W cw S cs A ts.length c X) 159
  m : MapG keyId w X (qs.map HQ.kv)
  s : SlotsOk (fun _ => False) w qs
  h : HavOk ts ts.length [] (qs.map HQ.kl)
  r : RulIn N w r K W S
  t : Sl rTch N w A ts
  cp : ∀ q ∈ qs, q.js.length ≤ q.c
theorem Grp.keepB {N : Nat → Prop} {w w' : World} {G X : Nat} {r : Rul} {K W S A : Option Addr} {ck cw cs c : Nat} {ts : List Tch} {qs : List HQ} (h : Grp N w G X r K W S A ck cw cs c ts qs) (k : Below w.heap.size w w') : Grp N w' G X r K W S A ck cw cs c ts qs :=
  ⟨LV.kb3 h.g k h.g.lt, by
    obtain ⟨es, cl, hb, he⟩ := h.m
    exact ⟨es, cl, (k.block X (Array.getElem?_eq_some_iff.1 hb).1).trans hb, he⟩, fun q hq => (h.s q hq).keepB k, h.h, h.r.keepB k, h.t.keepB k, h.cp⟩
theorem HavOk.look {ts : List Tch} {qs : List HQ} (h : HavOk ts ts.length [] (qs.map HQ.kl)) (x : IdV) : ∃ A c, (getG x (qs.map HQ.kv)).getD (.slice none 0 0) = .slice A (hav ts x).length c ∧ ((hav ts x = [] ∧ A = none ∧ c = 0) ∨ ∃ q ∈ qs, q.x = x ∧ q.A = A ∧ q.c = c ∧ q.js = hav ts x) := by
  have h2 := h.2 x
  rw [List.take_length] at h2
  simp only [List.not_mem_nil, if_false, List.append_nil] at h2
  have hn := h.1
  rw [kl_keys] at hn
  rcases hq_cases qs hn x with ⟨_, e1, e2⟩ | ⟨j, q, e1, e2, e3, e4⟩
  · rw [e2] at h2
    have h0 : hav ts x = [] := by
      unfold some1 at h2
      split at h2
      · assumption
      · cases h2
    exact ⟨none, 0, by rw [e1, h0]; rfl, .inl ⟨h0, rfl, rfl⟩⟩
  · rw [e4] at h2
    have hj : q.js = hav ts x := by
      unfold some1 at h2
      split at h2
      · cases h2
      · exact Option.some.inj h2
    exact ⟨q.A, q.c, by rw [e3, Option.getD_some, HQ.v, hj], .inr ⟨q, List.mem_of_getElem? e1, e2, rfl, rfl, hj⟩⟩
theorem joinV_is (r : Rul) (ts : List Tch) (x : IdV) : joinV r x (hav ts x).length = joinsP r ts x := by
  unfold joinV joinsP
  cases decide (x ∈ r.weak) <;> cases decide (x.k ∈ r.kinds) <;> rfl
structure RtOk (r : Rul) (ts : List Tch) : Prop where
  wk : SrtI r.weak
  wl : r.weak.length ≤ 1000000
  kl : r.kinds.length ≤ 1000000
  tl : ts.length ≤ 1000000
  up : ∀ t ∈ ts, RiseI t.ids
  il : ∀ t ∈ ts, t.ids.length ≤ 1000000
  ne : ∀ t ∈ ts, t.ids ≠ []
  tb : ts.length ≤ 2000
  ib : ∀ t ∈ ts, t.ids.length ≤ 10
theorem tch_right {t : Tch} {last : Int} (h : tchFault t last = 0) : RiseI t.ids ∧ t.ids.length ≤ 10 ∧ t.ids ≠ [] := by
  unfold tchFault tchE at h
  split at h
  · omega
  split at h
  · omega
  split at h
  · omega
  split at h
  · omega
  rename_i h0
  split at h
  · omega
  rename_i h1
  split at h
  · omega
  rename_i h2
  refine ⟨(idsGo_ok (l := t.ids) (prev := none) (Decidable.not_not.1 h2)).2.2, by omega, fun e => h0 (by rw [e]; rfl)⟩
theorem tchs_right : ∀ {l : List Tch} {last : Int}, tchsGo last l = 0 → ∀ t ∈ l, ∃ last', tchFault t last' = 0
  | [], _, _, _, h => by cases h
  | a :: r, last, h, t, ht => by
    rw [tchsGo] at h
    by_cases e : tchFault a last = 0
    · rw [if_neg (by simpa using e)] at h
      rcases List.mem_cons.1 ht with rfl | ht
      · exact ⟨_, e⟩
      · exact tchs_right h t ht
    · rw [if_pos e] at h
      exact absurd h e
theorem tchsFault_go {l : List Tch} (h : tchsFault l = 0) : tchsGo 0 l = 0 := by
  unfold tchsFault at h
  split at h
  · omega
  · exact h
theorem rul_right {r : Rul} (h : rulFault r = 0) : RiseI r.weak ∧ r.weak.length ≤ 200 := by
  unfold rulFault rulE at h
  split at h
  · omega
  split at h
  · omega
  split at h
  · omega
  split at h
  · omega
  rename_i h1
  split at h
  · omega
  rename_i h2
  exact ⟨(idsGo_ok (l := r.weak) (prev := none) (Decidable.not_not.1 h2)).2.2, by omega⟩
theorem RtOk.mk2 {r : Rul} {ts : List Tch} (hr : rulFault r = 0) (hk : r.kinds.length ≤ 1000000) (hl : ts.length ≤ 2000) (ht : ∀ t ∈ ts, ∃ last, tchFault t last = 0) : RtOk r ts :=
  ⟨(rul_right hr).1.srt, Nat.le_trans (rul_right hr).2 (by decide), hk, Nat.le_trans hl (by decide), fun t h => by obtain ⟨_, e⟩ := ht t h; exact (tch_right e).1,
    fun t h => by obtain ⟨_, e⟩ := ht t h; exact Nat.le_trans (tch_right e).2.1 (by decide), fun t h => by obtain ⟨_, e⟩ := ht t h; exact (tch_right e).2.2, hl, fun t h => by obtain ⟨_, e⟩ := ht t h; exact (tch_right e).2.1⟩
theorem RtOk.of {r : Rul} {ts : List Tch} (hr : rulFault r = 0) (hk : r.kinds.length ≤ 1000000) (ht : tchsFault ts = 0) : RtOk r ts := .mk2 hr hk (by unfold tchsFault at ht; split at ht <;> omega) (tchs_right (tchsFault_go ht))
theorem RiseI.nodup {l : List IdV} (h : RiseI l) : l.Nodup := h.imp (fun {a b} hab e => by subst e; have := cmpId_ok.refl a; omega)
theorem joinsG_any (N : Nat → Prop) (G X : Nat) (r : Rul) (K W S A : Option Addr) (ck cw cs c : Nat) (ts : List Tch) (qs : List HQ) (x : IdV) (w : World) (hG : Grp N w G X r K W S A ck cw cs c ts qs) (ho : RtOk r ts) :
    Calls Tryz.prog 92 #[.pointer (some ⟨G, 0, none⟩), .agg #[.int .i64 x.k, .string x.t]] w fun e w' => e = .returned (.bool (joinsP r ts x)) ∧ Below w.heap.size w w' := by
  obtain ⟨A', c', h1, _⟩ := hG.h.look x
  rw [← joinV_is]
  exact joins_any N G X r K W S A ck cw cs ts.length c (qs.map HQ.kv) x A' (hav ts x).length c' w hG.g hG.r hG.m h1 ho.wk ho.wl ho.kl
end Go.Proofs.YtfdcgedcfafmcaaGreatDoor

/- Loops over maps: how many entries are left, read off the world. -/
namespace Go.Proofs.YtfdcgedcfafmcaaGreatDoor
open Go Go.RowKit Go.MapKept
def iterLeft (es : Array MapEntry) (Y : Nat) (w : World) : Nat := match w.heap[Y]? with
  | some (.mapIter _ _ seen _) => (leftOf es seen).size
  | _ => 0
theorem RngOk.size {κ : Type} {K : KeyL κ} {es : Array MapEntry} {clock : Nat} {seen : Array Nat} {L done left : List (κ × Value)} (h : RngOk K es clock seen L done left) : (leftOf es seen).size = left.length := by
  have := congrArg List.length h.lft
  rw [List.length_map, List.length_map, Array.length_toList] at this
  exact this
theorem Mem.iterSize {κ : Type} {K : KeyL κ} {w0 w : World} {cs : List Chunk} (S : Mem w0 w cs) (j : Nat) {R X clock c0 : Nat} {seen : Array Nat} (hj : cs[j]? = some (.iter R X clock seen c0)) {es : Array MapEntry} {L done left : List (κ × Value)} (hr : RngOk K es clock seen L done left) : iterLeft es R w = left.length := by
  have hR : w.heap[R]? = some (.mapIter (some X) clock seen c0) := S.ok _ (List.mem_of_getElem? hj)
  unfold iterLeft
  rw [hR]
  exact hr.size
end Go.Proofs.YtfdcgedcfafmcaaGreatDoor

/- What (*group).parts returns: for each touch the place of the first one of its person. -/
namespace Go.Proofs.YtfdcgedcfafmcaaGreatDoor
open Go Go.RowKit
def OutIs (w : World) (P : Value) : Option IdV → Prop
  | none => P = .pointer none
  | some x => ∃ O o, P = .pointer (some ⟨O, o, none⟩) ∧ O < w.heap.size ∧ w.cell? ⟨O, o, none⟩ = some (.int .i64 x.k) ∧ w.cell? ⟨O, o + 1, none⟩ = some (.string x.t)
abbrev rowK (n k : Nat) : List Nat := List.range k ++ List.replicate (n - k) 0
theorem Roots.put {n : Nat} {p : List Nat} {c : Nat → Nat} (h : Roots n p c) {i : Nat} (hle : c i ≤ i) (hfix : c (c i) = c i) : Roots n (p.set i (c i)) c := by
  refine ⟨by rw [List.length_set]; exact h.len, fun k s hk => ?_⟩
  rw [List.getElem?_set] at hk
  by_cases e : i = k
  · subst e
    rw [if_pos rfl] at hk
    split at hk
    · obtain rfl := Option.some.inj hk
      exact ⟨hle, hfix, fun e => e⟩
    · cases hk
  · rw [if_neg e] at hk
    exact h.at' k s hk
def Done (c : Nat → Nat) (k : Nat) (p : List Nat) : Prop := ∀ j, j < k → p[j]? = some (c j)
theorem Done.next {c : Nat → Nat} {k : Nat} {p q : List Nat} (h : Done c k p) (hk : Keeps c p q) (hl : k < q.length) : Done c (k + 1) (q.set k (c k)) := fun j hj => by
  rw [List.getElem?_set]
  by_cases e : k = j
  · subst e; rw [if_pos rfl, if_pos hl]
  · rw [if_neg e]; exact hk j (h j (by omega))
theorem Done.all {c : Nat → Nat} {n : Nat} {p : List Nat} (h : Done c n p) (hl : p.length = n) : p = rowC n c := by
  apply List.ext_getElem?
  intro i
  rcases Nat.lt_or_ge i n with hi | hi
  · rw [rowC_at hi, h i hi]
  · rw [List.getElem?_eq_none (by omega), List.getElem?_eq_none (by rw [rowC_len]; omega)]
def GivesParts (r : Rul) (ts : List Tch) (out : Option IdV) (w : World) (e : Ending) (w' : World) : Prop :=
  ∃ (A : Option Addr) (cap : Nat) (c : Nat → Nat), e = .returned (.slice A ts.length cap) ∧ IsPart ts.length (EdgeX r ts out) c ∧ Mem w w' [.own rInt w.heap.size 3 (.slice A ts.length cap) (iL (rowC ts.length c))]
end Go.Proofs.YtfdcgedcfafmcaaGreatDoor
