/- Several texts in one: Scmq, LogNew, LogLaw4, LogFresh, LogLaw5. -/
import Derived.Test.YtmlpkejeglpciaaGreatDoorPkAU
import Derived.Test.YtmlpkejeglpciaaGreatDoorPkAG
import Derived.Test.YtmlpkejeglpciaaGreatDoorPkAO
import Derived.Test.YtmlpkejeglpciaaGreatDoorPkAK
import Derived.Test.YtmlpkejeglpciaaGreatDoorPkAQ
import Derived.Test.YtmlpkejeglpciaaGreatDoorPkAP
/- Schemas in memory that may still be turned: their rows, and apart from them their needs, which stay; slices.Clone of both. -/
namespace Go.Proofs.YtmlpkejeglpciaaGreatDoor
open Go Go.RowKit
structure CQ where
  s : Scm
  A : Option Addr
  c : Nat
def CQ.cells (q : CQ) : List Value := [.string q.s.name, .slice q.A q.s.needs.length q.c]
def rCQ : Rep CQ := .flat 2 CQ.cells (fun _ => rfl)
theorem flatCQ : rCQ.Flat CQ.cells := fun _ _ _ _ => Iff.rfl
theorem tyCQ : STy 26 73 rCQ.size 40 (.agg #[.string ⟨#[]⟩, .slice none 0 0]) := ⟨Tryz.underlying26, by kernel_rfl, rfl, by decide⟩
theorem oneCQ (q : CQ) : ∀ u ∈ q.cells, u.oneCell' = true := fun u hu => by
  simp only [CQ.cells, List.mem_cons, List.not_mem_nil, or_false] at hu
  rcases hu with rfl | rfl <;> rfl
def CdOk (M : Nat → Prop) (w : World) (qs : List CQ) : Prop := ∀ q ∈ qs, Sl rNd M w q.A q.s.needs
def Chunk.cdat (qs : List CQ) : Chunk :=
  ⟨none, fun M w => CdOk M w qs, fun k hd _ h q hq => (h q hq).keep (k.mono hd), fun hm h q hq => (h q hq).mono (fun k hk e => (hm k hk e).resolve_right (by simp)), fun _ _ e => by cases e⟩
theorem Mem.cd {w0 w : World} {cs : List Chunk} (S : Mem w0 w cs) (i : Nat) {qs : List CQ} (hi : cs[i]? = some (.cdat qs)) : CdOk (Mut w0.heap.size cs) w qs := S.ok _ (List.mem_of_getElem? hi)
theorem slScm {N : Nat → Prop} {w : World} {A : Option Addr} {qs : List CQ} (h : Sl rCQ N w A qs) (hf : CdOk N w qs) : Sl rScm N w A (qs.map CQ.s) := fun i x hx => by
  rw [List.getElem?_map] at hx
  cases hq : qs[i]? with
  | none => rw [hq] at hx; cases hx
  | some y =>
    rw [hq] at hx
    obtain rfl : y.s = x := by simpa using hx
    obtain ⟨blk, off, l, e, h1, h2, h3, h4⟩ := h i y hq
    obtain rfl : l = CQ.cells y := h3
    exact ⟨blk, off, _, e, h1, h2, rScm_mk (c := y.c) (hf y (List.mem_of_getElem? hq)), h4⟩
theorem rScm_of {N : Nat → Prop} {w : World} {s : Scm} {l : List Value} (h : rScm.rel N w s l) : ∃ A c, l = [.string s.name, .slice A s.needs.length c] ∧ Sl rNd N w A s.needs := by
  obtain ⟨l1, l2, rfl, h1, A, c, rfl, h2⟩ := h
  obtain rfl : l1 = Scm.cells s := h1
  exact ⟨A, c, rfl, h2⟩
theorem scm_q {N : Nat → Prop} {w : World} {A : Option Addr} {P : List Scm} (h : Sl rScm N w A P) : ∃ qs : List CQ, qs.map CQ.s = P ∧ Sl rCQ N w A qs ∧ CdOk N w qs := by
  have hx : ∀ i : Fin P.length, ∃ q : CQ, q.s = P[i] ∧ ∃ blk off, A = some ⟨blk, off, none⟩ ∧ blk < w.heap.size ∧ ¬ N blk ∧ (∀ j u, q.cells[j]? = some u → w.cell? ⟨blk, off + i.1 * 2 + j, none⟩ = some u) ∧ Sl rNd N w q.A q.s.needs := fun i => by
    obtain ⟨blk, off, l, e1, h1, h2, h3, h4⟩ := h i.1 P[i] (List.getElem?_eq_getElem i.2)
    obtain ⟨At, a, rfl, hf⟩ := rScm_of h3
    exact ⟨⟨P[i], At, a⟩, rfl, blk, off, e1, h1, h2, h4, hf⟩
  refine ⟨List.ofFn (fun i => (hx i).choose), ?_, fun i x hi => ?_, fun q hq => ?_⟩
  · apply List.ext_getElem
    · simp
    · intro i h1 h2
      rw [List.getElem_map, List.getElem_ofFn]
      exact (hx ⟨i, h2⟩).choose_spec.1
  · have hl : i < P.length := by have := lt_of_get hi; simpa using this
    rw [List.getElem?_eq_getElem (by simpa using hl), List.getElem_ofFn] at hi
    obtain ⟨_, blk, off, e1, h1, h2, h4, _⟩ := (hx ⟨i, hl⟩).choose_spec
    rw [Option.some.inj hi] at h4
    exact ⟨blk, off, _, e1, h1, h2, rfl, h4⟩
  · obtain ⟨i, rfl⟩ := List.mem_ofFn.1 hq
    obtain ⟨_, _, _, _, _, _, _, h5⟩ := (hx i).choose_spec
    exact h5
set_option maxHeartbeats 4000000 in
set_option maxRecDepth 100000 in
theorem cloneCQ_any (A : Option Addr) (l : List CQ) (c : Nat) (w : World) (hL : Sl rCQ (fun _ => False) w A l) (hl : l.length ≤ 1000) :
    Calls Tryz.prog 40 #[.slice A l.length c] w fun e w' => ∃ A' c', e = .returned (.slice A' l.length c') ∧ Mem w w' [.own rCQ w.heap.size 73 (.slice A' l.length c') l] := by
  have he : ∀ (a : Option Addr) (n c : Nat) (w : World), (binOp .eql 26 (.slice a n c) (.slice none 0 0)).run Tryz.prog w = .ok (.bool a.isNone) w := fun a n c w => Lib.run_eql_slice_nil w _ _ a n c 0 0 tyCQ.under
  cases A with
  | none =>
    obtain rfl := Sl.nilOf hL
    have S : Mem w w [.own rCQ w.heap.size 73 (.slice none 0 0) []] := (Mem.start w).nil rCQ w.heap.size 73
    go_enter Tryz.func40, Tryz.ntmps40
    go_wp2_with fail
    go_ret
    exact ⟨none, 0, rfl, S⟩
  | some ad =>
    have S := (Mem.start w).newAt #[] 73 w.heap.size rfl
    have S1 : Mem w (w.alloc (.cells #[] 73)) [.own rCQ w.heap.size 73 (.slice (some ⟨w.heap.size, 0, none⟩) 0 0) []] := S.room (r := rCQ) 0 rfl rfl (by decide) rfl
    have Hc := Lib.hid (Sl.flatCells flatCQ (fun _ => rfl) (hL.keepB S1.b))
    have hsz := S1.b.size
    have HS := Lib.hid S1
    have Hl := Lib.hid hl
    clear S S1 hL hl
    go_enter Tryz.func40, Tryz.ntmps40
    go_wp2_with (at_builtin; refine HS.out.appN flatCQ 0 rfl tyCQ rfl _ _ rfl l l.length c rfl rfl ad rfl Hc.out (fun y _ => oneCQ y) (fun _ => rfl) hsz (by simp only [List.length_nil]; have := Hl.out; omega) (by decide) ?_; intro v5 w5 S5)
    obtain ⟨A5, c5, e5⟩ := (S5.ow 0 rfl).len
    subst e5
    go_ret
    exact ⟨A5, c5, rfl, S5⟩
set_option maxHeartbeats 4000000 in
set_option maxRecDepth 100000 in
theorem cloneNd_any (A : Option Addr) (l : List Nd) (c : Nat) (w : World) (hL : Sl rNd (fun _ => False) w A l) (hl : l.length ≤ 1000) :
    Calls Tryz.prog 41 #[.slice A l.length c] w fun e w' => ∃ A' c', e = .returned (.slice A' l.length c') ∧ Mem w w' [.own rNd w.heap.size 76 (.slice A' l.length c') l] := by
  have he : ∀ (a : Option Addr) (n c : Nat) (w : World), (binOp .eql 71 (.slice a n c) (.slice none 0 0)).run Tryz.prog w = .ok (.bool a.isNone) w := fun a n c w => Lib.run_eql_slice_nil w _ _ a n c 0 0 tyNd.under
  cases A with
  | none =>
    obtain rfl := Sl.nilOf hL
    have S : Mem w w [.own rNd w.heap.size 76 (.slice none 0 0) []] := (Mem.start w).nil rNd w.heap.size 76
    go_enter Tryz.func41, Tryz.ntmps41
    go_wp2_with fail
    go_ret
    exact ⟨none, 0, rfl, S⟩
  | some ad =>
    have S := (Mem.start w).newAt #[] 76 w.heap.size rfl
    have S1 : Mem w (w.alloc (.cells #[] 76)) [.own rNd w.heap.size 76 (.slice (some ⟨w.heap.size, 0, none⟩) 0 0) []] := S.room (r := rNd) 0 rfl rfl (by decide) rfl
    have Hc := Lib.hid (Sl.flatCells flatNd (fun _ => rfl) (hL.keepB S1.b))
    have hsz := S1.b.size
    have HS := Lib.hid S1
    have Hl := Lib.hid hl
    clear S S1 hL hl
    go_enter Tryz.func41, Tryz.ntmps41
    go_wp2_with (at_builtin; refine HS.out.appN flatNd 0 rfl tyNd rfl _ _ rfl l l.length c rfl rfl ad rfl Hc.out (fun y _ => oneNd y) (fun _ => rfl) hsz (by simp only [List.length_nil]; have := Hl.out; omega) (by decide) ?_; intro v5 w5 S5)
    obtain ⟨A5, c5, e5⟩ := (S5.ow 0 rfl).len
    subst e5
    go_ret
    exact ⟨A5, c5, rfl, S5⟩
end Go.Proofs.YtmlpkejeglpciaaGreatDoor

/- event.New: a new log. -/
namespace Go.Proofs.YtmlpkejeglpciaaGreatDoor
open Go Go.RowKit
def GivesNewF (F : Int) (n : Nat) (l : List Scm) (w : World) (e : Ending) (w' : World) : Prop :=
  (F ≠ 0 ∧ e = .returned (.tuple #[.pointer none, .int .i64 F]) ∧ Below w.heap.size w w') ∨
  (F = 0 ∧ ∃ (X : Nat) (K : Option Addr) (ck AT GN : Nat), e = .returned (.tuple #[.pointer (some ⟨X, 0, none⟩), .int .i64 0]) ∧ Mem w w' (logP X K n ck (.slice none 0 0) w.heap.size [] AT [] GN [.mapG keyStr GN [], .sl rScm K l]))
set_option maxHeartbeats 8000000 in
set_option maxRecDepth 100000 in
theorem new_log (A : Option Addr) (l : List Scm) (c : Nat) (w : World) (hS : Sl rScm (fun _ => False) w A l) (hsm : ScmSm l) (hnl : ∀ s ∈ l, s.needs.length ≤ 1000) :
    Calls Tryz.prog 8 #[.slice A l.length c] w (GivesNewF (scmsFault l) l.length l w) := by
  have Hck := Lib.hid (checkSchemas_any (fun _ => False) A l c w hS hsm.ok)
  obtain ⟨F, hF⟩ : ∃ F, scmsFault l = F := ⟨_, rfl⟩
  rw [hF] at Hck ⊢
  clear hF
  obtain ⟨qs, hqs, hQ, hd⟩ := scm_q hS
  have hll : l.length = qs.length := by rw [← hqs, List.length_map]
  have hql : qs.length ≤ 1000 := by rw [← hll]; exact Nat.le_trans hsm.len (by decide)
  have Hd := Lib.hid (fun (q : CQ) (hq : q ∈ qs) (w' : World) (h : Below w.heap.size w w') => (hd q hq).keepB h)
  have Hnl : Hid (∀ q ∈ qs, q.s.needs.length ≤ 1000) := fun q hq => hnl q.s (by rw [← hqs]; exact List.mem_map_of_mem hq)
  have Hcl := Lib.hid (fun (w' : World) (h : Below w.heap.size w w') => cloneCQ_any A qs c w' (hQ.keepB h) hql)
  have Hqs := Lib.hid hqs
  rw [hll] at Hck ⊢
  clear hS hsm hnl hqs hQ hd hll
  go_enter Tryz.func8, Tryz.ntmps8
  go_wp2_with fail
  refine (Hck.out).mono ?_
  rintro e w1 ⟨rfl, hb1⟩
  have Hb1 := Lib.hid hb1
  clear hb1 Hck
  by_cases hE : F = 0
  · subst hE
    have Hcl1 := Lib.hid (Hcl.out w1 Hb1.out)
    clear Hcl
    go_wp2_with fail
    refine (Hcl1.out).mono ?_
    rintro e w2 ⟨S1, cs1, rfl, T⟩
    obtain ⟨B, hB⟩ : ∃ B, B = w1.heap.size := ⟨_, rfl⟩
    rw [← hB] at T
    have HT : Hid (Mem w w2 [.own rCQ B 73 (.slice S1 qs.length cs1) qs]) := ((Mem.start w).below Hb1.out).join T
    have S : Mem w w2 [.own rCQ B 73 (.slice S1 qs.length cs1) qs, .cdat []] := HT.out.call (Below.refl _ _) (.cdat []) (fun q hq => by cases hq) (fun k e => by cases e)
    obtain ⟨n, hn⟩ : ∃ n, n = qs.length := ⟨_, rfl⟩
    have Hn := Lib.hid hn
    rw [← hn] at S hql ⊢
    clear hn T HT hB Hcl1
    go_wp2_with fail
    go_loopw [15] (fun i wr => ∃ (k : Nat) (ys zs : List CQ), k ≤ n ∧ i = .int .i64 k ∧ Hid (ys.map CQ.s = (qs.take k).map CQ.s) ∧ Hid (ys.length = k) ∧ Hid (zs = ys ++ qs.drop k) ∧ Mem w wr [.own rCQ B 73 (.slice S1 n cs1) zs, .cdat ys]) (fun i _ => n - (intOf i).toNat)
    case atStart => exact ⟨0, [], qs, Nat.zero_le _, rfl, rfl, rfl, rfl, S⟩
    case round =>
      clear S
      obtain ⟨k, ys, zs, hk, rfl, Hy, Hyl, Hz, S⟩ := hrel
      have Hzl : Hid (n = zs.length) := by show _ = _; rw [Hz.out, List.length_append, List.length_drop, Hyl.out, ← Hn.out]; omega
      by_cases hlt : k < n
      · obtain ⟨q, hq⟩ : ∃ q, qs[k]? = some q := ⟨_, List.getElem?_eq_getElem (by have := Hn.out; omega)⟩
        have hzq : zs[k]? = some q := by
          rw [Hz.out, List.getElem?_append_right (by have := Hyl.out; omega), Hyl.out, List.getElem?_drop, Nat.sub_self]
          exact hq
        have Hzq := Lib.hid hzq
        have Hq := Lib.hid hq
        obtain ⟨g, cap, e, hcap⟩ := (S.ow 0 rfl).form (by have := Hzl.out; omega)
        simp only [Value.slice.injEq] at e
        obtain ⟨rfl, _, rfl⟩ := e
        have hC0 : ∀ wx, Mem w wx [.own rCQ B 73 (.slice (some ⟨g, 0, none⟩) n cs1) zs, .cdat ys] → wx.cell? ⟨g, k * 2 + 1, none⟩ = some (.slice q.A q.s.needs.length q.c) ∧ wx.frozen? ⟨g, k * 2 + 1, none⟩ = false := fun wx S => (S.ow 0 rfl).cellP flatCQ Hzl.out k q Hzq.out 1 _ rfl
        have HC0 := Lib.hid hC0
        have d0 := (HC0.out wr S).1
        have Hcw := Lib.hid (cloneNd_any q.A q.s.needs q.c wr (Hd.out q (List.mem_of_getElem? Hq.out) wr S.b) (Hnl.out q (List.mem_of_getElem? Hq.out)))
        have HS := Lib.hid S
        clear hq hzq hC0 S
        go_wp2_with fail
        refine (Hcw.out).mono ?_
        rintro e w6 ⟨A6, c6, rfl, T⟩
        obtain ⟨A2, c2, e2, S2⟩ := (HS.out.join T).frz 2 rfl
        cases e2
        have S : Mem w w6 [.own rCQ B 73 (.slice (some ⟨g, 0, none⟩) n cs1) zs, .cdat ys, .sl rNd A6 q.s.needs] := S2
        have S3 : Mem w w6 [.own rCQ B 73 (.slice (some ⟨g, 0, none⟩) n cs1) zs, .cdat ys] := S.del 2
        have f2 := (HC0.out _ S3).2
        have e0 := (HC0.out _ S3).1
        have S4 : Mem w w6 [.own rCQ B 73 (.slice (some ⟨g, 0, none⟩) n cs1) zs, .cdat (ys ++ [(⟨q.s, A6, c6⟩ : CQ)])] := (S.turn 1 rfl (.cdat (ys ++ [(⟨q.s, A6, c6⟩ : CQ)])) rfl (fun p hp => by
          rcases List.mem_append.1 hp with hp | hp
          · exact S.cd 1 rfl p hp
          · rw [List.mem_singleton.1 hp]; exact S.slc 2 rfl)).del 2
        have S5 := S4.put flatCQ 0 rfl Hzl.out k q (⟨q.s, A6, c6⟩ : CQ) Hzq.out 1 (by decide) (.slice A6 q.s.needs.length c6) rfl
        have HS5 := Lib.hid S5
        clear S S3 S4 S5 HS Hcw T S2 d0
        have H1 : Hid ((ys ++ [(⟨q.s, A6, c6⟩ : CQ)]).map CQ.s = (qs.take (k + 1)).map CQ.s) := by
          show _ = _
          rw [take_snoc Hq.out, List.map_append, List.map_append, Hy.out]; rfl
        have H2 : Hid ((ys ++ [(⟨q.s, A6, c6⟩ : CQ)]).length = k + 1) := by show _ = _; rw [List.length_append, Hyl.out]; rfl
        have H3 : Hid (zs.set k (⟨q.s, A6, c6⟩ : CQ) = (ys ++ [(⟨q.s, A6, c6⟩ : CQ)]) ++ qs.drop (k + 1)) := by
          have hkl := lt_of_get Hq.out
          have e1 : qs.drop k = q :: qs.drop (k + 1) := by
            rw [List.drop_eq_getElem_cons hkl]
            rw [List.getElem?_eq_getElem hkl] at Hq
            rw [Option.some.inj Hq.out]
          show _ = _
          rw [Hz.out, e1, List.set_append_right _ _ (by have := Hyl.out; omega), Hyl.out, Nat.sub_self, List.set_cons_zero]
          simp
        go_wp2_with fail
        go_roundw
        case rel =>
          (try go_simp)
          exact ⟨k + 1, by omega, by omega, _, (by show _ = _; rw [← List.map_take]; exact H1.out), H2, _, H3, (by first | exact HS5.out | (rw [← Hzl.out]; exact HS5.out))⟩
        case measure => simp [intOf]; omega
      · obtain rfl : k = n := by omega
        have hzy : zs = ys := by rw [Hz.out, Hn.out, List.drop_length, List.append_nil]
        have hys : ys.map CQ.s = l := by rw [Hy.out, Hn.out, List.take_length, Hqs.out]
        obtain ⟨A2, c2, e2, S2⟩ := S.frz 0 rfl
        rw [hzy] at e2 S2
        have S4 : Mem w wr [.sl rScm A2 l] := by
          have S3 : Mem w wr [.sl rCQ A2 ys, .cdat ys] := S2
          rw [← hys]
          exact (S3.turn 0 rfl (.sl rScm A2 (ys.map CQ.s)) rfl (slScm (S3.slc 0 rfl) (S3.cd 1 rfl))).del 1
        simp only [Value.slice.injEq] at e2
        obtain ⟨e3, e4, e5⟩ := e2
        subst e3
        have hll : l.length = k := by rw [← hys, List.length_map, Hyl.out]
        have hmm := @run_makeMap Tryz.prog
        have HS4 := Lib.hid S4
        have Hll := Lib.hid hll
        clear e4 e5 S S2 S4 hzy hys hll
        go_wp2_with fail
        have M1 := (HS4.out.newMapG keyStr wr.heap.size rfl).newMapG keyStr (wr.heap.size + 1) (by simp)
        have M2 := M1.newAt (logCs S1 k cs1 (.slice none 0 0) wr.heap.size (wr.heap.size + 1)) 83 (wr.heap.size + 1 + 1) (by simp)
        have M3 := (M2.nil rEQ w.heap.size 47).call (Below.refl _ _) (.flds []) (fun q hq => by cases hq) (fun k e => by cases e)
        have M4 : Mem w _ ([.sl rScm S1 l, .mapG keyStr wr.heap.size [], .mapG keyStr (wr.heap.size + 1) []] ++ [.loc (wr.heap.size + 1 + 1) (logCs S1 k cs1 (.slice none 0 0) wr.heap.size (wr.heap.size + 1)) 83, .own rEQ w.heap.size 47 (.slice none 0 0) [], .flds []]) := M3
        have M5 := (M4.perm List.perm_append_comm).perm ((List.perm_append_comm (l₁ := [Chunk.sl rScm S1 l]) (l₂ := [.mapG keyStr wr.heap.size [], .mapG keyStr (wr.heap.size + 1) []])).append_left _)
        rw [← Hn.out]
        go_ret2
        exact .inr ⟨rfl, wr.heap.size + 1 + 1, S1, cs1, wr.heap.size, wr.heap.size + 1, rfl, M5⟩
  · have Hn : Hid (F ≠ 0) := hE
    clear Hcl
    go_wp2_with fail
    go_ret2
    exact .inl ⟨Hn.out, rfl, Hb1.out⟩
end Go.Proofs.YtmlpkejeglpciaaGreatDoor

/- The plain law of a join: what the two logs make of it is the same. No program is in sight. -/
namespace Go.Proofs.YtmlpkejeglpciaaGreatDoor
open Go Go.RowKit
theorem nodup_map {α β : Type} {f : α → β} {l : List α} (h : (l.map f).Nodup) : l.Nodup := by
  rw [List.nodup_iff_pairwise_ne, List.pairwise_map] at h
  rw [List.nodup_iff_pairwise_ne]
  exact h.imp (fun h e => h (congrArg f e))
def JoinOf (lx : List Evt) (gx : List ByteArray) (ly : List Evt) (gy : List ByteArray) (e : Evt) : Prop := (e ∈ lx ∧ e.id ∉ gy) ∨ (e ∈ ly ∧ e.id ∉ gx ∧ ∀ o ∈ lx, o.id ≠ e.id)
def Clash (lx ly : List Evt) : Prop := ∃ e ∈ ly, ∃ o ∈ lx, o.id = e.id ∧ o ≠ e
def Unfit (F : Evt → Int) (gx : List ByteArray) (ly : List Evt) : Prop := ∃ e ∈ ly, e.id ∉ gx ∧ F e ≠ 0
def JoinTo (F : Evt → Int) (lx : List Evt) (gx : List ByteArray) (ly : List Evt) (er : Int) : Prop := (Clash lx ly ∧ er = 13) ∨ (¬ Clash lx ly ∧ Unfit F gx ly ∧ er = 8) ∨ (¬ Clash lx ly ∧ ¬ Unfit F gx ly ∧ er = 0)
theorem JoinTo.one {F : Evt → Int} {lx ly : List Evt} {gx : List ByteArray} {a b : Int} (h1 : JoinTo F lx gx ly a) (h2 : JoinTo F lx gx ly b) : a = b := by
  rcases h1 with ⟨p, rfl⟩ | ⟨p, q, rfl⟩ | ⟨p, q, rfl⟩ <;> rcases h2 with ⟨p2, rfl⟩ | ⟨p2, q2, rfl⟩ | ⟨p2, q2, rfl⟩ <;> first | rfl | exact absurd p p2 | exact absurd p2 p | exact absurd q q2 | exact absurd q2 q
theorem JoinTo.turn {F : Evt → Int} {lx ly cx cy : List Evt} {gx nx : List ByteArray} {a : Int} (hx : ∀ e, e ∈ lx ↔ e ∈ cx) (hy : ∀ e, e ∈ ly ↔ e ∈ cy) (hg : ∀ s, s ∈ gx ↔ s ∈ nx) (h : JoinTo F cx nx cy a) : JoinTo F lx gx ly a := by
  unfold JoinTo Clash Unfit at *
  simp only [hx, hy, hg]
  exact h
theorem JoinOf.turn {lx ly cx cy : List Evt} {gx nx gy ny : List ByteArray} {e : Evt} (hx : ∀ e, e ∈ lx ↔ e ∈ cx) (hy : ∀ e, e ∈ ly ↔ e ∈ cy) (hg : ∀ s, s ∈ gx ↔ s ∈ nx) (hgy : ∀ s, s ∈ gy ↔ s ∈ ny) : JoinOf lx gx ly gy e ↔ JoinOf cx nx cy ny e := by
  unfold JoinOf
  simp only [hx, hy, hg, hgy]
theorem LogOk.mems {qs ps : List EQ} {La Lg : List (ByteArray × Value)} {gn : List ByteArray} (h : LogOk qs ps La Lg gn) (e : Evt) : e ∈ qs.map EQ.e ↔ e ∈ ps.map EQ.e := h.s.pe.mem_iff
theorem LogOk.join {qs ps q2 p2 qs9 ps9 : List EQ} {La Lg L2 G2 La9 Lg9 : List (ByteArray × Value)} {gn g2 gn9 : List ByteArray} (h : LogOk qs ps La Lg gn) (h2 : LogOk q2 p2 L2 G2 g2)
    (hlo : LogE (qs9.map EQ.e)) (hat : AtOk qs9 La9) (hgo : GnOk Lg9) (hnd : (Lg9.map Prod.fst).Nodup) (hk : ∀ s, s ∈ Lg9.map Prod.fst ↔ s ∈ Lg.map Prod.fst ∨ s ∈ G2.map Prod.fst) (hm : ∀ e, e ∈ qs9.map EQ.e ↔ JoinOf (qs.map EQ.e) (Lg.map Prod.fst) (q2.map EQ.e) (G2.map Prod.fst) e)
    (hpn : ((ps9.map EQ.e).map Evt.id).Nodup) (hgn : gn9.Nodup) (hg9 : ∀ s, s ∈ gn9 ↔ s ∈ gn ∨ s ∈ g2) (hp : ∀ e, e ∈ ps9.map EQ.e ↔ JoinOf (ps.map EQ.e) gn (p2.map EQ.e) g2 e) : LogOk qs9 ps9 La9 Lg9 gn9 := by
  have hmm : ∀ e, e ∈ qs9.map EQ.e ↔ e ∈ ps9.map EQ.e := fun e => by
    rw [hm, hp]
    exact JoinOf.turn h.mems h2.mems h.s.gs h2.s.gs
  have hn1 : (qs9.map EQ.e).Nodup := nodup_map hlo.id
  have hn2 : (ps9.map EQ.e).Nodup := nodup_map hpn
  refine ⟨⟨hlo, (List.perm_ext_iff_of_nodup hn1 hn2).2 hmm, fun s => ?_, ⟨hnd, hgn⟩, fun e he hg => ?_⟩, hat, hgo, fun p hpm => ?_⟩
  · rw [hk, hg9, h.s.gs, h2.s.gs]
  · rcases (hm e).1 he with ⟨h3, h4⟩ | ⟨h3, h4, _⟩
    · rcases (hk _).1 hg with h5 | h5
      · exact h.s.ap e h3 h5
      · exact h4 h5
    · rcases (hk _).1 hg with h5 | h5
      · exact h4 h5
      · exact h2.s.ap e h3 h5
  · rcases (hp p.e).1 (List.mem_map_of_mem hpm) with ⟨h3, _⟩ | ⟨h3, _⟩
    · obtain ⟨q, hq, e⟩ := List.mem_map.1 h3
      rw [← e]; exact h.sm q hq
    · obtain ⟨q, hq, e⟩ := List.mem_map.1 h3
      rw [← e]; exact h2.sm q hq
end Go.Proofs.YtmlpkejeglpciaaGreatDoor

/- (*Log).fresh: the events of another log that would come. -/
namespace Go.Proofs.YtmlpkejeglpciaaGreatDoor
open Go Go.RowKit
def comes (g : List ByteArray) (qs : List EQ) (q : EQ) : Bool := !hasId g q.e.id && (hasE q.e.id qs).isNone
def GivesFresh (F : Evt → Int) (qs : List EQ) (g : List ByteArray) (q2 : List EQ) (w : World) (e : Ending) (w' : World) : Prop :=
  ∃ (v : Value) (come : List EQ) (er : Int), e = .returned (.tuple #[v, .int .i64 er]) ∧ JoinTo F (qs.map EQ.e) g (q2.map EQ.e) er ∧ (er = 0 → come = q2.filter (comes g qs)) ∧ come.length ≤ q2.length ∧ Mem w w' [.own rEQ w.heap.size 47 v come]
theorem noClash {qs q2 : List EQ} (h : ∀ q ∈ q2, ∀ o ∈ qs, o.e.id = q.e.id → o.e = q.e) : ¬ Clash (qs.map EQ.e) (q2.map EQ.e) := by
  rintro ⟨e, he, o, ho, h1, h2⟩
  obtain ⟨q, hq, rfl⟩ := List.mem_map.1 he
  obtain ⟨p, hp, rfl⟩ := List.mem_map.1 ho
  exact h2 (h q hq p hp h1)
theorem noUnfit {F : Evt → Int} {g : List ByteArray} {q2 : List EQ} (h : ∀ q ∈ q2, q.e.id ∉ g → F q.e = 0) : ¬ Unfit F g (q2.map EQ.e) := by
  rintro ⟨e, he, h1, h2⟩
  obtain ⟨q, hq, rfl⟩ := List.mem_map.1 he
  exact h2 (h q hq h1)
theorem one_id {qs : List EQ} (hlo : LogE (qs.map EQ.e)) {p q : EQ} (hp : p ∈ qs) (hq : q ∈ qs) (e : p.e.id = q.e.id) : p.e = q.e := by
  obtain ⟨i, hi⟩ := List.mem_iff_getElem?.1 (List.mem_map_of_mem (f := EQ.e) hp)
  obtain ⟨j, hj⟩ := List.mem_iff_getElem?.1 (List.mem_map_of_mem (f := EQ.e) hq)
  obtain rfl := hlo.at_id hi hj e
  exact Option.some.inj (hi.symm.trans hj)
set_option maxHeartbeats 8000000 in
set_option maxRecDepth 100000 in
theorem fresh_log (X : Nat) (l : List Scm) (K : Option Addr) (ck : Nat) (A : Option Addr) (c : Nat) (qs : List EQ) (AT : Nat) (La : List (ByteArray × Value)) (GN : Nat) (Lg : List (ByteArray × Value)) (X2 : Nat) (K2 : Option Addr) (n2 ck2 : Nat) (A2 : Option Addr) (c2 : Nat) (q2 : List EQ) (AT2 GN2 : Nat) (w : World)
    (hX : LV w X (logCs K l.length ck (.slice A qs.length c) AT GN) 83) (hX2 : LV w X2 (logCs K2 n2 ck2 (.slice A2 q2.length c2) AT2 GN2) 83) (hm : MapG keyStr w AT La) (hg : MapG keyStr w GN Lg)
    (hS : Sl rEQ (fun _ => False) w A qs) (hF : FldsOk (fun _ => False) w qs) (hS2 : Sl rEQ (fun _ => False) w A2 q2) (hF2 : FldsOk (fun _ => False) w q2) (hK : Sl rScm (fun _ => False) w K l) (hgs : GoodScm l) (hat : AtOk qs La) (hgo : GnOk Lg) (hlo : LogE (qs.map EQ.e))
    (hl : qs.length ≤ 900) (hl2 : q2.length ≤ 900) (hsm : ∀ q ∈ qs, EvSm q.e) (hsm2 : ∀ q ∈ q2, EvSm q.e) (hT : Tabs w) (hM : MaxL w) :
    Calls Tryz.prog 59 #[.pointer (some ⟨X, 0, none⟩), .pointer (some ⟨X2, 0, none⟩)] w (GivesFresh (sufF l) qs (Lg.map Prod.fst) q2 w) := by
  have HX := Lib.hid (fun w' (h : Below w.heap.size w w') => LV.kb3 hX h hX.lt)
  have HX2 := Lib.hid (fun w' (h : Below w.heap.size w w') => LV.kb3 hX2 h hX2.lt)
  have HR := Lib.hid (fun w' (h : Below w.heap.size w w') => hS2.keepB h)
  have Hfd : Hid (∀ (s : ByteArray) w', Below w.heap.size w w' → Calls Tryz.prog 52 #[.pointer (some ⟨X, 0, none⟩), .string s] w' (GivesFnd s qs w')) := fun s w' h =>
    find_log (fun _ => False) X K l.length ck A c AT GN qs La s w' (LV.kb3 hX h hX.lt) (hm.keepB h) (hS.keepB h) hat hlo (Nat.le_trans hl (by decide))
  have Hsa : Hid (∀ o ∈ qs, ∀ q ∈ q2, ∀ w', Below w.heap.size w w' → Calls Tryz.prog 53 #[.agg (evCs o.e o.A o.c), .agg (evCs q.e q.A q.c)] w' (GivesEq (o.e = q.e) w')) := fun o ho q hq w' h =>
    sameG_any (fun _ => False) (fun _ => False) o.e q.e o.A q.A o.c q.c w' ((hF o ho).keepB h) ((hF2 q hq).keepB h) (Nat.le_trans (hsm o ho).fl (by decide)) (Nat.le_trans (hsm2 q hq).fl (by decide))
  have Hsu : Hid (∀ q ∈ q2, ∀ w', Below w.heap.size w w' → Calls Tryz.prog 51 #[.slice K l.length ck, .agg (evCs q.e q.A q.c)] w' fun e w'' => e = .returned (.int .i64 (sufF l q.e)) ∧ Below w'.heap.size w' w'') := fun q hq w' h =>
    suits_any (fun _ => False) K q.A l ck q.c q.e w' (hK.keepB h) hgs ((hF2 q hq).keepB h) (hsm2 q hq).ok (Utf8Tabs_below hT h) (hM.below h)
  have Hgn : Hid (∀ (s : ByteArray) w', Below w.heap.size w w' → (Instr.lookup 81 (.map (some GN)) (.string s) false).run Tryz.prog w' = .ok (.bool (hasId (Lg.map Prod.fst) s)) w') := fun s w' h => gone_g (hg.keepB h) (by kernel_rfl) hgo s
  have Hlk : Hid (∀ (s : ByteArray) w', Below w.heap.size w w' → ∃ z : Int, (Instr.lookup 80 (.map (some AT)) (.string s) true).run Tryz.prog w' = .ok (.tuple #[.int .i64 z, .bool (hasE s qs).isSome]) w') := fun s w' h => by
    have h1 := look_g (hm.keepB h) (T := 80) (E := 3) (by kernel_rfl) (zeroIntL w') s true
    rw [if_pos rfl, hat s] at h1
    cases hh : hasE s qs with
    | none => rw [hh] at h1; exact ⟨0, h1⟩
    | some q => rw [hh] at h1; exact ⟨q.e.at', h1⟩
  have Hlo : Hid (LogE (qs.map EQ.e)) := hlo
  have Hl2 := Lib.hid hl2
  have x2 := hX2.all
  have S := Mem.start w
  obtain ⟨m, hm0⟩ : ∃ m, m = q2.length := ⟨_, rfl⟩
  have Hm := Lib.hid hm0
  rw [← hm0] at x2
  have hml : m ≤ 900 := by omega
  clear hX hX2 hm hg hS hF hS2 hF2 hK hgs hat hgo hlo hl hl2 hsm hsm2 hT hM hm0
  go_enter Tryz.func59, Tryz.ntmps59
  go_wp2_with fail
  go_loopw [20] (fun i wr => ∃ j : Nat, j ≤ m ∧ i = .int .i64 j ∧ Hid (∀ q ∈ q2.take j, ∀ o ∈ qs, o.e.id = q.e.id → o.e = q.e) ∧ Mem w wr []) (fun i _ => m - (intOf i).toNat)
  case atStart => exact ⟨0, Nat.zero_le _, rfl, (by show ∀ z ∈ _, _; simp), S⟩
  case round =>
    clear S x2
    obtain ⟨j, hj, rfl, HP, S⟩ := hrel
    by_cases hlt : j < m
    · obtain ⟨q, hq⟩ : ∃ q, q2[j]? = some q := ⟨_, List.getElem?_eq_getElem (by have := Hm.out; omega)⟩
      obtain ⟨blk, off, hA, hblk, d0, d1, d2, d3, d4, d5⟩ := hrowE (HR.out wr S.b) hq
      subst hA
      have Hq := Lib.hid hq
      have Hqm := Lib.hid (List.mem_of_getElem? hq)
      clear hq
      obtain ⟨E, hE⟩ : ∃ E, E = wr.heap.size := ⟨_, rfl⟩
      have S1 := S.newAt (evCs q.e q.A q.c) 47 E hE
      clear S
      go_upto_region 5 with fail
      rw [← hE]
      clear hE d0 d1 d2 d3 d4 d5 hblk
      generalize World.alloc _ _ = w3 at S1 ⊢
      have e0 := (S1.lv 0 rfl).all
      have Hf := Lib.hid (Hfd.out q.e.id w3 S1.b)
      go_wp2_with fail
      refine (Hf.out).mono ?_
      rintro e w4 ⟨o, bo, rfl, hb4, ho⟩
      have S4 := S1.below hb4
      have Ho := Lib.hid ho
      obtain ⟨O, hO⟩ : ∃ O, O = w4.heap.size := ⟨_, rfl⟩
      have S5 : Mem w _ [.loc E (evCs q.e q.A q.c) 47, .loc O (evCs o.e o.A o.c) 47] := S4.newAt (evCs o.e o.A o.c) 47 O hO
      clear Hf hb4 ho S1 S4 e0
      go_upto_region 6 with fail
      rw [← hO]
      clear hO
      generalize World.alloc _ _ = w5 at S5 ⊢
      have e0 := (S5.lv 0 rfl).all
      have o0 := (S5.lv 1 rfl).all
      rcases Ho.out with ⟨rfl, hh⟩ | ⟨rfl, hh, rfl⟩
      · obtain ⟨k, hk, hid⟩ := hasE_some hh
        have Hom := Lib.hid (List.mem_of_getElem? hk)
        have Hid' := Lib.hid hid
        have Hs := Lib.hid (Hsa.out o Hom.out q Hqm.out w5 S5.b)
        have HS5 := Lib.hid S5
        clear hh hk hid Ho S5
        go_wp2_with fail
        refine (Hs.out).mono ?_
        rintro e w6 ⟨bb, rfl, hbb, hb6⟩
        have Hbb := Lib.hid hbb
        have HS6 : Hid (Mem w w6 []) := ((HS5.out.below hb6).del 0).del 0
        clear Hs hbb hb6 HS5 e0 o0
        cases bb
        · have hne : o.e ≠ q.e := fun e => by have := Hbb.out.2 e; cases this
          have Hto : Hid (JoinTo (sufF l) (qs.map EQ.e) (Lg.map Prod.fst) (q2.map EQ.e) 13) := .inl ⟨⟨q.e, List.mem_map_of_mem Hqm.out, o.e, List.mem_map_of_mem Hom.out, Hid'.out, hne⟩, rfl⟩
          clear hne
          go_wp2_with fail
          go_ret2
          exact ⟨.slice none 0 0, [], 13, rfl, Hto.out, (fun e => by cases e), Nat.zero_le _, HS6.out.nil rEQ _ _⟩
        · have he : o.e = q.e := Hbb.out.1 rfl
          have HP2 : Hid (∀ q' ∈ q2.take (j + 1), ∀ o' ∈ qs, o'.e.id = q'.e.id → o'.e = q'.e) := fun q' hq' o' ho' e => by
            rw [take_snoc Hq.out] at hq'
            rcases List.mem_append.1 hq' with h | h
            · exact HP.out q' h o' ho' e
            · rw [List.mem_singleton.1 h] at e ⊢
              rw [← he]
              exact one_id Hlo.out ho' Hom.out (by rw [e, ← he])
          clear he
          go_wp2_with fail
          go_roundw
          case rel => exact ⟨j + 1, by omega, by go_num, HP2, HS6.out⟩
          case measure => simp [intOf]; omega
      · have HS6 : Hid (Mem w w5 []) := (S5.del 0).del 0
        have HP2 : Hid (∀ q' ∈ q2.take (j + 1), ∀ o' ∈ qs, o'.e.id = q'.e.id → o'.e = q'.e) := fun q' hq' o' ho' e => by
          rw [take_snoc Hq.out] at hq'
          rcases List.mem_append.1 hq' with h | h
          · exact HP.out q' h o' ho' e
          · rw [List.mem_singleton.1 h] at e
            exact absurd e (hasE_none.1 hh o' ho')
        clear S5 Ho hh
        go_wp2_with fail
        go_roundw
        case rel => exact ⟨j + 1, by omega, by go_num, HP2, HS6.out⟩
        case measure => simp [intOf]; omega
    · have hjm : j = m := by omega
      subst hjm
      have Hnc : Hid (¬ Clash (qs.map EQ.e) (q2.map EQ.e)) := noClash (by have h1 := HP.out; rwa [Hm.out, List.take_length] at h1)
      have x2 := (HX2.out wr S.b).all
      rw [← Hm.out] at x2
      have S2 : Mem w wr [.own rEQ w.heap.size 47 (.slice none 0 0) []] := S.nil rEQ w.heap.size 47
      clear S HP
      go_wp2_with fail
      go_loopw [6, 44] (fun o i wr => ∃ (k : Nat) (come : List EQ) (v : Value), k ≤ j ∧ o = v ∧ i = .int .i64 k ∧ Hid (come = (q2.take k).filter (comes (Lg.map Prod.fst) qs)) ∧ Hid (∀ q ∈ q2.take k, q.e.id ∉ Lg.map Prod.fst → sufF l q.e = 0) ∧ Mem w wr [.own rEQ w.heap.size 47 v come]) (fun _ i _ => j - (intOf i).toNat)
      case atStart => exact ⟨0, [], _, Nat.zero_le _, rfl, rfl, rfl, (by show ∀ z ∈ _, _; simp), S2⟩
      case round =>
        clear S2 x2
        obtain ⟨k, come, v, hk, rfl, rfl, Hco, HP, S⟩ := hrel
        by_cases hlt : k < j
        · obtain ⟨q, hq⟩ : ∃ q, q2[k]? = some q := ⟨_, List.getElem?_eq_getElem (by have := Hm.out; omega)⟩
          obtain ⟨blk, off, hA, hblk, d0, d1, d2, d3, d4, d5⟩ := hrowE (HR.out _ S.b) hq
          subst hA
          have Hq := Lib.hid hq
          have Hqm := Lib.hid (List.mem_of_getElem? hq)
          clear hq
          obtain ⟨E, hE⟩ : ∃ E, E = (‹World› : World).heap.size := ⟨_, rfl⟩
          have S1 := (S.newAt (evCs q.e q.A q.c) 47 E hE).front
          clear S
          go_upto_region 12 with fail
          rw [← hE]
          clear hE d0 d1 d2 d3 d4 d5 hblk
          generalize World.alloc _ _ = w3 at S1 ⊢
          refine wp_region_mixT [] (fun wx => LV wx X (logCs K l.length ck (.slice A qs.length c) AT GN) 83 ∧ LV wx E (evCs q.e q.A q.c) 47) (.p 0 (.p 1 (.p 2 (.q 3 (.p 4 (.q 5 (.e 6 .z))))))) (by kernel_rfl) (by kernel_rfl) (fun _ hd => ⟨HX.out _ (S1.below (hd.below _)).b, (S1.below (hd.below _)).lv 0 rfl⟩) (fun KK hKK wd hd => ?_)
          have S := S1.below (hd.below _)
          clear hd S1
          refine mpT ?_
          refine mixT_loadR (.map (some GN)) rfl rfl rfl rfl (fun w' h => loadC1 rfl (h.1.cell 3 _ rfl)) ?_
          refine mpT ?_
          refine mixT_loadR (.string q.e.id) rfl rfl rfl rfl (fun w' h => loadC1 rfl (h.2.cell 0 _ rfl)) ?_
          refine mixT_l rfl rfl (fun K9 hK9 => ?_)
          have hlk := Hgn.out q.e.id wd S.b
          have hC := (⟨HX.out _ S.b, S.lv 0 rfl⟩ : LV wd X (logCs K l.length ck (.slice A qs.length c) AT GN) 83 ∧ LV wd E (evCs q.e q.A q.c) 47)
          obtain ⟨gg, hgg⟩ : ∃ gg, hasId (Lg.map Prod.fst) q.e.id = gg := ⟨_, rfl⟩
          rw [hgg] at hlk
          have Hg := Lib.hid hgg
          have HS := Lib.hid S
          clear hgg S
          go_wp2_with fail
          refine ⟨hC, ?_⟩
          clear hC hlk
          refine mixT_nil ?_
          simp only [Exit.then]
          refine hKK _ _ ?_
          clear hKK KK
          cases gg
          · have Hng : Hid (q.e.id ∉ Lg.map Prod.fst) := hasId_no Hg.out
            go_upto_region 13 with fail
            have S1 := HS.out
            clear HS
            refine wp_region_mixT [] (fun wx => LV wx X (logCs K l.length ck (.slice A qs.length c) AT GN) 83 ∧ LV wx E (evCs q.e q.A q.c) 47) (.p 0 (.p 1 (.p 2 (.q 3 (.q 4 (.e 5 (.p 6 .z))))))) (by kernel_rfl) (by kernel_rfl) (fun _ hd => ⟨HX.out _ (S1.below (hd.below _)).b, (S1.below (hd.below _)).lv 0 rfl⟩) (fun KK hKK we hd => ?_)
            have S := S1.below (hd.below _)
            clear hd S1
            refine mpT ?_
            refine mixT_loadR (.slice K l.length ck) rfl rfl rfl rfl (fun w' h => loadC1 rfl (h.1.cell 0 _ rfl)) ?_
            refine mpT ?_
            refine mixT_loadR (.agg (evCs q.e q.A q.c)) rfl rfl rfl rfl (fun w' h => loadEvA h.2) ?_
            refine mixT_l rfl rfl (fun K9 hK9 => ?_)
            obtain ⟨F, hF⟩ : ∃ F, sufF l q.e = F := ⟨_, rfl⟩
            have hsu := Hsu.out q Hqm.out we S.b
            rw [hF] at hsu
            have Hb := Lib.hid hsu
            have HF := Lib.hid hF
            have HS := Lib.hid S
            clear S hsu hF
            go_wp2_with fail
            refine (Hb.out).mono ?_
            rintro e wf ⟨rfl, hb⟩
            have S := HS.out.below hb
            have hC := (⟨HX.out _ S.b, S.lv 0 rfl⟩ : LV wf X (logCs K l.length ck (.slice A qs.length c) AT GN) 83 ∧ LV wf E (evCs q.e q.A q.c) 47)
            have HS := Lib.hid S
            clear S hb Hb
            go_wp2_with fail
            refine ⟨hC, ?_⟩
            clear hC
            refine mpT ?_
            refine mixT_nil ?_
            simp only [Exit.then]
            refine hKK _ _ ?_
            clear hKK KK
            by_cases hF0 : F = 0
            · subst hF0
              have HP2 : Hid (∀ q' ∈ q2.take (k + 1), q'.e.id ∉ Lg.map Prod.fst → sufF l q'.e = 0) := fun q' hq' h2 => by
                rw [take_snoc Hq.out] at hq'
                rcases List.mem_append.1 hq' with h | h
                · exact HP.out q' h h2
                · rw [List.mem_singleton.1 h]; exact HF.out
              go_upto_region 15 with fail
              have S1 := HS.out
              clear HS
              refine wp_region_mixT [] (fun wx => LV wx X (logCs K l.length ck (.slice A qs.length c) AT GN) 83 ∧ LV wx E (evCs q.e q.A q.c) 47) (.p 0 (.p 1 (.p 2 (.q 3 (.p 4 (.q 5 (.e 6 (.p 7 (.p 8 (.p 9 (.p 10 (.p 11 .z)))))))))))) (by kernel_rfl) (by kernel_rfl) (fun _ hd => ⟨HX.out _ (S1.below (hd.below _)).b, (S1.below (hd.below _)).lv 0 rfl⟩) (fun KK hKK wg hd => ?_)
              have S := S1.below (hd.below _)
              clear hd S1
              refine mpT ?_
              refine mixT_loadR (.map (some AT)) rfl rfl rfl rfl (fun w' h => loadC1 rfl (h.1.cell 2 _ rfl)) ?_
              refine mpT ?_
              refine mixT_loadR (.string q.e.id) rfl rfl rfl rfl (fun w' h => loadC1 rfl (h.2.cell 0 _ rfl)) ?_
              refine mixT_l rfl rfl (fun K9 hK9 => ?_)
              obtain ⟨z, hlk⟩ := Hlk.out q.e.id wg S.b
              have hC := (⟨HX.out _ S.b, S.lv 0 rfl⟩ : LV wg X (logCs K l.length ck (.slice A qs.length c) AT GN) 83 ∧ LV wg E (evCs q.e q.A q.c) 47)
              obtain ⟨hh, hhh⟩ : ∃ hh, (hasE q.e.id qs).isSome = hh := ⟨_, rfl⟩
              rw [hhh] at hlk
              have Hh := Lib.hid hhh
              have HS := Lib.hid S
              clear hhh S
              go_wp2_with fail
              refine ⟨hC, ?_⟩
              clear hC hlk
              refine mpT ?_
              refine mixT_nil ?_
              simp only [Exit.then]
              refine hKK _ _ ?_
              clear hKK KK
              cases hh
              · have Hcm : Hid (comes (Lg.map Prod.fst) qs q = true) := by
                  show _ = _
                  unfold comes
                  rw [Hg.out]
                  have := Hh.out
                  cases h9 : hasE q.e.id qs with
                  | none => rfl
                  | some o => rw [h9] at this; cases this
                have Hco2 : Hid (come ++ [q] = (q2.take (k + 1)).filter (comes (Lg.map Prod.fst) qs)) := by
                  show _ = _
                  rw [take_snoc Hq.out, List.filter_append, ← Hco.out, List.filter_cons_of_pos Hcm.out, List.filter_nil]
                have hcl : come.length ≤ 900 := by
                  have h1 := congrArg List.length Hco.out
                  have h2 := List.length_filter_le (comes (Lg.map Prod.fst) qs) (q2.take k)
                  have h3 := List.length_take_le k q2
                  have := Hl2.out
                  omega
                have hbs := HS.out.b.size
                have e0 := (HS.out.lv 0 rfl).all
                go_upto_region 17 with fail
                go_upto_region 18 with (at_builtin; refine HS.out.app 1 rfl tyEvt rfl _ _ rfl q 1 rfl rfl rfl (oneEQ q) hbs (by omega) (by decide) ?_; intro v7 w7 S7)
                obtain ⟨co2, hco2⟩ : ∃ co2, come ++ [q] = co2 := ⟨_, rfl⟩
                have S8 : Mem w w7 [.own rEQ w.heap.size 47 v7 co2] := by rw [← hco2]; exact S7.del 0
                rw [hco2] at Hco2
                have HS8 := Lib.hid S8
                clear S7 S8 HS e0 hco2
                go_wp2_with fail
                go_roundw
                case rel => exact ⟨k + 1, co2, v7, by omega, rfl, by go_num, Hco2, HP2, HS8.out⟩
                case measure => simp [intOf]; omega
              · have Hcm : Hid (comes (Lg.map Prod.fst) qs q = false) := by
                  show _ = _
                  unfold comes
                  have := Hh.out
                  cases h9 : hasE q.e.id qs with
                  | none => rw [h9] at this; cases this
                  | some o => simp
                have Hco2 : Hid (come = (q2.take (k + 1)).filter (comes (Lg.map Prod.fst) qs)) := by
                  show _ = _
                  rw [take_snoc Hq.out, List.filter_append, ← Hco.out, List.filter_cons_of_neg (by rw [Hcm.out]; decide), List.filter_nil, List.append_nil]
                have HS8 := Lib.hid (HS.out.del 0)
                clear HS
                go_wp2_with fail
                go_roundw
                case rel => exact ⟨k + 1, come, _, by omega, rfl, by go_num, Hco2, HP2, HS8.out⟩
                case measure => simp [intOf]; omega
            · have Hto : Hid (JoinTo (sufF l) (qs.map EQ.e) (Lg.map Prod.fst) (q2.map EQ.e) 8) := .inr (.inl ⟨Hnc.out, ⟨q.e, List.mem_map_of_mem Hqm.out, Hng.out, by rw [HF.out]; exact hF0⟩, rfl⟩)
              have HS8 := Lib.hid ((HS.out.del 1).del 0)
              clear HS
              go_wp2_with fail
              go_ret2
              exact ⟨.slice none 0 0, [], 8, rfl, Hto.out, (fun e => by cases e), Nat.zero_le _, HS8.out.nil rEQ _ _⟩
          · have Hcm : Hid (comes (Lg.map Prod.fst) qs q = false) := by
              show _ = _
              unfold comes
              rw [Hg.out]
              rfl
            have Hco2 : Hid (come = (q2.take (k + 1)).filter (comes (Lg.map Prod.fst) qs)) := by
              show _ = _
              rw [take_snoc Hq.out, List.filter_append, ← Hco.out, List.filter_cons_of_neg (by rw [Hcm.out]; decide), List.filter_nil, List.append_nil]
            have HP2 : Hid (∀ q' ∈ q2.take (k + 1), q'.e.id ∉ Lg.map Prod.fst → sufF l q'.e = 0) := fun q' hq' h2 => by
              rw [take_snoc Hq.out] at hq'
              rcases List.mem_append.1 hq' with h | h
              · exact HP.out q' h h2
              · rw [List.mem_singleton.1 h] at h2
                exact absurd ((hasId_iff _ _).1 Hg.out) h2
            have HS8 := Lib.hid (HS.out.del 0)
            clear HS
            go_wp2_with fail
            go_roundw
            case rel => exact ⟨k + 1, come, _, by omega, rfl, by go_num, Hco2, HP2, HS8.out⟩
            case measure => simp [intOf]; omega
        · have hkj : k = j := by omega
          subst hkj
          have Hco2 : Hid (come = q2.filter (comes (Lg.map Prod.fst) qs)) := by show _ = _; rw [Hco.out, Hm.out, List.take_length]
          have Hnu : Hid (¬ Unfit (sufF l) (Lg.map Prod.fst) (q2.map EQ.e)) := noUnfit (by have h1 := HP.out; rwa [Hm.out, List.take_length] at h1)
          have HS := Lib.hid S
          have Hle : Hid (come.length ≤ q2.length) := by show _ ≤ _; rw [Hco2.out]; exact List.length_filter_le _ _
          clear S Hco HP
          go_wp2_with fail
          go_ret2
          exact ⟨_, come, 0, rfl, .inr (.inr ⟨Hnc.out, Hnu.out, rfl⟩), (fun _ => Hco2.out), Hle.out, HS.out⟩
end Go.Proofs.YtmlpkejeglpciaaGreatDoor

/- The plain law of a join's steps: what is taken away, and what is put in. No program is in sight. -/
namespace Go.Proofs.YtmlpkejeglpciaaGreatDoor
open Go Go.RowKit
structure RemP (qs : List EQ) (Lg : List (ByteArray × Value)) (ws : List ByteArray) (j : Nat) (qs' : List EQ) (La' Lg' : List (ByteArray × Value)) : Prop where
  lo : LogE (qs'.map EQ.e)
  tm : AtOk qs' La'
  go : GnOk Lg'
  nd : (Lg'.map Prod.fst).Nodup
  ks : ∀ s, s ∈ Lg'.map Prod.fst ↔ s ∈ Lg.map Prod.fst ∨ s ∈ ws.take j
  ms : ∀ q, q ∈ qs' ↔ q ∈ qs ∧ q.e.id ∉ ws.take j
  ln : qs'.length ≤ qs.length
theorem RemP.start {qs : List EQ} {La Lg : List (ByteArray × Value)} {ws : List ByteArray} (h1 : LogE (qs.map EQ.e)) (h2 : AtOk qs La) (h3 : GnOk Lg) (h4 : (Lg.map Prod.fst).Nodup) : RemP qs Lg ws 0 qs La Lg :=
  ⟨h1, h2, h3, h4, fun s => by simp, fun q => by simp, Nat.le_refl _⟩
theorem RemP.keys {qs qs' : List EQ} {Lg La' Lg' : List (ByteArray × Value)} {ws : List ByteArray} {j : Nat} {s : ByteArray} (h : RemP qs Lg ws j qs' La' Lg') (hs : ws[j]? = some s) (x : ByteArray) : x ∈ (updG s (.bool true) Lg').map Prod.fst ↔ x ∈ Lg.map Prod.fst ∨ x ∈ ws.take (j + 1) := by
  rw [mem_updG, h.ks, take_snoc hs, List.mem_append, List.mem_singleton, or_assoc]
theorem RemP.none {qs qs' : List EQ} {Lg La' Lg' : List (ByteArray × Value)} {ws : List ByteArray} {j : Nat} {s : ByteArray} (h : RemP qs Lg ws j qs' La' Lg') (hs : ws[j]? = some s) (hn : hasE s qs' = Option.none) : RemP qs Lg ws (j + 1) qs' La' (updG s (.bool true) Lg') :=
  ⟨h.lo, h.tm, h.go.put s, updG_keys h.nd, h.keys hs, fun q => by
    rw [take_snoc hs, List.mem_append, List.mem_singleton, h.ms]
    constructor
    · rintro ⟨h1, h2⟩
      exact ⟨h1, fun e => e.elim h2 (fun e2 => hasE_none.1 hn q ((h.ms q).2 ⟨h1, h2⟩) e2)⟩
    · rintro ⟨h1, h2⟩
      exact ⟨h1, fun e => h2 (.inl e)⟩, h.ln⟩
theorem del_iff {qs : List EQ} {i : Nat} {x : EQ} (hid : (qs.map (fun q => q.e.id)).Nodup) (hi : qs[i]? = some x) (q : EQ) : q ∈ qs.take i ++ qs.drop (i + 1) ↔ q ∈ qs ∧ q.e.id ≠ x.e.id := by
  have hp := perm_del hi
  have h1 : ((x :: (qs.take i ++ qs.drop (i + 1))).map (fun q => q.e.id)).Nodup := by rw [(hp.map _).nodup_iff]; exact hid
  rw [List.map_cons, List.nodup_cons] at h1
  constructor
  · intro h
    exact ⟨hp.mem_iff.1 (List.mem_cons_of_mem _ h), fun e => h1.1 (List.mem_map.2 ⟨q, h, e⟩)⟩
  · rintro ⟨h2, h3⟩
    rcases List.mem_cons.1 (hp.mem_iff.2 h2) with h | h
    · exact absurd (congrArg (fun q : EQ => q.e.id) h) h3
    · exact h
theorem RemP.some {qs qs' : List EQ} {Lg La' Lg' : List (ByteArray × Value)} {ws : List ByteArray} {j : Nat} {s : ByteArray} (h : RemP qs Lg ws j qs' La' Lg') (hs : ws[j]? = Option.some s) (hla : (La'.map Prod.fst).Nodup) {i : Nat} {x : EQ} (hi : qs'[i]? = Option.some x) (hx : x.e.id = s) : RemP qs Lg ws (j + 1) (qs'.take i ++ qs'.drop (i + 1)) (delG s La') (updG s (.bool true) Lg') := by
  subst hx
  refine ⟨?_, h.tm.del (logE_id h.lo) hla hi, h.go.put _, updG_keys h.nd, h.keys hs, fun q => ?_, ?_⟩
  · rw [List.map_append, List.map_take, List.map_drop]
    exact h.lo.del i
  · rw [del_iff (logE_id h.lo) hi, take_snoc hs, List.mem_append, List.mem_singleton, h.ms, not_or, and_assoc]
  · have := h.ln
    rw [List.length_append, List.length_take, List.length_drop]
    omega
structure PutP (qs come : List EQ) (k : Nat) (qs' : List EQ) (La' : List (ByteArray × Value)) : Prop where
  lo : LogE (qs'.map EQ.e)
  tm : AtOk qs' La'
  ms : ∀ e, e ∈ qs'.map EQ.e ↔ e ∈ qs.map EQ.e ∨ e ∈ (come.take k).map EQ.e
  ln : qs'.length ≤ qs.length + k
theorem PutP.start {qs come : List EQ} {La : List (ByteArray × Value)} (h1 : LogE (qs.map EQ.e)) (h2 : AtOk qs La) : PutP qs come 0 qs La := ⟨h1, h2, fun e => by simp, Nat.le_refl _⟩
theorem PutP.next {qs come qs' : List EQ} {La' : List (ByteArray × Value)} {k i : Nat} {p q : EQ} (h : PutP qs come k qs' La') (hk : come[k]? = some p) (hq : q.e = p.e) (hid : (come.map (fun q => q.e.id)).Nodup) (hne : ∀ x ∈ qs, x.e.id ≠ p.e.id) (hpl : IsPlE (qs'.map EQ.e) p.e i) : PutP qs come (k + 1) (qs'.take i ++ q :: qs'.drop i) (updG p.e.id (.int .i64 p.e.at') La') := by
  have hno : ∀ y ∈ qs'.map EQ.e, y.id ≠ p.e.id := fun y hy e => by
    rcases (h.ms y).1 hy with h1 | h1
    · obtain ⟨x, hx, rfl⟩ := List.mem_map.1 h1
      exact hne x hx e
    · obtain ⟨x, hx, rfl⟩ := List.mem_map.1 h1
      obtain ⟨j, hj⟩ := List.mem_iff_getElem?.1 hx
      have hjl := (List.getElem?_eq_some_iff.1 hj).1
      rw [List.length_take] at hjl
      rw [List.getElem?_take_of_lt (by omega)] at hj
      have h2 := List.pairwise_iff_getElem.1 hid
      obtain ⟨a1, a2⟩ := List.getElem?_eq_some_iff.1 hj
      obtain ⟨b1, b2⟩ := List.getElem?_eq_some_iff.1 hk
      have h3 := h2 j k (by rw [List.length_map]; exact a1) (by rw [List.length_map]; exact b1) (by omega)
      rw [List.getElem_map, List.getElem_map, a2, b2] at h3
      exact h3 e
  refine ⟨?_, ?_, fun e => ?_, ?_⟩
  · rw [List.map_append, List.map_cons, List.map_take, List.map_drop, hq]
    exact h.lo.ins hno hpl
  · have h2 := h.tm.put (x := q) (fun y hy => by rw [hq]; exact hno _ (List.mem_map_of_mem hy)) i
    rw [hq] at h2
    exact h2
  · have h3 : (qs'.take i ++ q :: qs'.drop i).Perm (q :: qs') := by
      have h2 : (qs'.take i ++ q :: qs'.drop i).Perm (q :: (qs'.take i ++ qs'.drop i)) := List.perm_middle
      rwa [List.take_append_drop] at h2
    rw [(h3.map EQ.e).mem_iff, List.map_cons, List.mem_cons, h.ms, take_snoc hk, List.map_append, List.mem_append, List.map_singleton, List.mem_singleton, hq]
    constructor
    · rintro (h1 | h1 | h1)
      · exact .inr (.inr h1)
      · exact .inl h1
      · exact .inr (.inl h1)
    · rintro (h1 | h1 | h1)
      · exact .inr (.inl h1)
      · exact .inr (.inr h1)
      · exact .inl h1
  · have := h.ln
    rw [List.length_append, List.length_cons, List.length_take, List.length_drop]
    omega
structure JoinedP (qs : List EQ) (Lg : List (ByteArray × Value)) (q2 : List EQ) (G2 : List (ByteArray × Value)) (qs' : List EQ) (La' Lg' : List (ByteArray × Value)) : Prop where
  lo : LogE (qs'.map EQ.e)
  tm : AtOk qs' La'
  go : GnOk Lg'
  nd : (Lg'.map Prod.fst).Nodup
  ks : ∀ s, s ∈ Lg'.map Prod.fst ↔ s ∈ Lg.map Prod.fst ∨ s ∈ G2.map Prod.fst
  ms : ∀ e, e ∈ qs'.map EQ.e ↔ JoinOf (qs.map EQ.e) (Lg.map Prod.fst) (q2.map EQ.e) (G2.map Prod.fst) e
theorem comes_iff {g : List ByteArray} {qs : List EQ} {q : EQ} : comes g qs q = true ↔ q.e.id ∉ g ∧ ∀ x ∈ qs, x.e.id ≠ q.e.id := by
  unfold comes
  rw [Bool.and_eq_true, Bool.not_eq_true', Option.isNone_iff_eq_none, hasE_none]
  exact and_congr ⟨fun h => hasId_no h, fun h => hasId_not h⟩ Iff.rfl
theorem RemP.joined {qs q2 qr qs' : List EQ} {Lg G2 Lr La' Lg' : List (ByteArray × Value)} {ws : List ByteArray} {j k : Nat} {come : List EQ} (hr : RemP qs Lg ws j qr Lr Lg') (hp : PutP qr come k qs' La') (hj : ws.length ≤ j) (hk : come.length ≤ k) (hw : ∀ s, s ∈ ws ↔ s ∈ G2.map Prod.fst) (hc : come = q2.filter (comes (Lg.map Prod.fst) qs)) : JoinedP qs Lg q2 G2 qs' La' Lg' := by
  refine ⟨hp.lo, hp.tm, hr.go, hr.nd, fun s => ?_, fun e => ?_⟩
  · rw [hr.ks, List.take_of_length_le hj, hw]
  · rw [hp.ms, List.take_of_length_le hk]
    unfold JoinOf
    refine or_congr ?_ ?_
    · constructor
      · intro h
        obtain ⟨q, hq, rfl⟩ := List.mem_map.1 h
        obtain ⟨h1, h2⟩ := (hr.ms q).1 hq
        rw [List.take_of_length_le hj, hw] at h2
        exact ⟨List.mem_map_of_mem h1, h2⟩
      · rintro ⟨h1, h2⟩
        obtain ⟨q, hq, rfl⟩ := List.mem_map.1 h1
        exact List.mem_map_of_mem ((hr.ms q).2 ⟨hq, by rw [List.take_of_length_le hj, hw]; exact h2⟩)
    · rw [hc]
      constructor
      · intro h
        obtain ⟨q, hq, rfl⟩ := List.mem_map.1 h
        obtain ⟨h1, h2⟩ := List.mem_filter.1 hq
        obtain ⟨h3, h4⟩ := comes_iff.1 h2
        exact ⟨List.mem_map_of_mem h1, h3, fun o ho => by
          obtain ⟨x, hx, rfl⟩ := List.mem_map.1 ho
          exact h4 x hx⟩
      · rintro ⟨h1, h2, h3⟩
        obtain ⟨q, hq, rfl⟩ := List.mem_map.1 h1
        exact List.mem_map_of_mem (List.mem_filter.2 ⟨hq, comes_iff.2 ⟨h2, fun x hx => h3 _ (List.mem_map_of_mem hx)⟩⟩)
end Go.Proofs.YtmlpkejeglpciaaGreatDoor
