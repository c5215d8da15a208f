/- Several texts in one: Scmq, LogNew, Clock, Local, Bytes, Happen, LawLog. -/
import Derived.Test.YtmlpkejeglpciaaGreatDoorPkAU
import Derived.Test.YtmlpkejeglpciaaGreatDoorPkAG
import Derived.Test.YtmlpkejeglpciaaGreatDoorPkAO
import Derived.Test.YtmlpkejeglpciaaGreatDoorPkAK
import Derived.RangeFuncNested
import Derived.RangeFuncBound
import Derived.RangeFuncCalls
import Derived.RangeFuncLeaves
import Derived.RangeFuncBox
import Derived.Shelf.Abstract
import Derived.Shelf.RegionOpen
import Derived.WalkKit
import Derived.OwnWalkIn
import Derived.TacticsInMore
import Derived.LoopNIn
import Derived.LoopIn
import Derived.Test.YtmlpkejeglpciaaGreatDoorPkAJ
import Derived.Test.YtmlpkejeglpciaaGreatDoorRows
import Derived.ProofKit
import Derived.OwnWalk
import Derived.Below
import Derived.Lib.Hide
import Derived.Lib.Builder
import Derived.Lib.AppendStr
import Derived.Lib.UnsafeStr
import Derived.Lib.Strings
import Derived.Lib.ConvBytes
import Derived.Laws.BytesArg
import Derived.StillTailTactics
import Derived.Deep.RegionLaw
import Derived.Handy
import Derived.Test.YtmlpkejeglpciaaGreatDoorPkAN
import Derived.Carry
import Derived.Test.YtmlpkejeglpciaaGreatDoorPkAW
/- Schemas in memory that may still be turned: their rows, and apart from them their needs, which stay; slices.Clone of both. -/
namespace Go.Proofs.YtmlpkejeglpciaaGreatDoor
open Go Go.RowKit
structure CQ where
  s : Scm
  A : Option Addr
  c : Nat
def CQ.cells (q : CQ) : List Value := [.string q.s.name, .slice q.A q.s.needs.length q.c]
def rCQ : Rep CQ := .flat 2 CQ.cells (fun _ => rfl)
theorem flatCQ : rCQ.Flat CQ.cells := fun _ _ _ _ => Iff.rfl
theorem tyCQ : STy 26 73 rCQ.size 40 (.agg #[.string ⟨#[]⟩, .slice none 0 0]) := ⟨Tryz.underlying26, by kernel_rfl, rfl, by decide⟩
theorem oneCQ (q : CQ) : ∀ u ∈ q.cells, u.oneCell' = true := fun u hu => by
  simp only [CQ.cells, List.mem_cons, List.not_mem_nil, or_false] at hu
  rcases hu with rfl | rfl <;> rfl
def CdOk (M : Nat → Prop) (w : World) (qs : List CQ) : Prop := ∀ q ∈ qs, Sl rNd M w q.A q.s.needs
def Chunk.cdat (qs : List CQ) : Chunk :=
  ⟨none, fun M w => CdOk M w qs, fun k hd _ h q hq => (h q hq).keep (k.mono hd), fun hm h q hq => (h q hq).mono (fun k hk e => (hm k hk e).resolve_right (by simp)), fun _ _ e => by cases e⟩
theorem Mem.cd {w0 w : World} {cs : List Chunk} (S : Mem w0 w cs) (i : Nat) {qs : List CQ} (hi : cs[i]? = some (.cdat qs)) : CdOk (Mut w0.heap.size cs) w qs := S.ok _ (List.mem_of_getElem? hi)
theorem slScm {N : Nat → Prop} {w : World} {A : Option Addr} {qs : List CQ} (h : Sl rCQ N w A qs) (hf : CdOk N w qs) : Sl rScm N w A (qs.map CQ.s) := fun i x hx => by
  rw [List.getElem?_map] at hx
  cases hq : qs[i]? with
  | none => rw [hq] at hx; cases hx
  | some y =>
    rw [hq] at hx
    obtain rfl : y.s = x := by simpa using hx
    obtain ⟨blk, off, l, e, h1, h2, h3, h4⟩ := h i y hq
    obtain rfl : l = CQ.cells y := h3
    exact ⟨blk, off, _, e, h1, h2, rScm_mk (c := y.c) (hf y (List.mem_of_getElem? hq)), h4⟩
theorem rScm_of {N : Nat → Prop} {w : World} {s : Scm} {l : List Value} (h : rScm.rel N w s l) : ∃ A c, l = [.string s.name, .slice A s.needs.length c] ∧ Sl rNd N w A s.needs := by
  obtain ⟨l1, l2, rfl, h1, A, c, rfl, h2⟩ := h
  obtain rfl : l1 = Scm.cells s := h1
  exact ⟨A, c, rfl, h2⟩
theorem scm_q {N : Nat → Prop} {w : World} {A : Option Addr} {P : List Scm} (h : Sl rScm N w A P) : ∃ qs : List CQ, qs.map CQ.s = P ∧ Sl rCQ N w A qs ∧ CdOk N w qs := by
  have hx : ∀ i : Fin P.length, ∃ q : CQ, q.s = P[i] ∧ ∃ blk off, A = some ⟨blk, off, none⟩ ∧ blk < w.heap.size ∧ ¬ N blk ∧ (∀ j u, q.cells[j]? = some u → w.cell? ⟨blk, off + i.1 * 2 + j, none⟩ = some u) ∧ Sl rNd N w q.A q.s.needs := fun i => by
    obtain ⟨blk, off, l, e1, h1, h2, h3, h4⟩ := h i.1 P[i] (List.getElem?_eq_getElem i.2)
    obtain ⟨At, a, rfl, hf⟩ := rScm_of h3
    exact ⟨⟨P[i], At, a⟩, rfl, blk, off, e1, h1, h2, h4, hf⟩
  refine ⟨List.ofFn (fun i => (hx i).choose), ?_, fun i x hi => ?_, fun q hq => ?_⟩
  · apply List.ext_getElem
    · simp
    · intro i h1 h2
      rw [List.getElem_map, List.getElem_ofFn]
      exact (hx ⟨i, h2⟩).choose_spec.1
  · have hl : i < P.length := by have := lt_of_get hi; simpa using this
    rw [List.getElem?_eq_getElem (by simpa using hl), List.getElem_ofFn] at hi
    obtain ⟨_, blk, off, e1, h1, h2, h4, _⟩ := (hx ⟨i, hl⟩).choose_spec
    rw [Option.some.inj hi] at h4
    exact ⟨blk, off, _, e1, h1, h2, rfl, h4⟩
  · obtain ⟨i, rfl⟩ := List.mem_ofFn.1 hq
    obtain ⟨_, _, _, _, _, _, _, h5⟩ := (hx i).choose_spec
    exact h5
set_option maxHeartbeats 4000000 in
set_option maxRecDepth 100000 in
theorem cloneCQ_any (A : Option Addr) (l : List CQ) (c : Nat) (w : World) (hL : Sl rCQ (fun _ => False) w A l) (hl : l.length ≤ 1000) :
    Calls Tryz.prog 40 #[.slice A l.length c] w fun e w' => ∃ A' c', e = .returned (.slice A' l.length c') ∧ Mem w w' [.own rCQ w.heap.size 73 (.slice A' l.length c') l] := by
  have he : ∀ (a : Option Addr) (n c : Nat) (w : World), (binOp .eql 26 (.slice a n c) (.slice none 0 0)).run Tryz.prog w = .ok (.bool a.isNone) w := fun a n c w => Lib.run_eql_slice_nil w _ _ a n c 0 0 tyCQ.under
  cases A with
  | none =>
    obtain rfl := Sl.nilOf hL
    have S : Mem w w [.own rCQ w.heap.size 73 (.slice none 0 0) []] := (Mem.start w).nil rCQ w.heap.size 73
    go_enter Tryz.func40, Tryz.ntmps40
    go_wp2_with fail
    go_ret
    exact ⟨none, 0, rfl, S⟩
  | some ad =>
    have S := (Mem.start w).newAt #[] 73 w.heap.size rfl
    have S1 : Mem w (w.alloc (.cells #[] 73)) [.own rCQ w.heap.size 73 (.slice (some ⟨w.heap.size, 0, none⟩) 0 0) []] := S.room (r := rCQ) 0 rfl rfl (by decide) rfl
    have Hc := Lib.hid (Sl.flatCells flatCQ (fun _ => rfl) (hL.keepB S1.b))
    have hsz := S1.b.size
    have HS := Lib.hid S1
    have Hl := Lib.hid hl
    clear S S1 hL hl
    go_enter Tryz.func40, Tryz.ntmps40
    go_wp2_with (at_builtin; refine HS.out.appN flatCQ 0 rfl tyCQ rfl _ _ rfl l l.length c rfl rfl ad rfl Hc.out (fun y _ => oneCQ y) (fun _ => rfl) hsz (by simp only [List.length_nil]; have := Hl.out; omega) (by decide) ?_; intro v5 w5 S5)
    obtain ⟨A5, c5, e5⟩ := (S5.ow 0 rfl).len
    subst e5
    go_ret
    exact ⟨A5, c5, rfl, S5⟩
set_option maxHeartbeats 4000000 in
set_option maxRecDepth 100000 in
theorem cloneNd_any (A : Option Addr) (l : List Nd) (c : Nat) (w : World) (hL : Sl rNd (fun _ => False) w A l) (hl : l.length ≤ 1000) :
    Calls Tryz.prog 41 #[.slice A l.length c] w fun e w' => ∃ A' c', e = .returned (.slice A' l.length c') ∧ Mem w w' [.own rNd w.heap.size 76 (.slice A' l.length c') l] := by
  have he : ∀ (a : Option Addr) (n c : Nat) (w : World), (binOp .eql 71 (.slice a n c) (.slice none 0 0)).run Tryz.prog w = .ok (.bool a.isNone) w := fun a n c w => Lib.run_eql_slice_nil w _ _ a n c 0 0 tyNd.under
  cases A with
  | none =>
    obtain rfl := Sl.nilOf hL
    have S : Mem w w [.own rNd w.heap.size 76 (.slice none 0 0) []] := (Mem.start w).nil rNd w.heap.size 76
    go_enter Tryz.func41, Tryz.ntmps41
    go_wp2_with fail
    go_ret
    exact ⟨none, 0, rfl, S⟩
  | some ad =>
    have S := (Mem.start w).newAt #[] 76 w.heap.size rfl
    have S1 : Mem w (w.alloc (.cells #[] 76)) [.own rNd w.heap.size 76 (.slice (some ⟨w.heap.size, 0, none⟩) 0 0) []] := S.room (r := rNd) 0 rfl rfl (by decide) rfl
    have Hc := Lib.hid (Sl.flatCells flatNd (fun _ => rfl) (hL.keepB S1.b))
    have hsz := S1.b.size
    have HS := Lib.hid S1
    have Hl := Lib.hid hl
    clear S S1 hL hl
    go_enter Tryz.func41, Tryz.ntmps41
    go_wp2_with (at_builtin; refine HS.out.appN flatNd 0 rfl tyNd rfl _ _ rfl l l.length c rfl rfl ad rfl Hc.out (fun y _ => oneNd y) (fun _ => rfl) hsz (by simp only [List.length_nil]; have := Hl.out; omega) (by decide) ?_; intro v5 w5 S5)
    obtain ⟨A5, c5, e5⟩ := (S5.ow 0 rfl).len
    subst e5
    go_ret
    exact ⟨A5, c5, rfl, S5⟩
end Go.Proofs.YtmlpkejeglpciaaGreatDoor

/- event.New: a new log. -/
namespace Go.Proofs.YtmlpkejeglpciaaGreatDoor
open Go Go.RowKit
def GivesNewF (F : Int) (n : Nat) (l : List Scm) (w : World) (e : Ending) (w' : World) : Prop :=
  (F ≠ 0 ∧ e = .returned (.tuple #[.pointer none, .int .i64 F]) ∧ Below w.heap.size w w') ∨
  (F = 0 ∧ ∃ (X : Nat) (K : Option Addr) (ck AT GN : Nat), e = .returned (.tuple #[.pointer (some ⟨X, 0, none⟩), .int .i64 0]) ∧ Mem w w' (logP X K n ck (.slice none 0 0) w.heap.size [] AT [] GN [.mapG keyStr GN [], .sl rScm K l]))
set_option maxHeartbeats 8000000 in
set_option maxRecDepth 100000 in
theorem new_log (A : Option Addr) (l : List Scm) (c : Nat) (w : World) (hS : Sl rScm (fun _ => False) w A l) (hsm : ScmSm l) (hnl : ∀ s ∈ l, s.needs.length ≤ 1000) :
    Calls Tryz.prog 8 #[.slice A l.length c] w (GivesNewF (scmsFault l) l.length l w) := by
  have Hck := Lib.hid (checkSchemas_any (fun _ => False) A l c w hS hsm.ok)
  obtain ⟨F, hF⟩ : ∃ F, scmsFault l = F := ⟨_, rfl⟩
  rw [hF] at Hck ⊢
  clear hF
  obtain ⟨qs, hqs, hQ, hd⟩ := scm_q hS
  have hll : l.length = qs.length := by rw [← hqs, List.length_map]
  have hql : qs.length ≤ 1000 := by rw [← hll]; exact Nat.le_trans hsm.len (by decide)
  have Hd := Lib.hid (fun (q : CQ) (hq : q ∈ qs) (w' : World) (h : Below w.heap.size w w') => (hd q hq).keepB h)
  have Hnl : Hid (∀ q ∈ qs, q.s.needs.length ≤ 1000) := fun q hq => hnl q.s (by rw [← hqs]; exact List.mem_map_of_mem hq)
  have Hcl := Lib.hid (fun (w' : World) (h : Below w.heap.size w w') => cloneCQ_any A qs c w' (hQ.keepB h) hql)
  have Hqs := Lib.hid hqs
  rw [hll] at Hck ⊢
  clear hS hsm hnl hqs hQ hd hll
  go_enter Tryz.func8, Tryz.ntmps8
  go_wp2_with fail
  refine (Hck.out).mono ?_
  rintro e w1 ⟨rfl, hb1⟩
  have Hb1 := Lib.hid hb1
  clear hb1 Hck
  by_cases hE : F = 0
  · subst hE
    have Hcl1 := Lib.hid (Hcl.out w1 Hb1.out)
    clear Hcl
    go_wp2_with fail
    refine (Hcl1.out).mono ?_
    rintro e w2 ⟨S1, cs1, rfl, T⟩
    obtain ⟨B, hB⟩ : ∃ B, B = w1.heap.size := ⟨_, rfl⟩
    rw [← hB] at T
    have HT : Hid (Mem w w2 [.own rCQ B 73 (.slice S1 qs.length cs1) qs]) := ((Mem.start w).below Hb1.out).join T
    have S : Mem w w2 [.own rCQ B 73 (.slice S1 qs.length cs1) qs, .cdat []] := HT.out.call (Below.refl _ _) (.cdat []) (fun q hq => by cases hq) (fun k e => by cases e)
    obtain ⟨n, hn⟩ : ∃ n, n = qs.length := ⟨_, rfl⟩
    have Hn := Lib.hid hn
    rw [← hn] at S hql ⊢
    clear hn T HT hB Hcl1
    go_wp2_with fail
    go_loopw [15] (fun i wr => ∃ (k : Nat) (ys zs : List CQ), k ≤ n ∧ i = .int .i64 k ∧ Hid (ys.map CQ.s = (qs.take k).map CQ.s) ∧ Hid (ys.length = k) ∧ Hid (zs = ys ++ qs.drop k) ∧ Mem w wr [.own rCQ B 73 (.slice S1 n cs1) zs, .cdat ys]) (fun i _ => n - (intOf i).toNat)
    case atStart => exact ⟨0, [], qs, Nat.zero_le _, rfl, rfl, rfl, rfl, S⟩
    case round =>
      clear S
      obtain ⟨k, ys, zs, hk, rfl, Hy, Hyl, Hz, S⟩ := hrel
      have Hzl : Hid (n = zs.length) := by show _ = _; rw [Hz.out, List.length_append, List.length_drop, Hyl.out, ← Hn.out]; omega
      by_cases hlt : k < n
      · obtain ⟨q, hq⟩ : ∃ q, qs[k]? = some q := ⟨_, List.getElem?_eq_getElem (by have := Hn.out; omega)⟩
        have hzq : zs[k]? = some q := by
          rw [Hz.out, List.getElem?_append_right (by have := Hyl.out; omega), Hyl.out, List.getElem?_drop, Nat.sub_self]
          exact hq
        have Hzq := Lib.hid hzq
        have Hq := Lib.hid hq
        obtain ⟨g, cap, e, hcap⟩ := (S.ow 0 rfl).form (by have := Hzl.out; omega)
        simp only [Value.slice.injEq] at e
        obtain ⟨rfl, _, rfl⟩ := e
        have hC0 : ∀ wx, Mem w wx [.own rCQ B 73 (.slice (some ⟨g, 0, none⟩) n cs1) zs, .cdat ys] → wx.cell? ⟨g, k * 2 + 1, none⟩ = some (.slice q.A q.s.needs.length q.c) ∧ wx.frozen? ⟨g, k * 2 + 1, none⟩ = false := fun wx S => (S.ow 0 rfl).cellP flatCQ Hzl.out k q Hzq.out 1 _ rfl
        have HC0 := Lib.hid hC0
        have d0 := (HC0.out wr S).1
        have Hcw := Lib.hid (cloneNd_any q.A q.s.needs q.c wr (Hd.out q (List.mem_of_getElem? Hq.out) wr S.b) (Hnl.out q (List.mem_of_getElem? Hq.out)))
        have HS := Lib.hid S
        clear hq hzq hC0 S
        go_wp2_with fail
        refine (Hcw.out).mono ?_
        rintro e w6 ⟨A6, c6, rfl, T⟩
        obtain ⟨A2, c2, e2, S2⟩ := (HS.out.join T).frz 2 rfl
        cases e2
        have S : Mem w w6 [.own rCQ B 73 (.slice (some ⟨g, 0, none⟩) n cs1) zs, .cdat ys, .sl rNd A6 q.s.needs] := S2
        have S3 : Mem w w6 [.own rCQ B 73 (.slice (some ⟨g, 0, none⟩) n cs1) zs, .cdat ys] := S.del 2
        have f2 := (HC0.out _ S3).2
        have e0 := (HC0.out _ S3).1
        have S4 : Mem w w6 [.own rCQ B 73 (.slice (some ⟨g, 0, none⟩) n cs1) zs, .cdat (ys ++ [(⟨q.s, A6, c6⟩ : CQ)])] := (S.turn 1 rfl (.cdat (ys ++ [(⟨q.s, A6, c6⟩ : CQ)])) rfl (fun p hp => by
          rcases List.mem_append.1 hp with hp | hp
          · exact S.cd 1 rfl p hp
          · rw [List.mem_singleton.1 hp]; exact S.slc 2 rfl)).del 2
        have S5 := S4.put flatCQ 0 rfl Hzl.out k q (⟨q.s, A6, c6⟩ : CQ) Hzq.out 1 (by decide) (.slice A6 q.s.needs.length c6) rfl
        have HS5 := Lib.hid S5
        clear S S3 S4 S5 HS Hcw T S2 d0
        have H1 : Hid ((ys ++ [(⟨q.s, A6, c6⟩ : CQ)]).map CQ.s = (qs.take (k + 1)).map CQ.s) := by
          show _ = _
          rw [take_snoc Hq.out, List.map_append, List.map_append, Hy.out]; rfl
        have H2 : Hid ((ys ++ [(⟨q.s, A6, c6⟩ : CQ)]).length = k + 1) := by show _ = _; rw [List.length_append, Hyl.out]; rfl
        have H3 : Hid (zs.set k (⟨q.s, A6, c6⟩ : CQ) = (ys ++ [(⟨q.s, A6, c6⟩ : CQ)]) ++ qs.drop (k + 1)) := by
          have hkl := lt_of_get Hq.out
          have e1 : qs.drop k = q :: qs.drop (k + 1) := by
            rw [List.drop_eq_getElem_cons hkl]
            rw [List.getElem?_eq_getElem hkl] at Hq
            rw [Option.some.inj Hq.out]
          show _ = _
          rw [Hz.out, e1, List.set_append_right _ _ (by have := Hyl.out; omega), Hyl.out, Nat.sub_self, List.set_cons_zero]
          simp
        go_wp2_with fail
        go_roundw
        case rel =>
          (try go_simp)
          exact ⟨k + 1, by omega, by omega, _, (by show _ = _; rw [← List.map_take]; exact H1.out), H2, _, H3, (by first | exact HS5.out | (rw [← Hzl.out]; exact HS5.out))⟩
        case measure => simp [intOf]; omega
      · obtain rfl : k = n := by omega
        have hzy : zs = ys := by rw [Hz.out, Hn.out, List.drop_length, List.append_nil]
        have hys : ys.map CQ.s = l := by rw [Hy.out, Hn.out, List.take_length, Hqs.out]
        obtain ⟨A2, c2, e2, S2⟩ := S.frz 0 rfl
        rw [hzy] at e2 S2
        have S4 : Mem w wr [.sl rScm A2 l] := by
          have S3 : Mem w wr [.sl rCQ A2 ys, .cdat ys] := S2
          rw [← hys]
          exact (S3.turn 0 rfl (.sl rScm A2 (ys.map CQ.s)) rfl (slScm (S3.slc 0 rfl) (S3.cd 1 rfl))).del 1
        simp only [Value.slice.injEq] at e2
        obtain ⟨e3, e4, e5⟩ := e2
        subst e3
        have hll : l.length = k := by rw [← hys, List.length_map, Hyl.out]
        have hmm := @run_makeMap Tryz.prog
        have HS4 := Lib.hid S4
        have Hll := Lib.hid hll
        clear e4 e5 S S2 S4 hzy hys hll
        go_wp2_with fail
        have M1 := (HS4.out.newMapG keyStr wr.heap.size rfl).newMapG keyStr (wr.heap.size + 1) (by simp)
        have M2 := M1.newAt (logCs S1 k cs1 (.slice none 0 0) wr.heap.size (wr.heap.size + 1)) 83 (wr.heap.size + 1 + 1) (by simp)
        have M3 := (M2.nil rEQ w.heap.size 47).call (Below.refl _ _) (.flds []) (fun q hq => by cases hq) (fun k e => by cases e)
        have M4 : Mem w _ ([.sl rScm S1 l, .mapG keyStr wr.heap.size [], .mapG keyStr (wr.heap.size + 1) []] ++ [.loc (wr.heap.size + 1 + 1) (logCs S1 k cs1 (.slice none 0 0) wr.heap.size (wr.heap.size + 1)) 83, .own rEQ w.heap.size 47 (.slice none 0 0) [], .flds []]) := M3
        have M5 := (M4.perm List.perm_append_comm).perm ((List.perm_append_comm (l₁ := [Chunk.sl rScm S1 l]) (l₂ := [.mapG keyStr wr.heap.size [], .mapG keyStr (wr.heap.size + 1) []])).append_left _)
        rw [← Hn.out]
        go_ret2
        exact .inr ⟨rfl, wr.heap.size + 1 + 1, S1, cs1, wr.heap.size, wr.heap.size + 1, rfl, M5⟩
  · have Hn : Hid (F ≠ 0) := hE
    clear Hcl
    go_wp2_with fail
    go_ret2
    exact .inl ⟨Hn.out, rfl, Hb1.out⟩
end Go.Proofs.YtmlpkejeglpciaaGreatDoor

/- What slices.Backward over shifts hands out, and what handref2.Clock returns. -/
namespace Go.Proofs.YtmlpkejeglpciaaGreatDoor
open Go.RowKit Go.Shelf
attribute [local go_sem] Oper.semAt_some

def back (xs : List Sft) (k : Nat) : List (Nat × Sft) := (List.range k).map fun j => (xs.length - 1 - j, (xs[xs.length - 1 - j]?).getD ⟨0, 0⟩)
end Go.Proofs.YtmlpkejeglpciaaGreatDoor

/- What event.LocalAt, DayAt, Local and Day, and handref2.down and DayOf return. -/
namespace Go.Proofs.YtmlpkejeglpciaaGreatDoor
open Go.RowKit
set_option maxHeartbeats 4000000 in
set_option maxRecDepth 100000 in
theorem local1_any (N : Nat → Prop) (A : Option Addr) (nm : ByteArray) (xs : List Sft) (c Zb Mb k : Nat) (m : Int) (s : Sft) (w : World) (hS : Sl rSft N w A xs) (_hn : xs.length ≤ 1000) (hZ : LV w Zb #[.string nm, .slice A xs.length c] 91) (hM : LV w Mb #[.int .i64 m] 3) (hk : xs[k]? = some s) :
    Calls Tryz.prog 231 #[.int .i64 (k : Int), .pointer (some ⟨Zb, 0, none⟩), .pointer (some ⟨Mb, 0, none⟩)] w fun e w' => e = .returned (.bool (decide (m < s.at'))) ∧ Below w.heap.size w w' := by
  obtain ⟨blk, off, rfl, hblk, c0, c1⟩ := hS.sft k s hk
  have hlt : k < xs.length := (List.getElem?_eq_some_iff.1 hk).1
  have z1 : w.cell? ⟨Zb, 1, none⟩ = some (.slice (some ⟨blk, off, none⟩) xs.length c) := hZ.cell 1 _ rfl
  have m0 : w.cell? ⟨Mb, 0, none⟩ = some (.int .i64 m) := hM.cell 0 _ rfl
  clear hS hZ hM hk c1
  go_enter Tryz.func231, Tryz.ntmps231
  go_wp2_with fail
  go_quiet (fail)
  go_wp2_with fail
  go_ret
  exact ⟨rfl, below_drewN _ _ _⟩
def GivesCut (xs : List Sft) (m : Int) (w : World) (e : Ending) (w' : World) : Prop :=
  ∃ i : Nat, e = .returned (.int .i64 (i : Int)) ∧ i ≤ xs.length ∧ (∀ (p : Nat) (s : Sft), p < i → xs[p]? = some s → s.at' ≤ m) ∧ (∀ (p : Nat) (s : Sft), i ≤ p → xs[p]? = some s → m < s.at') ∧ Below w.heap.size w w'
set_option maxHeartbeats 4000000 in
set_option maxRecDepth 100000 in
theorem search_any (N : Nat → Prop) (A : Option Addr) (nm : ByteArray) (xs : List Sft) (c Zb Mb : Nat) (m : Int) (w : World) (hS : Sl rSft N w A xs) (hz : GoodZ xs) (hZ : LV w Zb #[.string nm, .slice A xs.length c] 91) (hM : LV w Mb #[.int .i64 m] 3) :
    Calls Tryz.prog 230 #[.int .i64 (xs.length : Int), .func (.func 231) #[] #[.pointer (some ⟨Zb, 0, none⟩), .pointer (some ⟨Mb, 0, none⟩)]] w (GivesCut xs m w) := by
  have hn := hz.len
  have Hz := Lib.hid hz
  have HS := Lib.hid hS
  clear hS hz
  go_enter Tryz.func230, Tryz.ntmps230
  go_wp2_with fail
  go_loopw [5, 6] (fun a b wr => ∃ i j : Nat, i ≤ j ∧ j ≤ xs.length ∧ a = .int .i64 i ∧ b = .int .i64 j ∧ (∀ (p : Nat) (s : Sft), p < i → xs[p]? = some s → s.at' ≤ m) ∧ (∀ (p : Nat) (s : Sft), j ≤ p → xs[p]? = some s → m < s.at') ∧ Below w.heap.size w wr) (fun a b _ => (intOf b - intOf a).toNat)
  case atStart => exact ⟨0, xs.length, by omega, by omega, rfl, rfl, (fun p f h => by omega), (fun p f h hp => by rw [List.getElem?_eq_none h] at hp; cases hp), Below.refl _ _⟩
  case round =>
    obtain ⟨i, j, hij, hj, rfl, rfl, hlo, hhi, hbl⟩ := hrel
    have Hlo := Lib.hid hlo
    have Hhi := Lib.hid hhi
    have hsz := hbl.size
    have hZr := LV.kb hZ hbl hZ.lt
    have hMr := LV.kb hM hbl hM.lt
    have HSr := Lib.hid (HS.out.keepB hbl)
    clear hlo hhi hZ hM
    by_cases hlt : i < j
    · obtain ⟨h, hh⟩ : ∃ h : Nat, h = (i + j) / 2 := ⟨_, rfl⟩
      have h1 : i ≤ h := by omega
      have h2 : h < j := by omega
      have eh : ((i : Int) + (j : Int)) / 2 = (h : Int) := by omega
      clear hh
      obtain ⟨s, hs⟩ : ∃ s, xs[h]? = some s := ⟨_, List.getElem?_eq_getElem (by omega)⟩
      have Hs := Lib.hid hs
      have Hc : Hid (Calls Tryz.prog 231 #[.int .i64 (h : Int), .pointer (some ⟨Zb, 0, none⟩), .pointer (some ⟨Mb, 0, none⟩)] wr fun e w' => e = .returned (.bool (decide (m < s.at'))) ∧ Below wr.heap.size wr w') := local1_any N A nm xs c Zb Mb h m s wr HSr.out (by omega) hZr hMr hs
      clear hs HSr hZr hMr
      go_wp2_with fail
      refine (Hc.out).mono ?_
      rintro e w1 ⟨rfl, hl_w1⟩
      have Hb1 : Hid (Below w.heap.size w w1) := hbl.trans (hl_w1.mono hsz)
      clear hl_w1 Hc
      by_cases hc : m < s.at'
      · have hc' : decide (m < s.at') = true := by simpa using hc
        rw [hc']
        have Hl : Hid (∀ (p : Nat) (t : Sft), h ≤ p → xs[p]? = some t → m < t.at') := fun p t hp ht => by
          by_cases hph : p = h
          · subst hph
            rw [Hs.out] at ht
            cases ht
            exact hc
          · have := Hz.out.rise h p s t (by omega) Hs.out ht
            omega
        clear hc hc'
        go_wp2_with fail
        go_roundw
        case rel => exact ⟨i, h, by omega, by omega, rfl, rfl, Hlo.out, Hl.out, Hb1.out⟩
        case measure => simp [intOf]; omega
      · have hc' : decide (m < s.at') = false := by simpa using hc
        rw [hc']
        have Hl : Hid (∀ (p : Nat) (t : Sft), p < h + 1 → xs[p]? = some t → t.at' ≤ m) := fun p t hp ht => by
          by_cases hph : p = h
          · subst hph
            rw [Hs.out] at ht
            cases ht
            omega
          · have := Hz.out.rise p h t s (by omega) ht Hs.out
            omega
        clear hc hc'
        go_wp2_with fail
        go_roundw
        case rel => exact ⟨h + 1, j, by omega, by omega, by go_num, rfl, Hl.out, Hhi.out, Hb1.out⟩
        case measure => simp [intOf]; omega
    · obtain rfl : i = j := by omega
      go_wp2_with fail
      go_ret
      exact ⟨i, rfl, by omega, Hlo.out, Hhi.out, hbl⟩
set_option maxHeartbeats 4000000 in
set_option maxRecDepth 100000 in
theorem localAt_any (N : Nat → Prop) (A : Option Addr) (nm : ByteArray) (xs : List Sft) (c : Nat) (m : Int) (w : World) (hS : Sl rSft N w A xs) (hz : GoodZ xs) (hm : 0 ≤ m ∧ m < 4321440) :
    Calls Tryz.prog 165 #[.agg #[.string nm, .slice A xs.length c], .int .i64 m] w fun e w' => e = .returned (.int .i64 (clk xs m)) ∧ Below w.heap.size w w' := by
  have hn := hz.len
  have Hz := Lib.hid hz
  have Hb0 : Hid (Below w.heap.size w ((w.alloc (.cells #[.string nm, .slice A xs.length c] 91)).alloc (.cells #[.int .i64 m] 3))) := ((Below.refl _ _).alloc (Nat.le_refl _) _).alloc (by simp) _
  have HS0 := Lib.hid (hS.keepB Hb0.out)
  have lvZ := (LV.new w w.heap.size #[.string nm, .slice A xs.length c] 91 rfl).alloc (.cells #[.int .i64 m] 3)
  have lvM := LV.new (w.alloc (.cells #[.string nm, .slice A xs.length c] 91)) (w.heap.size + 1) #[.int .i64 m] 3 (by simp)
  clear hS hz
  go_enter Tryz.func165, Tryz.ntmps165
  go_wp2_with fail
  refine (search_any N A nm xs c w.heap.size (w.heap.size + 1) m _ HS0.out Hz.out lvZ lvM).mono ?_
  rintro e w1 ⟨i, rfl, hi, hlo, hhi, hl1⟩
  have HS1 := Lib.hid (HS0.out.keepB hl1)
  have Hb1 := Lib.hid (Hb0.out.trans (hl1.mono (by simp; omega)))
  have lvZ1 := LV.kb lvZ hl1 lvZ.lt
  have lvM1 := LV.kb lvM hl1 lvM.lt
  have hi0 : i ≠ 0 := by
    rintro rfl
    have hlt : 0 < xs.length := Hz.out.ne
    have hk : xs[0]? = some xs[0] := List.getElem?_eq_getElem hlt
    have h1 := hhi 0 _ (Nat.le_refl _) hk
    have h2 := Hz.out.zero _ hk
    omega
  obtain ⟨j, rfl⟩ : ∃ j, i = j + 1 := ⟨i - 1, by omega⟩
  obtain ⟨s, hs⟩ : ∃ s, xs[j]? = some s := ⟨_, List.getElem?_eq_getElem (by omega)⟩
  obtain ⟨blk, off, rfl, hblk, c0, c1⟩ := HS1.out.sft j s hs
  have z1 : w1.cell? ⟨w.heap.size, 1, none⟩ = some (.slice (some ⟨blk, off, none⟩) xs.length c) := lvZ1.cell 1 _ rfl
  have m0 : w1.cell? ⟨w.heap.size + 1, 0, none⟩ = some (.int .i64 m) := lvM1.cell 0 _ rfl
  have Hr : Hid (clk xs m = m + s.off) := clk_at xs m j s hs (hlo j s (by omega) hs) (fun p t hp ht => hhi p t (by omega) ht)
  have hoff := (Hz.out.rng s (List.mem_of_getElem? hs)).2
  have hk3 : (j : Int) + 1 - 1 = (j : Int) := by omega
  have hk4 : ((j + 1 : Nat) : Int) - 1 = (j : Int) := by omega
  have hsum : IntKind.i64.wrap (m + s.off) = m + s.off := IntWalk.i64_in _ (by omega)
  clear hlo hhi hl1 hs c0 lvZ1 lvM1 lvZ lvM HS0 HS1 Hb0 hi0
  go_wp2_with fail
  go_quiet (fail)
  go_wp2_with fail
  go_ret
  exact ⟨ret_i Hr.out.symm, Hb1.out.trans (below_drewN _ _ _)⟩
def dayIn (c : Int) : Int := c / 1440
set_option maxHeartbeats 4000000 in
set_option maxRecDepth 100000 in
theorem dayAt_any (N : Nat → Prop) (A : Option Addr) (nm : ByteArray) (xs : List Sft) (c : Nat) (m : Int) (w : World) (hS : Sl rSft N w A xs) (hz : GoodZ xs) (hm : 0 ≤ m ∧ m < 4321440) :
    Calls Tryz.prog 112 #[.agg #[.string nm, .slice A xs.length c], .int .i64 m] w fun e w' => e = .returned (.int .i64 (dayIn (clk xs m))) ∧ Below w.heap.size w w' := by
  have Hb0 : Hid (Below w.heap.size w (w.alloc (.cells #[.string nm, .slice A xs.length c] 91))) := (Below.refl _ _).alloc (Nat.le_refl _) _
  have Hc := Lib.hid (localAt_any N A nm xs c m _ (hS.keepB Hb0.out) hz hm)
  have hle := clk_le xs m (fun s hs => (hz.rng s hs).2)
  generalize clk xs m = cl at *
  have Hr : Hid ((cl + 1440) / 1440 - 1 = dayIn cl) := by
    show _ = _
    unfold dayIn
    omega
  clear hS hz
  go_enter Tryz.func112, Tryz.ntmps112
  go_wp2_with fail
  refine (Hc.out).mono ?_
  rintro e w1 ⟨rfl, hl_w1⟩
  have hz_w1 := hl_w1.size
  have Hb1 := Lib.hid (Hb0.out.trans (hl_w1.mono (by simp)))
  clear Hc hl_w1 hz_w1
  go_wp2_with fail
  go_ret
  exact ⟨ret_i (by rw [← Hr.out]), Hb1.out⟩
def readV (f at' v : Int) : Value := if f ≠ 0 then .tuple #[.int .i64 0, .int .i64 f] else if ¬ (0 ≤ at' ∧ at' ≤ 4321439) then .tuple #[.int .i64 0, .int .i64 1] else .tuple #[.int .i64 v, .int .i64 0]
set_option maxHeartbeats 4000000 in
set_option maxRecDepth 100000 in
theorem day_any (N : Nat → Prop) (A : Option Addr) (nm : ByteArray) (xs : List Sft) (c : Nat) (m : Int) (w : World) (hS : Sl rSft N w A xs) (hnm : nm.size ≤ 1000000000) (hn : xs.length ≤ 1000000000) (hsm : ∀ s ∈ xs, s.small) :
    Calls Tryz.prog 44 #[.agg #[.string nm, .slice A xs.length c], .int .i64 m] w fun e w' => e = .returned (readV (zoneFault nm xs) m (dayIn (clk xs m))) ∧ Below w.heap.size w w' := by
  have Hb0 : Hid (Below w.heap.size w (w.alloc (.cells #[.string nm, .slice A xs.length c] 91))) := (Below.refl _ _).alloc (Nat.le_refl _) _
  have lvZ := LV.new w w.heap.size #[.string nm, .slice A xs.length c] 91 rfl
  have HS := Lib.hid (hS.keepB Hb0.out)
  have Hc := Lib.hid (checkZone_any N A nm xs c _ HS.out hnm hn hsm)
  have Hg : Hid (zoneFault nm xs = 0 → GoodZ xs) := fun h => zone_good h
  clear hS hsm
  generalize zoneFault nm xs = f at *
  obtain ⟨R, HR⟩ : ∃ R, Hid (readV f m (dayIn (clk xs m)) = R) := ⟨_, Lib.hid rfl⟩
  rw [HR.out]
  go_enter Tryz.func44, Tryz.ntmps44
  go_wp2_with fail
  refine (Hc.out).mono ?_
  rintro e w1 ⟨rfl, hl_w1⟩
  have hz_w1 := hl_w1.size
  have Hb1 := Lib.hid (Hb0.out.trans (hl_w1.mono (by simp)))
  have lv1 := LV.kb lvZ hl_w1 lvZ.lt
  have HS1 := Lib.hid (HS.out.keepB hl_w1)
  have z0 : w1.cell? ⟨w.heap.size, 0, none⟩ = some (.string nm) := lv1.cell 0 _ rfl
  have z1 : w1.cell? ⟨w.heap.size, 1, none⟩ = some (.slice A xs.length c) := lv1.cell 1 _ rfl
  clear Hc hl_w1 hz_w1 lvZ lv1 HS
  by_cases hf : f = 0
  · have Hgz := Lib.hid (Hg.out hf)
    subst hf
    clear Hg
    by_cases hm : 0 ≤ m ∧ m ≤ 4321439
    · have em : decide ((0 : Int) ≤ m ∧ m ≤ 4321439) = true := by simpa using hm
      have HR2 : Hid (.tuple #[.int .i64 (dayIn (clk xs m)), .int .i64 0] = R) := by show _ = _; rw [← HR.out, readV, if_neg (by simp), if_neg (not_not_intro hm)]
      clear HR
      have Hv : Hid (Calls Tryz.prog _ _ _ _) := Lib.hid (dayAt_any N A nm xs c m w1 HS1.out Hgz.out (by omega))
      generalize dayIn (clk xs m) = v at *
      go_wp2_with fail
      refine (ewithin_any _ _ _ _).mono ?_
      rintro e _ ⟨rfl, rfl⟩
      rw [em]
      go_wp2_with fail
      refine (Hv.out).mono ?_
      rintro e w2 ⟨rfl, hl_w2⟩
      have Hb2 := Lib.hid (Hb1.out.trans (hl_w2.mono Hb1.out.size))
      clear Hv hl_w2
      go_wp2_with fail
      go_ret2
      exact ⟨by rw [← HR2.out]; rfl, Hb2.out⟩
    · have em : decide ((0 : Int) ≤ m ∧ m ≤ 4321439) = false := by simpa using hm
      have HR2 : Hid (.tuple #[.int .i64 0, .int .i64 1] = R) := by show _ = _; rw [← HR.out, readV, if_neg (by simp), if_pos hm]
      clear HR
      go_wp2_with fail
      refine (ewithin_any _ _ _ _).mono ?_
      rintro e _ ⟨rfl, rfl⟩
      rw [em]
      go_wp2_with fail
      go_ret2
      exact ⟨by rw [← HR2.out]; rfl, Hb1.out⟩
  · have e0 : (f != 0) = true := by simpa using hf
    have HR2 : Hid (.tuple #[.int .i64 0, .int .i64 f] = R) := by show _ = _; rw [← HR.out, readV, if_pos hf]
    clear HR hf
    go_wp2_with fail
    go_ret2
    exact ⟨by rw [← HR2.out]; rfl, Hb1.out⟩
end Go.Proofs.YtmlpkejeglpciaaGreatDoor

/- Slices of bytes that a call owns: made, appended to, turned into strings. -/
namespace Go.Proofs.YtmlpkejeglpciaaGreatDoor
open Go.RowKit

theorem u8Info : (Tryz.prog.info? 5).map (fun i => (i.zero, i.size, i.bytes)) = some (some (.int .u8 0), 1, 1) := by kernel_rfl

def OwnB (B : Nat) (v : Value) (l : List UInt8) (w : World) : Prop := w.ownsRow B 5 1 v l.length (Lib.byteCells l)

theorem OwnB.nil (B : Nat) (w : World) : OwnB B (.slice none 0 0) [] w := World.ownsRow_nil _ _ _ _
theorem OwnB.alloc {B : Nat} {v : Value} {l : List UInt8} {w : World} (h : OwnB B v l w) (o : Obj) : OwnB B v l (w.alloc o) := World.ownsRow.alloc h o
theorem OwnB.conv {B : Nat} {v : Value} {l : List UInt8} {w : World} (h : OwnB B v l w) : (convert 63 9 v).run Tryz.prog w = .ok (.string ⟨l.toArray⟩) w := by
  rcases h.2 with ⟨rfl, h0⟩ | ⟨g, cap, cur, rfl, hb, hg, hn, hc, hs, ht⟩
  · have : l = [] := List.length_eq_zero_iff.1 h0
    subst this
    exact run_convert_bytes_nil w 63 5 Tryz.underlying63 Tryz.underlying5 0 0 9 Tryz.underlying9
  · have hc := World.ownsRow.cells h (g := g) rfl
    have := run_convert_bytes_arg w 63 5 Tryz.underlying63 Tryz.underlying5 g 0 l.length cap (l.map fun c => (c.toNat : Int)) (by simp) (fun i hi => by
      have := hc i (.int .u8 l[i].toNat) (by simp [Lib.byteCells, List.getElem?_eq_getElem hi])
      have e : (⟨g, 0, none⟩ : Addr).add i = ⟨g, 0 + i, none⟩ := by unfold Addr.add; split <;> simp_all
      rw [← e, this]
      simp [List.getD, List.getElem?_eq_getElem hi]) 9 Tryz.underlying9
    rw [this]
    simp [strOfNums, List.map_map, Function.comp_def]

section
variable {ops : Array Oper} {rest : List Oper} {o : Oper} {a : Act} {Q : Exit → Act → World → Prop}
theorem app_bytes {w0 : World} {cs : Array Value} (hgd : o.guard = none) (s x : Operand) (ho : o.op = .call { callee := .builtin .append, args := #[s, x], argTypes := #[63, 63] })
    (B : Nat) (v : Value) (l new : List UInt8) (m c : Nat) (hs : a.eval s = v) (hown : OwnB B v l w0) (hx : a.eval x = .slice (some ⟨w0.heap.size, 0, none⟩) m c) (hm : m = new.length) (hcs : cs = (Lib.byteCells new).toArray)
    (hB : B ≤ w0.heap.size) (hlen : l.length + new.length ≤ 1000000000000)
    (h : ∀ v' w', OwnB B v' (l ++ new) w' → w0.grownBy w' v.ownBlock → Below B w0 w' → wpList Tryz.prog ops Q rest (a.put o.dst v') w') : wpList Tryz.prog ops Q (o :: rest) a (w0.alloc (.cells cs 5)) := by
  subst hm hcs
  obtain ⟨i0, hi, hz0, hz1, hz2⟩ := info_parts u8Info
  refine wpList_append_own _ hgd s x 63 ho B 5 i0 (.int .u8 0) 1 1 Tryz.underlying63 hi hz0 hz1 hz2 rfl (by decide) v l.length (Lib.byteCells l) hs (OwnB.alloc hown _) ⟨w0.heap.size, 0, none⟩ new.length c (Lib.byteCells new) hx (by simp [Lib.byteCells]) ?_ ?_ ?_ ?_ ?_ ?_
  · intro j u hj
    have hjl : j < (Lib.byteCells new).length := by
      rcases Nat.lt_or_ge j (Lib.byteCells new).length with h | h
      · exact h
      · rw [List.getElem?_eq_none h] at hj; cases hj
    have e : (⟨w0.heap.size, 0, none⟩ : Addr).add j = ⟨w0.heap.size, j, none⟩ := by unfold Addr.add; split <;> simp_all
    rw [e, World.cell?_alloc_at _ _ _ _ rfl]
    simpa using hj
  · intro u hu
    simp only [Lib.byteCells, List.mem_map] at hu
    obtain ⟨c, _, rfl⟩ := hu
    rfl
  · unfold maxLen; omega
  · omega
  · simp; omega
  · intro v' w' h1 h2 _
    have hg : w0.grownBy w' v.ownBlock := ⟨h2.os, h2.tape, h2.output, by have := h2.size; simp at this; omega, fun k hk hn => by rw [h2.block k (by simp; omega) hn]; exact Below.heap_alloc _ _ _ hk⟩
    refine h v' w' ?_ hg ((Below.refl B w0).grown hg hB (fun k hk => (World.ownsRow.lt hown k hk).1))
    unfold OwnB
    simpa [Lib.byteCells] using h1
end
end Go.Proofs.YtmlpkejeglpciaaGreatDoor

/- What handlaw2.happenings returns: true. -/
namespace Go.Proofs.YtmlpkejeglpciaaGreatDoor
open Go.RowKit
set_option maxHeartbeats 1000000 in
theorem checkEvents_nil (w : World) : Calls Tryz.prog 74 #[.slice none 0 0] w fun e w' => e = .returned (.int .i64 0) ∧ Below w.heap.size w w' := by
  have hmm := @run_makeMap Tryz.prog
  go_enter Tryz.func74, Tryz.ntmps74
  go_wp2_with fail
  go_loopw [13] (fun i wr => i = .int .i64 0 ∧ Below w.heap.size w wr) (fun _ _ => 0)
  case atStart => exact ⟨rfl, (Below.refl _ _).alloc (Nat.le_refl _) _⟩
  case round =>
    obtain ⟨rfl, hbl⟩ := hrel
    go_wp2_with fail
    go_ret
    exact ⟨rfl, hbl⟩
theorem OwnB.len {B : Nat} {v : Value} {l : List UInt8} {w : World} (h : OwnB B v l w) : ∃ A c, v = .slice A l.length c := by
  rcases h.2 with ⟨rfl, h0⟩ | ⟨g, cap, cur, rfl, _⟩
  · exact ⟨none, 0, by rw [h0]⟩
  · exact ⟨_, cap, rfl⟩
set_option maxHeartbeats 1000000 in
theorem varint_zero (P : Nat) (mp : Value) (w : World) (h : LV w P #[.slice none 0 0, mp] 117) : Calls Tryz.prog 75 #[.pointer (some ⟨P, 0, none⟩), .int .i64 0] w
    fun e w' => ∃ v', e = .returned (.tuple #[]) ∧ LV w' P #[v', mp] 117 ∧ OwnB w.heap.size v' [0] w' ∧ Below P w w' := by
  go_enter Tryz.func75, Tryz.ntmps75
  go_wp2_with fail
  go_loopw [1] (fun i wr => i = .int .i64 0 ∧ w = wr) (fun _ _ => 0)
  case atStart => exact ⟨rfl, rfl⟩
  case round =>
    obtain ⟨rfl, rfl⟩ := hrel
    have c0 : w.cell? ⟨P, 0, none⟩ = some (.slice none 0 0) := h.cell 0 _ rfl
    have f0 := h.free 0
    have hlt := h.lt
    go_wp2_with (at_builtin; refine app_bytes (w0 := w) rfl _ _ rfl w.heap.size _ _ [0] _ _ rfl (OwnB.nil w.heap.size w) rfl rfl rfl (Nat.le_refl _) (by simp) ?_; intro v' w2 hb2 hg2 hl2; obtain ⟨A2, k2, rfl⟩ := hb2.len; have h2 := LV.grown (row := none) h hg2 (by simp); have d0 : w2.cell? ⟨P, 0, none⟩ = some (.slice none 0 0) := h2.cell 0 _ rfl; have f2 := h2.free 0)
    have hp := h2.set 0 (.slice A2 1 k2) #[.slice A2 1 k2, mp] rfl
    have ho : OwnB w.heap.size (.slice A2 1 k2) [0] (w2.setCell ⟨P, 0, none⟩ (.slice A2 1 k2)) := ownsRow_setCell_other hb2 (by
      intro e
      have := (World.ownsRow.lt hb2 P e).1
      omega) _
    go_end0
    refine ⟨_, rfl, hp, ho, (hl2.mono (by omega)).trans ⟨rfl, rfl, rfl, by simp [World.setCell], fun k hk => Below.heap_setCell _ _ _ _ (by show k ≠ P; omega)⟩⟩
set_option maxHeartbeats 1000000 in
theorem pack_nil (w : World) : Calls Tryz.prog 25 #[.slice none 0 0] w fun e w' => e = .returned (.tuple #[.string ⟨#[0]⟩, .int .i64 0]) ∧ Below w.heap.size w w' := by
  have hmm := @run_makeMap Tryz.prog
  go_enter Tryz.func25, Tryz.ntmps25
  go_wp2_with fail
  refine (checkEvents_nil w).mono ?_
  rintro e w1 ⟨rfl, hl_w1⟩
  have hz_w1 := hl_w1.size
  have Hb2 : Hid (Below w.heap.size w ((w1.alloc (.map #[] 0)).alloc (.cells #[.slice none 0 0, .map (some w1.heap.size)] 117))) := (hl_w1.alloc hz_w1 _).alloc (by simp; omega) _
  have lv2 := LV.new (w1.alloc (.map #[] 0)) (w1.heap.size + 1) #[.slice none 0 0, .map (some w1.heap.size)] 117 (by simp)
  go_wp2_with fail
  refine (varint_zero _ _ _ lv2).mono ?_
  rintro e w3 ⟨v3, rfl, lv3, ho3, hl3⟩
  have Hb3 := Lib.hid (Hb2.out.trans (hl3.mono (by omega)))
  obtain ⟨A3, k3, rfl⟩ := ho3.len
  have c3 : w3.cell? ⟨w1.heap.size + 1, 0, none⟩ = some (.slice A3 1 k3) := lv3.cell 0 _ rfl
  have hcv : (convert 63 9 (.slice A3 1 k3)).run Tryz.prog w3 = .ok (.string ⟨#[0]⟩) w3 := OwnB.conv ho3
  clear lv2 lv3 ho3 hl3 hl_w1
  go_wp2_with fail
  go_loopw [25] (fun i wr => i = .int .i64 0 ∧ w3 = wr) (fun _ _ => 0)
  case atStart => exact ⟨rfl, rfl⟩
  case round =>
    obtain ⟨rfl, rfl⟩ := hrel
    go_wp2_with fail
    go_ret2
    exact ⟨rfl, Hb3.out⟩
theorem utc_ok : zoneFault ⟨#[117, 116, 99]⟩ [⟨0, 0⟩] = 0 := by decide +kernel
theorem utc_day : readV 0 3000 (dayIn (clk [⟨0, 0⟩] 3000)) = .tuple #[.int .i64 2, .int .i64 0] := by rfl
set_option maxHeartbeats 1000000 in
theorem happenings_any (w : World) : Calls Tryz.prog 10 #[] w fun e w' => e = .returned (.bool true) ∧ Below w.heap.size w w' := by
  have hb0 : Below w.heap.size w (w.alloc (.cells #[.int .i64 0, .int .i64 0] 88)) := (Below.refl _ _).alloc (Nat.le_refl _) _
  obtain ⟨A, c, e, hS⟩ := (Own.lit (N := fun _ => False) (B := w.heap.size) (E := 88) (xs := [⟨0, 0⟩]) flatSft w #[.int .i64 0, .int .i64 0] 1 (Nat.le_refl _) rfl (by omega) rfl rfl).toSl (fun _ _ h => h)
  cases e
  have Hd := Lib.hid (day_any (fun _ => False) _ ⟨#[117, 116, 99]⟩ [⟨0, 0⟩] 1 3000 _ hS (by decide) (by decide) (fun s hs => by rw [List.mem_singleton.1 hs]; exact ⟨by decide, by decide⟩))
  rw [utc_ok, utc_day, List.length_singleton] at Hd
  have Hb0 := Lib.hid hb0
  clear hS hb0
  go_enter Tryz.func10, Tryz.ntmps10
  go_wp2_with fail
  refine (Hd.out).mono ?_
  rintro e w1 ⟨rfl, hl_w1⟩
  have hz_w1 := hl_w1.size
  have Hb1 := Lib.hid (Hb0.out.trans (hl_w1.mono (by simp)))
  clear Hd hl_w1 hz_w1
  go_wp2_with fail
  refine (pack_nil w1).mono ?_
  rintro e w2 ⟨rfl, hl_w2⟩
  have hz_w2 := hl_w2.size
  have Hb2 := Lib.hid (Hb1.out.trans (hl_w2.mono Hb1.out.size))
  clear hl_w2 hz_w2
  go_wp2_with fail
  go_ret
  exact ⟨rfl, Hb2.out⟩
end Go.Proofs.YtmlpkejeglpciaaGreatDoor

/- The law LogFollows walked: it returns true, and nothing that was there has turned. -/
namespace Go.Proofs.YtmlpkejeglpciaaGreatDoor
open Go Go.RowKit
set_option maxHeartbeats 8000000 in
set_option maxRecDepth 100000 in
theorem logFollows_any (v : Value) (w : World) (hv : IntsIn v w) (hT : Tabs w) (hM : MaxL w) (hN : Names w) (hE : ENames w) (hP : Pool w) :
    Calls Tryz.prog 3 #[v] w fun e w' => e = .returned (.bool true) ∧ Below w.heap.size w w' := by
  obtain ⟨va, vn, vc, rfl⟩ : ∃ a n c, v = .slice a n c := by
    rcases hv with ⟨a, c, rfl⟩ | ⟨k, off, len, cap, rfl, _⟩
    · exact ⟨_, _, _, rfl⟩
    · exact ⟨_, _, _, rfl⟩
  have g0 := G.start (Strm.start hv)
  clear hv
  obtain ⟨b, hb⟩ : ∃ b, b = w.heap.size := ⟨_, rfl⟩
  have hPn : 2 ≠ b := by rw [hb]; exact Nat.ne_of_lt hP.lt
  have hNn : 1 ≠ b := by rw [hb]; exact Nat.ne_of_lt hN.lt
  have hEn : 0 ≠ b := by rw [hb]; exact Nat.ne_of_lt hE.lt
  have hb0 : Below b w (w.alloc (.cells #[.slice va vn vc, .int .i64 0] 25)) := by rw [hb]; exact (Below.refl _ _).alloc (Nat.le_refl _) _
  have Hb0 := Lib.hid hb0
  have HTM : Hid (∀ w', Below b w w' → Tabs w' ∧ MaxL w') := fun w' h => by rw [hb] at h; exact ⟨Utf8Tabs_below hT h, hM.below h⟩
  have HP := Lib.hid (hP.keep (b := b) ((SK.refl _ w).alloc (.cells #[.slice va vn vc, .int .i64 0] 25)) hPn)
  have HN := Lib.hid (hN.keep (b := b) ((SK.refl _ w).alloc (.cells #[.slice va vn vc, .int .i64 0] 25)) hNn)
  have HE := Lib.hid (hE.keep (b := b) ((SK.refl _ w).alloc (.cells #[.slice va vn vc, .int .i64 0] 25)) hEn)
  rw [← hb] at g0
  have hw0 : b ≤ (w.alloc (.cells #[.slice va vn vc, .int .i64 0] 25)).heap.size := by simp; omega
  have S : St b 0 _ _ [] := St.start g0.s
  have Hbw := Lib.hid hb
  clear hP hM hN hE hT hb0 g0
  go_enter Tryz.func3, Tryz.ntmps3
  go_upto_region 2 with fail
  rw [← hb]
  clear hb
  generalize w.alloc (.cells #[.slice va vn vc, .int .i64 0] 25) = w1 at *
  have HTS : Hid (∀ m w', G b m w1 w' → b ≤ w'.heap.size ∧ Below b w w') := fun m w' h => ⟨Nat.le_trans hw0 h.size, Hb0.out.trans (h.k.below (Nat.le_refl _) hw0)⟩
  have HSc := Lib.hid (fun m wx (h : G b m w1 wx) (hm : m ≤ 1000000) => schemas_any b m wx h.s (by omega) (HN.out.keep h.k hNn) hNn (HE.out.keep h.k hEn))
  have HEv := Lib.hid (fun m (A : Option Addr) (l : List Scm) (c : Nat) (id : ByteArray) (at' : Int) wx (h : G b m w1 wx) (hm : m ≤ 6000000) (hid : id.size ≤ 1000) (hS : Sl rScm (Off b) wx A l) (hsm : ScmSm l) => eventFor_any b m A l c id at' wx h.s (by omega) hid (HN.out.keep h.k hNn) hNn (HE.out.keep h.k hEn) hEn (HP.out.keep h.k hPn) hPn hS hsm)
  have HTW : Hid (∀ m w', G b m w1 w' → Tabs w' ∧ MaxL w') := fun m w' h => HTM.out w' (HTS.out m w' h).2
  clear HN HP HE hNn hPn hEn hw0 HTM
  go_wp2_with fail
  refine (HSc.out _ _ S.g (by omega)).mono ?_
  rintro e w2 ⟨v0, l, rfl, hsm, T⟩
  obtain ⟨A, c, rfl, S3⟩ := (S.join T).frz 0 rfl
  replace S : St b 200 w1 w2 [.sl rScm A l] := S3.mono (by omega)
  have Hsm := Lib.hid hsm
  clear T S3 hsm
  have Hne := Lib.hid (new_log A l c w2 ((S.slc 0 rfl).mono (fun _ _ h => h.elim)) Hsm.out (fun s hs => Nat.le_trans (Hsm.out.nl s hs) (by decide)))
  go_wp2_with fail
  refine (Hne.out).mono ?_
  rintro e w4 (⟨hF, rfl, hb4⟩ | ⟨hF, X, K, ck, AT, GN, rfl, T4⟩)
  · obtain ⟨F, hFF⟩ : ∃ F, scmsFault l = F := ⟨_, rfl⟩
    rw [hFF] at hF ⊢
    have S4 := S.below hb4
    have Hrf := Lib.hid (refSchemas_any (fun _ => False) A l c w4 ((S4.slc 0 rfl).mono (fun _ _ h => h.elim)) Hsm.out.ok)
    rw [hFF] at Hrf
    have HF := Lib.hid hF
    clear hb4 Hne S hFF hF
    go_wp2_with fail
    refine (Hrf.out).mono ?_
    rintro e w5 ⟨rfl, hb5⟩
    have S5 := S4.below hb5
    have Hbw5 := Lib.hid (HTS.out _ _ S5.g)
    have hF0 := HF.out
    clear hb5 S4 S5 Hrf
    go_wp2_with fail
    refine (happenings_any w5).mono ?_
    rintro e w6 ⟨rfl, hl6⟩
    go_wp2_with fail
    go_ret
    refine ⟨rfl, ?_⟩
    have hfin := Hbw5.out.2.trans (hl6.mono Hbw5.out.1)
    rw [show b = w.heap.size from Hbw.out] at hfin
    exact hfin
  · have Hrz : Hid (scmsFault l = 0) := hF
    have hBX : w2.heap.size ≤ X := (T4.ge 0 rfl).1
    obtain ⟨wb, _, M, back⟩ := S.viaMem
    have S4 : St b 200 w1 w4 (logP X K l.length ck (.slice none 0 0) w2.heap.size [] AT [] GN [.mapG keyStr GN [], .sl rScm K l, .sl rScm A l]) := (back _ _ (M.join T4)).perm List.perm_append_comm
    have Hrf := Lib.hid (refSchemas_any (fun _ => False) A l c w4 ((S4.slc 6 rfl).mono (fun _ _ h => h.elim)) Hsm.out.ok)
    rw [hF] at Hrf
    clear back M T4 Hne S hF
    go_wp2_with fail
    refine (Hrf.out).mono ?_
    rintro e w5 ⟨rfl, hb5⟩
    have S5 := S4.below hb5
    clear hb5 S4 Hrf
    obtain ⟨Y, hY⟩ : ∃ Y, Y = w5.heap.size := ⟨_, rfl⟩
    have S6 := (S5.newAt (rlgCs A l.length c (.slice none 0 0) (.slice none 0 0)) 39 Y hY)
    clear S5
    go_wp2_with fail
    rw [← hY]
    clear hY
    generalize World.alloc _ _ = w6 at S6 ⊢
    have A1 := S6.nil rEQ Y 47
    have A2 := A1.call (G.start A1.g.s) (.flds []) (fun q hq => by cases hq) (fun k e => by cases e)
    have A3 := A2.nil rStr Y 9
    have S7 : St b 200 w1 w6 (lgsP X K l.length ck (.slice none 0 0) w2.heap.size [] AT [] GN [] Y A c (.slice none 0 0) Y [] [] (.slice none 0 0) Y [] [.sl rScm K l, .sl rScm A l]) := A3.perm (perm_end _ _ _ _ _ _ _ _ _ _ _)
    clear S6 A1 A2 A3
    refine (range_any b _ _ _ _ S7.g.s (by omega) (by omega) (by omega) (by omega)).mono ?_
    rintro e w7 ⟨many, m_lo, m_hi, rfl, hk7, hs7⟩
    obtain ⟨n, rfl⟩ := Int.eq_ofNat_of_zero_le (by omega : 0 ≤ many)
    have S8 := S7.step hk7 hs7
    have hn20 : n ≤ 20 := by omega
    clear S7 hk7 hs7 m_lo m_hi
    have Hfi := Lib.hid (fill_any b _ n w1 w7 [.sl rScm K l, .sl rScm A l] X l K ck w2.heap.size AT GN Y A c Y Y 0 1 S8 rfl rfl Hsm.out Hrz.out hBX (Nat.le_refl _) (Nat.le_refl _) hn20 (by omega) HTW (fun m' wx id at' h hm hid hS => HEv.out m' A l c id at' wx h (by omega) hid hS Hsm.out))
    clear S8
    go_wp2_with fail
    refine (Hfi.out).mono ?_
    rintro e w8 ⟨v9, qs, La, Lg, v2, ps, fs, g2, gn, rfl, _, _, _, _, S9⟩
    have Hbw9 := Lib.hid (HTS.out _ _ S9.g)
    clear S9 Hfi
    go_wp2_with fail
    refine (happenings_any w8).mono ?_
    rintro e w10 ⟨rfl, hl10⟩
    go_wp2_with fail
    go_ret
    refine ⟨rfl, ?_⟩
    have hfin := Hbw9.out.2.trans (hl10.mono Hbw9.out.1)
    rw [show b = w.heap.size from Hbw.out] at hfin
    exact hfin
end Go.Proofs.YtmlpkejeglpciaaGreatDoor
