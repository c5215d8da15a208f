/- Several texts in one: Joining, RefJo, EqPsn, LawTjn. -/
import Derived.Test.YtjlangjhdakmiaaGreatDoorPackX
import Derived.Test.YtjlangjhdakmiaaGreatDoorPackT
import Derived.Test.YtjlangjhdakmiaaGreatDoorPackY
import Derived.Test.YtjlangjhdakmiaaGreatDoorPackN
import Derived.Test.YtjlangjhdakmiaaGreatDoorPackL
/- What person.Joining returns: the ids that join several touches. -/
namespace Go.Proofs.YtjlangjhdakmiaaGreatDoor
open Go Go.RowKit
/-- these are the ids that join several touches, in order -/
def IsJn (r : Rul) (ts : List Tch) (l : List IdV) : Prop := RiseI l ∧ ∀ x, x ∈ l ↔ 2 ≤ (hav ts x).length ∧ joinsP r ts x = true
theorem IsJn.uniq {r : Rul} {ts : List Tch} {l m : List IdV} (h : IsJn r ts l) (g : IsJn r ts m) : l = m := rise_eq h.1 g.1 (fun x => by rw [h.2, g.2])
def GivesJn (r : Rul) (ts : List Tch) (w : World) (e : Ending) (w' : World) : Prop :=
  ∃ (A : Option Addr) (c : Nat) (l : List IdV), e = .returned (.tuple #[.slice A l.length c, .int .i64 (bothF r ts)]) ∧ (bothF r ts ≠ 0 → l = []) ∧ (bothF r ts = 0 → IsJn r ts l) ∧ Mem w w' [.sl rId A l]
def jnB (r : Rul) (ts : List Tch) (q : HQ) : Bool := decide (2 ≤ q.js.length) && joinsP r ts q.x
theorem sorted_rise {l ys : List IdV} (hp : ys.Perm l) (ho : ys.Pairwise (fun a b => cmpId a b ≤ 0)) (hn : l.Nodup) : RiseI ys := by
  have h1 : ys.Nodup := hp.nodup_iff.2 hn
  have h2 : ys.Pairwise (fun a b => cmpId a b ≤ 0 ∧ a ≠ b) := ho.and h1
  refine h2.imp (fun {a b} h => ?_)
  rcases Int.lt_or_eq_of_le h.1 with h6 | h6
  · exact h6
  · exact absurd (cmpId_zero h6) h.2
set_option maxHeartbeats 4000000 in
set_option maxRecDepth 100000 in
theorem joining_any (N : Nat → Prop) (r : Rul) (K W S A : Option Addr) (ck cw cs c : Nat) (ts : List Tch) (w : World) (hR : RulIn N w r K W S) (hT : Sl rTch N w A ts) (hr : RulOk r) (ht : TchsOk ts) (hU : Tabs w) (hM : MaxL w) :
    Calls Tryz.prog 9 #[.agg (ruCs r K ck W cw S cs), .slice A ts.length c] w (GivesJn r ts w) := by
  obtain ⟨Y, hY⟩ : ∃ Y, Y = w.heap.size := ⟨_, rfl⟩
  have T := (Mem.start w).newAt (ruCs r K ck W cw S cs) 29 Y hY
  have Hc := Lib.hid (fun w' (h : Below w.heap.size w w') => checkBoth_any N r K W S A ck cw cs c ts w' (hR.keepB h) (hT.keepB h) hr ht (Utf8Tabs_below hU h) (hM.below h))
  obtain ⟨F, hF⟩ : ∃ F, bothF r ts = F := ⟨_, rfl⟩
  rw [hF] at Hc
  have HF := Lib.hid hF
  have HR := Lib.hid hR
  have HT := Lib.hid hT
  have Hr := Lib.hid hr
  have Hy := Lib.hid hY
  clear hF hR hT hr ht hU hM hY
  go_enter Tryz.func9, Tryz.ntmps9
  go_upto_region 1 with fail
  rw [← Hy.out]
  generalize w.alloc (.cells (ruCs r K ck W cw S cs) 29) = w1 at *
  replace T : Mem w w1 [.loc Y (ruCs r K ck W cw S cs) 29] := T
  have y0 := (T.lv 0 rfl).all
  go_wp2_with fail
  ((with_reducible refine (Hc.out w1 T.b).mono ?_); rintro e w2 ⟨rfl, hl2⟩)
  have T2 := T.below hl2
  have y0 := (T2.lv 0 rfl).all
  clear Hc hl2 T
  by_cases hE : F = 0
  · have Ho : Hid (RtOk r ts) := RtOk.both (HF.out.trans hE) Hr.out
    subst hE
    have Hn := Lib.hid (newGroup_any N r K W S A ck cw cs c ts w2 (HT.out.keepB T2.b) Ho.out.tl (fun t h => (Ho.out.up t h).nodup) Ho.out.il)
    go_wp2_with fail
    ((with_reducible refine (Hn.out).mono ?_); rintro e w3 ⟨G, X, qs, rfl, T3, hH⟩)
    have hG := grp_of T3.b (HR.out.keepB T2.b) (HT.out.keepB T2.b) T3 hH
    have HG := Lib.hid (fun w' (h : Below w3.heap.size w3 w') => hG.keepB h)
    have T4 := T2.below T3.b
    obtain ⟨es, clock, hX, hEs⟩ := hG.m
    have HX : Hid (∀ w', Below w3.heap.size w3 w' → w'.heap[X]? = some (.map es clock)) := fun w' h => (h.block X (Array.getElem?_eq_some_iff.1 hX).1).trans hX
    have HEs := Lib.hid hEs
    have HH := Lib.hid hH
    have z0 := hG.g.all
    obtain ⟨B, hB⟩ : ∃ B, B = w.heap.size := ⟨_, rfl⟩
    have S0 : Mem w3 w3 [] := Mem.start w3
    obtain ⟨hrg, S1⟩ := S0.rangeO hX (T := 82) (k := 43) (e := 22) (by kernel_rfl)
    obtain ⟨Z, hZ⟩ : ∃ Z, Z = w3.heap.size := ⟨_, rfl⟩
    rw [← hZ] at hrg S1
    have Hz := Lib.hid hZ
    have HT4 := Lib.hid T4
    clear Hn T3 hH T2 y0 hG hX hEs S0 hB T4 hZ
    go_wp2_with fail
    clear hrg z0
    obtain ⟨B, hB⟩ : ∃ B, B = w3.heap.size := ⟨_, rfl⟩
    have S2 : Mem w3 _ [.own rId B 43 (.slice none 0 0) [], .iter Z X clock #[] clock] := (S1.nil rId B 43).front
    have Hb := Lib.hid hB
    clear S1 hB
    generalize w3.alloc (.mapIter (some X) clock #[] clock) = w4 at *
    have HR0 : Hid (RngOk keyId es clock #[] (qs.map HQ.kv) [] (qs.map HQ.kv)) := RngOk.start HEs.out
    go_loopw [8, 10] (fun v _ wr => ∃ (seen : Array Nat) (dq : List HQ) (left : List (IdV × Value)) (xs : List IdV) (A8 : Option Addr) (c8 : Nat), v = .slice A8 xs.length c8 ∧ Hid (∀ q ∈ dq, q ∈ qs) ∧ Hid (RngOk keyId es clock seen (qs.map HQ.kv) (dq.map HQ.kv) left) ∧ Hid (xs = (dq.filter (jnB r ts)).map HQ.x) ∧ Mem w3 wr [.own rId B 43 (.slice A8 xs.length c8) xs, .iter Z X clock seen clock]) (fun _ _ wr => iterLeft es Z wr)
    case atStart => exact ⟨#[], [], _, [], none, 0, rfl, (fun q hq => by cases hq), HR0.out, rfl, S2⟩
    case round =>
      clear S2 HR0
      obtain ⟨seen, dq, left, xs, A8, c8, rfl, Hdq, HRg, Hxs, S3⟩ := hrel
      have hsz3 : Hid (iterLeft es Z wr = left.length) := S3.iterSize 1 rfl HRg.out
      have hxl : xs.length ≤ 1000000 := by
        have h1 := HRg.out.perm.length_eq
        have h2 := congrArg List.length Hxs.out
        have h3 := List.length_filter_le (jnB r ts) dq
        have h4 : qs.length ≤ 20000 := qs_len HH.out Ho.out
        simp only [List.length_map, List.length_append] at h1 h2
        omega
      rcases S3.nextO 1 (HX.out wr S3.b) rfl (Nat.le_refl _) HRg.out with ⟨hl0, hp0, hnx⟩ | ⟨pq, left', seen', w5, hpm, hll, hrg, hnx, hen, S5⟩
      · have hnd : (qs.map HQ.x).Nodup := by have := HH.out.1; rw [kl_keys] at this; exact this
        have Hall := Lib.hid (rng_all hnd Hdq.out hp0)
        have Hdn : Hid ((dq.map HQ.x).Nodup) := by
          have h1 := (hp0.map Prod.fst).nodup_iff.2 (by rw [kv_keys]; exact hnd)
          rw [kv_keys] at h1
          exact h1
        have S6 : Mem w3 wr [.own rId B 43 (.slice A8 xs.length c8) xs] := S3.del 1
        have Hs := Lib.hid (sortIdP_any S6 0 rfl hxl)
        clear hp0 hl0 S3 S6 hnd hsz3
        go_wp2_with fail
        ((with_reducible refine (Hs.out).mono ?_); rintro e w6 ⟨rfl, ys, hperm, hord, S7⟩)
        have hnx1 : xs.Nodup := by
          rw [Hxs.out]
          exact Hdn.out.sublist (List.Sublist.map _ List.filter_sublist)
        have HJ : Hid (IsJn r ts ys) := ⟨sorted_rise hperm hord hnx1, fun x => by
          rw [hperm.mem_iff, Hxs.out, List.mem_map]
          constructor
          · rintro ⟨q, hq, rfl⟩
            obtain ⟨h1, h2⟩ := List.mem_filter.1 hq
            unfold jnB at h2
            rw [Bool.and_eq_true, decide_eq_true_eq] at h2
            have h3 := (HH.out.entry (p := (q.x, q.js)) (List.mem_map.2 ⟨q, Hdq.out q h1, rfl⟩)).1
            have h4 : q.js = hav ts q.x := h3
            exact ⟨by rw [← h4]; exact h2.1, h2.2⟩
          · rintro ⟨h1, h2⟩
            obtain ⟨j, hj⟩ := List.exists_mem_of_length_pos (l := hav ts x) (by omega)
            obtain ⟨q, hq, e⟩ := List.mem_map.1 (HH.out.has hj)
            have e1 : q.x = x := congrArg Prod.fst e
            have e2 : q.js = hav ts x := congrArg Prod.snd e
            refine ⟨q, List.mem_filter.2 ⟨Hall.out q hq, ?_⟩, e1⟩
            unfold jnB
            rw [e2, e1, h2, decide_eq_true h1]
            rfl⟩
        have hyl := hperm.length_eq
        obtain ⟨A9, c9, e9, S8⟩ := S7.frz 0 rfl
        have HS8 := Lib.hid (HT4.out.join S8)
        have He9 := Lib.hid e9
        clear Hs hperm hord hnx1 hyl S7 S8 e9
        go_wp2_with fail
        have e10 := He9.out
        exact bodyPost_ret (results_two rfl rfl rfl) rfl ⟨A9, c9, ys, by rw [HF.out]; exact congrArg (fun v => Ending.returned (.tuple #[v, .int .i64 0])) e10, fun h => absurd HF.out h, fun _ => HJ.out, HS8.out.del 0⟩
      · obtain ⟨q, hq, rfl⟩ := rng_mem HRg.out hpm
        obtain ⟨x, Aq, cq, js⟩ := q
        have Hrg : Hid (RngOk keyId es clock seen' (qs.map HQ.kv) ((dq ++ [(⟨x, Aq, cq, js⟩ : HQ)]).map HQ.kv) left') := by
          show RngOk _ _ _ _ _ _ _
          rw [List.map_append]; exact hrg
        have Hll := Lib.hid hll
        have Hdq2 : Hid (∀ q ∈ dq ++ [(⟨x, Aq, cq, js⟩ : HQ)], q ∈ qs) := fun q' hq' => by
          rcases List.mem_append.1 hq' with hq' | hq'
          · exact Hdq.out q' hq'
          · rw [List.mem_singleton.1 hq']; exact hq
        have hnx2 : ∀ ty, (Instr.next (.pointer (some ⟨Z, 0, none⟩)) false ty).run Tryz.prog wr = .ok (.tuple #[.bool true, .agg #[.int .i64 x.k, .string x.t], .slice Aq js.length cq]) w5 := hnx
        have hen2 : (Instr.entry (.pointer (some ⟨Z, 0, none⟩))).run Tryz.prog w5 = .ok (.tuple #[.agg #[.int .i64 x.k, .string x.t], .slice Aq js.length cq]) w5 := hen
        clear hnx hen S3 hpm hll hrg hq
        go_upto_region 9 with fail
        clear hnx2 hen2
        obtain ⟨V, hV⟩ : ∃ V, V = w5.heap.size := ⟨_, rfl⟩
        have S6 : Mem w3 (w5.alloc (.cells #[.int .i64 x.k, .string x.t] 43)) [.loc V #[.int .i64 x.k, .string x.t] 43, .own rId B 43 (.slice A8 xs.length c8) xs, .iter Z X clock seen' clock] := (S5.newAt #[.int .i64 x.k, .string x.t] 43 V hV).front
        rw [← hV]
        clear hV S5
        generalize w5.alloc (.cells #[.int .i64 x.k, .string x.t] 43) = w6 at *
        have y0 := (S6.lv 0 rfl).all
        have hflt : ∀ bb, jnB r ts ⟨x, Aq, cq, js⟩ = bb → ((dq ++ [(⟨x, Aq, cq, js⟩ : HQ)]).filter (jnB r ts)).map HQ.x = if bb = true then xs ++ [x] else xs := fun bb hb => by
          rw [List.filter_append, List.map_append, ← Hxs.out, List.filter_cons, List.filter_nil, hb]
          cases bb <;> simp
        have Hflt := Lib.hid hflt
        clear hflt
        by_cases hlen : 2 ≤ js.length
        · obtain ⟨J, HJ⟩ : ∃ J, Hid (joinsP r ts x = J) := ⟨_, Lib.hid rfl⟩
          have Hj := Lib.hid (joinsG_any N G X r K W S A ck cw cs c ts qs x w6 (HG.out w6 S6.b) Ho.out)
          rw [HJ.out] at Hj
          have Hjn : Hid (jnB r ts ⟨x, Aq, cq, js⟩ = J) := by
            show _ = _
            unfold jnB
            rw [HJ.out, decide_eq_true hlen]
            rfl
          go_wp2_with fail
          ((with_reducible refine (Hj.out).mono ?_); rintro e w7 ⟨rfl, hl7⟩)
          have S7 := S6.below hl7
          have y0 := (S7.lv 0 rfl).all
          clear Hj hl7 S6
          cases J
          · go_wp2_with fail
            go_roundw
            case rel => exact ⟨seen', _, left', xs, A8, c8, rfl, Hdq2.out, Hrg.out, ((Hflt.out false Hjn.out).trans (by rfl)).symm, S7.del 0⟩
            case measure => rw [hsz3.out, S7.iterSize 2 rfl Hrg.out]; have := Hll.out; omega
          · have hsB : B ≤ w7.heap.size := by rw [Hb.out]; exact S7.b.size
            obtain ⟨x2, hx2⟩ : ∃ x2, xs ++ [x] = x2 := ⟨_, rfl⟩
            have Hx2 := Lib.hid hx2
            clear hx2
            go_wp2_with (at_builtin; refine S7.app 1 rfl tyIdP rfl _ _ rfl x 1 rfl rfl rfl (oneIdP x) hsB (by omega) (by decide) ?_; intro v' w8 S8; rw [Hx2.out] at S8; obtain ⟨A9, c9, rfl⟩ := (S8.ow 1 rfl).len)
            go_roundw
            case rel => exact ⟨seen', _, left', x2, A9, c9, rfl, Hdq2.out, Hrg.out, (((Hflt.out true Hjn.out).trans (by rfl)).trans Hx2.out).symm, S8.del 0⟩
            case measure => rw [hsz3.out, S8.iterSize 2 rfl Hrg.out]; have := Hll.out; omega
        · have Hjn : Hid (jnB r ts ⟨x, Aq, cq, js⟩ = false) := by
            show _ = _
            unfold jnB
            rw [decide_eq_false hlen]
            rfl
          go_wp2_with fail
          go_roundw
          case rel => exact ⟨seen', _, left', xs, A8, c8, rfl, Hdq2.out, Hrg.out, ((Hflt.out false Hjn.out).trans (by rfl)).symm, S6.del 0⟩
          case measure => rw [hsz3.out, S6.iterSize 2 rfl Hrg.out]; have := Hll.out; omega
  · go_wp2_with fail
    exact bodyPost_ret (results_two rfl rfl rfl) rfl ⟨none, 0, [], by rw [HF.out]; rfl, fun _ => rfl, fun h => absurd (HF.out.symm.trans h) hE, (T2.del 0).call (Below.refl _ _) _ Sl.nil (fun k e => by cases e)⟩
end Go.Proofs.YtjlangjhdakmiaaGreatDoor

/- What the reference's JoiningOf returns. -/
namespace Go.Proofs.YtjlangjhdakmiaaGreatDoor
open Go Go.RowKit
def GivesJnR (r : Rul) (ts : List Tch) (w : World) (e : Ending) (w' : World) : Prop :=
  ∃ (A : Option Addr) (c : Nat) (l : List IdV), e = .returned (.slice A l.length c) ∧ IsJn r ts l ∧ Mem w w' [.sl rId A l]
theorem zeroBoolE (w : World) : (zeroValue 4).run Tryz.prog w = .ok (.bool false) w := by kernel_rfl
theorem loadAtJ2 {w : World} {X : Nat} {a b c d : Value} (h : LV w X #[a, b, c, d] 29) : (Instr.loadAt 29 (.pointer (some ⟨X, 0, none⟩))).run Tryz.prog w = .ok (.agg #[a, b, c, d]) w := by
  have c0 := h.all
  go_simp
/-- the ids that were met twice, and that join -/
structure JnAt (r : Rul) (ts : List Tch) (q : List (IdV × List Nat)) (xs : List IdV) : Prop where
  nd : xs.Nodup
  mem : ∀ x, x ∈ xs ↔ 2 ≤ ((getG x q).getD []).length ∧ joinsP r ts x = true
theorem JnAt.start (r : Rul) (ts : List Tch) : JnAt r ts [] [] := ⟨by simp, fun x => by simp [getG]⟩
theorem addH_get (L : List (IdV × List Nat)) (k : Nat) (x y : IdV) : ((getG y (addH L k x)).getD []).length = if y = x then ((getG x L).getD []).length + 1 else ((getG y L).getD []).length := by
  unfold addH
  rw [getG_upd]
  by_cases h : y = x
  · rw [if_pos h, if_pos h]; simp
  · rw [if_neg h, if_neg h]
theorem JnAt.hit {r : Rul} {ts : List Tch} {q : List (IdV × List Nat)} {xs : List IdV} {k m : Nat} {l zs : List IdV} (h : JnAt r ts q xs) {x : IdV} (_ : l[m]? = some x) (_ : HavOk ts k zs q) (_ : l.Nodup) (h2 : ((getG x (addH q k x)).getD []).length = 2) (hj : joinsP r ts x = true) : JnAt r ts (addH q k x) (xs ++ [x]) := by
  have h3 := addH_get q k x x
  rw [if_pos rfl, h2] at h3
  have hnx : x ∉ xs := fun e => by
    have := ((h.mem x).1 e).1
    omega
  refine ⟨List.nodup_append.2 ⟨h.nd, by simp, fun a ha b hb e => hnx (by rw [List.mem_singleton.1 hb] at e; rw [← e]; exact ha)⟩, fun y => ?_⟩
  rw [List.mem_append, List.mem_singleton, h.mem y, addH_get]
  by_cases e : y = x
  · subst e
    rw [if_pos rfl]
    exact ⟨fun _ => ⟨by omega, hj⟩, fun _ => .inr rfl⟩
  · rw [if_neg e]
    exact ⟨fun a => a.elim id (fun b => absurd b e), .inl⟩
theorem JnAt.miss {r : Rul} {ts : List Tch} {q : List (IdV × List Nat)} {xs : List IdV} {k m : Nat} {l zs : List IdV} (h : JnAt r ts q xs) {x : IdV} (_ : l[m]? = some x) (_ : HavOk ts k zs q) (_ : l.Nodup) (h2 : ((getG x (addH q k x)).getD []).length ≠ 2 ∨ joinsP r ts x = false) : JnAt r ts (addH q k x) xs := by
  refine ⟨h.nd, fun y => ?_⟩
  rw [h.mem y, addH_get]
  by_cases e : y = x
  · subst e
    rw [if_pos rfl]
    have h3 := addH_get q k y y
    rw [if_pos rfl] at h3
    rcases h2 with h2 | h2
    · rw [h3] at h2
      constructor
      · rintro ⟨a, b⟩; exact ⟨by omega, b⟩
      · rintro ⟨a, b⟩; exact ⟨by omega, b⟩
    · rw [h2]; simp
  · rw [if_neg e]
theorem JnAt.len {r : Rul} {ts : List Tch} {q : List (IdV × List Nat)} {xs : List IdV} {k : Nat} {zs : List IdV} (h : JnAt r ts q xs) (hO : HavOk ts k zs q) (ho : RtOk r ts) : xs.length ≤ 20000 := by
  have hs := sub_len (m := ts.flatMap Tch.ids) h.nd (fun x hx => by
    have h1 := ((h.mem x).1 hx).1
    rw [hO.2 x, some1_getD, List.length_append] at h1
    have h3 : (if x ∈ zs then [k] else []).length ≤ 1 := by split <;> simp
    obtain ⟨j, hj⟩ := List.exists_mem_of_length_pos (l := hav (ts.take k) x) (by omega)
    obtain ⟨t, ht, hx⟩ := hav_mem.1 hj
    exact List.mem_flatMap.2 ⟨t, List.mem_of_mem_take (List.mem_of_getElem? ht), hx⟩)
  have key : ∀ l : List Tch, (∀ t ∈ l, t.ids.length ≤ 10) → (l.flatMap Tch.ids).length ≤ 10 * l.length := by
    intro l
    induction l with
    | nil => intro _; simp
    | cons t r ih =>
      intro hl
      have a1 := ih (fun t ht => hl t (by simp [ht]))
      have a2 := hl t (by simp)
      rw [List.flatMap_cons, List.length_append, List.length_cons, Nat.mul_succ]
      omega
  have := key ts ho.ib
  have := ho.tb
  omega
set_option maxHeartbeats 8000000 in
set_option maxRecDepth 100000 in
theorem refJoining_any (N : Nat → Prop) (r : Rul) (K W S A : Option Addr) (ck cw cs c : Nat) (ts : List Tch) (w : World) (hR : RulIn N w r K W S) (hT : Sl rTch N w A ts) (ho : RtOk r ts) :
    Calls Tryz.prog 13 #[.agg (ruCs r K ck W cw S cs), .slice A ts.length c] w (GivesJnR r ts w) := by
  have HR := Lib.hid (fun w' (h : Below w.heap.size w w') => hR.keepB h)
  have HT := Lib.hid (fun w' (h : Below w.heap.size w w') => hT.keepB h)
  have Ho := Lib.hid ho
  have hl := ho.tl
  have hmm := @run_makeMap Tryz.prog
  obtain ⟨Y, hY⟩ : ∃ Y, Y = w.heap.size := ⟨_, rfl⟩
  obtain ⟨X, hX⟩ : ∃ X, X = w.heap.size + 1 := ⟨_, rfl⟩
  have S0 : Mem w _ [.loc Y (ruCs r K ck W cw S cs) 29, .mapG keyId X []] := ((Mem.start w).newAt (ruCs r K ck W cw S cs) 29 Y hY).newMapG keyId X (by rw [alloc_size]; exact hX)
  have Hy := Lib.hid hY
  have Hx := Lib.hid hX
  clear hR hT ho hY hX
  go_enter Tryz.func13, Tryz.ntmps13
  go_upto_region 3 with fail
  rw [← Hx.out, ← Hy.out]
  clear hmm
  generalize World.alloc _ _ = w1 at S0 ⊢
  obtain ⟨B, hB⟩ : ∃ B, B = w.heap.size := ⟨_, rfl⟩
  have S1 : Mem w w1 (.loc Y (ruCs r K ck W cw S cs) 29 :: .mapG keyId X (([] : List (IdV × List Nat)).map cntV) :: .own rId B 43 (.slice none 0 0) [] :: []) := S0.nil rId B 43
  have Hb := Lib.hid hB
  clear hB S0
  go_wp2_with fail
  go_loopw [6, 14] (fun v i wr => ∃ (k : Nat) (q1 : List (IdV × List Nat)) (xs : List IdV) (A6 : Option Addr) (c6 : Nat), k ≤ ts.length ∧ v = .slice A6 xs.length c6 ∧ i = .int .i64 k ∧ Hid (HavOk ts k [] q1) ∧ Hid (JnAt r ts q1 xs) ∧ Mem w wr (.loc Y (ruCs r K ck W cw S cs) 29 :: .mapG keyId X (q1.map cntV) :: .own rId B 43 (.slice A6 xs.length c6) xs :: [])) (fun _ i _ => ts.length - (intOf i).toNat)
  case atStart => exact ⟨0, [], [], none, 0, Nat.zero_le _, rfl, rfl, HavOk.start ts, JnAt.start r ts, S1⟩
  case round =>
    clear S1
    obtain ⟨k, q0, xs0, A60, c60, hk, rfl, rfl, HO, HJs, S2⟩ := hrel
    by_cases hlt : k < ts.length
    · obtain ⟨t, ht⟩ : ∃ t, ts[k]? = some t := ⟨_, List.getElem?_eq_getElem hlt⟩
      obtain ⟨blk, off, Ai, ci, Af, cf, rfl, hblk, d0, d1, d2, d3, d4, hi, hf⟩ := (HT.out w (Below.refl _ _)).tch k t ht
      have hcl := fun (p : Addr) (hp : p.block < w.heap.size) => S2.b.cell hp
      rw [← hcl _ hblk] at d0 d1 d2 d3 d4
      clear hcl
      have HI := Lib.hid (fun w' (h : Below w.heap.size w w') => hi.keepB h)
      have hil : t.ids.length ≤ 10 := Ho.out.ib t (List.mem_of_getElem? ht)
      have Hnd := Lib.hid ((Ho.out.up t (List.mem_of_getElem? ht)).nodup)
      have Ht := Lib.hid ht
      clear hi hf ht
      go_upto_region 6 with fail
      clear d0 d1 d2 d3 d4
      obtain ⟨U, hU⟩ : ∃ U, U = wr.heap.size := ⟨_, rfl⟩
      have S3 : Mem w _ (.loc U (tcCs t Ai ci Af cf) 64 :: .loc Y (ruCs r K ck W cw S cs) 29 :: .mapG keyId X (q0.map cntV) :: .own rId B 43 (.slice A60 xs0.length c60) xs0 :: []) := (S2.newAt (tcCs t Ai ci Af cf) 64 U hU).front
      rw [← hU]
      clear hU S2
      generalize wr.alloc (.cells (tcCs t Ai ci Af cf) 64) = w4 at *
      have y0 := (S3.lv 0 rfl).all
      go_wp2_with fail
      clear y0
      go_loopw [6, 21] (fun v i wr => ∃ (m : Nat) (q1 : List (IdV × List Nat)) (xs : List IdV) (A6 : Option Addr) (c6 : Nat), m ≤ t.ids.length ∧ v = .slice A6 xs.length c6 ∧ i = .int .i64 m ∧ Hid (HavOk ts k (t.ids.take m) q1) ∧ Hid (JnAt r ts q1 xs) ∧ Mem w wr (.loc U (tcCs t Ai ci Af cf) 64 :: .loc Y (ruCs r K ck W cw S cs) 29 :: .mapG keyId X (q1.map cntV) :: .own rId B 43 (.slice A6 xs.length c6) xs :: [])) (fun _ i _ => t.ids.length - (intOf i).toNat)
      case atStart => exact ⟨0, q0, xs0, A60, c60, Nat.zero_le _, rfl, rfl, HO.out, HJs.out, S3⟩
      case round =>
        clear S3 HO HJs
        obtain ⟨m, q1, xs, A6, c6, hm, rfl, rfl, HO, HJs, S3⟩ := hrel
        have hxl : xs.length ≤ 20000 := HJs.out.len HO.out Ho.out
        by_cases hlt2 : m < t.ids.length
        · obtain ⟨x, hx⟩ : ∃ x, t.ids[m]? = some x := ⟨_, List.getElem?_eq_getElem hlt2⟩
          obtain ⟨ib, io, rfl, hib, c0, c1⟩ := (HI.out wr S3.b).idv m x hx
          have Hxx := Lib.hid hx
          have hvl := addH_len HO.out x
          clear hx
          go_upto_region 9 with fail
          clear c0 c1
          obtain ⟨Z, hZ⟩ : ∃ Z, Z = wr.heap.size := ⟨_, rfl⟩
          have S4 : Mem w _ (.loc Z #[.int .i64 x.k, .string x.t] 43 :: .loc U (tcCs t (some ⟨ib, io, none⟩) ci Af cf) 64 :: .loc Y (ruCs r K ck W cw S cs) 29 :: .mapG keyId X (q1.map cntV) :: .own rId B 43 (.slice A6 xs.length c6) xs :: []) := (S3.newAt #[.int .i64 x.k, .string x.t] 43 Z hZ).front
          rw [← hZ]
          clear hZ S3
          generalize wr.alloc (.cells #[.int .i64 x.k, .string x.t] 43) = w5 at *
          go_upto_region 9 with fail
          refine wp_region_mixT [6] (fun w' => LV w' Z #[.int .i64 x.k, .string x.t] 43) (.p 0 (.q 1 (.e2 2 (.p 3 (.e 4 (.p 5 (.b 6 .z)))) 4 (.p 5 (.e 2 (.p 3 (.b 6 .z))))))) (by kernel_rfl) (by kernel_rfl) (fun w' hd => (S4.below (hd.below _)).lv 0 rfl) (fun KK hKK wd hd => ?_)
          have S5 : Mem w wd (.loc Z #[.int .i64 x.k, .string x.t] 43 :: .loc U (tcCs t (some ⟨ib, io, none⟩) ci Af cf) 64 :: .loc Y (ruCs r K ck W cw S cs) 29 :: .mapG keyId X (q1.map cntV) :: .own rId B 43 (.slice A6 xs.length c6) xs :: []) := S4.below (hd.below _)
          clear hd S4
          repeat ((first | refine mixT_pp rfl (fun K hK => ?_) | refine mixT_p rfl (fun K hK => ?_)); go_simp; (try go_bits); (try simp (disch := omega) only [if_pos]); (try simp (disch := omega) only [if_neg]); (try simp (disch := omega) only [dif_pos]); (try simp (disch := omega) only [dif_neg]); (try go_simp); (refine hK _ ?_; clear hK K))
          refine mixT_loadR (.agg #[.int .i64 x.k, .string x.t]) rfl rfl rfl rfl (fun w' h => loadAtI (h.cell 0 _ rfl) (h.cell 1 _ rfl)) ?_
          go_simp
          refine mixT_2 (mixT_one rfl rfl (fun K9 hK9 => ?_)) (mixT_one rfl rfl (fun K9 hK9 => ?_))
          · refine S5.lookG 3 rfl (T := 94) (E := 3) (by kernel_rfl) zeroIntE rfl _ _ false rfl rfl x rfl ?_
            rw [if_neg (by decide), cnt_zero]
            go_wp2_with fail
            refine ⟨S5.lv 0 rfl, ?_⟩
            have hwr : IntKind.i64.wrap ((((getG x q1).getD []).length : Nat) + 1) = (((getG x q1).getD []).length : Nat) + 1 := IntWalk.i64_in _ (by omega)
            repeat ((first | refine mixT_pp rfl (fun K hK => ?_) | refine mixT_p rfl (fun K hK => ?_)); go_simp; (try go_bits); (try simp (disch := omega) only [if_pos]); (try simp (disch := omega) only [if_neg]); (try simp (disch := omega) only [dif_pos]); (try simp (disch := omega) only [dif_neg]); (try go_simp); (refine hK _ ?_; clear hK K))
            refine mixT_l rfl rfl (fun K9 hK9 => ?_)
            refine S5.entryG (K := keyId) 3 rfl (T := 94) (E := 3) (by kernel_rfl) zeroIntE rfl _ _ rfl rfl x rfl ?_
            intro st w7 S7 _
            have hC7 := S7.lv 0 rfl
            clear S5
            go_wp2_with fail
            refine ⟨hC7, ?_⟩
            clear hC7
            repeat ((first | refine mixT_pp rfl (fun K hK => ?_) | refine mixT_p rfl (fun K hK => ?_)); go_simp; (try go_bits); (try simp (disch := omega) only [if_pos]); (try simp (disch := omega) only [if_neg]); (try simp (disch := omega) only [dif_pos]); (try simp (disch := omega) only [dif_neg]); (try go_simp); (refine hK _ ?_; clear hK K))
            refine mixT_b rfl rfl (fun K9 hK9 => ?_)
            refine S7.estoreG 3 rfl rfl _ _ _ rfl rfl rfl (.int .i64 ((((getG x q1).getD []).length : Nat) + 1)) rfl ?_
            intro w9 S9
            rw [updG_twice, cnt_add] at S9
            have HS9 : Hid (Mem w w9 (.loc Z #[.int .i64 x.k, .string x.t] 43 :: .loc U (tcCs t (some ⟨ib, io, none⟩) ci Af cf) 64 :: .loc Y (ruCs r K ck W cw S cs) 29 :: .mapG keyId X ((addH q1 k x).map cntV) :: .own rId B 43 (.slice A6 xs.length c6) xs :: [])) := S9
            clear S9 S7
            go_wp2_with fail
            refine ⟨trivial, ?_⟩
            refine mixT_nil ?_
            simp only [Exit.then]
            refine hKK _ _ ?_
            clear hKK KK
            have HO2 : Hid (HavOk ts k (t.ids.take (m + 1)) (addH q1 k x)) := by
              show HavOk _ _ _ _
              rw [take_snoc Hxx.out]
              exact HO.out.add (notin_take Hnd.out Hxx.out)
            have Hhx : Hid (hav ts x ≠ []) := fun e => by
              have h1 : k ∈ hav ts x := hav_mem.2 ⟨t, Ht.out, List.mem_of_getElem? Hxx.out⟩
              rw [e] at h1; cases h1
            obtain ⟨cn, hcn⟩ : ∃ cn, ((getG x (addH q1 k x)).getD []).length = cn := ⟨_, rfl⟩
            have Hcn0 := Lib.hid hcn
            have y0 := (HS9.out.lv 0 rfl).all
            go_wp2_with fail
            clear y0
            by_cases h2 : cn = 2
            · subst h2
              have Hcn := Hcn0
              obtain ⟨J, HJ⟩ : ∃ J, Hid (joinsP r ts x = J) := ⟨_, Lib.hid rfl⟩
              cases J
              · refine wp_region_mix (fun w' => LV w' Z #[.int .i64 x.k, .string x.t] 43 ∧ LV w' Y (ruCs r K ck W cw S cs) 29) [(true, 0), (true, 1), (false, 2), (true, 3), (true, 4), (true, 5), (true, 6), (true, 8), (false, 7), (false, 9), (true, 10)] (by kernel_rfl) (by kernel_rfl) (fun w' hd => ⟨(HS9.out.below (hd.below _)).lv 0 rfl, (HS9.out.below (hd.below _)).lv 2 rfl⟩) (fun KK hKK wd hd => ?_)
                have S12 := HS9.out.below (hd.below _)
                have hC : LV wd Z #[.int .i64 x.k, .string x.t] 43 ∧ LV wd Y (ruCs r K ck W cw S cs) 29 := ⟨S12.lv 0 rfl, S12.lv 2 rfl⟩
                clear hd
                repeat (refine mix_p rfl (fun K hK => ?_); go_simp; (try go_bits); (try simp (disch := omega) only [if_pos]); (try simp (disch := omega) only [if_neg]); (try simp (disch := omega) only [dif_pos]); (try simp (disch := omega) only [dif_neg]); (try go_simp); (refine hK _ ?_; clear hK K))
                refine mix_loadG (.agg #[.int .i64 x.k, .string x.t]) rfl (by first | (simp [Region.wanted, go_sem]; done) | simp [Region.wanted, yielded, go_sem]) rfl rfl (fun w' h => loadAtI (h.1.cell 0 _ rfl) (h.1.cell 1 _ rfl)) ?_
                refine mix_l rfl (fun K9 hK9 => ?_) hC
                go_simp
                refine S12.lookG 3 rfl (T := 94) (E := 3) (by kernel_rfl) zeroIntE rfl _ _ false rfl rfl x rfl ?_
                rw [if_neg (by decide), cnt_zero x (addH q1 k x), hcn]
                go_wp2_with fail
                refine ⟨hC, ?_⟩
                repeat (refine mix_p rfl (fun K hK => ?_); go_simp; (try go_bits); (try simp (disch := omega) only [if_pos]); (try simp (disch := omega) only [if_neg]); (try simp (disch := omega) only [dif_pos]); (try simp (disch := omega) only [dif_neg]); (try go_simp); (refine hK _ ?_; clear hK K))
                refine mix_loadG (.agg (ruCs r K ck W cw S cs)) rfl (by first | (simp [Region.wanted, go_sem]; done) | simp [Region.wanted, yielded, go_sem]) rfl rfl (fun w' h => loadAtJ2 h.2) ?_
                repeat (refine mix_p rfl (fun K hK => ?_); go_simp; (try go_bits); (try simp (disch := omega) only [if_pos]); (try simp (disch := omega) only [if_neg]); (try simp (disch := omega) only [dif_pos]); (try simp (disch := omega) only [dif_neg]); (try go_simp); (refine hK _ ?_; clear hK K))
                refine mix_loadG (.agg #[.int .i64 x.k, .string x.t]) rfl (by first | (simp [Region.wanted, go_sem]; done) | simp [Region.wanted, yielded, go_sem]) rfl rfl (fun w' h => loadAtI (h.1.cell 0 _ rfl) (h.1.cell 1 _ rfl)) ?_
                refine mix_l rfl (fun K9 hK9 => ?_) hC
                have Hq9 := Lib.hid (refJoins_any N r K W S (some ⟨blk, off, none⟩) ck cw cs c ts wd (HR.out wd S12.b) (HT.out wd S12.b) Ho.out)
                go_wp2_with fail
                ((with_reducible refine (Hq9.out).mono ?_); rintro e w12 ⟨X3, L3, rfl, hL3, T13⟩)
                have S13 : Mem w w12 (.loc Z #[.int .i64 x.k, .string x.t] 43 :: .loc U (tcCs t (some ⟨ib, io, none⟩) ci Af cf) 64 :: .loc Y (ruCs r K ck W cw S cs) 29 :: .mapG keyId X ((addH q1 k x).map cntV) :: .own rId B 43 (.slice A6 xs.length c6) xs :: .mapG keyId X3 L3 :: []) := S12.join T13
                have hC13 : LV w12 Z #[.int .i64 x.k, .string x.t] 43 ∧ LV w12 Y (ruCs r K ck W cw S cs) 29 := ⟨S13.lv 0 rfl, S13.lv 2 rfl⟩
                have hlk3 : (getG x L3).getD (.bool false) = .bool false := by
                  rw [hL3 x, if_neg Hhx.out, HJ.out]
                  rfl
                clear Hq9 T13 S12 hC hL3
                go_wp2_with fail
                refine ⟨hC13, ?_⟩
                have hlk : (Instr.lookup 95 (.map (some X3)) (.agg #[.int .i64 x.k, .string x.t]) false).run Tryz.prog w12 = .ok (.bool false) w12 := by
                  have h1 := look_g (K := keyId) (T := 95) (E := 4) (S13.ok (.mapG keyId X3 L3) (List.mem_of_getElem? (i := 5) rfl)) (by kernel_rfl) (zeroBoolE w12) x false
                  rw [if_neg (by decide), hlk3] at h1
                  exact h1
                clear hlk3
                refine mix_l rfl (fun K9 hK9 => ?_) hC13
                go_wp2_with fail
                refine ⟨hC13, ?_⟩
                clear hC13 hlk
                repeat (refine mix_p rfl (fun K hK => ?_); go_simp; (try go_bits); (try simp (disch := omega) only [if_pos]); (try simp (disch := omega) only [if_neg]); (try simp (disch := omega) only [dif_pos]); (try simp (disch := omega) only [dif_neg]); (try go_simp); (refine hK _ ?_; clear hK K))
                refine mix_nil ?_
                simp only [Exit.then]
                refine hKK _ _ ?_
                clear hKK KK
                have S14 : Mem w w12 (.loc Z #[.int .i64 x.k, .string x.t] 43 :: .loc U (tcCs t (some ⟨ib, io, none⟩) ci Af cf) 64 :: .loc Y (ruCs r K ck W cw S cs) 29 :: .mapG keyId X ((addH q1 k x).map cntV) :: .own rId B 43 (.slice A6 xs.length c6) xs :: []) := S13.del 5
                clear S13
                have HJs2 := Lib.hid (HJs.out.miss Hxx.out HO.out Hnd.out (.inr HJ.out))
                have S16 : Mem w _ (.loc U (tcCs t (some ⟨ib, io, none⟩) ci Af cf) 64 :: .loc Y (ruCs r K ck W cw S cs) 29 :: .mapG keyId X ((addH q1 k x).map cntV) :: .own rId B 43 (.slice A6 xs.length c6) xs :: []) := S14.del 0
                go_wp2_with fail
                go_roundw
                case rel => exact ⟨m + 1, addH q1 k x, xs, A6, c6, by omega, rfl, by go_num, HO2.out, HJs2.out, S16⟩
                case measure => simp [intOf]; omega
              · refine wp_region_mix (fun w' => LV w' Z #[.int .i64 x.k, .string x.t] 43 ∧ LV w' Y (ruCs r K ck W cw S cs) 29) [(true, 0), (true, 1), (false, 2), (true, 3), (true, 4), (true, 5), (true, 6), (true, 8), (false, 7), (false, 9), (true, 10)] (by kernel_rfl) (by kernel_rfl) (fun w' hd => ⟨(HS9.out.below (hd.below _)).lv 0 rfl, (HS9.out.below (hd.below _)).lv 2 rfl⟩) (fun KK hKK wd hd => ?_)
                have S12 := HS9.out.below (hd.below _)
                have hC : LV wd Z #[.int .i64 x.k, .string x.t] 43 ∧ LV wd Y (ruCs r K ck W cw S cs) 29 := ⟨S12.lv 0 rfl, S12.lv 2 rfl⟩
                clear hd
                repeat (refine mix_p rfl (fun K hK => ?_); go_simp; (try go_bits); (try simp (disch := omega) only [if_pos]); (try simp (disch := omega) only [if_neg]); (try simp (disch := omega) only [dif_pos]); (try simp (disch := omega) only [dif_neg]); (try go_simp); (refine hK _ ?_; clear hK K))
                refine mix_loadG (.agg #[.int .i64 x.k, .string x.t]) rfl (by first | (simp [Region.wanted, go_sem]; done) | simp [Region.wanted, yielded, go_sem]) rfl rfl (fun w' h => loadAtI (h.1.cell 0 _ rfl) (h.1.cell 1 _ rfl)) ?_
                refine mix_l rfl (fun K9 hK9 => ?_) hC
                go_simp
                refine S12.lookG 3 rfl (T := 94) (E := 3) (by kernel_rfl) zeroIntE rfl _ _ false rfl rfl x rfl ?_
                rw [if_neg (by decide), cnt_zero x (addH q1 k x), hcn]
                go_wp2_with fail
                refine ⟨hC, ?_⟩
                repeat (refine mix_p rfl (fun K hK => ?_); go_simp; (try go_bits); (try simp (disch := omega) only [if_pos]); (try simp (disch := omega) only [if_neg]); (try simp (disch := omega) only [dif_pos]); (try simp (disch := omega) only [dif_neg]); (try go_simp); (refine hK _ ?_; clear hK K))
                refine mix_loadG (.agg (ruCs r K ck W cw S cs)) rfl (by first | (simp [Region.wanted, go_sem]; done) | simp [Region.wanted, yielded, go_sem]) rfl rfl (fun w' h => loadAtJ2 h.2) ?_
                repeat (refine mix_p rfl (fun K hK => ?_); go_simp; (try go_bits); (try simp (disch := omega) only [if_pos]); (try simp (disch := omega) only [if_neg]); (try simp (disch := omega) only [dif_pos]); (try simp (disch := omega) only [dif_neg]); (try go_simp); (refine hK _ ?_; clear hK K))
                refine mix_loadG (.agg #[.int .i64 x.k, .string x.t]) rfl (by first | (simp [Region.wanted, go_sem]; done) | simp [Region.wanted, yielded, go_sem]) rfl rfl (fun w' h => loadAtI (h.1.cell 0 _ rfl) (h.1.cell 1 _ rfl)) ?_
                refine mix_l rfl (fun K9 hK9 => ?_) hC
                have Hq9 := Lib.hid (refJoins_any N r K W S (some ⟨blk, off, none⟩) ck cw cs c ts wd (HR.out wd S12.b) (HT.out wd S12.b) Ho.out)
                go_wp2_with fail
                ((with_reducible refine (Hq9.out).mono ?_); rintro e w12 ⟨X3, L3, rfl, hL3, T13⟩)
                have S13 : Mem w w12 (.loc Z #[.int .i64 x.k, .string x.t] 43 :: .loc U (tcCs t (some ⟨ib, io, none⟩) ci Af cf) 64 :: .loc Y (ruCs r K ck W cw S cs) 29 :: .mapG keyId X ((addH q1 k x).map cntV) :: .own rId B 43 (.slice A6 xs.length c6) xs :: .mapG keyId X3 L3 :: []) := S12.join T13
                have hC13 : LV w12 Z #[.int .i64 x.k, .string x.t] 43 ∧ LV w12 Y (ruCs r K ck W cw S cs) 29 := ⟨S13.lv 0 rfl, S13.lv 2 rfl⟩
                have hlk3 : (getG x L3).getD (.bool false) = .bool true := by
                  rw [hL3 x, if_neg Hhx.out, HJ.out]
                  rfl
                clear Hq9 T13 S12 hC hL3
                go_wp2_with fail
                refine ⟨hC13, ?_⟩
                have hlk : (Instr.lookup 95 (.map (some X3)) (.agg #[.int .i64 x.k, .string x.t]) false).run Tryz.prog w12 = .ok (.bool true) w12 := by
                  have h1 := look_g (K := keyId) (T := 95) (E := 4) (S13.ok (.mapG keyId X3 L3) (List.mem_of_getElem? (i := 5) rfl)) (by kernel_rfl) (zeroBoolE w12) x false
                  rw [if_neg (by decide), hlk3] at h1
                  exact h1
                clear hlk3
                refine mix_l rfl (fun K9 hK9 => ?_) hC13
                go_wp2_with fail
                refine ⟨hC13, ?_⟩
                clear hC13 hlk
                repeat (refine mix_p rfl (fun K hK => ?_); go_simp; (try go_bits); (try simp (disch := omega) only [if_pos]); (try simp (disch := omega) only [if_neg]); (try simp (disch := omega) only [dif_pos]); (try simp (disch := omega) only [dif_neg]); (try go_simp); (refine hK _ ?_; clear hK K))
                refine mix_nil ?_
                simp only [Exit.then]
                refine hKK _ _ ?_
                clear hKK KK
                have S14 : Mem w w12 (.loc Z #[.int .i64 x.k, .string x.t] 43 :: .loc U (tcCs t (some ⟨ib, io, none⟩) ci Af cf) 64 :: .loc Y (ruCs r K ck W cw S cs) 29 :: .mapG keyId X ((addH q1 k x).map cntV) :: .own rId B 43 (.slice A6 xs.length c6) xs :: []) := S13.del 5
                clear S13
                have y0 := (S14.lv 0 rfl).all
                have hsB : B ≤ w12.heap.size := by rw [Hb.out]; exact S14.b.size
                obtain ⟨x2, hx2⟩ : ∃ x2, xs ++ [x] = x2 := ⟨_, rfl⟩
                have Hx2 := Lib.hid hx2
                clear hx2
                go_wp2_with (at_builtin; refine S14.app 4 rfl tyIdP rfl _ _ rfl x 1 rfl rfl rfl (oneIdP x) hsB (by omega) (by decide) ?_; intro v' w15 S15; rw [Hx2.out] at S15; obtain ⟨A9, c9, rfl⟩ := (S15.ow 4 rfl).len)
                have hjs := HJs.out.hit Hxx.out HO.out Hnd.out Hcn.out HJ.out
                rw [Hx2.out] at hjs
                have HJs2 := Lib.hid hjs
                have S16 : Mem w w15 (.loc U (tcCs t (some ⟨ib, io, none⟩) ci Af cf) 64 :: .loc Y (ruCs r K ck W cw S cs) 29 :: .mapG keyId X ((addH q1 k x).map cntV) :: .own rId B 43 (.slice A9 x2.length c9) x2 :: []) := S15.del 0
                go_roundw
                case rel => exact ⟨m + 1, addH q1 k x, x2, A9, c9, by omega, rfl, by go_num, HO2.out, HJs2.out, S16⟩
                case measure => simp [intOf]; omega
            · have Hne : Hid (((getG x (addH q1 k x)).getD []).length ≠ 2) := by show _ ≠ _; rw [Hcn0.out]; exact h2
              have hd2 : ((cn : Int) == 2) = false := by simp; omega
              refine wp_region_mix (fun w' => LV w' Z #[.int .i64 x.k, .string x.t] 43 ∧ LV w' Y (ruCs r K ck W cw S cs) 29) [(true, 0), (true, 1), (false, 2), (true, 3), (true, 4), (true, 5), (true, 6), (true, 8), (false, 7), (false, 9), (true, 10)] (by kernel_rfl) (by kernel_rfl) (fun w' hd => ⟨(HS9.out.below (hd.below _)).lv 0 rfl, (HS9.out.below (hd.below _)).lv 2 rfl⟩) (fun KK hKK wd hd => ?_)
              have S12 := HS9.out.below (hd.below _)
              have hC : LV wd Z #[.int .i64 x.k, .string x.t] 43 ∧ LV wd Y (ruCs r K ck W cw S cs) 29 := ⟨S12.lv 0 rfl, S12.lv 2 rfl⟩
              clear hd
              repeat (refine mix_p rfl (fun K hK => ?_); go_simp; (try go_bits); (try simp (disch := omega) only [if_pos]); (try simp (disch := omega) only [if_neg]); (try simp (disch := omega) only [dif_pos]); (try simp (disch := omega) only [dif_neg]); (try go_simp); (refine hK _ ?_; clear hK K))
              refine mix_loadG (.agg #[.int .i64 x.k, .string x.t]) rfl (by first | (simp [Region.wanted, go_sem]; done) | simp [Region.wanted, yielded, go_sem]) rfl rfl (fun w' h => loadAtI (h.1.cell 0 _ rfl) (h.1.cell 1 _ rfl)) ?_
              refine mix_l rfl (fun K9 hK9 => ?_) hC
              go_simp
              refine S12.lookG 3 rfl (T := 94) (E := 3) (by kernel_rfl) zeroIntE rfl _ _ false rfl rfl x rfl ?_
              rw [if_neg (by decide), cnt_zero x (addH q1 k x), hcn]
              go_wp2_with fail
              refine ⟨hC, ?_⟩
              repeat (refine mix_p rfl (fun K hK => ?_); go_simp; (try go_bits); (try simp (disch := omega) only [if_pos]); (try simp (disch := omega) only [if_neg]); (try simp (disch := omega) only [dif_pos]); (try simp (disch := omega) only [dif_neg]); (try go_simp); (refine hK _ ?_; clear hK K))
              refine mix_l rfl (fun K9 hK9 => ?_) hC
              go_wp2_with fail
              refine ⟨hC, ?_⟩
              refine mix_l rfl (fun K9 hK9 => ?_) hC
              go_wp2_with fail
              refine ⟨hC, ?_⟩
              repeat (refine mix_p rfl (fun K hK => ?_); go_simp; (try go_bits); (try simp (disch := omega) only [if_pos]); (try simp (disch := omega) only [if_neg]); (try simp (disch := omega) only [dif_pos]); (try simp (disch := omega) only [dif_neg]); (try go_simp); (refine hK _ ?_; clear hK K))
              refine mix_nil ?_
              simp only [Exit.then]
              refine hKK _ _ ?_
              clear hKK KK hC
              have S14 := S12
              clear S12
              have HJs2 := Lib.hid (HJs.out.miss Hxx.out HO.out Hnd.out (.inl Hne.out))
              have S16 : Mem w _ (.loc U (tcCs t (some ⟨ib, io, none⟩) ci Af cf) 64 :: .loc Y (ruCs r K ck W cw S cs) 29 :: .mapG keyId X ((addH q1 k x).map cntV) :: .own rId B 43 (.slice A6 xs.length c6) xs :: []) := S14.del 0
              go_wp2_with fail
              go_roundw
              case rel => exact ⟨m + 1, addH q1 k x, xs, A6, c6, by omega, rfl, by go_num, HO2.out, HJs2.out, S16⟩
              case measure => simp [intOf]; omega
          · refine S5.entryG (K := keyId) 3 rfl (T := 94) (E := 3) (by kernel_rfl) zeroIntE rfl _ _ rfl rfl x rfl ?_
            intro st w7 S7 _
            have hC7 := S7.lv 0 rfl
            clear S5
            go_wp2_with fail
            refine ⟨hC7, ?_⟩
            repeat ((first | refine mixT_pp rfl (fun K hK => ?_) | refine mixT_p rfl (fun K hK => ?_)); go_simp; (try go_bits); (try simp (disch := omega) only [if_pos]); (try simp (disch := omega) only [if_neg]); (try simp (disch := omega) only [dif_pos]); (try simp (disch := omega) only [dif_neg]); (try go_simp); (refine hK _ ?_; clear hK K))
            refine mixT_l rfl rfl (fun K9 hK9 => ?_)
            refine S7.lookE 3 rfl (T := 94) (E := 3) (by kernel_rfl) zeroIntE rfl _ _ false rfl rfl x rfl ?_
            rw [if_neg (by decide), getG_upd, if_pos rfl, Option.getD_some, cnt_zero]
            have hwr : IntKind.i64.wrap ((((getG x q1).getD []).length : Nat) + 1) = (((getG x q1).getD []).length : Nat) + 1 := IntWalk.i64_in _ (by omega)
            go_wp2_with fail
            refine ⟨hC7, ?_⟩
            clear hC7
            repeat ((first | refine mixT_pp rfl (fun K hK => ?_) | refine mixT_p rfl (fun K hK => ?_)); go_simp; (try go_bits); (try simp (disch := omega) only [if_pos]); (try simp (disch := omega) only [if_neg]); (try simp (disch := omega) only [dif_pos]); (try simp (disch := omega) only [dif_neg]); (try go_simp); (refine hK _ ?_; clear hK K))
            refine mixT_b rfl rfl (fun K9 hK9 => ?_)
            refine S7.estoreG 3 rfl rfl _ _ _ rfl rfl rfl (.int .i64 ((((getG x q1).getD []).length : Nat) + 1)) rfl ?_
            intro w9 S9
            rw [updG_twice, cnt_add] at S9
            have HS9 : Hid (Mem w w9 (.loc Z #[.int .i64 x.k, .string x.t] 43 :: .loc U (tcCs t (some ⟨ib, io, none⟩) ci Af cf) 64 :: .loc Y (ruCs r K ck W cw S cs) 29 :: .mapG keyId X ((addH q1 k x).map cntV) :: .own rId B 43 (.slice A6 xs.length c6) xs :: [])) := S9
            clear S9 S7
            go_wp2_with fail
            refine ⟨trivial, ?_⟩
            refine mixT_nil ?_
            simp only [Exit.then]
            refine hKK _ _ ?_
            clear hKK KK
            have HO2 : Hid (HavOk ts k (t.ids.take (m + 1)) (addH q1 k x)) := by
              show HavOk _ _ _ _
              rw [take_snoc Hxx.out]
              exact HO.out.add (notin_take Hnd.out Hxx.out)
            have Hhx : Hid (hav ts x ≠ []) := fun e => by
              have h1 : k ∈ hav ts x := hav_mem.2 ⟨t, Ht.out, List.mem_of_getElem? Hxx.out⟩
              rw [e] at h1; cases h1
            obtain ⟨cn, hcn⟩ : ∃ cn, ((getG x (addH q1 k x)).getD []).length = cn := ⟨_, rfl⟩
            have Hcn0 := Lib.hid hcn
            have y0 := (HS9.out.lv 0 rfl).all
            go_wp2_with fail
            clear y0
            by_cases h2 : cn = 2
            · subst h2
              have Hcn := Hcn0
              obtain ⟨J, HJ⟩ : ∃ J, Hid (joinsP r ts x = J) := ⟨_, Lib.hid rfl⟩
              cases J
              · refine wp_region_mix (fun w' => LV w' Z #[.int .i64 x.k, .string x.t] 43 ∧ LV w' Y (ruCs r K ck W cw S cs) 29) [(true, 0), (true, 1), (false, 2), (true, 3), (true, 4), (true, 5), (true, 6), (true, 8), (false, 7), (false, 9), (true, 10)] (by kernel_rfl) (by kernel_rfl) (fun w' hd => ⟨(HS9.out.below (hd.below _)).lv 0 rfl, (HS9.out.below (hd.below _)).lv 2 rfl⟩) (fun KK hKK wd hd => ?_)
                have S12 := HS9.out.below (hd.below _)
                have hC : LV wd Z #[.int .i64 x.k, .string x.t] 43 ∧ LV wd Y (ruCs r K ck W cw S cs) 29 := ⟨S12.lv 0 rfl, S12.lv 2 rfl⟩
                clear hd
                repeat (refine mix_p rfl (fun K hK => ?_); go_simp; (try go_bits); (try simp (disch := omega) only [if_pos]); (try simp (disch := omega) only [if_neg]); (try simp (disch := omega) only [dif_pos]); (try simp (disch := omega) only [dif_neg]); (try go_simp); (refine hK _ ?_; clear hK K))
                refine mix_loadG (.agg #[.int .i64 x.k, .string x.t]) rfl (by first | (simp [Region.wanted, go_sem]; done) | simp [Region.wanted, yielded, go_sem]) rfl rfl (fun w' h => loadAtI (h.1.cell 0 _ rfl) (h.1.cell 1 _ rfl)) ?_
                refine mix_l rfl (fun K9 hK9 => ?_) hC
                go_simp
                refine S12.lookG 3 rfl (T := 94) (E := 3) (by kernel_rfl) zeroIntE rfl _ _ false rfl rfl x rfl ?_
                rw [if_neg (by decide), cnt_zero x (addH q1 k x), hcn]
                go_wp2_with fail
                refine ⟨hC, ?_⟩
                repeat (refine mix_p rfl (fun K hK => ?_); go_simp; (try go_bits); (try simp (disch := omega) only [if_pos]); (try simp (disch := omega) only [if_neg]); (try simp (disch := omega) only [dif_pos]); (try simp (disch := omega) only [dif_neg]); (try go_simp); (refine hK _ ?_; clear hK K))
                refine mix_loadG (.agg (ruCs r K ck W cw S cs)) rfl (by first | (simp [Region.wanted, go_sem]; done) | simp [Region.wanted, yielded, go_sem]) rfl rfl (fun w' h => loadAtJ2 h.2) ?_
                repeat (refine mix_p rfl (fun K hK => ?_); go_simp; (try go_bits); (try simp (disch := omega) only [if_pos]); (try simp (disch := omega) only [if_neg]); (try simp (disch := omega) only [dif_pos]); (try simp (disch := omega) only [dif_neg]); (try go_simp); (refine hK _ ?_; clear hK K))
                refine mix_loadG (.agg #[.int .i64 x.k, .string x.t]) rfl (by first | (simp [Region.wanted, go_sem]; done) | simp [Region.wanted, yielded, go_sem]) rfl rfl (fun w' h => loadAtI (h.1.cell 0 _ rfl) (h.1.cell 1 _ rfl)) ?_
                refine mix_l rfl (fun K9 hK9 => ?_) hC
                have Hq9 := Lib.hid (refJoins_any N r K W S (some ⟨blk, off, none⟩) ck cw cs c ts wd (HR.out wd S12.b) (HT.out wd S12.b) Ho.out)
                go_wp2_with fail
                ((with_reducible refine (Hq9.out).mono ?_); rintro e w12 ⟨X3, L3, rfl, hL3, T13⟩)
                have S13 : Mem w w12 (.loc Z #[.int .i64 x.k, .string x.t] 43 :: .loc U (tcCs t (some ⟨ib, io, none⟩) ci Af cf) 64 :: .loc Y (ruCs r K ck W cw S cs) 29 :: .mapG keyId X ((addH q1 k x).map cntV) :: .own rId B 43 (.slice A6 xs.length c6) xs :: .mapG keyId X3 L3 :: []) := S12.join T13
                have hC13 : LV w12 Z #[.int .i64 x.k, .string x.t] 43 ∧ LV w12 Y (ruCs r K ck W cw S cs) 29 := ⟨S13.lv 0 rfl, S13.lv 2 rfl⟩
                have hlk3 : (getG x L3).getD (.bool false) = .bool false := by
                  rw [hL3 x, if_neg Hhx.out, HJ.out]
                  rfl
                clear Hq9 T13 S12 hC hL3
                go_wp2_with fail
                refine ⟨hC13, ?_⟩
                have hlk : (Instr.lookup 95 (.map (some X3)) (.agg #[.int .i64 x.k, .string x.t]) false).run Tryz.prog w12 = .ok (.bool false) w12 := by
                  have h1 := look_g (K := keyId) (T := 95) (E := 4) (S13.ok (.mapG keyId X3 L3) (List.mem_of_getElem? (i := 5) rfl)) (by kernel_rfl) (zeroBoolE w12) x false
                  rw [if_neg (by decide), hlk3] at h1
                  exact h1
                clear hlk3
                refine mix_l rfl (fun K9 hK9 => ?_) hC13
                go_wp2_with fail
                refine ⟨hC13, ?_⟩
                clear hC13 hlk
                repeat (refine mix_p rfl (fun K hK => ?_); go_simp; (try go_bits); (try simp (disch := omega) only [if_pos]); (try simp (disch := omega) only [if_neg]); (try simp (disch := omega) only [dif_pos]); (try simp (disch := omega) only [dif_neg]); (try go_simp); (refine hK _ ?_; clear hK K))
                refine mix_nil ?_
                simp only [Exit.then]
                refine hKK _ _ ?_
                clear hKK KK
                have S14 : Mem w w12 (.loc Z #[.int .i64 x.k, .string x.t] 43 :: .loc U (tcCs t (some ⟨ib, io, none⟩) ci Af cf) 64 :: .loc Y (ruCs r K ck W cw S cs) 29 :: .mapG keyId X ((addH q1 k x).map cntV) :: .own rId B 43 (.slice A6 xs.length c6) xs :: []) := S13.del 5
                clear S13
                have HJs2 := Lib.hid (HJs.out.miss Hxx.out HO.out Hnd.out (.inr HJ.out))
                have S16 : Mem w _ (.loc U (tcCs t (some ⟨ib, io, none⟩) ci Af cf) 64 :: .loc Y (ruCs r K ck W cw S cs) 29 :: .mapG keyId X ((addH q1 k x).map cntV) :: .own rId B 43 (.slice A6 xs.length c6) xs :: []) := S14.del 0
                go_wp2_with fail
                go_roundw
                case rel => exact ⟨m + 1, addH q1 k x, xs, A6, c6, by omega, rfl, by go_num, HO2.out, HJs2.out, S16⟩
                case measure => simp [intOf]; omega
              · refine wp_region_mix (fun w' => LV w' Z #[.int .i64 x.k, .string x.t] 43 ∧ LV w' Y (ruCs r K ck W cw S cs) 29) [(true, 0), (true, 1), (false, 2), (true, 3), (true, 4), (true, 5), (true, 6), (true, 8), (false, 7), (false, 9), (true, 10)] (by kernel_rfl) (by kernel_rfl) (fun w' hd => ⟨(HS9.out.below (hd.below _)).lv 0 rfl, (HS9.out.below (hd.below _)).lv 2 rfl⟩) (fun KK hKK wd hd => ?_)
                have S12 := HS9.out.below (hd.below _)
                have hC : LV wd Z #[.int .i64 x.k, .string x.t] 43 ∧ LV wd Y (ruCs r K ck W cw S cs) 29 := ⟨S12.lv 0 rfl, S12.lv 2 rfl⟩
                clear hd
                repeat (refine mix_p rfl (fun K hK => ?_); go_simp; (try go_bits); (try simp (disch := omega) only [if_pos]); (try simp (disch := omega) only [if_neg]); (try simp (disch := omega) only [dif_pos]); (try simp (disch := omega) only [dif_neg]); (try go_simp); (refine hK _ ?_; clear hK K))
                refine mix_loadG (.agg #[.int .i64 x.k, .string x.t]) rfl (by first | (simp [Region.wanted, go_sem]; done) | simp [Region.wanted, yielded, go_sem]) rfl rfl (fun w' h => loadAtI (h.1.cell 0 _ rfl) (h.1.cell 1 _ rfl)) ?_
                refine mix_l rfl (fun K9 hK9 => ?_) hC
                go_simp
                refine S12.lookG 3 rfl (T := 94) (E := 3) (by kernel_rfl) zeroIntE rfl _ _ false rfl rfl x rfl ?_
                rw [if_neg (by decide), cnt_zero x (addH q1 k x), hcn]
                go_wp2_with fail
                refine ⟨hC, ?_⟩
                repeat (refine mix_p rfl (fun K hK => ?_); go_simp; (try go_bits); (try simp (disch := omega) only [if_pos]); (try simp (disch := omega) only [if_neg]); (try simp (disch := omega) only [dif_pos]); (try simp (disch := omega) only [dif_neg]); (try go_simp); (refine hK _ ?_; clear hK K))
                refine mix_loadG (.agg (ruCs r K ck W cw S cs)) rfl (by first | (simp [Region.wanted, go_sem]; done) | simp [Region.wanted, yielded, go_sem]) rfl rfl (fun w' h => loadAtJ2 h.2) ?_
                repeat (refine mix_p rfl (fun K hK => ?_); go_simp; (try go_bits); (try simp (disch := omega) only [if_pos]); (try simp (disch := omega) only [if_neg]); (try simp (disch := omega) only [dif_pos]); (try simp (disch := omega) only [dif_neg]); (try go_simp); (refine hK _ ?_; clear hK K))
                refine mix_loadG (.agg #[.int .i64 x.k, .string x.t]) rfl (by first | (simp [Region.wanted, go_sem]; done) | simp [Region.wanted, yielded, go_sem]) rfl rfl (fun w' h => loadAtI (h.1.cell 0 _ rfl) (h.1.cell 1 _ rfl)) ?_
                refine mix_l rfl (fun K9 hK9 => ?_) hC
                have Hq9 := Lib.hid (refJoins_any N r K W S (some ⟨blk, off, none⟩) ck cw cs c ts wd (HR.out wd S12.b) (HT.out wd S12.b) Ho.out)
                go_wp2_with fail
                ((with_reducible refine (Hq9.out).mono ?_); rintro e w12 ⟨X3, L3, rfl, hL3, T13⟩)
                have S13 : Mem w w12 (.loc Z #[.int .i64 x.k, .string x.t] 43 :: .loc U (tcCs t (some ⟨ib, io, none⟩) ci Af cf) 64 :: .loc Y (ruCs r K ck W cw S cs) 29 :: .mapG keyId X ((addH q1 k x).map cntV) :: .own rId B 43 (.slice A6 xs.length c6) xs :: .mapG keyId X3 L3 :: []) := S12.join T13
                have hC13 : LV w12 Z #[.int .i64 x.k, .string x.t] 43 ∧ LV w12 Y (ruCs r K ck W cw S cs) 29 := ⟨S13.lv 0 rfl, S13.lv 2 rfl⟩
                have hlk3 : (getG x L3).getD (.bool false) = .bool true := by
                  rw [hL3 x, if_neg Hhx.out, HJ.out]
                  rfl
                clear Hq9 T13 S12 hC hL3
                go_wp2_with fail
                refine ⟨hC13, ?_⟩
                have hlk : (Instr.lookup 95 (.map (some X3)) (.agg #[.int .i64 x.k, .string x.t]) false).run Tryz.prog w12 = .ok (.bool true) w12 := by
                  have h1 := look_g (K := keyId) (T := 95) (E := 4) (S13.ok (.mapG keyId X3 L3) (List.mem_of_getElem? (i := 5) rfl)) (by kernel_rfl) (zeroBoolE w12) x false
                  rw [if_neg (by decide), hlk3] at h1
                  exact h1
                clear hlk3
                refine mix_l rfl (fun K9 hK9 => ?_) hC13
                go_wp2_with fail
                refine ⟨hC13, ?_⟩
                clear hC13 hlk
                repeat (refine mix_p rfl (fun K hK => ?_); go_simp; (try go_bits); (try simp (disch := omega) only [if_pos]); (try simp (disch := omega) only [if_neg]); (try simp (disch := omega) only [dif_pos]); (try simp (disch := omega) only [dif_neg]); (try go_simp); (refine hK _ ?_; clear hK K))
                refine mix_nil ?_
                simp only [Exit.then]
                refine hKK _ _ ?_
                clear hKK KK
                have S14 : Mem w w12 (.loc Z #[.int .i64 x.k, .string x.t] 43 :: .loc U (tcCs t (some ⟨ib, io, none⟩) ci Af cf) 64 :: .loc Y (ruCs r K ck W cw S cs) 29 :: .mapG keyId X ((addH q1 k x).map cntV) :: .own rId B 43 (.slice A6 xs.length c6) xs :: []) := S13.del 5
                clear S13
                have y0 := (S14.lv 0 rfl).all
                have hsB : B ≤ w12.heap.size := by rw [Hb.out]; exact S14.b.size
                obtain ⟨x2, hx2⟩ : ∃ x2, xs ++ [x] = x2 := ⟨_, rfl⟩
                have Hx2 := Lib.hid hx2
                clear hx2
                go_wp2_with (at_builtin; refine S14.app 4 rfl tyIdP rfl _ _ rfl x 1 rfl rfl rfl (oneIdP x) hsB (by omega) (by decide) ?_; intro v' w15 S15; rw [Hx2.out] at S15; obtain ⟨A9, c9, rfl⟩ := (S15.ow 4 rfl).len)
                have hjs := HJs.out.hit Hxx.out HO.out Hnd.out Hcn.out HJ.out
                rw [Hx2.out] at hjs
                have HJs2 := Lib.hid hjs
                have S16 : Mem w w15 (.loc U (tcCs t (some ⟨ib, io, none⟩) ci Af cf) 64 :: .loc Y (ruCs r K ck W cw S cs) 29 :: .mapG keyId X ((addH q1 k x).map cntV) :: .own rId B 43 (.slice A9 x2.length c9) x2 :: []) := S15.del 0
                go_roundw
                case rel => exact ⟨m + 1, addH q1 k x, x2, A9, c9, by omega, rfl, by go_num, HO2.out, HJs2.out, S16⟩
                case measure => simp [intOf]; omega
            · have Hne : Hid (((getG x (addH q1 k x)).getD []).length ≠ 2) := by show _ ≠ _; rw [Hcn0.out]; exact h2
              have hd2 : ((cn : Int) == 2) = false := by simp; omega
              refine wp_region_mix (fun w' => LV w' Z #[.int .i64 x.k, .string x.t] 43 ∧ LV w' Y (ruCs r K ck W cw S cs) 29) [(true, 0), (true, 1), (false, 2), (true, 3), (true, 4), (true, 5), (true, 6), (true, 8), (false, 7), (false, 9), (true, 10)] (by kernel_rfl) (by kernel_rfl) (fun w' hd => ⟨(HS9.out.below (hd.below _)).lv 0 rfl, (HS9.out.below (hd.below _)).lv 2 rfl⟩) (fun KK hKK wd hd => ?_)
              have S12 := HS9.out.below (hd.below _)
              have hC : LV wd Z #[.int .i64 x.k, .string x.t] 43 ∧ LV wd Y (ruCs r K ck W cw S cs) 29 := ⟨S12.lv 0 rfl, S12.lv 2 rfl⟩
              clear hd
              repeat (refine mix_p rfl (fun K hK => ?_); go_simp; (try go_bits); (try simp (disch := omega) only [if_pos]); (try simp (disch := omega) only [if_neg]); (try simp (disch := omega) only [dif_pos]); (try simp (disch := omega) only [dif_neg]); (try go_simp); (refine hK _ ?_; clear hK K))
              refine mix_loadG (.agg #[.int .i64 x.k, .string x.t]) rfl (by first | (simp [Region.wanted, go_sem]; done) | simp [Region.wanted, yielded, go_sem]) rfl rfl (fun w' h => loadAtI (h.1.cell 0 _ rfl) (h.1.cell 1 _ rfl)) ?_
              refine mix_l rfl (fun K9 hK9 => ?_) hC
              go_simp
              refine S12.lookG 3 rfl (T := 94) (E := 3) (by kernel_rfl) zeroIntE rfl _ _ false rfl rfl x rfl ?_
              rw [if_neg (by decide), cnt_zero x (addH q1 k x), hcn]
              go_wp2_with fail
              refine ⟨hC, ?_⟩
              repeat (refine mix_p rfl (fun K hK => ?_); go_simp; (try go_bits); (try simp (disch := omega) only [if_pos]); (try simp (disch := omega) only [if_neg]); (try simp (disch := omega) only [dif_pos]); (try simp (disch := omega) only [dif_neg]); (try go_simp); (refine hK _ ?_; clear hK K))
              refine mix_l rfl (fun K9 hK9 => ?_) hC
              go_wp2_with fail
              refine ⟨hC, ?_⟩
              refine mix_l rfl (fun K9 hK9 => ?_) hC
              go_wp2_with fail
              refine ⟨hC, ?_⟩
              repeat (refine mix_p rfl (fun K hK => ?_); go_simp; (try go_bits); (try simp (disch := omega) only [if_pos]); (try simp (disch := omega) only [if_neg]); (try simp (disch := omega) only [dif_pos]); (try simp (disch := omega) only [dif_neg]); (try go_simp); (refine hK _ ?_; clear hK K))
              refine mix_nil ?_
              simp only [Exit.then]
              refine hKK _ _ ?_
              clear hKK KK hC
              have S14 := S12
              clear S12
              have HJs2 := Lib.hid (HJs.out.miss Hxx.out HO.out Hnd.out (.inl Hne.out))
              have S16 : Mem w _ (.loc U (tcCs t (some ⟨ib, io, none⟩) ci Af cf) 64 :: .loc Y (ruCs r K ck W cw S cs) 29 :: .mapG keyId X ((addH q1 k x).map cntV) :: .own rId B 43 (.slice A6 xs.length c6) xs :: []) := S14.del 0
              go_wp2_with fail
              go_roundw
              case rel => exact ⟨m + 1, addH q1 k x, xs, A6, c6, by omega, rfl, by go_num, HO2.out, HJs2.out, S16⟩
              case measure => simp [intOf]; omega
        · obtain rfl : m = t.ids.length := by omega
          have HO2 : Hid (HavOk ts (k + 1) [] q1) := HavOk.next Ht.out (by have := HO.out; rw [List.take_length] at this; exact this)
          have S9 := S3.del 0
          clear S3 HO
          go_wp2_with fail
          go_roundw
          case rel => exact ⟨k + 1, q1, xs, A6, c6, by omega, rfl, by go_num, HO2.out, HJs.out, S9⟩
          case measure => simp [intOf]; omega
    · obtain rfl : k = ts.length := by omega
      have S6 : Mem w wr [.own rId B 43 (.slice A60 xs0.length c60) xs0] := (S2.del 1).del 0
      have hxl : xs0.length ≤ 1000000 := by have := HJs.out.len HO.out Ho.out; omega
      have Hs := Lib.hid (sortIdR_any S6 0 rfl hxl)
      clear S2 S6
      go_wp2_with fail
      ((with_reducible refine (Hs.out).mono ?_); rintro e w6 ⟨rfl, ys, hperm, hord, S7⟩)
      have HJ : Hid (IsJn r ts ys) := ⟨sorted_rise hperm hord HJs.out.nd, fun x => by
        rw [hperm.mem_iff, HJs.out.mem x]
        have h2 := HO.out.2 x
        rw [List.take_length] at h2
        simp only [List.not_mem_nil, if_false, List.append_nil] at h2
        rw [h2, some1_getD]⟩
      obtain ⟨A9, c9, e9, S8⟩ := S7.frz 0 rfl
      have HS8 := Lib.hid S8
      have He9 := Lib.hid e9
      clear Hs hperm hord S7 S8 e9
      go_wp2_with fail
      go_ret
      exact ⟨A9, c9, ys, congrArg Ending.returned He9.out, HJ.out, HS8.out⟩
end Go.Proofs.YtjlangjhdakmiaaGreatDoor

/- slices.EqualFunc of the same persons. -/
namespace Go.Proofs.YtjlangjhdakmiaaGreatDoor
open Go Go.RowKit
set_option maxHeartbeats 4000000 in
set_option maxRecDepth 100000 in
theorem eqPersons_any (N : Nat → Prop) (P : List Psn) (A A2 : Option Addr) (c c2 : Nat) (w : World) (h1 : Sl rPsn N w A P) (h2 : Sl rPsn N w A2 P) (hl : P.length ≤ 1000000) (hs : ∀ p ∈ P, p.tch.length ≤ 1000000 ∧ p.ids.length ≤ 1000000) :
    Calls Tryz.prog 14 #[.slice A P.length c, .slice A2 P.length c2, .func (.func 16) #[] #[]] w fun e w' => e = .returned (.bool true) ∧ Below w.heap.size w w' := by
  have H1 := Lib.hid h1
  have H2 := Lib.hid h2
  have Hs := Lib.hid hs
  clear h1 h2 hs
  go_enter Tryz.func14, Tryz.ntmps14
  go_wp2_with fail
  go_loopw [17] (fun i wr => ∃ j : Nat, j ≤ P.length ∧ i = .int .i64 j ∧ Below w.heap.size w wr) (fun i _ => P.length - (intOf i).toNat)
  case atStart => exact ⟨0, Nat.zero_le _, rfl, Below.refl _ _⟩
  case round =>
    obtain ⟨j, hj, rfl, hb⟩ := hrel
    by_cases hlt : j < P.length
    · obtain ⟨p, hp⟩ : ∃ p, P[j]? = some p := ⟨_, List.getElem?_eq_getElem hlt⟩
      obtain ⟨b1, o1, At, at', Ai, ai, rfl, hb1, c0, c1, c2, c3, s1, s2⟩ := (H1.out.keepB hb).psn j p hp
      obtain ⟨b2, o2, Bt, bt, Bi, bi, rfl, hb2, d0, d1, d2, d3, s3, s4⟩ := (H2.out.keepB hb).psn j p hp
      have hps := Hs.out p (List.mem_of_getElem? hp)
      have Hc := Lib.hid (fun w' (h : Below wr.heap.size wr w') => samePerson_any N p At Bt at' bt Ai Bi ai bi w' (s1.keepB h) (s3.keepB h) (s2.keepB h) (s4.keepB h) hps.1 hps.2)
      clear hp s1 s2 s3 s4 hps
      obtain ⟨X, hX⟩ : ∃ X, X = wr.heap.size := ⟨_, rfl⟩
      have S1 := (Mem.start wr).newAt (psCs p At at' Ai ai) 47 X hX
      go_upto_region 6 with fail
      have S : Mem wr _ [.loc X (psCs p At at' Ai ai) 47, .loc (X + 1) (psCs p Bt bt Bi bi) 47] := S1.newAt (psCs p Bt bt Bi bi) 47 (X + 1) (by rw [hX, World.size_alloc])
      go_upto_region 7 with fail
      rw [← hX]
      clear hX S1 c0 c1 c2 c3 d0 d1 d2 d3
      generalize (wr.alloc (.cells (psCs p At at' Ai ai) 47)).alloc (.cells (psCs p Bt bt Bi bi) 47) = w2 at *
      have l0 := (S.lv 0 rfl).all
      have l1 := (S.lv 1 rfl).all
      go_wp2_with fail
      ((with_reducible refine (Hc.out _ S.b).mono ?_); rintro e w3 ⟨rfl, hb3⟩)
      replace S := S.below hb3
      have hbb : Below w.heap.size w w3 := hb.trans (S.b.mono hb.size)
      clear l0 l1 hb3 S
      go_wp2_with fail
      go_roundw
      case rel => exact ⟨j + 1, by omega, by go_num, hbb⟩
      case measure => simp [intOf]; omega
    · go_wp2_with fail
      go_ret
      exact ⟨rfl, hb⟩
end Go.Proofs.YtjlangjhdakmiaaGreatDoor

/- The law TouchJoins walked: it returns true, and nothing that was there has turned. -/
namespace Go.Proofs.YtjlangjhdakmiaaGreatDoor
open Go Go.RowKit
theorem flat_ids : ∀ (l : List Tch), (∀ t ∈ l, t.ids.length ≤ 10) → (l.flatMap Tch.ids).length ≤ 10 * l.length
  | [], _ => by simp
  | t :: r, h => by
    have h1 := flat_ids r (fun x hx => h x (List.mem_cons_of_mem _ hx))
    have h2 := h t (List.mem_cons_self ..)
    rw [List.flatMap_cons, List.length_append, List.length_cons]
    omega
theorem isJn_small {r : Rul} {ts : List Tch} {l : List IdV} (h : RtOk r ts) (hl : IsJn r ts l) : l.length ≤ 1000000 := by
  have h1 := sub_len (m := ts.flatMap Tch.ids) hl.1.nodup (fun x hx => by
    obtain ⟨h2, _⟩ := (hl.2 x).1 hx
    obtain ⟨j, hj⟩ : ∃ j, j ∈ hav ts x := List.exists_mem_of_length_pos (by omega)
    obtain ⟨t, ht, hm⟩ := hav_mem.1 hj
    exact List.mem_flatMap.2 ⟨t, List.mem_of_getElem? ht, hm⟩)
  have h2 := flat_ids ts h.ib
  have h3 := h.tb
  omega
set_option maxHeartbeats 8000000 in
set_option maxRecDepth 100000 in
theorem touchJoins_any (v : Value) (w : World) (hv : IntsIn v w) (hT : Tabs w) (hM : MaxL w) (hN : Names w) (hP : Pool w) :
    Calls Tryz.prog 3 #[v] w fun e w' => e = .returned (.bool true) ∧ Below w.heap.size w w' := by
  obtain ⟨va, vn, vc, rfl⟩ : ∃ a n c, v = .slice a n c := by
    rcases hv with ⟨a, c, rfl⟩ | ⟨k, off, len, cap, rfl, _⟩
    · exact ⟨_, _, _, rfl⟩
    · exact ⟨_, _, _, rfl⟩
  have g0 := G.start (Strm.start hv)
  clear hv
  have S := St.start g0.s
  have hPn : 0 ≠ w.heap.size := Nat.ne_of_lt hP.lt
  have hNn : 1 ≠ w.heap.size := Nat.ne_of_lt hN.lt
  have hb0 : Below w.heap.size w (w.alloc (.cells #[.slice va vn vc, .int .i64 0] 25)) := (Below.refl _ _).alloc (Nat.le_refl _) _
  have Hb0 := Lib.hid hb0
  have HTM : Hid (∀ w', Below w.heap.size w w' → Tabs w' ∧ MaxL w') := fun w' h => ⟨Utf8Tabs_below hT h, hM.below h⟩
  have HP := Lib.hid (hP.keep (b := w.heap.size) ((SK.refl _ w).alloc (.cells #[.slice va vn vc, .int .i64 0] 25)) hPn)
  have HN := Lib.hid (hN.keep (b := w.heap.size) ((SK.refl _ w).alloc (.cells #[.slice va vn vc, .int .i64 0] 25)) hNn)
  have hw0 : w.heap.size ≤ (w.alloc (.cells #[.slice va vn vc, .int .i64 0] 25)).heap.size := by simp
  clear hP hM hN hT hb0
  go_enter Tryz.func3, Tryz.ntmps3
  go_wp2_with fail
  ((with_reducible refine (range_any w.heap.size _ _ _ _ S.g.s (by omega) (by omega) (by omega) (by omega)).mono ?_); rintro e w1 ⟨many, m_lo, m_hi, rfl, hk_w1, hs_w1⟩)
  replace S := S.step hk_w1 hs_w1
  clear hk_w1 hs_w1
  obtain ⟨n, rfl⟩ := Int.eq_ofNat_of_zero_le m_lo
  go_wp2_with fail
  ((with_reducible refine (joined_any w.heap.size _ n w.heap.size _ S.g.s (by omega) (by omega) (HN.out.keep S.g.k hNn) hNn (HP.out.keep S.g.k hPn) hPn (Nat.le_refl _) (Nat.le_trans hw0 S.g.size) (fun w' h => HTM.out w' ((Hb0.out.trans (S.g.k.below (Nat.le_refl _) hw0)).trans h))).mono ?_); rintro e w2 ⟨r, K, ck, W, cw, Sv, cs, A, c, ts, rfl, hr, ht, htl, T⟩)
  obtain ⟨M, hMm⟩ : ∃ M, 0 + 1 + 40000 = M := ⟨_, rfl⟩
  have S3 := S.join T
  rw [hMm] at S3
  obtain ⟨Y, hY⟩ : ∃ Y, Y = w2.heap.size := ⟨_, rfl⟩
  have S6 : St w.heap.size M _ (w2.alloc (.cells (ruCs r K ck W cw Sv cs) 29)) [.sl rInt K r.kinds, .sl rId W r.weak, .sl rSrv Sv r.surv, .sl rTch A ts, .loc Y (ruCs r K ck W cw Sv cs) 29] := S3.newAt (ruCs r K ck W cw Sv cs) 29 Y hY
  have Hr := Lib.hid hr
  have Ht := Lib.hid ht
  clear S S3 T hMm m_lo m_hi hr ht htl HP HN hPn hNn
  obtain ⟨F, HF⟩ : ∃ F, Hid (bothF r ts = F) := ⟨_, Lib.hid rfl⟩
  rw [HF.out]
  go_upto_region 3 with fail
  rw [← hY]
  clear hY
  generalize w2.alloc (.cells (ruCs r K ck W cw Sv cs) 29) = w3 at *
  have Hb3 : Hid (Below w.heap.size w w3) := Hb0.out.trans (S6.g.k.below (Nat.le_refl _) hw0)
  have hS := (S6.slc 3 rfl).mono (M := fun _ => False) (fun _ _ h => h.elim)
  have hR : RulIn (fun _ => False) w3 r K W Sv := ⟨(S6.slc 0 rfl).mono (fun _ _ h => h.elim), (S6.slc 1 rfl).mono (fun _ _ h => h.elim), (S6.slc 2 rfl).mono (fun _ _ h => h.elim)⟩
  have HlY := Lib.hid (S6.lv 4 rfl)
  have HTM2 : Hid (∀ w', Below w3.heap.size w3 w' → Tabs w' ∧ MaxL w') := fun w' h => HTM.out w' (Hb3.out.trans (h.mono Hb3.out.size))
  have Hc1 := Lib.hid (fun w' (h : Below w3.heap.size w3 w') => joining_any (fun _ => False) r K W Sv A ck cw cs c ts w' (hR.keepB h) (hS.keepB h) Hr.out Ht.out (HTM2.out w' h).1 (HTM2.out w' h).2)
  have Hc2 := Lib.hid (fun w' (h : Below w3.heap.size w3 w') => personsT_any (fun _ => False) r K W Sv A ck cw cs c ts w' (hR.keepB h) (hS.keepB h) Hr.out Ht.out (HTM2.out w' h).1 (HTM2.out w' h).2)
  have Hc3 := Lib.hid (fun w' (h : Below w3.heap.size w3 w') (ho : RtOk r ts) => refJoining_any (fun _ => False) r K W Sv A ck cw cs c ts w' (hR.keepB h) (hS.keepB h) ho)
  have Hc4 := Lib.hid (fun w' (h : Below w3.heap.size w3 w') (ho : RtOk r ts) => refPersons_any (fun _ => False) r K W Sv A ck cw cs c ts w' (hR.keepB h) (hS.keepB h) ho)
  have Hc5 := Lib.hid (fun w' (h : Below w3.heap.size w3 w') => people_any w' (HTM2.out w' h).1)
  have hb := Below.refl w3.heap.size w3
  have Hkl : Hid (r.kinds.length ≤ 1000000) := Hr.out.kl
  clear hS hR S6 HTM HTM2 Hr Ht Hb0 hw0
  have y0 := HlY.out.all
  go_wp2_with fail
  ((with_reducible refine (Hc1.out _ hb).mono ?_); rintro e w4 ⟨A1, c1, l, rfl, hz1, hn1, M1⟩)
  rw [HF.out] at hz1 hn1 ⊢
  have hb4 := hb.trans (M1.b.mono hb.size)
  have y4 := (LV.kb3 HlY.out hb4 HlY.out.lt).all
  have Hl4 := Lib.hid ((M1.slc 0 rfl).mono (M := fun _ => False) (fun _ _ h => h.elim))
  clear y0 M1 hb
  have Hz1 := Lib.hid hz1
  have Hn1 := Lib.hid hn1
  clear hz1 hn1
  go_wp2_with fail
  ((with_reducible refine (Hc2.out _ hb4).mono ?_); rintro e w5 ⟨A2, c2, P, rfl, hz2, hn2, M2⟩)
  rw [HF.out] at hz2 hn2 ⊢
  have hb5 := hb4.trans (M2.b.mono hb4.size)
  have y5 := (LV.kb3 HlY.out hb5 HlY.out.lt).all
  have Hl5 := Lib.hid (Hl4.out.keepB M2.b)
  have Hp5 := Lib.hid ((M2.slc 0 rfl).mono (M := fun _ => False) (fun _ _ h => h.elim))
  clear y4 M2 hb4 Hl4
  have Hz2 := Lib.hid hz2
  have Hn2 := Lib.hid hn2
  clear hz2 hn2
  by_cases hF : F = 0
  · subst hF
    have hbz := both_zero HF.out
    have ho : RtOk r ts := RtOk.of hbz.1 Hkl.out hbz.2
    have Ho := Lib.hid ho
    clear hbz ho Hz1 Hz2
    have Hj : Hid (IsJn r ts l) := Hn1.out rfl
    have Hq : Hid (IsPsns r ts P) := Hn2.out rfl
    clear Hn1 Hn2
    have hll := isJn_small Ho.out Hj.out
    have hpp := psns_small Ho.out Hq.out
    go_wp2_with fail
    ((with_reducible refine (Hc3.out _ hb5 Ho.out).mono ?_); rintro e w6 ⟨A3, c3, l3, rfl, hn3, M3⟩)
    have hl3 : l3 = l := hn3.uniq Hj.out
    have Hl6 := Lib.hid (Hl5.out.keepB M3.b)
    have Hp6 := Lib.hid (Hp5.out.keepB M3.b)
    have Hm6 := Lib.hid ((M3.slc 0 rfl).mono (M := fun _ => False) (fun _ _ h => h.elim))
    have hb6 := hb5.trans (M3.b.mono hb5.size)
    have y6 := (LV.kb3 HlY.out hb6 HlY.out.lt).all
    rw [hl3] at Hm6 ⊢
    clear y5 M3 hb5 Hl5 Hp5 hn3 hl3
    go_wp2_with fail
    ((with_reducible refine (eqId_any (fun _ => False) A1 A3 l c1 c3 w6 Hl6.out Hm6.out (by omega)).mono ?_); rintro e w7 ⟨rfl, hl7⟩)
    have hb7 := hb6.trans (hl7.mono hb6.size)
    have y7 := (LV.kb3 HlY.out hb7 HlY.out.lt).all
    have Hp7 := Lib.hid (Hp6.out.keepB hl7)
    clear y6 hl7 hb6 Hl6 Hp6 Hm6
    go_wp2_with fail
    ((with_reducible refine (Hc4.out _ hb7 Ho.out).mono ?_); rintro e w8 ⟨A4, c4, P4, rfl, hn4, M4⟩)
    have hP4 : P4 = P := hn4.uniq Hq.out
    have Hp8 := Lib.hid (Hp7.out.keepB M4.b)
    have Hm8 := Lib.hid ((M4.slc 0 rfl).mono (M := fun _ => False) (fun _ _ h => h.elim))
    have hb8 := hb7.trans (M4.b.mono hb7.size)
    rw [hP4] at Hm8 ⊢
    clear y7 M4 hb7 Hp7 hn4 hP4
    go_wp2_with fail
    ((with_reducible refine (eqPersons_any (fun _ => False) P A2 A4 c2 c4 w8 Hp8.out Hm8.out hpp.1 hpp.2).mono ?_); rintro e w9 ⟨rfl, hl9⟩)
    have hb9 := hb8.trans (hl9.mono hb8.size)
    clear hl9 hb8 Hp8 Hm8
    go_wp2_with fail
    ((with_reducible refine (Hc5.out _ hb9).mono ?_); rintro e wx ⟨rfl, hlx⟩)
    have hbx := hb9.trans (hlx.mono hb9.size)
    go_wp2_with fail
    go_ret
    exact ⟨rfl, Hb3.out.trans (hbx.mono Hb3.out.size)⟩
  · obtain rfl : l = [] := Hz1.out hF
    obtain rfl : P = [] := Hz2.out hF
    have h1 : (F == 0) = false := by simpa using hF
    have h2 : (F != 0) = true := by simpa using hF
    clear hF Hz1 Hz2 Hn1 Hn2 Hl5 Hp5
    go_wp2_with fail
    ((with_reducible refine (Hc5.out _ hb5).mono ?_); rintro e w6 ⟨rfl, hl6⟩)
    have hb6 := hb5.trans (hl6.mono hb5.size)
    go_wp2_with fail
    go_ret
    exact ⟨rfl, Hb3.out.trans (hb6.mono Hb3.out.size)⟩
end Go.Proofs.YtjlangjhdakmiaaGreatDoor
