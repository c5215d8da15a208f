/- Several texts in one: LabLaw, RtOn, RefJn, BackI, RefPq, RefPs. -/
import Derived.Test.YtfdcgedcfafmcaaGreatDoorPackP
import Derived.Test.YtfdcgedcfafmcaaGreatDoorPackT
import Derived.Test.YtfdcgedcfafmcaaGreatDoorPackU
import Derived.Test.YtfdcgedcfafmcaaGreatDoorPackJ
import Derived.Test.YtfdcgedcfafmcaaGreatDoorPackC
import Derived.Test.YtfdcgedcfafmcaaGreatDoorPackZ
import Derived.Test.YtfdcgedcfafmcaaGreatDoorPackX
import Derived.RangeFuncLeaves
import Derived.Deep.DeepCutAuto
/- Labels that fall until they stand: the plain law of the reference's persons. -/
namespace Go.Proofs.YtfdcgedcfafmcaaGreatDoor
open Go Go.RowKit
def SeenI (l : List Tch) (k m : Nat) (x : IdV) (i : Nat) : Prop := (i < k ∧ x ∈ idsAt l i) ∨ (i = k ∧ x ∈ (idsAt l k).take m)
theorem SeenI.ids {l : List Tch} {k m i : Nat} {x : IdV} (h : SeenI l k m x i) : x ∈ idsAt l i := by
  rcases h with ⟨_, h⟩ | ⟨rfl, h⟩
  · exact h
  · exact List.mem_of_mem_take h
theorem SeenI.lt {l : List Tch} {k m i : Nat} {x : IdV} (h : SeenI l k m x i) : i < l.length := hav_lt (mem_idsAt.1 h.ids)
theorem seen_none {l : List Tch} {x : IdV} {i : Nat} : ¬ SeenI l 0 0 x i := by
  rintro (⟨h, _⟩ | ⟨_, h⟩)
  · omega
  · simp at h
theorem seen_next {l : List Tch} {k : Nat} {x : IdV} {i : Nat} : SeenI l k (idsAt l k).length x i ↔ SeenI l (k + 1) 0 x i := by
  unfold SeenI
  rw [List.take_length, List.take_zero]
  constructor
  · rintro (⟨h1, h2⟩ | ⟨rfl, h2⟩)
    · exact .inl ⟨by omega, h2⟩
    · exact .inl ⟨by omega, h2⟩
  · rintro (⟨h1, h2⟩ | ⟨_, h2⟩)
    · by_cases e : i = k
      · subst e; exact .inr ⟨rfl, h2⟩
      · exact .inl ⟨by omega, h2⟩
    · cases h2
theorem seen_step {l : List Tch} {k m : Nat} {x y : IdV} {i : Nat} (h : (idsAt l k)[m]? = some y) : SeenI l k (m + 1) x i ↔ SeenI l k m x i ∨ (i = k ∧ x = y) := by
  unfold SeenI
  rw [take_snoc h, List.mem_append, List.mem_singleton]
  constructor
  · rintro (h | ⟨h1, h2 | h2⟩)
    · exact .inl (.inl h)
    · exact .inl (.inr ⟨h1, h2⟩)
    · exact .inr ⟨h1, h2⟩
  · rintro ((h | ⟨h1, h2⟩) | ⟨h1, h2⟩)
    · exact .inl h
    · exact .inr ⟨h1, .inl h2⟩
    · exact .inr ⟨h1, .inr h2⟩
structure LeastOk (r : Rul) (l : List Tch) (p : List Nat) (k m : Nat) (L : List (IdV × Nat)) : Prop where
  nd : (L.map Prod.fst).Nodup
  of : ∀ x n, getG x L = some n → joinsP r l x = true ∧ ∃ i, SeenI l k m x i ∧ p[i]? = some n
  le : ∀ x i q, joinsP r l x = true → SeenI l k m x i → p[i]? = some q → ∃ n, getG x L = some n ∧ n ≤ q
theorem LeastOk.start (r : Rul) (l : List Tch) (p : List Nat) : LeastOk r l p 0 0 [] :=
  ⟨by simp, fun x n h => by simp [getG] at h, fun x i q _ h => absurd h seen_none⟩
theorem LeastOk.next {r : Rul} {l : List Tch} {p : List Nat} {k : Nat} {L : List (IdV × Nat)} (h : LeastOk r l p k (idsAt l k).length L) : LeastOk r l p (k + 1) 0 L :=
  ⟨h.nd, fun x n e => by
    obtain ⟨a, i, b, c⟩ := h.of x n e
    exact ⟨a, i, seen_next.1 b, c⟩, fun x i q a b c => h.le x i q a (seen_next.2 b) c⟩
theorem LeastOk.put {r : Rul} {l : List Tch} {p : List Nat} {k m : Nat} {L : List (IdV × Nat)} (h : LeastOk r l p k m L) {y : IdV} (hy : (idsAt l k)[m]? = some y) (hj : joinsP r l y = true) {q : Nat} (hq : p[k]? = some q) (hlt : ∀ n, getG y L = some n → q < n) : LeastOk r l p k (m + 1) (updG y q L) := by
  refine ⟨updG_keys h.nd, fun x n e => ?_, fun x i q' a b c => ?_⟩
  · rw [getG_upd] at e
    by_cases exy : x = y
    · subst exy
      rw [if_pos rfl] at e
      obtain rfl := Option.some.inj e
      exact ⟨hj, k, (seen_step hy).2 (.inr ⟨rfl, rfl⟩), hq⟩
    · rw [if_neg exy] at e
      obtain ⟨a, i, b, c⟩ := h.of x n e
      exact ⟨a, i, (seen_step hy).2 (.inl b), c⟩
  · rw [getG_upd]
    by_cases exy : x = y
    · subst exy
      rw [if_pos rfl]
      refine ⟨q, rfl, ?_⟩
      rcases (seen_step hy).1 b with b | ⟨rfl, _⟩
      · obtain ⟨n, e1, e2⟩ := h.le x i q' a b c
        have := hlt n e1
        omega
      · rw [hq] at c
        obtain rfl := Option.some.inj c
        exact Nat.le_refl _
    · rw [if_neg exy]
      rcases (seen_step hy).1 b with b | ⟨_, e⟩
      · exact h.le x i q' a b c
      · exact absurd e exy
theorem LeastOk.skip {r : Rul} {l : List Tch} {p : List Nat} {k m : Nat} {L : List (IdV × Nat)} (h : LeastOk r l p k m L) {y : IdV} (hy : (idsAt l k)[m]? = some y) {q : Nat} (hq : p[k]? = some q) (hn : joinsP r l y = true → ∃ n, getG y L = some n ∧ n ≤ q) : LeastOk r l p k (m + 1) L := by
  refine ⟨h.nd, fun x n e => ?_, fun x i q' a b c => ?_⟩
  · obtain ⟨a, i, b, c⟩ := h.of x n e
    exact ⟨a, i, (seen_step hy).2 (.inl b), c⟩
  · rcases (seen_step hy).1 b with b | ⟨rfl, rfl⟩
    · exact h.le x i q' a b c
    · rw [hq] at c
      obtain rfl := Option.some.inj c
      exact hn a
structure Falls (r : Rul) (l : List Tch) (p : List Nat) (L : List (IdV × Nat)) (k m : Nat) (q : List Nat) (ch : Bool) : Prop where
  st : Stand l.length (Edge r l) q
  no : ch = false → q = p ∧ ∀ x i n a, SeenI l k m x i → getG x L = some n → p[i]? = some a → a ≤ n
  yes : ch = true → q.sum < p.sum
theorem Falls.start {r : Rul} {l : List Tch} {p : List Nat} (L : List (IdV × Nat)) (h : Stand l.length (Edge r l) p) : Falls r l p L 0 0 p false :=
  ⟨h, fun _ => ⟨rfl, fun _ _ _ _ a => absurd a seen_none⟩, fun e => by cases e⟩
theorem Falls.next {r : Rul} {l : List Tch} {p q : List Nat} {L : List (IdV × Nat)} {k : Nat} {ch : Bool} (h : Falls r l p L k (idsAt l k).length q ch) : Falls r l p L (k + 1) 0 q ch :=
  ⟨h.st, fun e => ⟨(h.no e).1, fun x i n a b c d => (h.no e).2 x i n a (seen_next.2 b) c d⟩, h.yes⟩
theorem sum_set_lt : ∀ {q : List Nat} {k a n : Nat}, q[k]? = some a → n < a → (q.set k n).sum < q.sum
  | [], _, _, _, h, _ => by simp at h
  | x :: r, 0, a, n, h, hn => by
    obtain rfl : x = a := by simpa using h
    simp; omega
  | x :: r, k + 1, a, n, h, hn => by
    have := sum_set_lt (q := r) (k := k) (by simpa using h) hn
    simp; omega
theorem Falls.put {r : Rul} {l : List Tch} {p q : List Nat} {L : List (IdV × Nat)} {K M k m : Nat} {ch : Bool} (h : Falls r l p L k m q ch) (hp : Stand l.length (Edge r l) p) (hL : LeastOk r l p K M L) {y : IdV} (hy : (idsAt l k)[m]? = some y) {a n : Nat} (ha : q[k]? = some a) (hn : getG y L = some n) (hlt : n < a) : Falls r l p L k (m + 1) (q.set k n) true := by
  have hle := h.st.le k a ha
  refine ⟨h.st.set (by omega) ?_, (fun e => by cases e), fun _ => ?_⟩
  · obtain ⟨hj, i, hs, hi⟩ := hL.of y n hn
    have hk : k < l.length := by rw [← h.st.len]; exact lt_of_get ha
    exact (Conn.one hk hs.lt ⟨y, hj, List.mem_of_getElem? hy, hs.ids⟩).trans (hp.conn i n hi)
  · have h1 := sum_set_lt ha hlt
    cases ch with
    | false => rw [(h.no rfl).1] at h1 ⊢; exact h1
    | true => have := h.yes rfl; omega
theorem Falls.skip {r : Rul} {l : List Tch} {p q : List Nat} {L : List (IdV × Nat)} {k m : Nat} {ch : Bool} (h : Falls r l p L k m q ch) {y : IdV} (hy : (idsAt l k)[m]? = some y) {a : Nat} (ha : q[k]? = some a) (hn : ∀ n, getG y L = some n → a ≤ n) : Falls r l p L k (m + 1) q ch := by
  refine ⟨h.st, fun e => ⟨(h.no e).1, fun x i n b hs hg hb => ?_⟩, h.yes⟩
  rcases (seen_step hy).1 hs with hs | ⟨rfl, rfl⟩
  · exact (h.no e).2 x i n b hs hg hb
  · rw [(h.no e).1, hb] at ha
    obtain rfl := Option.some.inj ha
    exact hn n hg
theorem seen_all {l : List Tch} {x : IdV} {i : Nat} (h : x ∈ idsAt l i) : SeenI l l.length 0 x i := .inl ⟨hav_lt (mem_idsAt.1 h), h⟩
theorem Falls.part {r : Rul} {l : List Tch} {p q : List Nat} {L : List (IdV × Nat)} (h : Falls r l p L l.length 0 q false) (hL : LeastOk r l p l.length 0 L) : q = p ∧ IsPart l.length (Edge r l) (labOf p) := by
  obtain ⟨rfl, hno⟩ := h.no rfl
  refine ⟨rfl, h.st.part fun i j hi hj ⟨x, hx, h1, h2⟩ => ?_⟩
  have hg : ∀ i, i < l.length → q[i]? = some (labOf q i) := fun i hi => by
    unfold labOf
    rw [List.getD_eq_getElem?_getD, List.getElem?_eq_getElem (by rw [h.st.len]; exact hi)]
    rfl
  obtain ⟨n, e1, e2⟩ := hL.le x i _ hx (seen_all h1) (hg i hi)
  obtain ⟨n', e3, e4⟩ := hL.le x j _ hx (seen_all h2) (hg j hj)
  rw [e1] at e3
  obtain rfl := Option.some.inj e3
  have a1 := hno x i n _ (seen_all h1) e1 (hg i hi)
  have a2 := hno x j n _ (seen_all h2) e1 (hg j hj)
  omega
section
variable {κ : Type} [DecidableEq κ] {β γ : Type}
theorem getG_map (f : β → γ) (k : κ) : ∀ L : List (κ × β), getG k (L.map fun p => (p.1, f p.2)) = (getG k L).map f
  | [] => rfl
  | p :: r => by
    rw [List.map_cons, getG, getG, getG_map f k r]
    split <;> rfl
theorem updG_map (f : β → γ) (k : κ) (v : β) : ∀ L : List (κ × β), updG k (f v) (L.map fun p => (p.1, f p.2)) = (updG k v L).map fun p => (p.1, f p.2)
  | [] => rfl
  | p :: r => by
    rw [List.map_cons, updG, updG, updG_map f k v r]
    split <;> rfl
end
end Go.Proofs.YtfdcgedcfafmcaaGreatDoor

/- Rules and touches in order, whatever the order of the weak ids. -/
namespace Go.Proofs.YtfdcgedcfafmcaaGreatDoor
open Go Go.RowKit
structure RtOn (r : Rul) (ts : List Tch) : Prop where
  wl : r.weak.length ≤ 1000000
  kl : r.kinds.length ≤ 1000000
  tl : ts.length ≤ 1000000
  up : ∀ t ∈ ts, RiseI t.ids
  il : ∀ t ∈ ts, t.ids.length ≤ 1000000
  ne : ∀ t ∈ ts, t.ids ≠ []
  tb : ts.length ≤ 2000
  ib : ∀ t ∈ ts, t.ids.length ≤ 10
theorem RtOk.on {r : Rul} {ts : List Tch} (h : RtOk r ts) : RtOn r ts := ⟨h.wl, h.kl, h.tl, h.up, h.il, h.ne, h.tb, h.ib⟩
theorem RtOn.idsAt {r : Rul} {ts : List Tch} (h : RtOn r ts) (i : Nat) : (idsAt ts i).length ≤ 10 := by
  unfold Go.Proofs.YtfdcgedcfafmcaaGreatDoor.idsAt
  cases e : ts[i]? with
  | none => simp
  | some t => exact h.ib t (List.mem_of_getElem? e)
end Go.Proofs.YtfdcgedcfafmcaaGreatDoor

/- What the reference's joins returns: which ids join, as a map. -/
namespace Go.Proofs.YtfdcgedcfafmcaaGreatDoor
open Go Go.RowKit
theorem updG_twice {κ : Type} [DecidableEq κ] {β : Type} (k : κ) (u v : β) : ∀ L : List (κ × β), updG k u (updG k v L) = updG k u L
  | [] => by simp [updG]
  | p :: r => by
    rw [updG]
    by_cases h : p.1 = k
    · rw [if_pos h, updG, if_pos rfl, updG, if_pos h]
    · rw [if_neg h, updG, if_neg h, updG_twice k u v r, updG, if_neg h]
def cntV (p : IdV × List Nat) : IdV × Value := (p.1, Value.int .i64 (p.2.length : Nat))
theorem cntV_get (x : IdV) (L : List (IdV × List Nat)) : getG x (L.map cntV) = (getG x L).map (fun js => Value.int .i64 (js.length : Nat)) := getG_map (fun js : List Nat => Value.int .i64 (js.length : Nat)) x L
theorem cntV_upd (x : IdV) (js : List Nat) (L : List (IdV × List Nat)) : updG x (Value.int .i64 (js.length : Nat)) (L.map cntV) = (updG x js L).map cntV := updG_map (fun js : List Nat => Value.int .i64 (js.length : Nat)) x js L
theorem cnt_zero (x : IdV) (L : List (IdV × List Nat)) : (getG x (L.map cntV)).getD (.int .i64 0) = .int .i64 (((getG x L).getD []).length : Nat) := by
  rw [cntV_get]
  cases getG x L <;> rfl
theorem cnt_add (x : IdV) (k : Nat) (L : List (IdV × List Nat)) : updG x (Value.int .i64 ((((getG x L).getD []).length : Nat) + 1)) (L.map cntV) = (addH L k x).map cntV := by
  unfold addH
  rw [← cntV_upd, List.length_append, List.length_singleton]
  rfl
section
variable {w0 w : World} {cs : List Chunk} {ops : Array Oper} {rest : List Oper} {o : Oper} {a : Act} {Q : Exit → Act → World → Prop} {κ : Type} [DecidableEq κ]
theorem Mem.lookE {K : KeyL κ} (S : Mem w0 w cs) (i : Nat) {X : Nat} {L : List (κ × Value)} {k : κ} {st : Nat} (hi : cs[i]? = some (.ent K X L k st)) {T E : TypeId} (hT : Tryz.prog.underlying T = some (.map K.ty E)) {z : Value} (hz : ∀ w, (zeroValue E).run Tryz.prog w = .ok z w)
    (hgd : o.guard = none) (m x : Operand) (ok : Bool) (hop : o.op = .lookup T m x ok) (hm : a.eval m = .map (some X)) (y : κ) (hx : a.eval x = K.kv y) (h : wpList Tryz.prog ops Q rest (a.put o.dst (if ok then .tuple #[(getG y L).getD z, .bool (getG y L).isSome] else (getG y L).getD z)) w) : wpList Tryz.prog ops Q (o :: rest) a w := by
  obtain ⟨es, clock, j, e, hb, he, _⟩ := S.ok _ (List.mem_of_getElem? hi)
  have hrun := look_g ⟨es, clock, hb, he⟩ hT (hz w) y ok
  refine wpList_plain hgd fun K' hK' => ?_
  unfold Oper.wp
  simp only [execOp, hop, hm, hx, hrun, Sem.run_bind, Sem.run_pure, Result.andThen_ok]
  exact hK' _ _ h
end
theorem zeroIntE (w : World) : (zeroValue 3).run Tryz.prog w = .ok (.int .i64 0) w := by kernel_rfl
def jv (r : Rul) (x : IdV) (n : Nat) : Bool := decide (x.k ∈ r.kinds) && !decide (x ∈ r.weak) && decide ((n : Int) ≤ r.most)
theorem RngOk.keys {κ : Type} [DecidableEq κ] {K : KeyL κ} {es : Array MapEntry} {clock : Nat} {seen : Array Nat} {L done left : List (κ × Value)} (h : RngOk K es clock seen L done left) : (done.map Prod.fst).Nodup := by
  have h1 := (h.perm.map Prod.fst).nodup_iff.2 h.ok.nd
  rw [List.map_append] at h1
  exact (List.nodup_append.1 h1).1
theorem cntV_keys (L : List (IdV × List Nat)) : (L.map cntV).map Prod.fst = L.map Prod.fst := by rw [List.map_map]; rfl
theorem getG_snoc {κ : Type} [DecidableEq κ] {β : Type} {L : List (κ × β)} {x : κ} {v : β} (h : ((L ++ [(x, v)]).map Prod.fst).Nodup) (y : κ) : getG y (L ++ [(x, v)]) = if y = x then some v else getG y L := by
  rw [List.map_append, List.nodup_append] at h
  have hx : x ∉ L.map Prod.fst := fun hx => h.2.2 x hx x (by simp) rfl
  rw [← updG_new hx, getG_upd]
theorem cnt_all {r : Rul} {ts : List Tch} {q0 dq : List (IdV × List Nat)} (hO : HavOk ts ts.length [] q0) (hd : ∀ q ∈ dq, q ∈ q0) (hp : (dq.map cntV).Perm (q0.map cntV)) (x : IdV) :
    (getG x dq).map (fun js => Value.bool (jv r x js.length)) = if hav ts x = [] then none else some (.bool (joinsP r ts x)) := by
  have h2 := hO.2 x
  rw [List.take_length] at h2
  simp only [List.not_mem_nil, if_false, List.append_nil] at h2
  have hk : (dq.map Prod.fst).Nodup := by
    have h1 := (hp.map Prod.fst).nodup_iff.2 (by rw [cntV_keys]; exact hO.1)
    rw [cntV_keys] at h1; exact h1
  by_cases hh : hav ts x = []
  · rw [if_pos hh]
    rw [hh] at h2
    have h3 : getG x q0 = none := h2
    have h4 : getG x dq = none := getG_none.2 (fun hx => by
      obtain ⟨q, hq, e⟩ := List.mem_map.1 hx
      exact getG_none.1 h3 (by rw [← e]; exact List.mem_map_of_mem (hd q hq)))
    rw [h4]; rfl
  · rw [if_neg hh]
    have h3 : getG x q0 = some (hav ts x) := by rw [h2]; unfold some1; rw [if_neg hh]
    have hm := getG_mem h3
    have hm2 : cntV (x, hav ts x) ∈ dq.map cntV := hp.mem_iff.2 (List.mem_map_of_mem hm)
    obtain ⟨q, hq, e⟩ := List.mem_map.1 hm2
    have ex : q.1 = x := congrArg Prod.fst e
    obtain ⟨i, hi⟩ := List.mem_iff_getElem?.1 (hd q hq)
    have h5 := (getG_at hO.1 (j := i) (k := q.1) (v := q.2) hi).1
    rw [ex, h3] at h5
    have eq2 : q.2 = hav ts x := (Option.some.inj h5).symm
    obtain ⟨j, hj⟩ := List.mem_iff_getElem?.1 hq
    have h6 := (getG_at hk (j := j) (k := q.1) (v := q.2) hj).1
    rw [ex, eq2] at h6
    rw [h6]
    rfl
def GivesMapJ (r : Rul) (ts : List Tch) (w : World) (e : Ending) (w' : World) : Prop :=
  ∃ (X : Nat) (L : List (IdV × Value)), e = .returned (.map (some X)) ∧ (∀ x, getG x L = if hav ts x = [] then none else some (.bool (joinsP r ts x))) ∧ Mem w w' [.mapG keyId X L]
theorem addH_len {ts : List Tch} {k : Nat} {xs : List IdV} {L : List (IdV × List Nat)} (h : HavOk ts k xs L) (x : IdV) : ((getG x L).getD []).length ≤ ts.length + 1 := by
  rw [h.2 x, some1_getD, List.length_append]
  have h2 := hav_len (ts.take k) x
  rw [List.length_take] at h2
  have h3 : (if x ∈ xs then [k] else []).length ≤ 1 := by split <;> simp
  omega
set_option maxHeartbeats 8000000 in
set_option maxRecDepth 100000 in
theorem refJoinsN_any (N : Nat → Prop) (r : Rul) (K W S A : Option Addr) (ck cw cs c : Nat) (ts : List Tch) (w : World) (hR : RulIn N w r K W S) (hT : Sl rTch N w A ts) (ho : RtOn r ts) :
    Calls Tryz.prog 46 #[.agg (ruCs r K ck W cw S cs), .slice A ts.length c] w (GivesMapJ r ts w) := by
  have HR := Lib.hid (fun w' (h : Below w.heap.size w w') => hR.keepB h)
  have HT := Lib.hid (fun w' (h : Below w.heap.size w w') => hT.keepB h)
  have Ho := Lib.hid ho
  have hl := ho.tl
  have hmm := @run_makeMap Tryz.prog
  obtain ⟨Y, hY⟩ : ∃ Y, Y = w.heap.size := ⟨_, rfl⟩
  obtain ⟨X, hX⟩ : ∃ X, X = w.heap.size + 1 := ⟨_, rfl⟩
  have S0 : Mem w _ [.loc Y (ruCs r K ck W cw S cs) 29, .mapG keyId X []] := ((Mem.start w).newAt (ruCs r K ck W cw S cs) 29 Y hY).newMapG keyId X (by rw [alloc_size]; exact hX)
  have Hy := Lib.hid hY
  have Hx := Lib.hid hX
  clear hR hT ho hY hX
  go_enter Tryz.func46, Tryz.ntmps46
  go_upto_region 2 with fail
  rw [← Hx.out, ← Hy.out]
  clear hmm
  generalize World.alloc _ _ = w1 at S0 ⊢
  replace S0 : Mem w w1 (.loc Y (ruCs r K ck W cw S cs) 29 :: .mapG keyId X (([] : List (IdV × List Nat)).map cntV) :: []) := S0
  go_wp2_with fail
  go_loopw [16] (fun i wr => ∃ (k : Nat) (q1 : List (IdV × List Nat)), k ≤ ts.length ∧ i = .int .i64 k ∧ Hid (HavOk ts k [] q1) ∧ Mem w wr (.loc Y (ruCs r K ck W cw S cs) 29 :: .mapG keyId X (q1.map cntV) :: [])) (fun i _ => ts.length - (intOf i).toNat)
  case atStart => exact ⟨0, [], Nat.zero_le _, rfl, HavOk.start ts, S0⟩
  case round =>
    clear S0
    obtain ⟨k, q0, hk, rfl, HO, S2⟩ := hrel
    by_cases hlt : k < ts.length
    · obtain ⟨t, ht⟩ : ∃ t, ts[k]? = some t := ⟨_, List.getElem?_eq_getElem hlt⟩
      obtain ⟨blk, off, Ai, ci, Af, cf, rfl, hblk, d0, d1, d2, d3, d4, hi, hf⟩ := (HT.out w (Below.refl _ _)).tch k t ht
      have hcl := fun (p : Addr) (hp : p.block < w.heap.size) => S2.b.cell hp
      rw [← hcl _ hblk] at d0 d1 d2 d3 d4
      clear hcl
      have HI := Lib.hid (fun w' (h : Below w.heap.size w w') => hi.keepB h)
      have hil : t.ids.length ≤ 10 := Ho.out.ib t (List.mem_of_getElem? ht)
      have Hnd := Lib.hid ((Ho.out.up t (List.mem_of_getElem? ht)).nodup)
      have Ht := Lib.hid ht
      clear hi hf ht
      go_upto_region 5 with fail
      clear d0 d1 d2 d3 d4
      obtain ⟨U, hU⟩ : ∃ U, U = wr.heap.size := ⟨_, rfl⟩
      have S3 : Mem w _ (.loc U (tcCs t Ai ci Af cf) 85 :: .loc Y (ruCs r K ck W cw S cs) 29 :: .mapG keyId X (q0.map cntV) :: []) := (S2.newAt (tcCs t Ai ci Af cf) 85 U hU).front
      rw [← hU]
      clear hU S2
      generalize wr.alloc (.cells (tcCs t Ai ci Af cf) 85) = w4 at *
      have y0 := (S3.lv 0 rfl).all
      go_wp2_with fail
      clear y0
      go_loopw [23] (fun i wr => ∃ (m : Nat) (q1 : List (IdV × List Nat)), m ≤ t.ids.length ∧ i = .int .i64 m ∧ Hid (HavOk ts k (t.ids.take m) q1) ∧ Mem w wr (.loc U (tcCs t Ai ci Af cf) 85 :: .loc Y (ruCs r K ck W cw S cs) 29 :: .mapG keyId X (q1.map cntV) :: [])) (fun i _ => t.ids.length - (intOf i).toNat)
      case atStart => exact ⟨0, q0, Nat.zero_le _, rfl, HO.out, S3⟩
      case round =>
        clear S3 HO
        obtain ⟨m, q1, hm, rfl, HO, S3⟩ := hrel
        by_cases hlt2 : m < t.ids.length
        · obtain ⟨x, hx⟩ : ∃ x, t.ids[m]? = some x := ⟨_, List.getElem?_eq_getElem hlt2⟩
          obtain ⟨ib, io, rfl, hib, c0, c1⟩ := (HI.out wr S3.b).idv m x hx
          have Hxx := Lib.hid hx
          have hvl := addH_len HO.out x
          clear hx
          go_upto_region 8 with fail
          clear c0 c1
          obtain ⟨Z, hZ⟩ : ∃ Z, Z = wr.heap.size := ⟨_, rfl⟩
          have S4 : Mem w _ (.loc Z #[.int .i64 x.k, .string x.t] 41 :: .loc U (tcCs t (some ⟨ib, io, none⟩) ci Af cf) 85 :: .loc Y (ruCs r K ck W cw S cs) 29 :: .mapG keyId X (q1.map cntV) :: []) := (S3.newAt #[.int .i64 x.k, .string x.t] 41 Z hZ).front
          rw [← hZ]
          clear hZ S3
          generalize wr.alloc (.cells #[.int .i64 x.k, .string x.t] 41) = w5 at *
          go_upto_region 8 with fail
          refine wp_region_mixT [6] (fun w' => LV w' Z #[.int .i64 x.k, .string x.t] 41) (.p 0 (.q 1 (.e2 2 (.p 3 (.e 4 (.p 5 (.b 6 .z)))) 4 (.p 5 (.e 2 (.p 3 (.b 6 .z))))))) (by kernel_rfl) (by kernel_rfl) (fun w' hd => (S4.below (hd.below _)).lv 0 rfl) (fun KK hKK wd hd => ?_)
          have S5 : Mem w wd (.loc Z #[.int .i64 x.k, .string x.t] 41 :: .loc U (tcCs t (some ⟨ib, io, none⟩) ci Af cf) 85 :: .loc Y (ruCs r K ck W cw S cs) 29 :: .mapG keyId X (q1.map cntV) :: []) := S4.below (hd.below _)
          clear hd S4
          repeat ((first | refine mixT_pp rfl (fun K hK => ?_) | refine mixT_p rfl (fun K hK => ?_)); go_simp; (try go_bits); (try simp (disch := omega) only [if_pos]); (try simp (disch := omega) only [if_neg]); (try simp (disch := omega) only [dif_pos]); (try simp (disch := omega) only [dif_neg]); (try go_simp); (refine hK _ ?_; clear hK K))
          refine mixT_loadR (.agg #[.int .i64 x.k, .string x.t]) rfl rfl rfl rfl (fun w' h => loadAtI (h.cell 0 _ rfl) (h.cell 1 _ rfl)) ?_
          go_simp
          refine mixT_2 (mixT_one rfl rfl (fun K9 hK9 => ?_)) (mixT_one rfl rfl (fun K9 hK9 => ?_))
          · refine S5.lookG 3 rfl (T := 180) (E := 3) (by kernel_rfl) zeroIntE rfl _ _ false rfl rfl x rfl ?_
            rw [if_neg (by decide), cnt_zero]
            go_wp2_with fail
            refine ⟨S5.lv 0 rfl, ?_⟩
            have hwr : IntKind.i64.wrap ((((getG x q1).getD []).length : Nat) + 1) = (((getG x q1).getD []).length : Nat) + 1 := IntWalk.i64_in _ (by omega)
            repeat ((first | refine mixT_pp rfl (fun K hK => ?_) | refine mixT_p rfl (fun K hK => ?_)); go_simp; (try go_bits); (try simp (disch := omega) only [if_pos]); (try simp (disch := omega) only [if_neg]); (try simp (disch := omega) only [dif_pos]); (try simp (disch := omega) only [dif_neg]); (try go_simp); (refine hK _ ?_; clear hK K))
            refine mixT_l rfl rfl (fun K9 hK9 => ?_)
            refine S5.entryG (K := keyId) 3 rfl (T := 180) (E := 3) (by kernel_rfl) zeroIntE rfl _ _ rfl rfl x rfl ?_
            intro st w7 S7 _
            have hC7 := S7.lv 0 rfl
            clear S5
            go_wp2_with fail
            refine ⟨hC7, ?_⟩
            clear hC7
            repeat ((first | refine mixT_pp rfl (fun K hK => ?_) | refine mixT_p rfl (fun K hK => ?_)); go_simp; (try go_bits); (try simp (disch := omega) only [if_pos]); (try simp (disch := omega) only [if_neg]); (try simp (disch := omega) only [dif_pos]); (try simp (disch := omega) only [dif_neg]); (try go_simp); (refine hK _ ?_; clear hK K))
            refine mixT_b rfl rfl (fun K9 hK9 => ?_)
            refine S7.estoreG 3 rfl rfl _ _ _ rfl rfl rfl (.int .i64 ((((getG x q1).getD []).length : Nat) + 1)) rfl ?_
            intro w9 S9
            rw [updG_twice, cnt_add] at S9
            have HS9 : Hid (Mem w w9 (.loc Z #[.int .i64 x.k, .string x.t] 41 :: .loc U (tcCs t (some ⟨ib, io, none⟩) ci Af cf) 85 :: .loc Y (ruCs r K ck W cw S cs) 29 :: .mapG keyId X ((addH q1 k x).map cntV) :: [])) := S9
            clear S9 S7
            go_wp2_with fail
            refine ⟨trivial, ?_⟩
            refine mixT_nil ?_
            simp only [Exit.then]
            refine hKK _ _ ?_
            clear hKK KK
            have S10 := HS9.out.del 0
            have HO2 : Hid (HavOk ts k (t.ids.take (m + 1)) (addH q1 k x)) := by
              show HavOk _ _ _ _
              rw [take_snoc Hxx.out]
              exact HO.out.add (notin_take Hnd.out Hxx.out)
            clear HS9 HO
            go_wp2_with fail
            go_roundw
            case rel => exact ⟨m + 1, addH q1 k x, by omega, by go_num, HO2.out, S10⟩
            case measure => simp [intOf]; omega
          · refine S5.entryG (K := keyId) 3 rfl (T := 180) (E := 3) (by kernel_rfl) zeroIntE rfl _ _ rfl rfl x rfl ?_
            intro st w7 S7 _
            have hC7 := S7.lv 0 rfl
            clear S5
            go_wp2_with fail
            refine ⟨hC7, ?_⟩
            repeat ((first | refine mixT_pp rfl (fun K hK => ?_) | refine mixT_p rfl (fun K hK => ?_)); go_simp; (try go_bits); (try simp (disch := omega) only [if_pos]); (try simp (disch := omega) only [if_neg]); (try simp (disch := omega) only [dif_pos]); (try simp (disch := omega) only [dif_neg]); (try go_simp); (refine hK _ ?_; clear hK K))
            refine mixT_l rfl rfl (fun K9 hK9 => ?_)
            refine S7.lookE 3 rfl (T := 180) (E := 3) (by kernel_rfl) zeroIntE rfl _ _ false rfl rfl x rfl ?_
            rw [if_neg (by decide), getG_upd, if_pos rfl, Option.getD_some, cnt_zero]
            have hwr : IntKind.i64.wrap ((((getG x q1).getD []).length : Nat) + 1) = (((getG x q1).getD []).length : Nat) + 1 := IntWalk.i64_in _ (by omega)
            go_wp2_with fail
            refine ⟨hC7, ?_⟩
            clear hC7
            repeat ((first | refine mixT_pp rfl (fun K hK => ?_) | refine mixT_p rfl (fun K hK => ?_)); go_simp; (try go_bits); (try simp (disch := omega) only [if_pos]); (try simp (disch := omega) only [if_neg]); (try simp (disch := omega) only [dif_pos]); (try simp (disch := omega) only [dif_neg]); (try go_simp); (refine hK _ ?_; clear hK K))
            refine mixT_b rfl rfl (fun K9 hK9 => ?_)
            refine S7.estoreG 3 rfl rfl _ _ _ rfl rfl rfl (.int .i64 ((((getG x q1).getD []).length : Nat) + 1)) rfl ?_
            intro w9 S9
            rw [updG_twice, cnt_add] at S9
            have HS9 : Hid (Mem w w9 (.loc Z #[.int .i64 x.k, .string x.t] 41 :: .loc U (tcCs t (some ⟨ib, io, none⟩) ci Af cf) 85 :: .loc Y (ruCs r K ck W cw S cs) 29 :: .mapG keyId X ((addH q1 k x).map cntV) :: [])) := S9
            clear S9 S7
            go_wp2_with fail
            refine ⟨trivial, ?_⟩
            refine mixT_nil ?_
            simp only [Exit.then]
            refine hKK _ _ ?_
            clear hKK KK
            have S10 := HS9.out.del 0
            have HO2 : Hid (HavOk ts k (t.ids.take (m + 1)) (addH q1 k x)) := by
              show HavOk _ _ _ _
              rw [take_snoc Hxx.out]
              exact HO.out.add (notin_take Hnd.out Hxx.out)
            clear HS9 HO
            go_wp2_with fail
            go_roundw
            case rel => exact ⟨m + 1, addH q1 k x, by omega, by go_num, HO2.out, S10⟩
            case measure => simp [intOf]; omega
        · obtain rfl : m = t.ids.length := by omega
          have HO2 : Hid (HavOk ts (k + 1) [] q1) := HavOk.next Ht.out (by have := HO.out; rw [List.take_length] at this; exact this)
          have S9 := S3.del 0
          clear S3 HO
          go_wp2_with fail
          go_roundw
          case rel => exact ⟨k + 1, q1, by omega, by go_num, HO2.out, S9⟩
          case measure => simp [intOf]; omega
    · obtain rfl : k = ts.length := by omega
      obtain ⟨es, clock, hE, S3⟩ := S2.frzG 1 rfl
      have HE := Lib.hid hE
      have hmm := @run_makeMap Tryz.prog
      obtain ⟨X2, hX2⟩ : ∃ X2, X2 = wr.heap.size := ⟨_, rfl⟩
      have S4 : Mem w (wr.alloc (.map #[] 0)) [.loc Y (ruCs r K ck W cw S cs) 29, .mapE X es clock, .mapG keyId X2 []] := S3.newMapG keyId X2 hX2
      have Hx2 := Lib.hid hX2
      clear S2 S3 hE hX2
      go_upto_region 12 with fail
      rw [← Hx2.out]
      generalize wr.alloc (.map #[] 0) = w3 at *
      obtain ⟨hrg, S5⟩ := S4.rangeG 1 rfl (T := 180) (k := 41) (e := 3) (by kernel_rfl)
      obtain ⟨Z, hZ⟩ : ∃ Z, Z = w3.heap.size := ⟨_, rfl⟩
      rw [← hZ] at hrg S5
      replace S5 : Mem w (w3.alloc (.mapIter (some X) clock #[] clock)) [.loc Y (ruCs r K ck W cw S cs) 29, .mapE X es clock, .mapG keyId X2 [], .iter Z X clock #[] clock] := S5
      clear hmm hZ S4
      go_wp2_with fail
      clear hrg
      generalize w3.alloc (.mapIter (some X) clock #[] clock) = w4 at *
      have HR0 : Hid (RngOk keyId es clock #[] (q0.map cntV) (([] : List (IdV × List Nat)).map cntV) (q0.map cntV)) := RngOk.start HE.out
      go_loopw [12] (fun _ wr => ∃ (seen : Array Nat) (dq : List (IdV × List Nat)) (left : List (IdV × Value)) (L2 : List (IdV × Value)), Hid (∀ q ∈ dq, q ∈ q0) ∧ Hid (RngOk keyId es clock seen (q0.map cntV) (dq.map cntV) left) ∧ Hid (∀ x, getG x L2 = (getG x dq).map (fun js => Value.bool (jv r x js.length))) ∧ Mem w wr [.loc Y (ruCs r K ck W cw S cs) 29, .mapE X es clock, .mapG keyId X2 L2, .iter Z X clock seen clock]) (fun _ wr => iterLeft es Z wr)
      case atStart => exact ⟨#[], [], _, [], (fun q hq => by cases hq), HR0.out, (fun x => rfl), S5⟩
      case round =>
        clear S5 HR0
        obtain ⟨seen, dq, left, L2, Hdq, HRg, HL2, S3⟩ := hrel
        have hsz3 : Hid (iterLeft es Z wr = left.length) := S3.iterSize 3 rfl HRg.out
        rcases S3.nextG 1 3 rfl rfl (Nat.le_refl _) HRg.out with ⟨hl0, hp0, hnx⟩ | ⟨pq, left', seen', w5, hpm, hll, hrg, hnx, hen, S5⟩
        · have HF : Hid (∀ x, getG x L2 = if hav ts x = [] then none else some (.bool (joinsP r ts x))) := fun x => by rw [HL2.out x]; exact cnt_all HO.out Hdq.out hp0 x
          have HS3 : Hid (Mem w wr [.mapG keyId X2 L2]) := ((S3.del 3).del 1).del 0
          clear hp0 hl0 S3 HL2 HRg hsz3
          go_wp2_with fail
          go_ret
          exact ⟨X2, L2, rfl, HF.out, HS3.out⟩
        · obtain ⟨q, hq, rfl⟩ : ∃ q ∈ q0, cntV q = pq := by
            have := HRg.out.perm.mem_iff.1 (List.mem_append_right _ hpm)
            obtain ⟨q, hq, e⟩ := List.mem_map.1 this
            exact ⟨q, hq, e⟩
          obtain ⟨x, js⟩ := q
          have Hrg : Hid (RngOk keyId es clock seen' (q0.map cntV) ((dq ++ [(x, js)]).map cntV) left') := by
            show RngOk _ _ _ _ _ _ _
            rw [List.map_append]; exact hrg
          have Hll := Lib.hid hll
          have Hdq2 : Hid (∀ q ∈ dq ++ [(x, js)], q ∈ q0) := fun q' hq' => by
            rcases List.mem_append.1 hq' with hq' | hq'
            · exact Hdq.out q' hq'
            · rw [List.mem_singleton.1 hq']; exact hq
          have hnx2 : ∀ ty, (Instr.next (.pointer (some ⟨Z, 0, none⟩)) false ty).run Tryz.prog wr = .ok (.tuple #[.bool true, .agg #[.int .i64 x.k, .string x.t], .int .i64 (js.length : Nat)]) w5 := hnx
          have hen2 : (Instr.entry (.pointer (some ⟨Z, 0, none⟩))).run Tryz.prog w5 = .ok (.tuple #[.agg #[.int .i64 x.k, .string x.t], .int .i64 (js.length : Nat)]) w5 := hen
          clear hnx hen S3 hpm hll hrg hq
          go_upto_region 15 with fail
          clear hnx2 hen2
          obtain ⟨V, hV⟩ : ∃ V, V = w5.heap.size := ⟨_, rfl⟩
          have S6 : Mem w (w5.alloc (.cells #[.int .i64 x.k, .string x.t] 41)) [.loc V #[.int .i64 x.k, .string x.t] 41, .loc Y (ruCs r K ck W cw S cs) 29, .mapE X es clock, .mapG keyId X2 L2, .iter Z X clock seen' clock] := (S5.newAt #[.int .i64 x.k, .string x.t] 41 V hV).front
          rw [← hV]
          clear hV S5
          generalize w5.alloc (.cells #[.int .i64 x.k, .string x.t] 41) = w6 at *
          obtain ⟨kc, Hkc⟩ : ∃ kc, Hid (r.kinds.contains x.k = kc) := ⟨_, Lib.hid rfl⟩
          obtain ⟨wk, Hwk⟩ : ∃ wk, Hid (decide (x ∈ r.weak) = wk) := ⟨_, Lib.hid rfl⟩
          cases kc
          · refine wp_region_mix (fun w' => LV w' Y (ruCs r K ck W cw S cs) 29 ∧ LV w' V #[.int .i64 x.k, .string x.t] 41) [(true, 0), (true, 1), (true, 2), (true, 3), (true, 4), (true, 5), (false, 6), (true, 7), (true, 8), (true, 9), (true, 10), (false, 11), (true, 12), (true, 13), (true, 14), (true, 15), (true, 16), (true, 17), (true, 18), (true, 19), (false, 20)] (by kernel_rfl) (by kernel_rfl) (fun w' hd => ⟨(S6.below (hd.below _)).lv 1 rfl, (S6.below (hd.below _)).lv 0 rfl⟩) (fun KK hKK wd hd => ?_)
            have S7 := S6.below (hd.below _)
            have hC : LV wd Y (ruCs r K ck W cw S cs) 29 ∧ LV wd V #[.int .i64 x.k, .string x.t] 41 := ⟨S7.lv 1 rfl, S7.lv 0 rfl⟩
            clear hd S6
            repeat (refine mix_p rfl (fun K hK => ?_); go_simp; (try go_bits); (try simp (disch := omega) only [if_pos]); (try simp (disch := omega) only [if_neg]); (try simp (disch := omega) only [dif_pos]); (try simp (disch := omega) only [dif_neg]); (try go_simp); (refine hK _ ?_; clear hK K))
            refine mix_loadG (.agg #[.int .i64 x.k, .string x.t]) rfl (by first | (simp [Region.wanted, go_sem]; done) | simp [Region.wanted, yielded, go_sem]) rfl rfl (fun w' h => loadAtI (h.2.cell 0 _ rfl) (h.2.cell 1 _ rfl)) ?_
            repeat (refine mix_p rfl (fun K hK => ?_); go_simp; (try go_bits); (try simp (disch := omega) only [if_pos]); (try simp (disch := omega) only [if_neg]); (try simp (disch := omega) only [dif_pos]); (try simp (disch := omega) only [dif_neg]); (try go_simp); (refine hK _ ?_; clear hK K))
            refine mix_loadG (.slice K r.kinds.length ck) rfl (by first | (simp [Region.wanted, go_sem]; done) | simp [Region.wanted, yielded, go_sem]) rfl rfl (fun w' h => loadC rfl (h.1.cell 0 _ rfl)) ?_
            repeat (refine mix_p rfl (fun K hK => ?_); go_simp; (try go_bits); (try simp (disch := omega) only [if_pos]); (try simp (disch := omega) only [if_neg]); (try simp (disch := omega) only [dif_pos]); (try simp (disch := omega) only [dif_neg]); (try go_simp); (refine hK _ ?_; clear hK K))
            refine mix_loadG (.int .i64 x.k) rfl (by first | (simp [Region.wanted, go_sem]; done) | simp [Region.wanted, yielded, go_sem]) rfl rfl (fun w' h => loadC rfl (h.2.cell 0 _ rfl)) ?_
            refine mix_l rfl (fun K9 hK9 => ?_) hC
            have Hq9 := Lib.hid (containsInt_any N K r.kinds ck r.kinds.length x.k wd (HR.out wd S7.b).kd (Nat.le_refl _) Ho.out.kl)
            rw [List.take_length, Hkc.out] at Hq9
            go_wp2_with fail
            ((with_reducible refine (Hq9.out).mono ?_); rintro e _ ⟨rfl, rfl⟩)
            clear Hq9
            go_wp2_with fail
            refine ⟨hC, ?_⟩
            repeat (refine mix_p rfl (fun K hK => ?_); go_simp; (try go_bits); (try simp (disch := omega) only [if_pos]); (try simp (disch := omega) only [if_neg]); (try simp (disch := omega) only [dif_pos]); (try simp (disch := omega) only [dif_neg]); (try go_simp); (refine hK _ ?_; clear hK K))
            refine mix_l rfl (fun K9 hK9 => ?_) hC
            go_wp2_with fail
            refine ⟨hC, ?_⟩
            repeat (refine mix_p rfl (fun K hK => ?_); go_simp; (try go_bits); (try simp (disch := omega) only [if_pos]); (try simp (disch := omega) only [if_neg]); (try simp (disch := omega) only [dif_pos]); (try simp (disch := omega) only [dif_neg]); (try go_simp); (refine hK _ ?_; clear hK K))
            refine mix_l rfl (fun K9 hK9 => ?_) hC
            go_simp
            refine S7.putG 3 rfl (T := 91) (E := 4) (by kernel_rfl) rfl _ _ _ rfl rfl x rfl (.bool (false)) rfl ?_
            intro w9 S9
            have HS9 : Hid (Mem w w9 [.loc V #[.int .i64 x.k, .string x.t] 41, .loc Y (ruCs r K ck W cw S cs) 29, .mapE X es clock, .mapG keyId X2 (updG x (.bool (false)) L2), .iter Z X clock seen' clock]) := S9
            have hC9 : LV w9 Y (ruCs r K ck W cw S cs) 29 ∧ LV w9 V #[.int .i64 x.k, .string x.t] 41 := ⟨HS9.out.lv 1 rfl, HS9.out.lv 0 rfl⟩
            clear S9 S7 hC
            go_wp2_with fail
            refine ⟨hC9, ?_⟩
            refine mix_nil ?_
            simp only [Exit.then]
            refine hKK _ _ ?_
            clear hKK KK hC9
            have HL3 : Hid (∀ y, getG y (updG x (.bool (false)) L2) = (getG y (dq ++ [(x, js)])).map (fun js => Value.bool (jv r y js.length))) := fun y => by
              rw [getG_upd, getG_snoc (by have := Hrg.out.keys; rw [cntV_keys] at this; exact this)]
              by_cases hy : y = x
              · subst hy
                rw [if_pos rfl, if_pos rfl]
                have e1 := Hkc.out
                have e2 := Hwk.out
                rw [List.contains_eq_mem] at e1
                simp only [Option.map_some, jv, e1, e2]
                rfl
              · rw [if_neg hy, if_neg hy]
                exact HL2.out y
            go_wp2_with fail
            go_roundw
            case rel =>
              (repeat apply Exists.intro)
              exact ⟨⟨seen', dq ++ [(x, js)], left', _, Hdq2.out, Hrg.out, HL3.out, HS9.out.del 0⟩, rfl⟩
            case measure => rw [hsz3.out, (HS9.out.del 0).iterSize 3 rfl Hrg.out]; have := Hll.out; omega
          · cases wk
            · refine wp_region_mix (fun w' => LV w' Y (ruCs r K ck W cw S cs) 29 ∧ LV w' V #[.int .i64 x.k, .string x.t] 41) [(true, 0), (true, 1), (true, 2), (true, 3), (true, 4), (true, 5), (false, 6), (true, 7), (true, 8), (true, 9), (true, 10), (false, 11), (true, 12), (true, 13), (true, 14), (true, 15), (true, 16), (true, 17), (true, 18), (true, 19), (false, 20)] (by kernel_rfl) (by kernel_rfl) (fun w' hd => ⟨(S6.below (hd.below _)).lv 1 rfl, (S6.below (hd.below _)).lv 0 rfl⟩) (fun KK hKK wd hd => ?_)
              have S7 := S6.below (hd.below _)
              have hC : LV wd Y (ruCs r K ck W cw S cs) 29 ∧ LV wd V #[.int .i64 x.k, .string x.t] 41 := ⟨S7.lv 1 rfl, S7.lv 0 rfl⟩
              clear hd S6
              repeat (refine mix_p rfl (fun K hK => ?_); go_simp; (try go_bits); (try simp (disch := omega) only [if_pos]); (try simp (disch := omega) only [if_neg]); (try simp (disch := omega) only [dif_pos]); (try simp (disch := omega) only [dif_neg]); (try go_simp); (refine hK _ ?_; clear hK K))
              refine mix_loadG (.agg #[.int .i64 x.k, .string x.t]) rfl (by first | (simp [Region.wanted, go_sem]; done) | simp [Region.wanted, yielded, go_sem]) rfl rfl (fun w' h => loadAtI (h.2.cell 0 _ rfl) (h.2.cell 1 _ rfl)) ?_
              repeat (refine mix_p rfl (fun K hK => ?_); go_simp; (try go_bits); (try simp (disch := omega) only [if_pos]); (try simp (disch := omega) only [if_neg]); (try simp (disch := omega) only [dif_pos]); (try simp (disch := omega) only [dif_neg]); (try go_simp); (refine hK _ ?_; clear hK K))
              refine mix_loadG (.slice K r.kinds.length ck) rfl (by first | (simp [Region.wanted, go_sem]; done) | simp [Region.wanted, yielded, go_sem]) rfl rfl (fun w' h => loadC rfl (h.1.cell 0 _ rfl)) ?_
              repeat (refine mix_p rfl (fun K hK => ?_); go_simp; (try go_bits); (try simp (disch := omega) only [if_pos]); (try simp (disch := omega) only [if_neg]); (try simp (disch := omega) only [dif_pos]); (try simp (disch := omega) only [dif_neg]); (try go_simp); (refine hK _ ?_; clear hK K))
              refine mix_loadG (.int .i64 x.k) rfl (by first | (simp [Region.wanted, go_sem]; done) | simp [Region.wanted, yielded, go_sem]) rfl rfl (fun w' h => loadC rfl (h.2.cell 0 _ rfl)) ?_
              refine mix_l rfl (fun K9 hK9 => ?_) hC
              have Hq9 := Lib.hid (containsInt_any N K r.kinds ck r.kinds.length x.k wd (HR.out wd S7.b).kd (Nat.le_refl _) Ho.out.kl)
              rw [List.take_length, Hkc.out] at Hq9
              go_wp2_with fail
              ((with_reducible refine (Hq9.out).mono ?_); rintro e _ ⟨rfl, rfl⟩)
              clear Hq9
              go_wp2_with fail
              refine ⟨hC, ?_⟩
              repeat (refine mix_p rfl (fun K hK => ?_); go_simp; (try go_bits); (try simp (disch := omega) only [if_pos]); (try simp (disch := omega) only [if_neg]); (try simp (disch := omega) only [dif_pos]); (try simp (disch := omega) only [dif_neg]); (try go_simp); (refine hK _ ?_; clear hK K))
              refine mix_loadG (.slice W r.weak.length cw) rfl (by first | (simp [Region.wanted, go_sem]; done) | simp [Region.wanted, yielded, go_sem]) rfl rfl (fun w' h => loadC rfl (h.1.cell 2 _ rfl)) ?_
              refine mix_loadG (.agg #[.int .i64 x.k, .string x.t]) rfl (by first | (simp [Region.wanted, go_sem]; done) | simp [Region.wanted, yielded, go_sem]) rfl rfl (fun w' h => loadAtI (h.2.cell 0 _ rfl) (h.2.cell 1 _ rfl)) ?_
              refine mix_l rfl (fun K9 hK9 => ?_) hC
              have Hq9 := Lib.hid (containsId_any N W r.weak cw x wd (HR.out wd S7.b).wk Ho.out.wl)
              rw [Hwk.out] at Hq9
              go_wp2_with fail
              ((with_reducible refine (Hq9.out).mono ?_); rintro e w8 ⟨rfl, hl8⟩)
              have S8 := S7.below hl8
              have hC8 : LV w8 Y (ruCs r K ck W cw S cs) 29 ∧ LV w8 V #[.int .i64 x.k, .string x.t] 41 := ⟨S8.lv 1 rfl, S8.lv 0 rfl⟩
              clear Hq9 hl8 S7 hC
              go_wp2_with fail
              refine ⟨hC8, ?_⟩
              repeat (refine mix_p rfl (fun K hK => ?_); go_simp; (try go_bits); (try simp (disch := omega) only [if_pos]); (try simp (disch := omega) only [if_neg]); (try simp (disch := omega) only [dif_pos]); (try simp (disch := omega) only [dif_neg]); (try go_simp); (refine hK _ ?_; clear hK K))
              refine mix_loadG (.int .i64 r.most) rfl (by first | (simp [Region.wanted, go_sem]; done) | simp [Region.wanted, yielded, go_sem]) rfl rfl (fun w' h => loadC rfl (h.1.cell 1 _ rfl)) ?_
              repeat (refine mix_p rfl (fun K hK => ?_); go_simp; (try go_bits); (try simp (disch := omega) only [if_pos]); (try simp (disch := omega) only [if_neg]); (try simp (disch := omega) only [dif_pos]); (try simp (disch := omega) only [dif_neg]); (try go_simp); (refine hK _ ?_; clear hK K))
              refine mix_l rfl (fun K9 hK9 => ?_) hC8
              go_simp
              refine S8.putG 3 rfl (T := 91) (E := 4) (by kernel_rfl) rfl _ _ _ rfl rfl x rfl (.bool (decide ((js.length : Int) ≤ r.most))) rfl ?_
              intro w9 S9
              have HS9 : Hid (Mem w w9 [.loc V #[.int .i64 x.k, .string x.t] 41, .loc Y (ruCs r K ck W cw S cs) 29, .mapE X es clock, .mapG keyId X2 (updG x (.bool (decide ((js.length : Int) ≤ r.most))) L2), .iter Z X clock seen' clock]) := S9
              have hC9 : LV w9 Y (ruCs r K ck W cw S cs) 29 ∧ LV w9 V #[.int .i64 x.k, .string x.t] 41 := ⟨HS9.out.lv 1 rfl, HS9.out.lv 0 rfl⟩
              clear S9 S8 hC8
              go_wp2_with fail
              refine ⟨hC9, ?_⟩
              refine mix_nil ?_
              simp only [Exit.then]
              refine hKK _ _ ?_
              clear hKK KK hC9
              have HL3 : Hid (∀ y, getG y (updG x (.bool (decide ((js.length : Int) ≤ r.most))) L2) = (getG y (dq ++ [(x, js)])).map (fun js => Value.bool (jv r y js.length))) := fun y => by
                rw [getG_upd, getG_snoc (by have := Hrg.out.keys; rw [cntV_keys] at this; exact this)]
                by_cases hy : y = x
                · subst hy
                  rw [if_pos rfl, if_pos rfl]
                  have e1 := Hkc.out
                  have e2 := Hwk.out
                  rw [List.contains_eq_mem] at e1
                  simp only [Option.map_some, jv, e1, e2]
                  rfl
                · rw [if_neg hy, if_neg hy]
                  exact HL2.out y
              go_wp2_with fail
              go_roundw
              case rel =>
                (repeat apply Exists.intro)
                exact ⟨⟨seen', dq ++ [(x, js)], left', _, Hdq2.out, Hrg.out, HL3.out, HS9.out.del 0⟩, rfl⟩
              case measure => rw [hsz3.out, (HS9.out.del 0).iterSize 3 rfl Hrg.out]; have := Hll.out; omega
            · refine wp_region_mix (fun w' => LV w' Y (ruCs r K ck W cw S cs) 29 ∧ LV w' V #[.int .i64 x.k, .string x.t] 41) [(true, 0), (true, 1), (true, 2), (true, 3), (true, 4), (true, 5), (false, 6), (true, 7), (true, 8), (true, 9), (true, 10), (false, 11), (true, 12), (true, 13), (true, 14), (true, 15), (true, 16), (true, 17), (true, 18), (true, 19), (false, 20)] (by kernel_rfl) (by kernel_rfl) (fun w' hd => ⟨(S6.below (hd.below _)).lv 1 rfl, (S6.below (hd.below _)).lv 0 rfl⟩) (fun KK hKK wd hd => ?_)
              have S7 := S6.below (hd.below _)
              have hC : LV wd Y (ruCs r K ck W cw S cs) 29 ∧ LV wd V #[.int .i64 x.k, .string x.t] 41 := ⟨S7.lv 1 rfl, S7.lv 0 rfl⟩
              clear hd S6
              repeat (refine mix_p rfl (fun K hK => ?_); go_simp; (try go_bits); (try simp (disch := omega) only [if_pos]); (try simp (disch := omega) only [if_neg]); (try simp (disch := omega) only [dif_pos]); (try simp (disch := omega) only [dif_neg]); (try go_simp); (refine hK _ ?_; clear hK K))
              refine mix_loadG (.agg #[.int .i64 x.k, .string x.t]) rfl (by first | (simp [Region.wanted, go_sem]; done) | simp [Region.wanted, yielded, go_sem]) rfl rfl (fun w' h => loadAtI (h.2.cell 0 _ rfl) (h.2.cell 1 _ rfl)) ?_
              repeat (refine mix_p rfl (fun K hK => ?_); go_simp; (try go_bits); (try simp (disch := omega) only [if_pos]); (try simp (disch := omega) only [if_neg]); (try simp (disch := omega) only [dif_pos]); (try simp (disch := omega) only [dif_neg]); (try go_simp); (refine hK _ ?_; clear hK K))
              refine mix_loadG (.slice K r.kinds.length ck) rfl (by first | (simp [Region.wanted, go_sem]; done) | simp [Region.wanted, yielded, go_sem]) rfl rfl (fun w' h => loadC rfl (h.1.cell 0 _ rfl)) ?_
              repeat (refine mix_p rfl (fun K hK => ?_); go_simp; (try go_bits); (try simp (disch := omega) only [if_pos]); (try simp (disch := omega) only [if_neg]); (try simp (disch := omega) only [dif_pos]); (try simp (disch := omega) only [dif_neg]); (try go_simp); (refine hK _ ?_; clear hK K))
              refine mix_loadG (.int .i64 x.k) rfl (by first | (simp [Region.wanted, go_sem]; done) | simp [Region.wanted, yielded, go_sem]) rfl rfl (fun w' h => loadC rfl (h.2.cell 0 _ rfl)) ?_
              refine mix_l rfl (fun K9 hK9 => ?_) hC
              have Hq9 := Lib.hid (containsInt_any N K r.kinds ck r.kinds.length x.k wd (HR.out wd S7.b).kd (Nat.le_refl _) Ho.out.kl)
              rw [List.take_length, Hkc.out] at Hq9
              go_wp2_with fail
              ((with_reducible refine (Hq9.out).mono ?_); rintro e _ ⟨rfl, rfl⟩)
              clear Hq9
              go_wp2_with fail
              refine ⟨hC, ?_⟩
              repeat (refine mix_p rfl (fun K hK => ?_); go_simp; (try go_bits); (try simp (disch := omega) only [if_pos]); (try simp (disch := omega) only [if_neg]); (try simp (disch := omega) only [dif_pos]); (try simp (disch := omega) only [dif_neg]); (try go_simp); (refine hK _ ?_; clear hK K))
              refine mix_loadG (.slice W r.weak.length cw) rfl (by first | (simp [Region.wanted, go_sem]; done) | simp [Region.wanted, yielded, go_sem]) rfl rfl (fun w' h => loadC rfl (h.1.cell 2 _ rfl)) ?_
              refine mix_loadG (.agg #[.int .i64 x.k, .string x.t]) rfl (by first | (simp [Region.wanted, go_sem]; done) | simp [Region.wanted, yielded, go_sem]) rfl rfl (fun w' h => loadAtI (h.2.cell 0 _ rfl) (h.2.cell 1 _ rfl)) ?_
              refine mix_l rfl (fun K9 hK9 => ?_) hC
              have Hq9 := Lib.hid (containsId_any N W r.weak cw x wd (HR.out wd S7.b).wk Ho.out.wl)
              rw [Hwk.out] at Hq9
              go_wp2_with fail
              ((with_reducible refine (Hq9.out).mono ?_); rintro e w8 ⟨rfl, hl8⟩)
              have S8 := S7.below hl8
              have hC8 : LV w8 Y (ruCs r K ck W cw S cs) 29 ∧ LV w8 V #[.int .i64 x.k, .string x.t] 41 := ⟨S8.lv 1 rfl, S8.lv 0 rfl⟩
              clear Hq9 hl8 S7 hC
              go_wp2_with fail
              refine ⟨hC8, ?_⟩
              repeat (refine mix_p rfl (fun K hK => ?_); go_simp; (try go_bits); (try simp (disch := omega) only [if_pos]); (try simp (disch := omega) only [if_neg]); (try simp (disch := omega) only [dif_pos]); (try simp (disch := omega) only [dif_neg]); (try go_simp); (refine hK _ ?_; clear hK K))
              refine mix_l rfl (fun K9 hK9 => ?_) hC8
              go_simp
              refine S8.putG 3 rfl (T := 91) (E := 4) (by kernel_rfl) rfl _ _ _ rfl rfl x rfl (.bool (false)) rfl ?_
              intro w9 S9
              have HS9 : Hid (Mem w w9 [.loc V #[.int .i64 x.k, .string x.t] 41, .loc Y (ruCs r K ck W cw S cs) 29, .mapE X es clock, .mapG keyId X2 (updG x (.bool (false)) L2), .iter Z X clock seen' clock]) := S9
              have hC9 : LV w9 Y (ruCs r K ck W cw S cs) 29 ∧ LV w9 V #[.int .i64 x.k, .string x.t] 41 := ⟨HS9.out.lv 1 rfl, HS9.out.lv 0 rfl⟩
              clear S9 S8 hC8
              go_wp2_with fail
              refine ⟨hC9, ?_⟩
              refine mix_nil ?_
              simp only [Exit.then]
              refine hKK _ _ ?_
              clear hKK KK hC9
              have HL3 : Hid (∀ y, getG y (updG x (.bool (false)) L2) = (getG y (dq ++ [(x, js)])).map (fun js => Value.bool (jv r y js.length))) := fun y => by
                rw [getG_upd, getG_snoc (by have := Hrg.out.keys; rw [cntV_keys] at this; exact this)]
                by_cases hy : y = x
                · subst hy
                  rw [if_pos rfl, if_pos rfl]
                  have e1 := Hkc.out
                  have e2 := Hwk.out
                  rw [List.contains_eq_mem] at e1
                  simp only [Option.map_some, jv, e1, e2]
                  rfl
                · rw [if_neg hy, if_neg hy]
                  exact HL2.out y
              go_wp2_with fail
              go_roundw
              case rel =>
                (repeat apply Exists.intro)
                exact ⟨⟨seen', dq ++ [(x, js)], left', _, Hdq2.out, Hrg.out, HL3.out, HS9.out.del 0⟩, rfl⟩
              case measure => rw [hsz3.out, (HS9.out.del 0).iterSize 3 rfl Hrg.out]; have := Hll.out; omega
theorem refJoins_any (N : Nat → Prop) (r : Rul) (K W S A : Option Addr) (ck cw cs c : Nat) (ts : List Tch) (w : World) (hR : RulIn N w r K W S) (hT : Sl rTch N w A ts) (ho : RtOk r ts) :
    Calls Tryz.prog 46 #[.agg (ruCs r K ck W cw S cs), .slice A ts.length c] w (GivesMapJ r ts w) := refJoinsN_any N r K W S A ck cw cs c ts w hR hT ho.on
end Go.Proofs.YtfdcgedcfafmcaaGreatDoor

/- What slices.Backward over ids hands out. -/
namespace Go.Proofs.YtfdcgedcfafmcaaGreatDoor
open Go Go.RowKit Go.Shelf
attribute [local go_sem] Oper.semAt_some
def KeepX (n PB : Nat) (W W' : World) : Prop := ∀ k, k < n → k ≠ PB → W'.heap[k]? = W.heap[k]?
theorem KeepX.refl (n PB : Nat) (W : World) : KeepX n PB W W := fun _ _ _ => rfl
theorem KeepX.trans {n PB : Nat} {W W' W'' : World} (h : KeepX n PB W W') (g : KeepX n PB W' W'') : KeepX n PB W W'' := fun k h1 h2 => (g k h1 h2).trans (h k h1 h2)
theorem KeepX.cell {n PB : Nat} {W W' : World} (h : KeepX n PB W W') {p : Addr} (h1 : p.block < n) (h2 : p.block ≠ PB) : W'.cell? p = W.cell? p := by
  unfold World.cell?
  rw [h p.block h1 h2]
theorem KeepX.below {n PB : Nat} {W W' : World} (h : Below n W W') : KeepX n PB W W' := fun k h1 _ => h.block k h1
def iAt (qs : List IdV) (j : Nat) : IdV := (qs[j]?).getD ⟨0, ⟨#[]⟩⟩
def backI (qs : List IdV) (k : Nat) : List Nat := (List.range k).map fun j => qs.length - 1 - j
def IdsIn (n₀ : Nat) (W : World) (A : Option Addr) (qs : List IdV) : Prop := ∀ (k : Nat) (q : IdV), qs[k]? = some q → ∃ blk off, A = some ⟨blk, off, none⟩ ∧ blk < n₀ ∧
  W.cell? ⟨blk, off + k * 2, none⟩ = some (.int .i64 q.k) ∧ W.cell? ⟨blk, off + k * 2 + 1, none⟩ = some (.string q.t)
theorem IdsIn.below {n₀ : Nat} {W W' : World} {A : Option Addr} {qs : List IdV} (h : IdsIn n₀ W A qs) (k : Below n₀ W W') : IdsIn n₀ W' A qs := fun i q hq => by
  obtain ⟨blk, off, e, h1, c0, c1⟩ := h i q hq
  exact ⟨blk, off, e, h1, (k.cell (p := ⟨blk, off + i * 2, none⟩) h1).trans c0, (k.cell (p := ⟨blk, off + i * 2 + 1, none⟩) h1).trans c1⟩
end Go.Proofs.YtfdcgedcfafmcaaGreatDoor

/- (helpers) What the reference's PersonsOf returns. -/
namespace Go.Proofs.YtfdcgedcfafmcaaGreatDoor
open Go Go.RowKit
def labV (p : IdV × Nat) : IdV × Value := (p.1, Value.int .i64 (p.2 : Nat))
def sumBlk (w : World) (g n : Nat) : Nat := ((List.range n).map fun i => match w.cell? ⟨g, i, none⟩ with | some (.int _ z) => z.toNat | _ => 0).sum
def flagOf (v : Value) : Nat := match v with | .bool true => 1 | _ => 0
def GivesPsnR (r : Rul) (ts : List Tch) (w : World) (e : Ending) (w' : World) : Prop :=
  ∃ (A : Option Addr) (c : Nat) (P : List Psn), e = .returned (.slice A P.length c) ∧ IsPsns r ts P ∧ Mem w w' [.sl rPsn A P]
def mkD (D : Nat) : Deferred := { target := .collected D, args := #[] }
def Chunk.df1 (D : Nat) : Chunk :=
  ⟨some D, fun _ w => w.heap[D]? = some (.deferred (some [])), fun k _ hd h => (k.block D (Array.getElem?_eq_some_iff.1 h).1 (hd D rfl)).trans h, fun _ h => h, fun h k e => by cases e; exact (Array.getElem?_eq_some_iff.1 h).1⟩
def Chunk.df0 (D : Nat) : Chunk :=
  ⟨some D, fun _ w => w.heap[D]? = some (.deferred none), fun k _ hd h => (k.block D (Array.getElem?_eq_some_iff.1 h).1 (hd D rfl)).trans h, fun _ h => h, fun h k e => by cases e; exact (Array.getElem?_eq_some_iff.1 h).1⟩
def jm (r : Rul) (ts : List Tch) (x : IdV) : Bool := !decide (hav ts x = []) && joinsP r ts x
def kAcc (r : Rul) (ts : List Tch) (ids : List IdV) (pre : List Nat) : IdV := ((pre.map (iAt ids)).reverse.find? (jm r ts)).getD (ids.headD ⟨0, ⟨#[]⟩⟩)
structure IdAcc (all ids : List IdV) : Prop where
  nd : ids.Nodup
  mem : ∀ x, x ∈ ids ↔ x ∈ all
theorem IdAcc.start : IdAcc [] [] := ⟨by simp, fun x => Iff.rfl⟩
theorem IdAcc.add {all ids : List IdV} (h : IdAcc all ids) (x : IdV) : IdAcc (all ++ [x]) (if decide (x ∈ ids) = true then ids else ids ++ [x]) := by
  by_cases hx : x ∈ ids
  · rw [if_pos (decide_eq_true hx)]
    refine ⟨h.nd, fun y => ?_⟩
    rw [List.mem_append, List.mem_singleton, ← h.mem y]
    exact ⟨.inl, fun e => e.elim id (fun e => by rw [e]; exact hx)⟩
  · rw [if_neg (by simpa using hx)]
    refine ⟨List.nodup_append.2 ⟨h.nd, by simp, fun a ha b hb e => hx (by rw [List.mem_singleton.1 hb] at e; rw [← e]; exact ha)⟩, fun y => ?_⟩
    rw [List.mem_append, List.mem_append, h.mem y]
theorem IdAcc.sorted {all ids ys : List IdV} (h : IdAcc all ids) (hp : ys.Perm ids) (ho : ys.Pairwise (fun a b => cmpId a b ≤ 0)) : ys = srtId all := by
  have h1 : ys.Nodup := hp.nodup_iff.2 h.nd
  have h2 : ys.Pairwise (fun a b => cmpId a b ≤ 0 ∧ a ≠ b) := ho.and h1
  have h3 : RiseI ys := h2.imp (fun {a b} h => by
    rcases Int.lt_or_eq_of_le h.1 with h6 | h6
    · exact h6
    · exact absurd (cmpId_zero h6) h.2)
  exact srtId_is h3 (fun x => by rw [hp.mem_iff, h.mem x])
theorem IdAcc.len {all ids : List IdV} (h : IdAcc all ids) : ids.length ≤ all.length := sub_len h.nd (fun x hx => (h.mem x).1 hx)
end Go.Proofs.YtfdcgedcfafmcaaGreatDoor

/- What the reference PersonsOf returns. -/
namespace Go.Proofs.YtfdcgedcfafmcaaGreatDoor
open Go Go.RowKit Go.Shelf
attribute [local go_sem] Oper.semAt_some
def GivesPsnO (r : Rul) (ts : List Tch) (w : World) (e : Ending) (w' : World) : Prop :=
  ∃ (A : Option Addr) (c : Nat) (qs : List PsQ), e = .returned (.slice A qs.length c) ∧ IsPsns r ts (qs.map PsQ.p) ∧ Mem w w' [.own rPsQ w.heap.size 98 (.slice A qs.length c) qs, .pdat qs]
end Go.Proofs.YtfdcgedcfafmcaaGreatDoor
