/- Several texts in one: NewGroup, PartsLaw, Grp, MapGR, Parts. -/
import Derived.Test.YtjlangjhdakmiaaGreatDoorPackP
import Derived.Deep.DeepCutAuto
/- What newGroup returns: touches under rules, and which touches have each id. -/
namespace Go.Proofs.YtjlangjhdakmiaaGreatDoor
open Go Go.RowKit
def GivesGrp (r : Rul) (K : Option Addr) (ck : Nat) (W : Option Addr) (cw : Nat) (S : Option Addr) (cs : Nat) (A : Option Addr) (c : Nat) (ts : List Tch) (w : World) (e : Ending) (w' : World) : Prop :=
  ∃ (G X : Nat) (qs : List HQ), e = .returned (.pointer (some ⟨G, 0, none⟩)) ∧ Mem w w' (.loc G (grCs r K ck W cw S cs A ts.length c X) 84 :: havC w.heap.size X qs) ∧ HavOk ts ts.length [] (qs.map HQ.kl)
theorem oneJ (y : Int) : ∀ u ∈ ([.int .i64 y] : List Value), u.oneCell' = true := fun u hu => by rw [List.mem_singleton.1 hu]; rfl
theorem notin_take {α : Type} {l : List α} {n : Nat} {x : α} (hn : l.Nodup) (hx : l[n]? = some x) : x ∉ l.take n := fun h => by
  obtain ⟨m, hm⟩ := List.mem_iff_getElem?.1 h
  have hmn : m < n := by
    have := lt_of_get hm
    rw [List.length_take] at this
    omega
  rw [List.getElem?_take_of_lt hmn] at hm
  obtain ⟨h1, e1⟩ := List.getElem?_eq_some_iff.1 hm
  obtain ⟨h2, e2⟩ := List.getElem?_eq_some_iff.1 hx
  exact List.pairwise_iff_getElem.1 hn m n h1 h2 hmn (e1.trans e2.symm)
end Go.Proofs.YtjlangjhdakmiaaGreatDoor

/- Parts: the plain law of the loop over all ids that join. -/
namespace Go.Proofs.YtjlangjhdakmiaaGreatDoor
open Go Go.RowKit
/-- does an id join, when one is left out? -/
def joinsX (r : Rul) (l : List Tch) (out : Option IdV) (x : IdV) : Bool := joinsP r l x && decide (out ≠ some x)
def EdgeX (r : Rul) (l : List Tch) (out : Option IdV) (i j : Nat) : Prop := ∃ x, joinsX r l out x = true ∧ x ∈ idsAt l i ∧ x ∈ idsAt l j
theorem EdgeX.symm {r : Rul} {l : List Tch} {out : Option IdV} (i j : Nat) : EdgeX r l out i j → EdgeX r l out j i := fun ⟨x, h, h1, h2⟩ => ⟨x, h, h2, h1⟩
/-- the ids of done have each led their touches together -/
structure Joined (r : Rul) (ts : List Tch) (out : Option IdV) (done : List (IdV × List Nat)) (c : Nat → Nat) : Prop where
  labs : Labs ts.length (EdgeX r ts out) c
  same : ∀ p ∈ done, joinsX r ts out p.1 = true → ∀ i ∈ p.2, ∀ j ∈ p.2, c i = c j
theorem Joined.start (r : Rul) (ts : List Tch) (out : Option IdV) : Joined r ts out [] id := ⟨Labs.start _ _, fun _ h => by cases h⟩
theorem Joined.skip {r : Rul} {ts : List Tch} {out : Option IdV} {done : List (IdV × List Nat)} {c : Nat → Nat} (h : Joined r ts out done c) {p : IdV × List Nat} (hp : joinsX r ts out p.1 = false) : Joined r ts out (done ++ [p]) c := by
  refine ⟨h.labs, fun q hq hj => ?_⟩
  rcases List.mem_append.1 hq with hq | hq
  · exact h.same q hq hj
  · rw [List.mem_singleton.1 hq, hp] at hj; cases hj
/-- one place more of an id that joins -/
theorem Joined.step {r : Rul} {ts : List Tch} {out : Option IdV} {done : List (IdV × List Nat)} {c : Nat → Nat} (h : Joined r ts out done c) {x : IdV} (hx : joinsX r ts out x = true) {a b : Nat} (ha : a ∈ hav ts x) (hb : b ∈ hav ts x) : Joined r ts out done (joinC (c a) (c b) c) :=
  ⟨h.labs.join EdgeX.symm (hav_lt ha) (hav_lt hb) ⟨x, hx, mem_idsAt.2 ha, mem_idsAt.2 hb⟩, fun q hq hj i hi j hj' => joinC_keep (h.same q hq hj i hi j hj')⟩
theorem Joined.next {r : Rul} {ts : List Tch} {out : Option IdV} {done : List (IdV × List Nat)} {c : Nat → Nat} (h : Joined r ts out done c) {p : IdV × List Nat} {a : Nat} (hp : ∀ j ∈ p.2, c j = c a) : Joined r ts out (done ++ [p]) c := by
  refine ⟨h.labs, fun q hq hj i hi j hj' => ?_⟩
  rcases List.mem_append.1 hq with hq | hq
  · exact h.same q hq hj i hi j hj'
  · rw [List.mem_singleton.1 hq] at hi hj'
    rw [hp i hi, hp j hj']
/-- what an entry tells -/
theorem HavOk.entry {ts : List Tch} {L : List (IdV × List Nat)} (h : HavOk ts ts.length [] L) {p : IdV × List Nat} (hp : p ∈ L) : p.2 = hav ts p.1 ∧ p.2 ≠ [] := by
  obtain ⟨x, js⟩ := p
  obtain ⟨i, hi⟩ := List.mem_iff_getElem?.1 hp
  have h1 := (getG_at h.1 hi).1
  have h2 := h.2 x
  rw [h1, List.take_length] at h2
  simp only [List.not_mem_nil, if_false, List.append_nil] at h2
  unfold some1 at h2
  split at h2
  · cases h2
  · rename_i hne
    obtain rfl := Option.some.inj h2
    exact ⟨rfl, hne⟩
theorem HavOk.has {ts : List Tch} {L : List (IdV × List Nat)} (h : HavOk ts ts.length [] L) {x : IdV} {j : Nat} (hj : j ∈ hav ts x) : (x, hav ts x) ∈ L := by
  have h2 := h.2 x
  rw [List.take_length] at h2
  simp only [List.not_mem_nil, if_false, List.append_nil] at h2
  unfold some1 at h2
  rw [if_neg (fun e => by rw [e] at hj; cases hj)] at h2
  exact getG_mem h2
theorem Joined.fin {r : Rul} {ts : List Tch} {out : Option IdV} {done L : List (IdV × List Nat)} {c : Nat → Nat} (h : Joined r ts out done c) (hp : done.Perm L) (hL : HavOk ts ts.length [] L) : IsPart ts.length (EdgeX r ts out) c :=
  h.labs.part fun i j _ _ ⟨x, hx, h1, h2⟩ => by
    have a1 := mem_idsAt.1 h1
    have a2 := mem_idsAt.1 h2
    exact h.same (x, hav ts x) (hp.mem_iff.2 (hL.has a1)) hx i a1 j a2
end Go.Proofs.YtjlangjhdakmiaaGreatDoor

/- A group of touches in memory, as all its methods read it; joins told by the law's own word. -/
namespace Go.Proofs.YtjlangjhdakmiaaGreatDoor
open Go Go.RowKit
/-- the group's block, its map, the slices of places, the rules and the touches -/
structure Grp (N : Nat → Prop) (w : World) (G X : Nat) (r : Rul) (K W S A : Option Addr) (ck cw cs c : Nat) (ts : List Tch) (qs : List HQ) : Prop where
  g : LV w G (grCs r K ck W cw S cs A ts.length c X) 84
  m : MapG keyId w X (qs.map HQ.kv)
  s : SlotsOk (fun _ => False) w qs
  h : HavOk ts ts.length [] (qs.map HQ.kl)
  r : RulIn N w r K W S
  t : Sl rTch N w A ts
  cp : ∀ q ∈ qs, q.js.length ≤ q.c
theorem Grp.keepB {N : Nat → Prop} {w w' : World} {G X : Nat} {r : Rul} {K W S A : Option Addr} {ck cw cs c : Nat} {ts : List Tch} {qs : List HQ} (h : Grp N w G X r K W S A ck cw cs c ts qs) (k : Below w.heap.size w w') : Grp N w' G X r K W S A ck cw cs c ts qs :=
  ⟨LV.kb3 h.g k h.g.lt, by
    obtain ⟨es, cl, hb, he⟩ := h.m
    exact ⟨es, cl, (k.block X (Array.getElem?_eq_some_iff.1 hb).1).trans hb, he⟩, fun q hq => (h.s q hq).keepB k, h.h, h.r.keepB k, h.t.keepB k, h.cp⟩
/-- where the places of an id lie -/
theorem HavOk.look {ts : List Tch} {qs : List HQ} (h : HavOk ts ts.length [] (qs.map HQ.kl)) (x : IdV) : ∃ A c, (getG x (qs.map HQ.kv)).getD (.slice none 0 0) = .slice A (hav ts x).length c ∧ ((hav ts x = [] ∧ A = none ∧ c = 0) ∨ ∃ q ∈ qs, q.x = x ∧ q.A = A ∧ q.c = c ∧ q.js = hav ts x) := by
  have h2 := h.2 x
  rw [List.take_length] at h2
  simp only [List.not_mem_nil, if_false, List.append_nil] at h2
  have hn := h.1
  rw [kl_keys] at hn
  rcases hq_cases qs hn x with ⟨_, e1, e2⟩ | ⟨j, q, e1, e2, e3, e4⟩
  · rw [e2] at h2
    have h0 : hav ts x = [] := by
      unfold some1 at h2
      split at h2
      · assumption
      · cases h2
    exact ⟨none, 0, by rw [e1, h0]; rfl, .inl ⟨h0, rfl, rfl⟩⟩
  · rw [e4] at h2
    have hj : q.js = hav ts x := by
      unfold some1 at h2
      split at h2
      · cases h2
      · exact Option.some.inj h2
    exact ⟨q.A, q.c, by rw [e3, Option.getD_some, HQ.v, hj], .inr ⟨q, List.mem_of_getElem? e1, e2, rfl, rfl, hj⟩⟩
/-- rules and touches that are in order -/
structure RtOk (r : Rul) (ts : List Tch) : Prop where
  wk : RiseI r.weak
  wl : r.weak.length ≤ 1000000
  kl : r.kinds.length ≤ 1000000
  tl : ts.length ≤ 1000000
  up : ∀ t ∈ ts, RiseI t.ids
  il : ∀ t ∈ ts, t.ids.length ≤ 1000000
  ne : ∀ t ∈ ts, t.ids ≠ []
  tb : ts.length ≤ 2000
  ib : ∀ t ∈ ts, t.ids.length ≤ 10
theorem tch_right {t : Tch} {last : Int} (h : tchFault t last = 0) : RiseI t.ids ∧ t.ids.length ≤ 10 ∧ t.ids ≠ [] := by
  unfold tchFault tchE at h
  split at h
  · omega
  split at h
  · omega
  split at h
  · omega
  split at h
  · omega
  rename_i h0
  split at h
  · omega
  rename_i h1
  split at h
  · omega
  rename_i h2
  refine ⟨(idsGo_ok (l := t.ids) (prev := none) (Decidable.not_not.1 h2)).2.2, by omega, fun e => h0 (by rw [e]; rfl)⟩
theorem tchs_right : ∀ {l : List Tch} {last : Int}, tchsGo last l = 0 → ∀ t ∈ l, ∃ last', tchFault t last' = 0
  | [], _, _, _, h => by cases h
  | a :: r, last, h, t, ht => by
    rw [tchsGo] at h
    by_cases e : tchFault a last = 0
    · rw [if_neg (by simpa using e)] at h
      rcases List.mem_cons.1 ht with rfl | ht
      · exact ⟨_, e⟩
      · exact tchs_right h t ht
    · rw [if_pos e] at h
      exact absurd h e
theorem tchsFault_go {l : List Tch} (h : tchsFault l = 0) : tchsGo 0 l = 0 := by
  unfold tchsFault at h
  split at h
  · omega
  · exact h
theorem rul_right {r : Rul} (h : rulFault r = 0) : RiseI r.weak ∧ r.weak.length ≤ 200 := by
  unfold rulFault rulE at h
  split at h
  · omega
  split at h
  · omega
  split at h
  · omega
  split at h
  · omega
  rename_i h1
  split at h
  · omega
  rename_i h2
  exact ⟨(idsGo_ok (l := r.weak) (prev := none) (Decidable.not_not.1 h2)).2.2, by omega⟩
theorem RtOk.mk2 {r : Rul} {ts : List Tch} (hr : rulFault r = 0) (hk : r.kinds.length ≤ 1000000) (hl : ts.length ≤ 2000) (ht : ∀ t ∈ ts, ∃ last, tchFault t last = 0) : RtOk r ts :=
  ⟨(rul_right hr).1, Nat.le_trans (rul_right hr).2 (by decide), hk, Nat.le_trans hl (by decide), fun t h => by obtain ⟨_, e⟩ := ht t h; exact (tch_right e).1,
    fun t h => by obtain ⟨_, e⟩ := ht t h; exact Nat.le_trans (tch_right e).2.1 (by decide), fun t h => by obtain ⟨_, e⟩ := ht t h; exact (tch_right e).2.2, hl, fun t h => by obtain ⟨_, e⟩ := ht t h; exact (tch_right e).2.1⟩
theorem RtOk.of {r : Rul} {ts : List Tch} (hr : rulFault r = 0) (hk : r.kinds.length ≤ 1000000) (ht : tchsFault ts = 0) : RtOk r ts := .mk2 hr hk (by unfold tchsFault at ht; split at ht <;> omega) (tchs_right (tchsFault_go ht))
theorem RiseI.nodup {l : List IdV} (h : RiseI l) : l.Nodup := h.imp (fun {a b} hab e => by subst e; have := cmpId_ok.refl a; omega)
end Go.Proofs.YtjlangjhdakmiaaGreatDoor

/- Loops over maps: how many entries are left, read off the world. -/
namespace Go.Proofs.YtjlangjhdakmiaaGreatDoor
open Go Go.RowKit Go.MapKept
/-- how many entries a loop over a map has left -/
def iterLeft (es : Array MapEntry) (Y : Nat) (w : World) : Nat := match w.heap[Y]? with
  | some (.mapIter _ _ seen _) => (leftOf es seen).size
  | _ => 0
theorem RngOk.size {κ : Type} {K : KeyL κ} {es : Array MapEntry} {clock : Nat} {seen : Array Nat} {L done left : List (κ × Value)} (h : RngOk K es clock seen L done left) : (leftOf es seen).size = left.length := by
  have := congrArg List.length h.lft
  rw [List.length_map, List.length_map, Array.length_toList] at this
  exact this
theorem Mem.iterSize {κ : Type} {K : KeyL κ} {w0 w : World} {cs : List Chunk} (S : Mem w0 w cs) (j : Nat) {R X clock c0 : Nat} {seen : Array Nat} (hj : cs[j]? = some (.iter R X clock seen c0)) {es : Array MapEntry} {L done left : List (κ × Value)} (hr : RngOk K es clock seen L done left) : iterLeft es R w = left.length := by
  have hR : w.heap[R]? = some (.mapIter (some X) clock seen c0) := S.ok _ (List.mem_of_getElem? hj)
  unfold iterLeft
  rw [hR]
  exact hr.size
end Go.Proofs.YtjlangjhdakmiaaGreatDoor

/- What (*group).parts returns: for each touch the place of the first one of its person. -/
namespace Go.Proofs.YtjlangjhdakmiaaGreatDoor
open Go Go.RowKit
/-- an id that may be left out -/
def OutIs (w : World) (P : Value) : Option IdV → Prop
  | none => P = .pointer none
  | some x => ∃ O o, P = .pointer (some ⟨O, o, none⟩) ∧ O < w.heap.size ∧ w.cell? ⟨O, o, none⟩ = some (.int .i64 x.k) ∧ w.cell? ⟨O, o + 1, none⟩ = some (.string x.t)
/-- the first n places of a row, told; the rest is bare -/
abbrev rowK (n k : Nat) : List Nat := List.range k ++ List.replicate (n - k) 0
theorem rowK_len {n k : Nat} (h : k ≤ n) : (rowK n k).length = n := by simp [rowK]; omega
theorem rowK_at {n k : Nat} (h : k < n) : (rowK n k)[k]? = some 0 := by
  unfold rowK
  rw [List.getElem?_append_right (by simp), List.length_range, Nat.sub_self, List.getElem?_replicate, if_pos (by omega)]
theorem rowK_set {n k : Nat} (h : k < n) : (rowK n k).set k k = rowK n (k + 1) := by
  unfold rowK
  rw [List.set_append_right _ _ (by simp), List.length_range, Nat.sub_self, show n - k = (n - (k + 1)) + 1 by omega, List.replicate_succ, List.set_cons_zero, List.range_succ, List.append_assoc]
  rfl
theorem rowK_end (n : Nat) : rowK n n = List.range n := by simp [rowK]
theorem Roots.put {n : Nat} {p : List Nat} {c : Nat → Nat} (h : Roots n p c) {i : Nat} (hle : c i ≤ i) (hfix : c (c i) = c i) : Roots n (p.set i (c i)) c := by
  refine ⟨by rw [List.length_set]; exact h.len, fun k s hk => ?_⟩
  rw [List.getElem?_set] at hk
  by_cases e : i = k
  · subst e
    rw [if_pos rfl] at hk
    split at hk
    · obtain rfl := Option.some.inj hk
      exact ⟨hle, hfix, fun e => e⟩
    · cases hk
  · rw [if_neg e] at hk
    exact h.at' k s hk
/-- what stands before k is what is wanted -/
def Done (c : Nat → Nat) (k : Nat) (p : List Nat) : Prop := ∀ j, j < k → p[j]? = some (c j)
theorem Done.next {c : Nat → Nat} {k : Nat} {p q : List Nat} (h : Done c k p) (hk : Keeps c p q) (hl : k < q.length) : Done c (k + 1) (q.set k (c k)) := fun j hj => by
  rw [List.getElem?_set]
  by_cases e : k = j
  · subst e; rw [if_pos rfl, if_pos hl]
  · rw [if_neg e]; exact hk j (h j (by omega))
theorem Done.all {c : Nat → Nat} {n : Nat} {p : List Nat} (h : Done c n p) (hl : p.length = n) : p = rowC n c := by
  apply List.ext_getElem?
  intro i
  rcases Nat.lt_or_ge i n with hi | hi
  · rw [rowC_at hi, h i hi]
  · rw [List.getElem?_eq_none (by omega), List.getElem?_eq_none (by rw [rowC_len]; omega)]
def GivesParts (r : Rul) (ts : List Tch) (out : Option IdV) (w : World) (e : Ending) (w' : World) : Prop :=
  ∃ (A : Option Addr) (cap : Nat) (c : Nat → Nat), e = .returned (.slice A ts.length cap) ∧ IsPart ts.length (EdgeX r ts out) c ∧ Mem w w' [.own rInt w.heap.size 3 (.slice A ts.length cap) (iL (rowC ts.length c))]
end Go.Proofs.YtjlangjhdakmiaaGreatDoor
