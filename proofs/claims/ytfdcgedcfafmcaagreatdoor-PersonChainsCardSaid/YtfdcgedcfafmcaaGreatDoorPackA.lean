/- Several texts in one: FarLaw, ChnLaw, FarMem, CmpI, Nbrs, Copy, RepN, Que, GFar. -/
import Derived.Test.YtfdcgedcfafmcaaGreatDoorPackT
import Derived.Test.YtfdcgedcfafmcaaGreatDoorPackF
import Derived.Test.YtfdcgedcfafmcaaGreatDoorPackK
import Derived.Test.YtfdcgedcfafmcaaGreatDoorPackN
import Derived.Test.YtfdcgedcfafmcaaGreatDoorPackQ
import Derived.Lib.SlicesCompact
import Derived.Test.YtfdcgedcfafmcaaGreatDoorPackU
import Derived.Test.YtfdcgedcfafmcaaGreatDoorPackB
import Derived.Laws.CopyOwn
import Derived.Test.YtfdcgedcfafmcaaGreatDoorShelf
import Derived.Test.YtfdcgedcfafmcaaGreatDoorPackX
import Derived.Deep.DeepCutAuto
import Derived.RegionTactic
import Derived.Deep.RegionLaw
/- How far places are from one, by steps along edges: the queue's way (the program), the way by levels (the reference), and the way back. No program is in sight. -/
namespace Go.Proofs.YtfdcgedcfafmcaaGreatDoor
open Go Go.RowKit
inductive Near (n : Nat) (R : Nat → Nat → Prop) (s : Nat) : Nat → Nat → Prop
  | base : Near n R s 0 s
  | up {k i : Nat} : Near n R s k i → Near n R s (k + 1) i
  | step {k i j : Nat} : Near n R s k i → j < n → R i j → Near n R s (k + 1) j
theorem least_ex {P : Nat → Prop} (h : ∃ k, P k) : ∃ k, P k ∧ ∀ m, P m → k ≤ m := by
  obtain ⟨k, hk⟩ := h
  have key : ∀ m k, k ≤ m → P k → ∃ k, P k ∧ ∀ m, P m → k ≤ m := by
    intro m
    induction m with
    | zero => intro k hk h; exact ⟨k, h, fun m _ => by omega⟩
    | succ m ih =>
      intro k hk h
      by_cases hl : ∃ j, P j ∧ j < k
      · obtain ⟨j, h1, h2⟩ := hl
        exact ih j (by omega) h1
      · exact ⟨k, h, fun j hj => by
          rcases Nat.lt_or_ge j k with h3 | h3
          · exact absurd ⟨j, hj, h3⟩ hl
          · exact h3⟩
  exact key k k (Nat.le_refl _) hk
open Classical in
noncomputable def farD (n : Nat) (R : Nat → Nat → Prop) (s i : Nat) : Option Nat := if h : ∃ k, Near n R s k i then some (Classical.choose (least_ex h)) else none
section
variable {n : Nat} {R : Nat → Nat → Prop} {s : Nat}
theorem far_some {i k : Nat} : farD n R s i = some k ↔ Near n R s k i ∧ ∀ m, Near n R s m i → k ≤ m := by
  unfold farD
  by_cases h : ∃ k, Near n R s k i
  · rw [dif_pos h]
    have h1 := Classical.choose_spec (least_ex h)
    constructor
    · intro e
      obtain rfl := Option.some.inj e
      exact h1
    · rintro ⟨h2, h3⟩
      rw [Nat.le_antisymm (h1.2 _ h2) (h3 _ h1.1)]
  · rw [dif_neg h]
    constructor
    · intro e; cases e
    · rintro ⟨h2, _⟩; exact absurd ⟨k, h2⟩ h
theorem far_ex {i k : Nat} (h : Near n R s k i) : ∃ m, farD n R s i = some m ∧ m ≤ k := by
  obtain ⟨m, h1, h2⟩ := least_ex (P := fun k => Near n R s k i) ⟨k, h⟩
  exact ⟨m, far_some.2 ⟨h1, h2⟩, h2 k h⟩
theorem far_self : farD n R s s = some 0 := far_some.2 ⟨.base, fun _ _ => Nat.zero_le _⟩
theorem near_zero {i : Nat} (h : Near n R s 0 i) : i = s := by cases h; rfl
theorem far_zero {i : Nat} : farD n R s i = some 0 ↔ i = s := by
  constructor
  · intro h; exact near_zero (far_some.1 h).1
  · rintro rfl; exact far_self
theorem far_step {i j k : Nat} (h : farD n R s i = some k) (hj : j < n) (hr : R i j) : ∃ m, farD n R s j = some m ∧ m ≤ k + 1 := far_ex (.step (far_some.1 h).1 hj hr)
theorem far_pred {j k : Nat} (h : farD n R s j = some (k + 1)) : j < n ∧ ∃ i, farD n R s i = some k ∧ R i j := by
  obtain ⟨h1, h2⟩ := far_some.1 h
  cases h1 with
  | up h3 => exact absurd (h2 _ h3) (by omega)
  | step h3 hj hr =>
    rename_i i
    obtain ⟨m, h4, h5⟩ := far_ex h3
    refine ⟨hj, i, ?_, hr⟩
    have := h2 _ (.step (far_some.1 h4).1 hj hr)
    rw [h4]
    congr 1
    omega
theorem far_lt (hs : s < n) {i k : Nat} (h : farD n R s i = some k) : i < n := by
  cases k with
  | zero => rw [far_zero.1 h]; exact hs
  | succ k => exact (far_pred h).1
structure Bfs (n : Nat) (R : Nat → Nat → Prop) (s : Nat) (out : List Int) (q : List Nat) : Prop where
  len : out.length = n
  src : out[s]? = some 0
  lab : ∀ (i : Nat) (v : Int), out[i]? = some v → v = -1 ∨ ∃ k : Nat, v = k ∧ farD n R s i = some k
  inq : ∀ i ∈ q, ∃ k : Nat, out[i]? = some (k : Int)
  ord : q.Pairwise (fun a b => ∀ k m, farD n R s a = some k → farD n R s b = some m → k ≤ m)
  top : ∀ h t, q = h :: t → ∀ b ∈ t, ∀ k m, farD n R s h = some k → farD n R s b = some m → m ≤ k + 1
  done : ∀ (i k : Nat), out[i]? = some (k : Int) → i ∉ q → ∀ j, j < n → R i j → ∃ m : Nat, out[j]? = some (m : Int)
theorem Bfs.far {out : List Int} {q : List Nat} (h : Bfs n R s out q) {i k : Nat} (e : out[i]? = some (k : Int)) : farD n R s i = some k := by
  rcases h.lab i _ e with h1 | ⟨m, h1, h2⟩
  · omega
  · rw [h2]; congr 1; omega
theorem Bfs.start (hs : s < n) : Bfs n R s ((List.replicate n (-1 : Int)).set s 0) [s] := by
  have hl : ∀ (i : Nat) (v : Int), ((List.replicate n (-1 : Int)).set s 0)[i]? = some v → (i = s ∧ v = 0) ∨ v = -1 := fun i v h => by
    rw [List.getElem?_set] at h
    by_cases e : s = i
    · rw [if_pos e] at h
      split at h
      · exact .inl ⟨e.symm, (Option.some.inj h).symm⟩
      · cases h
    · rw [if_neg e, List.getElem?_replicate] at h
      split at h
      · exact .inr (Option.some.inj h).symm
      · cases h
  have hsrc : ((List.replicate n (-1 : Int)).set s 0)[s]? = some 0 := by
    rw [List.getElem?_set, if_pos rfl, if_pos (by simpa using hs)]
  refine ⟨by simp, hsrc, fun i v h => ?_, fun i hi => ?_, List.pairwise_singleton _ _, fun h t e b hb => ?_, fun i k h hn => ?_⟩
  · rcases hl i v h with ⟨rfl, rfl⟩ | e
    · exact .inr ⟨0, rfl, far_self⟩
    · exact .inl e
  · rw [List.mem_singleton.1 hi]; exact ⟨0, hsrc⟩
  · injection e with e1 e2
    rw [← e2] at hb; cases hb
  · rcases hl i _ h with ⟨e, _⟩ | e
    · exact absurd (by rw [e]; exact List.mem_singleton_self _) hn
    · omega
theorem Bfs.below {out : List Int} {h : Nat} {t : List Nat} (b : Bfs n R s out (h :: t)) {L : Nat} (hL : farD n R s h = some L) : ∀ (k i : Nat), k ≤ L → farD n R s i = some k → ∃ m : Nat, out[i]? = some (m : Int) := by
  intro k
  induction k with
  | zero => intro i _ hi; rw [far_zero.1 hi]; exact ⟨0, b.src⟩
  | succ k ih =>
    intro i hk hi
    obtain ⟨hin, p, hp, hr⟩ := far_pred hi
    obtain ⟨m, hm⟩ := ih p (by omega) hp
    have hpq : p ∉ h :: t := by
      intro hq
      rcases List.mem_cons.1 hq with rfl | hq
      · rw [hL] at hp; have := Option.some.inj hp; omega
      · have := (List.pairwise_cons.1 b.ord).1 p hq L k hL hp
        omega
    exact b.done p m hm hpq i hin hr
theorem Bfs.tell {out : List Int} {h : Nat} {t : List Nat} (b : Bfs n R s out (h :: t)) {L j : Nat} (hL : out[h]? = some (L : Int)) (hj : out[j]? = some (-1)) (hr : R h j) : Bfs n R s (out.set j ((L : Int) + 1)) (h :: t ++ [j]) ∧ farD n R s j = some (L + 1) := by
  have hjn : j < n := by rw [← b.len]; exact (List.getElem?_eq_some_iff.1 hj).1
  have hjl : j < out.length := (List.getElem?_eq_some_iff.1 hj).1
  have hf := b.far hL
  have hfj : farD n R s j = some (L + 1) := by
    obtain ⟨m, h1, h2⟩ := far_step hf hjn hr
    rcases Nat.lt_or_ge m (L + 1) with h3 | h3
    · obtain ⟨k, hk⟩ := b.below hf m j (by omega) h1
      rw [hj] at hk
      have := Option.some.inj hk
      omega
    · rw [h1]; congr 1; omega
  refine ⟨⟨by rw [List.length_set]; exact b.len, ?_, ?_, ?_, ?_, ?_, ?_⟩, hfj⟩
  · rw [List.getElem?_set_ne (fun e => by rw [e] at hj; rw [b.src] at hj; have := Option.some.inj hj; omega)]
    exact b.src
  · intro i v hv
    rw [List.getElem?_set] at hv
    by_cases e : j = i
    · rw [if_pos e, if_pos hjl] at hv
      refine .inr ⟨L + 1, ?_, by rw [← e]; exact hfj⟩
      have := Option.some.inj hv
      omega
    · rw [if_neg e] at hv
      exact b.lab i v hv
  · intro i hi
    by_cases e : j = i
    · exact ⟨L + 1, by rw [← e, List.getElem?_set_self hjl]; rfl⟩
    · rw [List.getElem?_set_ne e]
      rcases List.mem_append.1 hi with hi | hi
      · exact b.inq i hi
      · exact absurd (List.mem_singleton.1 hi).symm e
  · rw [List.pairwise_append]
    refine ⟨b.ord, List.pairwise_singleton _ _, fun a ha c hc k m h1 h2 => ?_⟩
    rw [List.mem_singleton.1 hc, hfj] at h2
    have h3 := Option.some.inj h2
    rcases List.mem_cons.1 ha with rfl | ha
    · rw [hf] at h1; have := Option.some.inj h1; omega
    · have := b.top h t rfl a ha L k hf h1; omega
  · intro h' t' e c hc k m h1 h2
    rw [List.cons_append] at e
    injection e with e1 e2
    subst e1
    rw [← e2] at hc
    rw [hf] at h1
    have h3 := Option.some.inj h1
    rcases List.mem_append.1 hc with hc | hc
    · have := b.top h t rfl c hc L m hf h2; omega
    · rw [List.mem_singleton.1 hc, hfj] at h2; have := Option.some.inj h2; omega
  · intro i k hk hn c hc hrc
    have hij : j ≠ i := fun e => hn (by rw [e]; exact List.mem_append_right _ (List.mem_singleton_self _))
    rw [List.getElem?_set_ne hij] at hk
    obtain ⟨m, hm⟩ := b.done i k hk (fun h' => hn (List.mem_append_left _ h')) c hc hrc
    by_cases e : j = c
    · exact ⟨L + 1, by rw [← e, List.getElem?_set_self hjl]; rfl⟩
    · exact ⟨m, by rw [List.getElem?_set_ne e]; exact hm⟩
theorem Bfs.drop {out : List Int} {h : Nat} {t : List Nat} (b : Bfs n R s out (h :: t)) (ha : ∀ j, j < n → R h j → ∃ m : Nat, out[j]? = some (m : Int)) : Bfs n R s out t := by
  refine ⟨b.len, b.src, b.lab, fun i hi => b.inq i (List.mem_cons_of_mem _ hi), (List.pairwise_cons.1 b.ord).2, fun h2 t2 e c hc k m h1 h3 => ?_, fun i k hk hn j hj hr => ?_⟩
  · obtain ⟨L, hL⟩ := b.inq h (List.mem_cons_self ..)
    have hf := b.far hL
    have h5 := b.top h t rfl c (by rw [e]; exact List.mem_cons_of_mem _ hc) L m hf h3
    have h6 := (List.pairwise_cons.1 b.ord).1 h2 (by rw [e]; exact List.mem_cons_self ..) L k hf h1
    omega
  · by_cases e : i = h
    · rw [e] at hr; exact ha j hj hr
    · exact b.done i k hk (fun h' => by rcases List.mem_cons.1 h' with h' | h'; exact e h'; exact hn h') j hj hr
noncomputable def farI (n : Nat) (R : Nat → Nat → Prop) (s i : Nat) : Int := match farD n R s i with | some k => (k : Int) | none => -1
theorem Bfs.all {out : List Int} (b : Bfs n R s out []) {i : Nat} (hi : i < n) : out[i]? = some (farI n R s i) := by
  have key : ∀ (k j : Nat), farD n R s j = some k → ∃ m : Nat, out[j]? = some (m : Int) := by
    intro k
    induction k with
    | zero => intro j hj; rw [far_zero.1 hj]; exact ⟨0, b.src⟩
    | succ k ih =>
      intro j hj
      obtain ⟨hjn, p, hp, hr⟩ := far_pred hj
      obtain ⟨m, hm⟩ := ih p hp
      exact b.done p m hm (by simp) j hjn hr
  obtain ⟨v, hv⟩ : ∃ v, out[i]? = some v := ⟨_, List.getElem?_eq_getElem (by rw [b.len]; exact hi)⟩
  rw [hv]
  congr 1
  unfold farI
  rcases b.lab i v hv with h1 | ⟨k, h1, h2⟩
  · cases hf : farD n R s i with
    | none => exact h1
    | some k =>
      obtain ⟨m, hm⟩ := key k i hf
      rw [hv] at hm
      have := Option.some.inj hm
      omega
  · rw [h2]; exact h1
def Lev (n : Nat) (R : Nat → Nat → Prop) (s : Nat) (f : Nat → Option Nat) (st i : Nat) : Prop := ∀ j k, f j = some k ↔ farD n R s j = some k ∧ (k ≤ st ∨ (k = st + 1 ∧ j < i))
theorem Lev.start {f : Nat → Option Nat} (hf : ∀ j, f j = if j = s then some 0 else none) : Lev n R s f 0 0 := fun j k => by
  rw [hf]
  constructor
  · intro h
    split at h
    · rename_i e
      obtain rfl := Option.some.inj h
      exact ⟨far_zero.2 e, .inl (Nat.le_refl _)⟩
    · cases h
  · rintro ⟨h1, h2 | ⟨_, h2⟩⟩
    · obtain rfl : k = 0 := by omega
      rw [if_pos (far_zero.1 h1)]
    · omega
theorem Lev.skip {f : Nat → Option Nat} {st i : Nat} (h : Lev n R s f st i) (hi : (f i).isSome = true ∨ ¬ ∃ p, f p = some st ∧ R p i) : Lev n R s f st (i + 1) := fun j k => by
  rw [h j k]
  refine and_congr_right fun hf => or_congr_right (and_congr_right fun hk => ?_)
  constructor
  · intro hj; omega
  · intro hj
    by_cases e : j = i
    · subst e hk
      rcases hi with hs | hn
      · obtain ⟨m, hm⟩ := Option.isSome_iff_exists.1 hs
        obtain ⟨h1, h2⟩ := (h j m).1 hm
        rw [hf] at h1
        have := Option.some.inj h1
        omega
      · obtain ⟨_, p, hp, hr⟩ := far_pred hf
        exact absurd ⟨p, (h p st).2 ⟨hp, .inl (Nat.le_refl _)⟩, hr⟩ hn
    · omega
theorem Lev.put {f g : Nat → Option Nat} {st i p : Nat} (h : Lev n R s f st i) (hin : i < n) (hi : f i = none) (hp : f p = some st) (hr : R p i) (hg : ∀ j, g j = if j = i then some (st + 1) else f j) : Lev n R s g st (i + 1) ∧ farD n R s i = some (st + 1) := by
  have hfi : farD n R s i = some (st + 1) := by
    obtain ⟨m, h1, h2⟩ := far_step ((h p st).1 hp).1 hin hr
    rcases Nat.lt_or_ge m (st + 1) with h3 | h3
    · have := (h i m).2 ⟨h1, .inl (by omega)⟩
      rw [hi] at this; cases this
    · rw [h1]; congr 1; omega
  refine ⟨fun j k => ?_, hfi⟩
  rw [hg]
  by_cases e : j = i
  · subst e
    rw [if_pos rfl, hfi]
    constructor
    · intro e2
      exact ⟨e2, .inr ⟨(Option.some.inj e2).symm, by omega⟩⟩
    · exact fun h2 => h2.1
  · rw [if_neg e, h j k]
    refine and_congr_right fun hf => or_congr_right (and_congr_right fun hk => ?_)
    omega
theorem Lev.next (hs : s < n) {f : Nat → Option Nat} {st : Nat} (h : Lev n R s f st n) : Lev n R s f (st + 1) 0 := fun j k => by
  rw [h j k]
  refine and_congr_right fun hf => ?_
  have := far_lt hs hf
  omega
theorem Lev.fin (hs : s < n) {f : Nat → Option Nat} {st : Nat} (h : Lev n R s f st n) (hno : ∀ j, f j ≠ some (st + 1)) (j : Nat) : f j = farD n R s j := by
  have hnone : ∀ j, farD n R s j ≠ some (st + 1) := fun j hj => hno j ((h j (st + 1)).2 ⟨hj, .inr ⟨rfl, far_lt hs hj⟩⟩)
  have hle : ∀ (k j : Nat), farD n R s j = some k → k ≤ st := by
    intro k
    induction k with
    | zero => intro j _; omega
    | succ k ih =>
      intro j hj
      obtain ⟨_, p, hp, _⟩ := far_pred hj
      have h1 := ih p hp
      by_cases e : k = st
      · rw [e] at hj; exact absurd hj (hnone j)
      · omega
  cases hf : farD n R s j with
  | some k => exact (h j k).2 ⟨hf, .inl (hle k j hf)⟩
  | none =>
    cases hj : f j with
    | none => rfl
    | some k => rw [((h j k).1 hj).1] at hf; cases hf
end
end Go.Proofs.YtfdcgedcfafmcaaGreatDoor

/- Chain: neighbours, the least id that two touches share, and the way back; what both sides compute. No program is in sight. -/
namespace Go.Proofs.YtfdcgedcfafmcaaGreatDoor
open Go Go.RowKit
open Classical in
noncomputable def edgeB (r : Rul) (ts : List Tch) (i j : Nat) : Bool := decide (Edge r ts i j)
open Classical in
theorem edgeB_iff {r : Rul} {ts : List Tch} {i j : Nat} : edgeB r ts i j = true ↔ Edge r ts i j := by
  unfold edgeB
  exact decide_eq_true_iff
noncomputable def nbL (r : Rul) (ts : List Tch) (i : Nat) : List Nat := (List.range ts.length).filter (edgeB r ts i)
theorem nbL_mem {r : Rul} {ts : List Tch} {i j : Nat} : j ∈ nbL r ts i ↔ j < ts.length ∧ Edge r ts i j := by
  unfold nbL
  rw [List.mem_filter, List.mem_range, edgeB_iff]
theorem nbL_up (r : Rul) (ts : List Tch) (i : Nat) : (nbL r ts i).Pairwise (· < ·) := List.pairwise_lt_range.filter _
theorem nbL_len (r : Rul) (ts : List Tch) (i : Nat) : (nbL r ts i).length ≤ ts.length := by
  unfold nbL
  have := List.length_filter_le (edgeB r ts i) (List.range ts.length)
  rw [List.length_range] at this
  exact this
theorem nbL_is {r : Rul} {ts : List Tch} {i : Nat} {zs : List Int} (ho : zs.Pairwise (· < ·)) (hm : ∀ z, z ∈ zs ↔ ∃ j : Nat, z = j ∧ j < ts.length ∧ Edge r ts i j) : zs = iL (nbL r ts i) := by
  refine strict_eq (fun a b : Int => a < b) (fun _ => Int.lt_irrefl _) (fun _ _ _ h1 h2 => Int.lt_trans h1 h2) _ _ ho ?_ (fun z => ?_)
  · unfold iL
    rw [List.pairwise_map]
    refine (nbL_up r ts i).imp (fun h => ?_)
    show ((_ : Nat) : Int) < ((_ : Nat) : Int)
    omega
  · rw [hm]
    unfold iL
    rw [List.mem_map]
    constructor
    · rintro ⟨j, rfl, h⟩; exact ⟨j, nbL_mem.2 h, rfl⟩
    · rintro ⟨j, h, rfl⟩; exact ⟨j, rfl, nbL_mem.1 h⟩
theorem nb_ids {r : Rul} {ts : List Tch} {i : Nat} {z : Int} : (∃ x ∈ idsAt ts i, joinsP r ts x = true ∧ z ∈ iL (hav ts x)) ↔ ∃ j : Nat, z = j ∧ j < ts.length ∧ Edge r ts i j := by
  constructor
  · rintro ⟨x, hx, hj, hz⟩
    obtain ⟨j, h, rfl⟩ := List.mem_map.1 hz
    exact ⟨j, rfl, hav_lt h, x, hj, hx, mem_idsAt.2 h⟩
  · rintro ⟨j, rfl, _, x, hj, hx, h⟩
    exact ⟨x, hx, hj, List.mem_map.2 ⟨j, mem_idsAt.1 h, rfl⟩⟩
def shT (r : Rul) (ts : List Tch) (la lb : List IdV) : Option IdV := la.find? (fun x => joinsP r ts x && decide (x ∈ lb))
theorem shT_at {r : Rul} {ts : List Tch} {la lb : List IdV} {j : Nat} {x : IdV} (h : la[j]? = some x) : shT r ts (la.drop j) lb = if (joinsP r ts x && decide (x ∈ lb)) = true then some x else shT r ts (la.drop (j + 1)) lb := by
  rw [drop_at3 h]
  unfold shT
  rw [List.find?_cons]
  cases (joinsP r ts x && decide (x ∈ lb)) <;> rfl
theorem shT_end (r : Rul) (ts : List Tch) (la lb : List IdV) : shT r ts (la.drop la.length) lb = none := by rw [List.drop_length]; rfl
def shL (r : Rul) (ts : List Tch) (a b : Nat) : Option IdV := shT r ts (idsAt ts a) (idsAt ts b)
theorem shL_some {r : Rul} {ts : List Tch} {a b : Nat} : (shL r ts a b).isSome = true ↔ Edge r ts a b := by
  unfold shL shT
  rw [List.find?_isSome]
  constructor
  · rintro ⟨x, hx, h⟩
    rw [Bool.and_eq_true, decide_eq_true_eq] at h
    exact ⟨x, h.1, hx, h.2⟩
  · rintro ⟨x, h1, h2, h3⟩
    exact ⟨x, h2, by rw [Bool.and_eq_true, decide_eq_true_eq]; exact ⟨h1, h3⟩⟩
structure Lnk where
  no : Int
  id : IdV
abbrev zId : IdV := ⟨0, ⟨#[]⟩⟩
def GivesSh (o : Option IdV) (w : World) (e : Ending) (w' : World) : Prop := e = .returned (.tuple #[.agg #[.int .i64 (o.getD zId).k, .string (o.getD zId).t], .bool o.isSome]) ∧ Below w.heap.size w w'
noncomputable def nxtL (r : Rul) (ts : List Tch) (s at' : Nat) : Option Nat := (nbL r ts at').find? (fun j => decide (farI ts.length (Edge r ts) s j = farI ts.length (Edge r ts) s at' - 1))
theorem farI_is {n : Nat} {R : Nat → Nat → Prop} {s i k : Nat} (h : farD n R s i = some k) : farI n R s i = (k : Int) := by unfold farI; rw [h]
theorem farI_of {n : Nat} {R : Nat → Nat → Prop} {s i k : Nat} (h : farI n R s i = (k : Int)) : farD n R s i = some k := by
  unfold farI at h
  cases hf : farD n R s i with
  | none => rw [hf] at h; have h2 : (-1 : Int) = k := h; omega
  | some m =>
    rw [hf] at h
    have h2 : ((m : Nat) : Int) = k := h
    congr 1
    omega
theorem farI_neg {n : Nat} {R : Nat → Nat → Prop} {s i : Nat} : farI n R s i < 0 ↔ farD n R s i = none := by
  unfold farI
  cases farD n R s i with
  | none => simp
  | some k => simp
theorem nxtL_ex {r : Rul} {ts : List Tch} {s at' k : Nat} (hs : s < ts.length) (h : farD ts.length (Edge r ts) s at' = some (k + 1)) : ∃ j, nxtL r ts s at' = some j ∧ farD ts.length (Edge r ts) s j = some k ∧ j < ts.length ∧ Edge r ts at' j := by
  obtain ⟨_, p, hp, hr⟩ := far_pred h
  have h1 : (nxtL r ts s at').isSome = true := by
    unfold nxtL
    rw [List.find?_isSome]
    refine ⟨p, nbL_mem.2 ⟨far_lt hs hp, hr.symm⟩, ?_⟩
    rw [decide_eq_true_eq, farI_is hp, farI_is h]
    omega
  obtain ⟨j, hj⟩ := Option.isSome_iff_exists.1 h1
  have h2 := List.mem_of_find?_eq_some hj
  have h3 := List.find?_some hj
  rw [decide_eq_true_eq, farI_is h] at h3
  have h4 := nbL_mem.1 h2
  exact ⟨j, hj, farI_of (by omega), h4.1, h4.2⟩
noncomputable def chnL (r : Rul) (ts : List Tch) (s : Nat) : Nat → Nat → List Lnk
  | 0, _ => []
  | k + 1, at' => match nxtL r ts s at' with
    | none => []
    | some j => ⟨noAt ts j, (shL r ts at' j).getD zId⟩ :: chnL r ts s k j
theorem chnL_step {r : Rul} {ts : List Tch} {s at' k j : Nat} (h : nxtL r ts s at' = some j) : chnL r ts s (k + 1) at' = ⟨noAt ts j, (shL r ts at' j).getD zId⟩ :: chnL r ts s k j := by
  rw [chnL, h]
theorem chnL_len (r : Rul) (ts : List Tch) (s : Nat) : ∀ (k i : Nat), (chnL r ts s k i).length ≤ k
  | 0, _ => by simp [chnL]
  | k + 1, i => by
    rw [chnL]
    cases nxtL r ts s i with
    | none => simp
    | some j =>
      have := chnL_len r ts s k j
      simp
      exact this
theorem far_small {n : Nat} {R : Nat → Nat → Prop} {s : Nat} (hs : s < n) : ∀ (k i : Nat), farD n R s i = some k → k < n := by
  have key : ∀ (k i : Nat), farD n R s i = some k → ∃ l : List Nat, l.length = k + 1 ∧ l.Nodup ∧ (∀ j ∈ l, j < n) ∧ ∀ j ∈ l, ∃ m, farD n R s j = some m ∧ m ≤ k := by
    intro k
    induction k with
    | zero =>
      intro i hi
      exact ⟨[i], rfl, by simp, fun j hj => by rw [List.mem_singleton.1 hj]; exact far_lt hs hi, fun j hj => ⟨0, by rw [List.mem_singleton.1 hj]; exact hi, Nat.le_refl _⟩⟩
    | succ k ih =>
      intro i hi
      obtain ⟨hin, p, hp, _⟩ := far_pred hi
      obtain ⟨l, h1, h2, h3, h4⟩ := ih p hp
      refine ⟨i :: l, by rw [List.length_cons, h1], List.nodup_cons.2 ⟨fun hm => ?_, h2⟩, fun j hj => ?_, fun j hj => ?_⟩
      · obtain ⟨m, h5, h6⟩ := h4 i hm
        rw [hi] at h5
        have := Option.some.inj h5
        omega
      · rcases List.mem_cons.1 hj with rfl | hj
        · exact hin
        · exact h3 j hj
      · rcases List.mem_cons.1 hj with rfl | hj
        · exact ⟨k + 1, hi, Nat.le_refl _⟩
        · obtain ⟨m, h5, h6⟩ := h4 j hj
          exact ⟨m, h5, by omega⟩
  intro k i hi
  obtain ⟨l, h1, h2, h3, _⟩ := key k i hi
  have h4 : l.length ≤ (List.range n).length := sub_len h2 (fun j hj => List.mem_range.2 (h3 j hj))
  rw [List.length_range, h1] at h4
  omega
def plcL (ts : List Tch) (no : Int) : Option Nat := (List.range ts.length).find? (fun i => decide (noAt ts i = no))
theorem plcL_some {ts : List Tch} {no : Int} (hu : NoUp ts) {i : Nat} (hi : i < ts.length) (h : noAt ts i = no) : plcL ts no = some i := by
  have h1 : (plcL ts no).isSome = true := by
    unfold plcL
    rw [List.find?_isSome]
    exact ⟨i, List.mem_range.2 hi, decide_eq_true h⟩
  obtain ⟨j, hj⟩ := Option.isSome_iff_exists.1 h1
  have h2 := List.mem_range.1 (List.mem_of_find?_eq_some hj)
  have h3 := of_decide_eq_true (List.find?_some (p := fun i => decide (noAt ts i = no)) hj)
  rw [hj, hu.inj h2 hi (h3.trans h.symm)]
theorem plcL_none {ts : List Tch} {no : Int} (h : ∀ i, i < ts.length → noAt ts i ≠ no) : plcL ts no = none := by
  unfold plcL
  rw [List.find?_eq_none]
  intro i hi e
  exact h i (List.mem_range.1 hi) (of_decide_eq_true e)
theorem plcL_at {ts : List Tch} {no : Int} {i : Nat} (h : plcL ts no = some i) : i < ts.length ∧ noAt ts i = no :=
  ⟨List.mem_range.1 (List.mem_of_find?_eq_some h), of_decide_eq_true (List.find?_some (p := fun i => decide (noAt ts i = no)) h)⟩
def ChnAns (r : Rul) (ts : List Tch) (a b : Int) (F : Int) (l : List Lnk) : Prop :=
  ((plcL ts a = none ∨ plcL ts b = none) ∧ F = 8 ∧ l = []) ∨ ∃ i s, plcL ts a = some i ∧ plcL ts b = some s ∧
    ((farD ts.length (Edge r ts) s i = none ∧ F = 16 ∧ l = []) ∨ ∃ k, farD ts.length (Edge r ts) s i = some k ∧ F = 0 ∧ l = ⟨a, zId⟩ :: chnL r ts s k i)
theorem ChnAns.uniq {r : Rul} {ts : List Tch} {a b F F2 : Int} {l l2 : List Lnk} (h : ChnAns r ts a b F l) (g : ChnAns r ts a b F2 l2) : F = F2 ∧ l = l2 := by
  rcases h with ⟨h1, rfl, rfl⟩ | ⟨i, s, h1, h2, h3⟩
  · rcases g with ⟨_, rfl, rfl⟩ | ⟨j, t, g1, g2, _⟩
    · exact ⟨rfl, rfl⟩
    · rcases h1 with h1 | h1
      · rw [h1] at g1; cases g1
      · rw [h1] at g2; cases g2
  · rcases g with ⟨g1, _⟩ | ⟨j, t, g1, g2, g3⟩
    · rcases g1 with g1 | g1
      · rw [g1] at h1; cases h1
      · rw [g1] at h2; cases h2
    · rw [h1] at g1; obtain rfl := Option.some.inj g1
      rw [h2] at g2; obtain rfl := Option.some.inj g2
      rcases h3 with ⟨e1, rfl, rfl⟩ | ⟨k, e1, rfl, rfl⟩
      · rcases g3 with ⟨_, rfl, rfl⟩ | ⟨m, e2, _⟩
        · exact ⟨rfl, rfl⟩
        · rw [e1] at e2; cases e2
      · rcases g3 with ⟨e2, _⟩ | ⟨m, e2, rfl, rfl⟩
        · rw [e1] at e2; cases e2
        · rw [e1] at e2; obtain rfl := Option.some.inj e2; exact ⟨rfl, rfl⟩
end Go.Proofs.YtfdcgedcfafmcaaGreatDoor

/- How many places are not told yet, read from the memory: the measure of the queue's loop. -/
namespace Go.Proofs.YtfdcgedcfafmcaaGreatDoor
open Go Go.RowKit
def negL (xs : List Int) : Nat := (xs.filter (fun z => decide (z = -1))).length
open Classical in
noncomputable def negW (w : World) (g n : Nat) : Nat := ((List.range n).filter (fun k => decide (w.cell? ⟨g, k, none⟩ = some (.int .i64 (-1))))).length
def lenV : Value → Nat
  | .slice _ n _ => n
  | _ => 0
theorem neg_take (xs : List Int) : ∀ m, m ≤ xs.length → ((List.range m).filter (fun k => decide (xs[k]? = some (-1 : Int)))).length = negL (xs.take m) := by
  intro m
  induction m with
  | zero => intro _; simp [negL]
  | succ m ih =>
    intro hm
    have hx : xs[m]? = some xs[m] := List.getElem?_eq_getElem (by omega)
    rw [List.range_succ, List.filter_append, List.length_append, ih (by omega), take_snoc hx]
    unfold negL
    rw [List.filter_append, List.length_append]
    congr 1
    rw [List.filter_cons, List.filter_cons, List.filter_nil, List.filter_nil, hx]
    by_cases e : xs[m] = -1
    · simp [e]
    · simp [e]
theorem negW_is {M : Nat → Prop} {B E g n cap : Nat} {w : World} {xs : List Int} (h : Own rInt M B E w (.slice (some ⟨g, 0, none⟩) n cap) xs) (hn : n = xs.length) : negW w g n = negL xs := by
  have h1 := neg_take xs xs.length (Nat.le_refl _)
  rw [List.take_length] at h1
  rw [← h1, hn]
  unfold negW
  congr 1
  refine List.filter_congr fun k hk => ?_
  obtain ⟨v, hv⟩ : ∃ v, xs[k]? = some v := ⟨_, List.getElem?_eq_getElem (List.mem_range.1 hk)⟩
  rw [(h.intAt hn k v hv).1, hv]
  simp
theorem neg_set : ∀ (xs : List Int) (j : Nat) (v : Int), xs[j]? = some (-1) → v ≠ -1 → negL (xs.set j v) + 1 = negL xs
  | [], _, _, h, _ => by simp at h
  | y :: r, 0, v, h, hv => by
    have e : y = -1 := by simpa using h
    subst e
    unfold negL
    simp [hv]
  | y :: r, j + 1, v, h, hv => by
    have h1 := neg_set r j v (by simpa using h) hv
    unfold negL at h1 ⊢
    rw [List.set_cons_succ, List.filter_cons, List.filter_cons]
    split
    · simp only [List.length_cons]; omega
    · exact h1
end Go.Proofs.YtfdcgedcfafmcaaGreatDoor

/- Numbers of the call's own: what slices.Sort and Compact make of them, nil too. -/
namespace Go.Proofs.YtfdcgedcfafmcaaGreatDoor
open Go Go.RowKit Go.Sort
theorem compact_sorted (zs : List Int) (hs : zs.Pairwise (· ≤ ·)) : (Lib.compact zs).Pairwise (· < ·) ∧ ∀ x, x ∈ Lib.compact zs ↔ x ∈ zs := by
  have key : ∀ m, m ≤ zs.length → (Lib.compactUpTo zs.toArray m).Pairwise (· < ·) ∧ ∀ x, x ∈ Lib.compactUpTo zs.toArray m ↔ ∃ j, j < m ∧ zs[j]? = some x := fun m => by
    induction m with
    | zero => intro _; exact ⟨by simp [Lib.compactUpTo], fun x => by simp [Lib.compactUpTo]⟩
    | succ m ih =>
      intro hm
      obtain ⟨h1, h2⟩ := ih (by omega)
      have hd : zs.toArray[m]! = zs[m] := by rw [getElem!_pos zs.toArray m (by simp; omega)]; rfl
      have hzm : zs[m]? = some zs[m] := List.getElem?_eq_getElem hm
      rw [Lib.compactUpTo_succ, hd]
      by_cases hk : Lib.keeps zs.toArray m = true
      · rw [if_pos hk]
        refine ⟨List.pairwise_append.2 ⟨h1, List.pairwise_singleton _ _, fun a ha b hb => ?_⟩, fun x => ?_⟩
        · rw [List.mem_singleton.1 hb]
          obtain ⟨j, hj, hja⟩ := (h2 a).1 ha
          obtain ⟨hjl, rfl⟩ := List.getElem?_eq_some_iff.1 hja
          have hm1 : zs.toArray[m - 1]! = zs[m - 1] := by rw [getElem!_pos zs.toArray (m - 1) (by simp; omega)]; rfl
          have hne : zs[m] ≠ zs[m - 1] := by
            unfold Lib.keeps at hk
            rw [hd, hm1] at hk
            have := of_decide_eq_true hk
            rcases this with h | h
            · omega
            · exact h
          have hle : zs[m - 1] ≤ zs[m] := List.pairwise_iff_getElem.1 hs (m - 1) m (by omega) hm (by omega)
          have hle2 : zs[j] ≤ zs[m - 1] := by
            rcases Nat.lt_or_ge j (m - 1) with h | h
            · exact List.pairwise_iff_getElem.1 hs j (m - 1) hjl (by omega) h
            · have : j = m - 1 := by omega
              subst this; exact Int.le_refl _
          omega
        · rw [List.mem_append, h2, List.mem_singleton]
          constructor
          · rintro (⟨j, hj, e⟩ | rfl)
            · exact ⟨j, by omega, e⟩
            · exact ⟨m, by omega, hzm⟩
          · rintro ⟨j, hj, e⟩
            rcases Nat.lt_or_ge j m with h | h
            · exact .inl ⟨j, h, e⟩
            · obtain rfl : j = m := by omega
              rw [hzm] at e
              exact .inr (Option.some.inj e).symm
      · have hk' : Lib.keeps zs.toArray m = false := by simpa using hk
        rw [hk']
        simp only [Bool.false_eq_true, if_false, List.append_nil]
        refine ⟨h1, fun x => ?_⟩
        rw [h2]
        have hm0 : m ≠ 0 ∧ zs[m] = zs[m - 1]'(by omega) := by
          have hm1 : zs.toArray[m - 1]! = zs[m - 1]'(by omega) := by rw [getElem!_pos zs.toArray (m - 1) (by simp; omega)]; rfl
          unfold Lib.keeps at hk'
          rw [hd, hm1] at hk'
          have := of_decide_eq_false hk'
          exact ⟨fun h => this (.inl h), Decidable.byContradiction fun h => this (.inr h)⟩
        constructor
        · rintro ⟨j, hj, e⟩; exact ⟨j, by omega, e⟩
        · rintro ⟨j, hj, e⟩
          rcases Nat.lt_or_ge j m with h | h
          · exact ⟨j, h, e⟩
          · obtain rfl : j = m := by omega
            rw [hzm] at e
            refine ⟨j - 1, by omega, ?_⟩
            rw [List.getElem?_eq_getElem (by omega), ← hm0.2]
            exact e
  obtain ⟨h1, h2⟩ := key zs.length (Nat.le_refl _)
  refine ⟨h1, fun x => (h2 x).trans ?_⟩
  rw [List.mem_iff_getElem?]
  constructor
  · rintro ⟨j, _, e⟩; exact ⟨j, e⟩
  · rintro ⟨j, e⟩; exact ⟨j, lt_of_get e, e⟩
theorem compact_len (zs : List Int) : (Lib.compact zs).length ≤ zs.length := by
  unfold Lib.compact Lib.compactUpTo
  rw [List.length_map]
  exact Nat.le_trans (List.length_filter_le ..) (by simp)
theorem srtI_sorted (zs : List Int) : (srtI zs).Pairwise (· ≤ ·) := by
  have := List.pairwise_mergeSort (le := fun x y : Int => decide (x ≤ y)) (fun a b c h1 h2 => by simp at *; omega) (fun a b => by simp; omega) zs
  exact this.imp (fun h => by simpa using h)
set_option maxHeartbeats 4000000 in
set_option maxRecDepth 100000 in
theorem insNilI_any (w : World) : Calls Tryz.prog 217 #[.slice none 0 0, .int .i64 0, .int .i64 0] w fun e w' => e = .returned (.tuple #[]) ∧ w = w' := by
  go_enter Tryz.func217, Tryz.ntmps217
  go_wp2_with fail
  go_loopw [6] (fun i wr => i = .int .i64 1 ∧ w = wr) (fun _ _ => 0)
  case atStart => exact ⟨rfl, rfl⟩
  case round =>
    obtain ⟨rfl, rfl⟩ := hrel
    go_wp2_with fail
    go_end0
    exact ⟨rfl, rfl⟩
set_option maxHeartbeats 4000000 in
set_option maxRecDepth 100000 in
theorem pdqNil_any (n : Int) (w : World) : Calls Tryz.prog 155 #[.slice none 0 0, .int .i64 0, .int .i64 0, .int .i64 n] w fun e w' => e = .returned (.tuple #[]) ∧ w = w' := by
  have H := Lib.hid (insNilI_any w)
  go_enter Tryz.func155, Tryz.ntmps155
  go_wp2_with fail
  go_loopw [1, 2] (fun a b wr => a = .int .i64 0 ∧ b = .int .i64 0 ∧ w = wr) (fun _ _ _ => 0)
  case atStart => exact ⟨rfl, rfl, rfl⟩
  case round =>
    obtain ⟨rfl, rfl, rfl⟩ := hrel
    go_wp2_with fail
    ((with_reducible refine (H.out).mono ?_); rintro e w3 ⟨rfl, rfl⟩)
    go_wp2_with fail
    exact bodyPost_ret (results_none rfl _ _ _) rfl ⟨rfl, rfl⟩
set_option maxHeartbeats 4000000 in
set_option maxRecDepth 100000 in
theorem sortNilI_any (w : World) : Calls Tryz.prog 93 #[.slice none 0 0] w fun e w' => e = .returned (.tuple #[]) ∧ w = w' := by
  have HL := Lib.hid (Tryz.bits_Len 0 w (by decide) (by decide))
  have HP := Lib.hid (fun n => pdqNil_any n w)
  go_enter Tryz.func93, Tryz.ntmps93
  go_wp2_with fail
  ((with_reducible refine (HL.out).mono ?_); rintro e w3 ⟨rfl, rfl⟩)
  go_wp2_with fail
  ((with_reducible refine (HP.out _).mono ?_); rintro e w4 ⟨rfl, rfl⟩)
  go_wp2_with fail
  go_end0
  exact ⟨rfl, rfl⟩
set_option maxRecDepth 100000 in
theorem Mem.compI {w0 w : World} {cs : List Chunk} (S : Mem w0 w cs) (i : Nat) {B E g n cap : Nat} {xs : List Int} (hi : cs[i]? = some (.own rInt B E (.slice (some ⟨g, 0, none⟩) n cap) xs)) (hn : n = xs.length) (hl : xs.length ≤ 1000000) (hc : n ≤ cap) :
    Calls Tryz.prog 94 #[.slice (some ⟨g, 0, none⟩) n cap] w fun e w' => e = .returned (.slice (some ⟨g, 0, none⟩) (Lib.compact xs).length cap) ∧ Mem w0 w' (cs.set i (.own rInt B E (.slice (some ⟨g, 0, none⟩) (Lib.compact xs).length cap) (Lib.compact xs))) := by
  subst hn
  have hH := (S.ow i hi).holdsI rfl
  have hcl := compact_len xs
  refine (Tryz.slices_Compact_int g 0 cap xs w hH (by omega) hc).mono ?_
  rintro e w' ⟨rfl, q, rfl⟩
  refine ⟨rfl, ?_⟩
  have hlen : (Lib.compact xs ++ List.replicate (xs.length - (Lib.compact xs).length) 0).length = xs.length := by simp; omega
  have e1 : putRow (Value.int .i64) (Sort.ahead w q) g 0 (Lib.compact xs ++ List.replicate (xs.length - (Lib.compact xs).length) 0).toArray = sortWorldK (fun n : Int => [Value.int .i64 n]) 1 w g 0 q (Lib.compact xs ++ List.replicate (xs.length - (Lib.compact xs).length) 0).toArray #[] := by
    rw [← sortWorld_int, grow_empty]
  rw [e1]
  have S2 := S.sortedK flatInt (m := q) (os := #[]) (by decide) (fun _ => rfl) i hi hlen
  have S3 := S2.cut i (by rw [List.getElem?_set_self (lt_of_get hi)]) (Lib.compact xs).length (by rw [hlen]; exact hcl)
  rw [List.set_set, List.take_left'] at S3
  · exact S3
  · rfl
theorem set_sameI {α : Type} {l : List α} {i : Nat} {x : α} (h : l[i]? = some x) : l.set i x = l := by
  obtain ⟨hi, rfl⟩ := List.getElem?_eq_some_iff.1 h
  exact List.set_getElem_self hi
def GivesSrtI (w0 : World) (cs : List Chunk) (i B E : Nat) (v : Value) (xs : List Int) (e : Ending) (w' : World) : Prop := e = .returned (.tuple #[]) ∧ Mem w0 w' (cs.set i (.own rInt B E v (srtI xs)))
def GivesCmpI (w0 : World) (cs : List Chunk) (i B E : Nat) (xs : List Int) (e : Ending) (w' : World) : Prop := ∃ v, e = .returned v ∧ Mem w0 w' (cs.set i (.own rInt B E v (Lib.compact xs)))
theorem sortOwnI {w0 w : World} {cs : List Chunk} (S : Mem w0 w cs) (i : Nat) {B E : Nat} {v : Value} {xs : List Int} (hi : cs[i]? = some (.own rInt B E v xs)) (hl : xs.length ≤ 1000000) :
    Calls Tryz.prog 93 #[v] w (GivesSrtI w0 cs i B E v xs) := by
  rcases (S.ow i hi).shape2 with ⟨rfl, rfl⟩ | ⟨g, cap, rfl, _⟩
  · refine (sortNilI_any w).mono ?_
    rintro e w' ⟨rfl, rfl⟩
    refine ⟨rfl, ?_⟩
    rw [show srtI [] = [] by simp [srtI], set_sameI hi]
    exact S
  · refine (S.sortI i hi rfl hl).mono ?_
    rintro e w' ⟨rfl, S'⟩
    exact ⟨rfl, S'⟩
theorem compOwnI {w0 w : World} {cs : List Chunk} (S : Mem w0 w cs) (i : Nat) {B E : Nat} {v : Value} {xs : List Int} (hi : cs[i]? = some (.own rInt B E v xs)) (hl : xs.length ≤ 1000000) :
    Calls Tryz.prog 94 #[v] w (GivesCmpI w0 cs i B E xs) := by
  rcases (S.ow i hi).shape2 with ⟨rfl, rfl⟩ | ⟨g, cap, rfl, hc⟩
  · refine (Tryz.slices_Compact_int_empty none 0 w).mono ?_
    rintro e w' ⟨rfl, rfl⟩
    refine ⟨_, rfl, ?_⟩
    rw [show Lib.compact [] = [] from rfl, set_sameI hi]
    exact S
  · refine (S.compI i hi rfl hl hc).mono ?_
    rintro e w' ⟨rfl, S'⟩
    exact ⟨_, rfl, S'⟩
theorem srtU_is (xs : List Int) : (Lib.compact (srtI xs)).Pairwise (· < ·) ∧ ∀ x, x ∈ Lib.compact (srtI xs) ↔ x ∈ xs := by
  obtain ⟨h1, h2⟩ := compact_sorted _ (srtI_sorted xs)
  exact ⟨h1, fun x => by rw [h2, srtI, List.mem_mergeSort]⟩
end Go.Proofs.YtfdcgedcfafmcaaGreatDoor

/- (*group).neighbours: the touches that share an id that joins with one, in order. -/
namespace Go.Proofs.YtfdcgedcfafmcaaGreatDoor
open Go Go.RowKit
def GivesNb (r : Rul) (ts : List Tch) (i : Nat) (w : World) (e : Ending) (w' : World) : Prop := ∃ v, e = .returned v ∧ Mem w w' [.own rInt w.heap.size 3 v (iL (nbL r ts i))]
def NbTo (r : Rul) (ts : List Tch) (l : List IdV) (j : Nat) (xs : List Int) : Prop := ∀ z, z ∈ xs ↔ ∃ x ∈ l.take j, joinsP r ts x = true ∧ z ∈ iL (hav ts x)
theorem NbTo.skip {r : Rul} {ts : List Tch} {l : List IdV} {j : Nat} {xs : List Int} {x : IdV} (h : NbTo r ts l j xs) (hx : l[j]? = some x) (hj : joinsP r ts x = false) : NbTo r ts l (j + 1) xs := fun z => by
  rw [h z, take_snoc hx]
  constructor
  · rintro ⟨y, hy, h1, h2⟩; exact ⟨y, List.mem_append_left _ hy, h1, h2⟩
  · rintro ⟨y, hy, h1, h2⟩
    rcases List.mem_append.1 hy with hy | hy
    · exact ⟨y, hy, h1, h2⟩
    · rw [List.mem_singleton.1 hy, hj] at h1; cases h1
theorem NbTo.put {r : Rul} {ts : List Tch} {l : List IdV} {j : Nat} {xs : List Int} {x : IdV} (h : NbTo r ts l j xs) (hx : l[j]? = some x) (hj : joinsP r ts x = true) : NbTo r ts l (j + 1) (xs ++ iL (hav ts x)) := fun z => by
  rw [List.mem_append, h z, take_snoc hx]
  constructor
  · rintro (⟨y, hy, h1, h2⟩ | h2)
    · exact ⟨y, List.mem_append_left _ hy, h1, h2⟩
    · exact ⟨x, List.mem_append_right _ (List.mem_singleton_self _), hj, h2⟩
  · rintro ⟨y, hy, h1, h2⟩
    rcases List.mem_append.1 hy with hy | hy
    · exact .inl ⟨y, hy, h1, h2⟩
    · rw [List.mem_singleton.1 hy] at h2; exact .inr h2
theorem NbTo.fin {r : Rul} {ts : List Tch} {i : Nat} {xs : List Int} (h : NbTo r ts (idsAt ts i) (idsAt ts i).length xs) : Lib.compact (srtI xs) = iL (nbL r ts i) := by
  obtain ⟨h1, h2⟩ := srtU_is xs
  refine nbL_is h1 (fun z => ?_)
  rw [h2, h z, List.take_length]
  exact nb_ids
set_option maxHeartbeats 8000000 in
set_option maxRecDepth 100000 in
theorem neighbours_any (G X : Nat) (r : Rul) (K W S A : Option Addr) (ck cw cs c : Nat) (ts : List Tch) (qs : List HQ) (i : Nat) (w : World) (hG : Grp (fun _ => False) w G X r K W S A ck cw cs c ts qs) (ho : RtOk r ts) (hi : i < ts.length) :
    Calls Tryz.prog 39 #[.pointer (some ⟨G, 0, none⟩), .int .i64 i] w (GivesNb r ts i w) := by
  obtain ⟨t, ht⟩ : ∃ t, ts[i]? = some t := ⟨_, List.getElem?_eq_getElem hi⟩
  obtain ⟨l, hl⟩ : ∃ l, t.ids = l := ⟨_, rfl⟩
  have hil : idsAt ts i = l := by rw [idsAt_is ht, hl]
  have hll : l.length ≤ 10 := by rw [← hl]; exact ho.ib t (List.mem_of_getElem? ht)
  have htb := ho.tb
  have HG := Lib.hid (fun w' (h : Below w.heap.size w w') => hG.keepB h)
  have Hj := Lib.hid (fun w' y (h : Below w.heap.size w w') => joinsG_any (fun _ => False) G X r K W S A ck cw cs c ts qs y w' (hG.keepB h) ho)
  obtain ⟨blk, off, Ai, ci, Af, cf, rfl, hblk, d0, d1, d2, d3, d4, hsi, hsf⟩ := hG.t.tch i t ht
  rw [hl] at d3 hsi
  have HI := Lib.hid (fun w' (h : Below w.heap.size w w') => hsi.keepB h)
  have Hfin : Hid (∀ xs, NbTo r ts l l.length xs → Lib.compact (srtI xs) = iL (nbL r ts i)) := fun xs h => by
    rw [← hil] at h
    exact h.fin
  have Hmem : Hid (∀ y ∈ l, hav ts y ≠ []) := fun y hy e => by
    rw [← hil] at hy
    have := mem_idsAt.1 hy
    rw [e] at this; cases this
  have z0 := hG.g.all
  obtain ⟨B, hB⟩ : ∃ B, B = w.heap.size := ⟨_, rfl⟩
  have T : Mem w w [.own rInt B 3 (.slice none 0 0) []] := (Mem.start w).nil rInt B 3
  have Hb := Lib.hid hB
  clear hB hsi hsf d0 d1 d2 d4 ht hl hil hG ho
  go_enter Tryz.func39, Tryz.ntmps39
  go_wp2_with fail
  clear z0 d3
  go_loopw [5, 17] (fun v i wr => ∃ (j : Nat) (xs : List Int), j ≤ l.length ∧ i = .int .i64 j ∧ Hid (NbTo r ts l j xs) ∧ Hid (xs.length ≤ 2000 * j) ∧ Mem w wr [.own rInt B 3 v xs]) (fun _ i _ => l.length - (intOf i).toNat)
  case atStart => exact ⟨0, [], Nat.zero_le _, rfl, (fun z => by simp), Nat.zero_le _, T⟩
  case round =>
    clear T
    obtain ⟨j, xs, hj, rfl, Hn, Hx, T⟩ := hrel
    by_cases hlt : j < l.length
    · obtain ⟨y, hy⟩ : ∃ y, l[j]? = some y := ⟨_, List.getElem?_eq_getElem hlt⟩
      obtain ⟨b5, o5, rfl, hb5, d0, d1⟩ := (HI.out wr T.b).idv j y hy
      have Hy := Lib.hid hy
      have hym := Hmem.out y (List.mem_of_getElem? hy)
      obtain ⟨V, hV⟩ : ∃ V, V = wr.heap.size := ⟨_, rfl⟩
      have T2 : Mem w (wr.alloc (.cells #[.int .i64 y.k, .string y.t] 41)) [.loc V #[.int .i64 y.k, .string y.t] 41, .own rInt B 3 u5 xs] := (T.newAt #[.int .i64 y.k, .string y.t] 41 V hV).front
      go_upto_region 5 with fail
      rw [← hV]
      clear hV T d0 d1
      generalize wr.alloc (.cells #[.int .i64 y.k, .string y.t] 41) = w3 at *
      obtain ⟨jv, hjv⟩ : ∃ jv, joinsP r ts y = jv := ⟨_, rfl⟩
      have Hjo := Lib.hid (Hj.out w3 y T2.b)
      rw [hjv] at Hjo
      have Hjv := Lib.hid hjv
      clear hjv
      have v0 := (T2.lv 0 rfl).all
      go_wp2_with fail
      ((with_reducible refine (Hjo.out).mono ?_); rintro e w4 ⟨rfl, hl4⟩)
      have T3 := T2.below hl4
      clear T2 v0 hl4 Hjo
      cases jv
      · have Hn2 : Hid (NbTo r ts l (j + 1) xs) := Hn.out.skip Hy.out Hjv.out
        have Hx2 : Hid (xs.length ≤ 2000 * (j + 1)) := by show _ ≤ _; have := Hx.out; omega
        go_wp2_with fail
        go_roundw
        case rel => exact ⟨j + 1, xs, by omega, by go_num, Hn2.out, Hx2.out, T3.del 0⟩
        case measure => simp [intOf]; omega
      · have HG4 := Lib.hid (HG.out w (Below.refl _ _))
        obtain ⟨A', c', hlk0, hc0⟩ := HG4.out.h.look y
        obtain ⟨q, hqm, hqx, hqA, hqc, hqj⟩ : ∃ q ∈ qs, q.x = y ∧ q.A = A' ∧ q.c = c' ∧ q.js = hav ts y := by
          rcases hc0 with ⟨h, _⟩ | h
          · exact absurd h hym
          · exact h
        have hsl := HG4.out.s q hqm
        rw [hqA, hqj] at hsl
        have hne : iL (hav ts y) ≠ [] := fun e => hym (by cases hh : hav ts y with | nil => rfl | cons a b => rw [hh] at e; simp [iL] at e)
        obtain ⟨bq, oq, rfl, _⟩ := hsl.intAt hne
        have Hq := Lib.hid (fun w' (h : Below w.heap.size w w') => Sl.flatCells flatInt (fun _ => rfl) (hsl.keepB h))
        have hyl : (hav ts y).length ≤ 2000 := by have := hav_len ts y; omega
        have Hlk : Hid (∀ w', Below w.heap.size w w' → (Instr.lookup 157 (.map (some X)) (.agg #[.int .i64 y.k, .string y.t]) false).run Tryz.prog w' = .ok (.slice (some ⟨bq, oq, none⟩) (hav ts y).length c') w') := fun w' h => by
          have h1 := look_g (K := keyId) (T := 157) (E := 22) (HG4.out.keepB h).m (by kernel_rfl) (zeroInts w') y false
          rw [if_neg (by decide), hlk0] at h1
          exact h1
        have Hn2 : Hid (NbTo r ts l (j + 1) (xs ++ iL (hav ts y))) := Hn.out.put Hy.out Hjv.out
        have Hx2 : Hid ((xs ++ iL (hav ts y)).length ≤ 2000 * (j + 1)) := by show _ ≤ _; have := Hx.out; rw [List.length_append, iL_len]; omega
        obtain ⟨zs, hzs⟩ : ∃ zs, iL (hav ts y) = zs := ⟨_, rfl⟩
        have hzl : (hav ts y).length = zs.length := by rw [← hzs, iL_len]
        rw [hzs] at Hq Hn2 Hx2
        rw [hzl] at Hlk
        have hgl := Lib.hid HG4.out.g
        clear hlk0 hc0 hqx hqA hqc hqj hsl hne hzs
        go_wp2_with fail
        have g0 := LV.kb3 hgl.out T3.b hgl.out.lt
        refine wp_region_mixT [] (fun w' => LV w' G (grCs r K ck W cw S cs (some ⟨blk, off, none⟩) ts.length c X) 159 ∧ LV w' V #[.int .i64 y.k, .string y.t] 41) (.p 0 (.p 1 (.p 2 (.p 3 (.q 4 (.q 5 (.e 6 (.e 7 (.p 8 .z))))))))) (by kernel_rfl) (by kernel_rfl) (fun w' hd => ⟨LV.kb3 hgl.out (T3.below (hd.below _)).b hgl.out.lt, (T3.below (hd.below _)).lv 0 rfl⟩) (fun KK hKK wd hd => ?_)
        have T4 := T3.below (hd.below _)
        clear hd T3 g0
        repeat ((first | refine mixT_pp rfl (fun K hK => ?_) | refine mixT_p rfl (fun K hK => ?_)); go_simp; (try go_bits); (try simp (disch := omega) only [if_pos]); (try simp (disch := omega) only [if_neg]); (try simp (disch := omega) only [dif_pos]); (try simp (disch := omega) only [dif_neg]); (try go_simp); (refine hK _ ?_; clear hK K))
        refine mixT_loadR (.map (some X)) rfl rfl rfl rfl (fun w' h => loadC rfl (h.1.cell 5 _ rfl)) ?_
        refine mixT_loadR (.agg #[.int .i64 y.k, .string y.t]) rfl rfl rfl rfl (fun w' h => loadAtI (h.2.cell 0 _ rfl) (h.2.cell 1 _ rfl)) ?_
        refine mixT_l rfl rfl (fun K9 hK9 => ?_)
        have hlk := Hlk.out wd T4.b
        go_wp2_with fail
        refine ⟨⟨LV.kb3 hgl.out T4.b hgl.out.lt, T4.lv 0 rfl⟩, ?_⟩
        clear hlk
        refine mixT_l rfl rfl (fun K9 hK9 => ?_)
        refine T4.appN flatInt 1 rfl tyIntP rfl _ _ rfl zs zs.length c' rfl rfl ⟨bq, oq, none⟩ rfl (Hq.out wd T4.b) (fun y _ => oneJ y) (fun _ => rfl) (by rw [Hb.out]; exact T4.b.size) (by have := Hx.out; omega) (by decide) ?_
        intro v5 w9 T5
        obtain ⟨A5, c5, e5⟩ := (T5.ow 1 rfl).len
        subst e5
        have hC := (⟨LV.kb3 hgl.out T5.b hgl.out.lt, T5.lv 0 rfl⟩ : LV w9 G (grCs r K ck W cw S cs (some ⟨blk, off, none⟩) ts.length c X) 159 ∧ LV w9 V #[.int .i64 y.k, .string y.t] 41)
        clear T4
        go_wp2_with fail
        refine ⟨hC, ?_⟩
        clear hC
        repeat ((first | refine mixT_pp rfl (fun K hK => ?_) | refine mixT_p rfl (fun K hK => ?_)); go_simp; (try go_bits); (try simp (disch := omega) only [if_pos]); (try simp (disch := omega) only [if_neg]); (try simp (disch := omega) only [dif_pos]); (try simp (disch := omega) only [dif_neg]); (try go_simp); (refine hK _ ?_; clear hK K))
        refine mixT_nil ?_
        simp only [Exit.then]
        refine hKK _ _ ?_
        clear hKK KK
        go_wp2_with fail
        go_roundw
        case rel => exact ⟨j + 1, xs ++ zs, by omega, by go_num, Hn2.out, Hx2.out, by rw [show xs.length + zs.length = (xs ++ zs).length by rw [List.length_append]]; exact T5.del 0⟩
        case measure => simp [intOf]; omega
    · obtain rfl : j = l.length := by omega
      have Hf := Lib.hid (Hfin.out xs Hn.out)
      have Hs := Lib.hid (sortOwnI T 0 rfl (by have := Hx.out; omega))
      clear T
      go_wp2_with fail
      ((with_reducible refine (Hs.out).mono ?_); rintro e w5 ⟨rfl, T5⟩)
      have Hc := Lib.hid (compOwnI T5 0 rfl (by rw [srtI_len]; have := Hx.out; omega))
      clear T5 Hs
      go_wp2_with fail
      ((with_reducible refine (Hc.out).mono ?_); rintro e w6 ⟨v6, rfl, T6⟩)
      have T7 : Mem w w6 [.own rInt B 3 v6 (Lib.compact (srtI xs))] := T6
      rw [Hf.out, Hb.out] at T7
      go_wp2_with fail
      go_ret
      exact ⟨v6, rfl, T7⟩
end Go.Proofs.YtfdcgedcfafmcaaGreatDoor

/- copy of elements of several cells. -/
namespace Go.Proofs.YtfdcgedcfafmcaaGreatDoor
open Go Go.RowKit
theorem run_copy_rowK (w : World) (dT sT ty elem : TypeId) (k g o dLen dCap : Nat) (a : Addr) (sLen sCap : Nat) (cur : Array Value) (t : TypeId) (cs : List Value)
    (hu : Tryz.prog.underlying dT = some (.slice elem)) (hs : (Tryz.prog.info? elem).map (·.size) = some k)
    (hg : w.heap[g]? = some (.cells cur t (0, 0))) (hn : cs.length = Nat.min sLen dLen * k)
    (hsrc : ∀ j v, cs[j]? = some v → w.cell? (a.add j) = some v) (hfit : o + cs.length ≤ cur.size) (h1 : ∀ v ∈ cs, v.oneCell' = true) :
    (Builtin.copy_ #[dT, sT] ty #[.slice (some ⟨g, o, none⟩) dLen dCap, .slice (some a) sLen sCap]).run Tryz.prog w =
      .ok (goInt (Nat.min sLen dLen)) (w.setRow g (cur.toList.take o ++ cs ++ cur.toList.drop (o + cs.length)).toArray) := by
  have hl := run_loadCells_list (P := Tryz.prog) w a cs hsrc
  have hst := run_storeCells_at Tryz.prog g o t cs 0 cur w hg (by simpa using hfit) h1
  cases hq : Tryz.prog.info? elem with
  | none => simp [hq] at hs
  | some i =>
    have hi : i.size = k := by simpa [hq] using hs
    rw [hn] at hl
    simp [Builtin.copy_, run_underlying hu, Builtin.lenOf, Builtin.firstCells, sizeOf, typeInfo, hq, hi, hl, hst]
theorem step_copyK {ops : Array Oper} {o : Oper} {a : Act} {w : World} {K : Act → World → Prop} {Q : Exit → Act → World → Prop} {E : Prop} (hgd : o.guard = none) (d s : Operand) (dT sT : TypeId)
    (ho : o.op = .call { callee := .builtin .copy, args := #[d, s], argTypes := #[dT, sT] }) (elem : TypeId) (k : Nat) (hu : Tryz.prog.underlying dT = some (.slice elem)) (hsz : (Tryz.prog.info? elem).map (·.size) = some k)
    (g off dLen dCap : Nat) (ad : Addr) (sLen sCap : Nat) (hd : a.eval d = .slice (some ⟨g, off, none⟩) dLen dCap) (hs : a.eval s = .slice (some ad) sLen sCap)
    (cur : Array Value) (t : TypeId) (hg : w.heap[g]? = some (.cells cur t (0, 0))) (cs : List Value) (hn : cs.length = Nat.min sLen dLen * k)
    (hsrc : ∀ j v, cs[j]? = some v → w.cell? (ad.add j) = some v) (hfit : off + cs.length ≤ cur.size) (h1 : ∀ v ∈ cs, v.oneCell' = true)
    (h : K (a.put o.dst (goInt (Nat.min sLen dLen))) (w.setRow g (cur.toList.take off ++ (cs ++ cur.toList.drop (off + cs.length))).toArray)) :
    if Region.wanted o (yielded ops a.tmps) = true then Oper.wp Tryz.prog o a w K Q else E := by
  have hw : Region.wanted o (yielded ops a.tmps) = true := by simp [Region.wanted, hgd]
  rw [if_pos hw]
  have hrun := run_copy_rowK w dT sT o.type elem k g off dLen dCap ad sLen sCap cur t cs hu hsz hg hn hsrc hfit h1
  unfold Oper.wp
  simp [execOp, ho, resolve, invoke, builtin, hd, hs, hrun, Result.andThen]
  exact h
theorem wpList_copyK {ops : Array Oper} {rest : List Oper} {o : Oper} {a : Act} {w : World} {Q : Exit → Act → World → Prop} (hgd : o.guard = none) (d s : Operand) (dT sT : TypeId)
    (ho : o.op = .call { callee := .builtin .copy, args := #[d, s], argTypes := #[dT, sT] }) (elem : TypeId) (k : Nat) (hu : Tryz.prog.underlying dT = some (.slice elem)) (hsz : (Tryz.prog.info? elem).map (·.size) = some k)
    (g off dLen dCap : Nat) (ad : Addr) (sLen sCap : Nat) (hd : a.eval d = .slice (some ⟨g, off, none⟩) dLen dCap) (hs : a.eval s = .slice (some ad) sLen sCap)
    (cur : Array Value) (t : TypeId) (hg : w.heap[g]? = some (.cells cur t (0, 0))) (cs : List Value) (hn : cs.length = Nat.min sLen dLen * k)
    (hsrc : ∀ j v, cs[j]? = some v → w.cell? (ad.add j) = some v) (hfit : off + cs.length ≤ cur.size) (h1 : ∀ v ∈ cs, v.oneCell' = true)
    (h : wpList Tryz.prog ops Q rest (a.put o.dst (goInt (Nat.min sLen dLen))) (w.setRow g (cur.toList.take off ++ (cs ++ cur.toList.drop (off + cs.length))).toArray)) : wpList Tryz.prog ops Q (o :: rest) a w := by
  refine wpList_plain hgd fun K hK => ?_
  have hrun := run_copy_rowK w dT sT o.type elem k g off dLen dCap ad sLen sCap cur t cs hu hsz hg hn hsrc hfit h1
  unfold Oper.wp
  simp [execOp, ho, resolve, invoke, builtin, hd, hs, hrun, Result.andThen]
  exact hK _ _ h
end Go.Proofs.YtfdcgedcfafmcaaGreatDoor

/- What slices.Repeat makes of one number -1: a slice of the call's own. -/
namespace Go.Proofs.YtfdcgedcfafmcaaGreatDoor
open Go Go.RowKit
theorem rowCellN {w : World} {V : Nat} {L : List Value} {T : TypeId} (h : w.heap[V]? = some (.cells L.toArray T (0, 0))) (j : Nat) (v : Value) (hj : L[j]? = some v) : w.cell? ((⟨V, 0, none⟩ : Addr).add j) = some v := by
  have e : (⟨V, 0, none⟩ : Addr).add j = ⟨V, j, none⟩ := by unfold Addr.add; split <;> simp_all
  rw [e]
  simp [World.cell?, h, hj]
theorem mulN_any (n : Nat) (hn : n ≤ 1000000) (w : World) : Calls Tryz.prog 154 #[.int .u64 1, .int .u64 n] w fun e w' => e = .returned (.tuple #[.int .u64 0, .int .u64 n]) ∧ w = w' := by
  have h0 := Tryz.bits_Mul64 1 n (by decide) (by omega) w
  rw [show (1 * n / 18446744073709551616 : Nat) = 0 by omega, show (1 * n % 18446744073709551616 : Nat) = n by omega] at h0
  have h : Hid (Calls Tryz.prog 216 #[.int .u64 1, .int .u64 n] w fun e w' => e = .returned (.tuple #[.int .u64 0, .int .u64 n]) ∧ w' = w) := h0
  clear h0
  go_enter Tryz.func154, Tryz.ntmps154
  go_wp2_with fail
  ((with_reducible refine (h.out).mono ?_); rintro e w3 ⟨rfl, rfl⟩)
  go_wp2_with fail
  refine bodyPost_ret (results_two rfl rfl rfl) rfl ⟨by first | rfl | simp, rfl⟩
def repN (n k : Nat) : List Value := List.replicate k (Value.int .i64 (-1)) ++ List.replicate (n - k) (Value.int .i64 0)
def GivesRepN (n : Nat) (w : World) (e : Ending) (w' : World) : Prop := ∃ V, e = .returned (.slice (some ⟨V, 0, none⟩) n n) ∧ Mem w w' [.own rInt w.heap.size 3 (.slice (some ⟨V, 0, none⟩) n n) (List.replicate n (-1))]
theorem repN_len (n k : Nat) (_h : k ≤ n) : (repN n k).length = n := by
  rw [repN, List.length_append, List.length_replicate, List.length_replicate]
  omega
theorem repN_step (n k m : Nat) (_h : k + m ≤ n) : (repN n k).take k ++ (List.replicate m (Value.int .i64 (-1)) ++ (repN n k).drop (k + m)) = repN n (k + m) := by
  have e1 : (repN n k).take k = List.replicate k (Value.int .i64 (-1)) := List.take_left' List.length_replicate
  have e2 : (repN n k).drop (k + m) = List.replicate (n - (k + m)) (Value.int .i64 0) := by
    rw [repN, List.drop_append, List.drop_eq_nil_of_le (by rw [List.length_replicate]; omega), List.nil_append, List.length_replicate, show k + m - k = m by omega, List.drop_replicate, show n - k - m = n - (k + m) by omega]
  rw [e1, e2, ← List.append_assoc, List.replicate_append_replicate]
  rfl
theorem repN_at (n k m j : Nat) (v : Value) (hm : m ≤ k) (h : (List.replicate m (Value.int .i64 (-1)))[j]? = some v) : (repN n k)[j]? = some v := by
  obtain ⟨r, rfl⟩ : ∃ r, k = m + r := ⟨k - m, by omega⟩
  rw [repN, ← List.replicate_append_replicate, List.append_assoc, List.getElem?_append_left (List.getElem?_eq_some_iff.1 h).1]
  exact h
theorem Mem.row {w0 w : World} {cs : List Chunk} (S : Mem w0 w cs) (i : Nat) {X : Nat} {cells : Array Value} {T : TypeId} (hi : cs[i]? = some (.loc X cells T)) (cells' : Array Value) : Mem w0 (w.setRow X cells') (cs.set i (.loc X cells' T)) := by
  have h1 := S.ge i hi
  exact S.upd i hi _ ⟨by simp, fun k _ hn => setRow_other w X k cells' (fun e => hn (by rw [e]; rfl))⟩ (below_setRow S.b h1.1 _) (fun k e => .inl e) (setRow_heap w X _ _ T _ (S.lv i hi))
theorem szIntP : (Tryz.prog.info? 3).map (·.size) = some 1 := by kernel_rfl
theorem repN_after {w w0 : World} {V n k m : Nat} (S : Mem w0 w [.loc V (repN n k).toArray 3]) (hkm : k + m ≤ n) :
    Mem w0 (w.setRow V ((repN n k).toArray.toList.take k ++ (List.replicate m (Value.int .i64 (-1)) ++ (repN n k).toArray.toList.drop (k + (List.replicate m (Value.int .i64 (-1))).length))).toArray) [.loc V (repN n (k + m)).toArray 3] := by
  have h := S.row 0 rfl ((repN n k).toArray.toList.take k ++ (List.replicate m (Value.int .i64 (-1)) ++ (repN n k).toArray.toList.drop (k + (List.replicate m (Value.int .i64 (-1))).length))).toArray
  rw [show ((repN n k).toArray.toList.take k ++ (List.replicate m (Value.int .i64 (-1)) ++ (repN n k).toArray.toList.drop (k + (List.replicate m (Value.int .i64 (-1))).length))) = repN n (k + m) by rw [List.length_replicate]; exact repN_step n k m hkm] at h ⊢
  exact h
theorem repN_one (m : Nat) : ∀ v ∈ List.replicate m (Value.int .i64 (-1)), v.oneCell' = true := fun v hv => by
  obtain rfl := (List.mem_replicate.1 hv).2
  rfl
theorem wpList_repN {ops : Array Oper} {rest : List Oper} {o : Oper} {a : Act} {w w0 : World} {Q : Exit → Act → World → Prop} (hgd : o.guard = none) (d s : Operand)
    (ho : o.op = .call { callee := .builtin .copy, args := #[d, s], argTypes := #[22, 22] }) (V n k m : Nat) (dLen dCap : Nat) (ad : Addr) (sLen sCap : Nat) (hd : a.eval d = .slice (some ⟨V, k, none⟩) dLen dCap) (hs : a.eval s = .slice (some ad) sLen sCap)
    (S : Mem w0 w [.loc V (repN n k).toArray 3]) (hm : Nat.min sLen dLen = m) (hkm : k + m ≤ n)
    (hsrc : ∀ j v, (List.replicate m (Value.int .i64 (-1)))[j]? = some v → w.cell? (ad.add j) = some v)
    (h : ∀ w', Mem w0 w' [.loc V (repN n (k + m)).toArray 3] → wpList Tryz.prog ops Q rest (a.put o.dst (.int .i64 m)) w') : wpList Tryz.prog ops Q (o :: rest) a w := by
  refine wpList_copyK hgd d s 22 22 ho 3 1 tyIntP.under szIntP V k dLen dCap ad sLen sCap hd hs _ 3 (S.lv 0 rfl) (List.replicate m (Value.int .i64 (-1))) (by rw [List.length_replicate, hm, Nat.mul_one]) hsrc (by rw [List.length_replicate, List.size_toArray, repN_len n k (by omega)]; exact hkm) (repN_one m) ?_
  rw [hm]
  exact h _ (repN_after S hkm)
theorem step_repN {ops : Array Oper} {o : Oper} {a : Act} {w w0 : World} {K : Act → World → Prop} {Q : Exit → Act → World → Prop} {E : Prop} (hgd : o.guard = none) (d s : Operand)
    (ho : o.op = .call { callee := .builtin .copy, args := #[d, s], argTypes := #[22, 22] }) (V n k m : Nat) (dLen dCap : Nat) (ad : Addr) (sLen sCap : Nat) (hd : a.eval d = .slice (some ⟨V, k, none⟩) dLen dCap) (hs : a.eval s = .slice (some ad) sLen sCap)
    (S : Mem w0 w [.loc V (repN n k).toArray 3]) (hm : Nat.min sLen dLen = m) (hkm : k + m ≤ n)
    (hsrc : ∀ j v, (List.replicate m (Value.int .i64 (-1)))[j]? = some v → w.cell? (ad.add j) = some v)
    (h : ∀ w', Mem w0 w' [.loc V (repN n (k + m)).toArray 3] → K (a.put o.dst (.int .i64 m)) w') :
    if Region.wanted o (yielded ops a.tmps) = true then Oper.wp Tryz.prog o a w K Q else E := by
  refine step_copyK hgd d s 22 22 ho 3 1 tyIntP.under szIntP V k dLen dCap ad sLen sCap hd hs _ 3 (S.lv 0 rfl) (List.replicate m (Value.int .i64 (-1))) (by rw [List.length_replicate, hm, Nat.mul_one]) hsrc (by rw [List.length_replicate, List.size_toArray, repN_len n k (by omega)]; exact hkm) (repN_one m) ?_
  rw [hm]
  exact h _ (repN_after S hkm)
set_option maxHeartbeats 4000000 in
set_option maxRecDepth 100000 in
theorem repN_any (X n : Nat) (w : World) (hX : LV w X #[.int .i64 (-1)] 3) (h1 : 1 ≤ n) (hn : n ≤ 1000000) :
    Calls Tryz.prog 91 #[.slice (some ⟨X, 0, none⟩) 1 1, .int .i64 n] w (GivesRepN n w) := by
  have hmk := makeI n (by omega) w
  obtain ⟨V, hV⟩ : ∃ V, V = w.heap.size := ⟨_, rfl⟩
  have T : Mem w (w.alloc (.cells (Array.replicate n (Value.int .i64 0)) 3)) [.loc V (repN n 0).toArray 3] := by
    have h := (Mem.start w).newAt (Array.replicate n (Value.int .i64 0)) 3 V hV
    rw [show (repN n 0).toArray = Array.replicate n (Value.int .i64 0) by simp [repN]]
    exact h
  have lv := Lib.hid (LV.kb3 hX T.b hX.lt)
  have Hmu := Lib.hid (fun w' => mulN_any n (by omega) w')
  have HX : Hid (∀ (j : Nat) (v : Value), (List.replicate 1 (Value.int .i64 (-1)))[j]? = some v → (w.alloc (.cells (Array.replicate n (Value.int .i64 0)) 3)).cell? ((⟨X, 0, none⟩ : Addr).add j) = some v) := fun j v hj => by
    have e : (⟨X, 0, none⟩ : Addr).add j = ⟨X, j, none⟩ := by unfold Addr.add; split <;> simp_all
    rw [e]
    exact lv.out.cell j v (by simpa [List.replicate] using hj)
  have hw1 : IntKind.u64.wrap (n : Int) = n := by simp [IntKind.wrap, IntKind.bits, IntKind.signed]; omega
  clear hX lv
  go_enter Tryz.func91, Tryz.ntmps91
  go_upto_region 3 with fail
  go_wp2_with fail
  ((with_reducible refine (Hmu.out _).mono ?_); rintro e w9 ⟨rfl, rfl⟩)
  go_upto_region 7 with fail
  rw [← hV] at *
  clear hmk hV Hmu
  generalize w.alloc (.cells (Array.replicate n (Value.int .i64 0)) 3) = w1 at *
  go_wp2_with (refine wpList_repN rfl (.tmp 31) (.tmp 32) rfl V n 0 1 n n ⟨X, 0, none⟩ 1 1 rfl rfl T (by show min 1 n = 1; omega) (by omega) HX.out ?_; intro w2 T2)
  clear T HX
  go_loopw [8] (fun i wr => ∃ k : Nat, 1 ≤ k ∧ k ≤ n ∧ i = .int .i64 k ∧ Mem w wr [.loc V (repN n k).toArray 3]) (fun i _ => n - (intOf i).toNat)
  case atStart => exact ⟨1, Nat.le_refl _, h1, rfl, T2⟩
  case round =>
    clear T2
    obtain ⟨k, hk1, hk, rfl, T⟩ := hrel
    by_cases hlt : k < n
    · obtain ⟨m, hm⟩ : ∃ m, Nat.min k (n - k) = m := ⟨_, rfl⟩
      have hkm : k + m ≤ n := by rw [← hm]; have : Nat.min k (n - k) ≤ n - k := Nat.min_le_right _ _; omega
      have hm1 : 1 ≤ m := by rw [← hm]; exact Nat.le_min.2 ⟨hk1, by omega⟩
      have Hsrc : Hid (∀ j v, (List.replicate m (Value.int .i64 (-1)))[j]? = some v → wr.cell? ((⟨V, 0, none⟩ : Addr).add j) = some v) := fun j v hj =>
        rowCellN (T.lv 0 rfl) j v (repN_at n k m j v (by rw [← hm]; exact Nat.min_le_left _ _) hj)
      have Hm := Lib.hid hm
      have hne : ¬ n = k := by omega
      have hwr : IntKind.i64.wrap ((k : Int) + (m : Int)) = ((k + m : Nat) : Int) := by
        simp [IntKind.wrap, IntKind.bits, IntKind.signed]
        omega
      have HT := Lib.hid T
      clear T hm
      go_wp2_with fail
      go_region_law (refine step_repN rfl (.tmp 41) (.tmp 44) rfl V n k m (n - k) (n - k) ⟨V, 0, none⟩ k n (by go_simp) (by go_simp) (HT.out.below (Below.refl _ _).drew) Hm.out hkm Hsrc.out ?_; intro w4 T4)
      (try go_simp)
      go_roundw
      case rel => exact ⟨_, _, _, _, _, _, _, _, _, _, _, _, _, _, ⟨k + m, by omega, hkm, by simp, T4⟩, rfl⟩
      case measure => simp [intOf]; omega
    · obtain rfl : k = n := by omega
      have HT : Hid (Mem w wr [.own rInt w.heap.size 3 (.slice (some ⟨V, 0, none⟩) k k) (List.replicate k (-1))]) := T.asOwn flatInt 0 rfl (List.replicate k (-1)) (by
        show repN k k = ((List.replicate k (-1 : Int)).map (fun n => [Value.int .i64 n])).flatten
        rw [List.map_replicate, List.flatten_replicate_singleton]
        simp [repN]) (by simp [repN, rInt, Rep.flat]) (by simp; omega) rfl k (by simp)
      clear T
      go_wp2_with fail
      go_ret
      exact ⟨V, rfl, HT.out⟩
end Go.Proofs.YtfdcgedcfafmcaaGreatDoor

/- A queue of numbers: a slice that begins somewhere in a row of the call's own, and grows at its end. -/
namespace Go.Proofs.YtfdcgedcfafmcaaGreatDoor
open Go Go.RowKit
abbrev quV (g d n c : Nat) : Value := .slice (some ⟨g, d, none⟩) (n - d) (c - d)
theorem Own.appQ {M : Nat → Prop} {B g N C d ty : Nat} {xs : List Int} {w : World} (h : Own rInt M B 3 w (.slice (some ⟨g, 0, none⟩) N C) xs) (hN : N = xs.length) (hd : d < N) (hB : B ≤ w.heap.size) (hlen : xs.length ≤ 1000000) (ad : Addr) (c : Nat) (y : Int) (hc : w.cell? (ad.add 0) = some (.int .i64 y)) :
    ∃ w' g' N' C' d' xs', (Builtin.append_ #[22, 22] ty #[quV g d N C, .slice (some ad) 1 c]).run Tryz.prog w = .ok (quV g' d' N' C') w' ∧ N' = xs'.length ∧ d' < N' ∧ xs'.drop d' = xs.drop d ++ [y] ∧ xs'.length ≤ xs.length + 1 ∧
      (∀ M', Own rInt M' B 3 w' (.slice (some ⟨g', 0, none⟩) N' C') xs') ∧ w.grownBy w' (some g) ∧ (g' = g ∨ w.heap.size ≤ g') := by
  subst hN
  have hcell := fun k z (hk : xs[k]? = some z) => (h.intAt rfl k z hk).1
  obtain ⟨ls, hl, hr, ho⟩ := h
  obtain ⟨i, hi, hz0, hz1, hz2⟩ := info_parts tyIntP.info
  replace hz1 : i.size = 1 := hz1
  have hnews : ∀ j u, [Value.int .i64 y][j]? = some u → w.cell? (ad.add j) = some u := fun j u hj => by
    cases j with
    | zero => rw [hc]; simpa using hj
    | succ j => simp at hj
  have h1 : ∀ u ∈ [Value.int .i64 y], u.oneCell' = true := fun u hu => by rw [List.mem_singleton.1 hu]; rfl
  have eL : ls = xs.map (fun n => [Value.int .i64 n]) := by
    refine List.ext_getElem? fun i => ?_
    rw [List.getElem?_map]
    by_cases hi : i < xs.length
    · rw [List.getElem?_eq_getElem hi, List.getElem?_eq_getElem (by omega)]
      exact congrArg some ((flatInt _ _ _ _).1 (hr i xs[i] (ls[i]'(by omega)) (List.getElem?_eq_getElem hi) (List.getElem?_eq_getElem (by omega))))
    · rw [List.getElem?_eq_none (by omega), List.getElem?_eq_none (by omega)]; rfl
  have hrel : ∀ (zs : List Int) (M' : Nat → Prop) (w' : World) (v : Value), ∀ (j : Nat) (x : Int) (l : List Value), zs[j]? = some x → (zs.map (fun n => [Value.int .i64 n]))[j]? = some l → rInt.rel (NOr M' v) w' x l := fun zs M' w' v j x l e1 e2 => by
    rw [List.getElem?_map, e1] at e2
    exact (flatInt _ _ _ _).2 (Option.some.inj e2).symm
  have hfl : ∀ zs : List Int, (zs.map (fun n => [Value.int .i64 n])).flatten = zs.map (Value.int .i64) := fun zs => by
    induction zs with
    | nil => rfl
    | cons a t ih => rw [List.map_cons, List.flatten_cons, ih]; rfl
  rcases ho.2 with ⟨e, _⟩ | ⟨g0, cap, cur, e, hbg, hg, hnc, hcm, hcs, htake⟩
  · cases e
  cases e
  rw [eL, hfl] at htake
  replace hcs : cur.size = C := by rw [hcs]; show C * 1 = C; omega
  replace htake : cur.toList.take xs.length = xs.map (Value.int .i64) := by
    rw [← htake]; show _ = List.take (xs.length * 1) _; rw [Nat.mul_one]
  by_cases hroom : xs.length + 1 ≤ C
  · have hst := run_storeCells_at Tryz.prog g xs.length 3 [Value.int .i64 y] 0 cur w hg (by simp; omega) h1
    simp only [Nat.add_zero] at hst
    have hf := run_firstCells_some (P := Tryz.prog) w i.size 1 ad 1 c [Value.int .i64 y] (by rw [hz1]; rfl) hnews
    refine ⟨w.setRow g (cur.toList.take xs.length ++ [Value.int .i64 y] ++ cur.toList.drop (xs.length + 1)).toArray, g, xs.length + 1, C, d, xs ++ [y], ?_, by simp, by omega, by rw [List.drop_append_of_le_length (by omega)], by simp, fun M' => ⟨(xs ++ [y]).map (fun n => [Value.int .i64 n]), by simp, hrel _ _ _ _, ?_⟩, ⟨rfl, rfl, rfl, by simp, fun k _ hk => setRow_other w g k _ (fun e => hk (by rw [e]))⟩, .inl rfl⟩
    · obtain ⟨p, hp⟩ : ∃ p, p = xs.length - d := ⟨_, rfl⟩
      obtain ⟨c1, hc1⟩ : ∃ c1, c1 = C - d := ⟨_, rfl⟩
      have hr2 : p + 1 ≤ c1 := by omega
      have e1 : d + p * i.size = xs.length := by rw [hz1]; omega
      have e2 : quV g d (xs.length + 1) C = .slice (some ⟨g, d, none⟩) (p + 1) c1 := by
        show Value.slice _ (xs.length + 1 - d) (C - d) = _
        rw [show xs.length + 1 - d = p + 1 by omega, hc1]
      rw [e2, show quV g d xs.length C = .slice (some ⟨g, d, none⟩) p c1 by rw [hp, hc1]]
      simp [Builtin.append_, run_underlying tyIntP.under, sizeOf, typeInfo, hi, Builtin.lenOf, hr2, hf, add_at, e1, hst]
    · rw [hfl]
      refine ⟨by simp; show _ = _ * 1; omega, .inr ⟨g, C, _, by simp, hbg, setRow_heap w g cur _ 3 _ hg, by simp; omega, hcm, ?_, ?_⟩⟩
      · show _ = C * 1
        simp only [List.size_toArray, List.length_append, List.length_take, List.length_drop, Array.length_toList, List.length_singleton]
        omega
      · show List.take (_ * 1) _ = _
        rw [Nat.mul_one, htake, List.map_append]
        exact List.take_left' (by simp)
  · have hb3 : ((xs.length - d) + 1) * i.bytes ≤ 140737488355328 := by
      rw [hz2]
      omega
    have hr := run_append_grow (P := Tryz.prog) w 22 ty 3 i (.int .i64 0) tyIntP.under hi hz0 ⟨g, d, none⟩ (xs.length - d) (C - d) ((xs.drop d).map (Value.int .i64)) (by rw [hz1]; simp) (fun j v hj => by
        rw [List.getElem?_map] at hj
        cases hx : (xs.drop d)[j]? with
        | none => rw [hx] at hj; cases hj
        | some z =>
          rw [hx] at hj
          rw [List.getElem?_drop] at hx
          rw [add_at, hcell _ z hx]
          exact hj) ad 1 c [Value.int .i64 y] (by rw [hz1]; rfl) hnews (by omega) (by omega) (growslice_fits (by omega) hb3)
    have hge := grownCap_ge w (xs.length - d + 1) (C - d) 3
    have hcm2 := grownCap_le_maxLen w (xs.length - d + 1) (C - d) 3 (by unfold maxLen; omega)
    refine ⟨w.drew.alloc (.cells (((xs.drop d).map (Value.int .i64)).toArray ++ [Value.int .i64 y].toArray ++ Builtin.zeroCells (Value.int .i64 0).cells (grownCap w (xs.length - d + 1) (C - d) 3 - (xs.length - d + 1))) 3), w.heap.size, xs.length - d + 1, grownCap w (xs.length - d + 1) (C - d) 3, 0, xs.drop d ++ [y], ?_, by simp, by omega, rfl, by simp, fun M' => ⟨(xs.drop d ++ [y]).map (fun n => [Value.int .i64 n]), by simp, hrel _ _ _ _, ?_⟩, ⟨rfl, rfl, rfl, by simp, fun k hk _ => heap_alloc_old w.drew _ hk⟩, .inr (Nat.le_refl _)⟩
    · exact hr
    · rw [hfl]
      refine ⟨by simp; show _ = _ * 1; omega, .inr ⟨w.heap.size, _, _, by simp, hB, heap_alloc_new w.drew _, by simp; omega, hcm2, ?_, ?_⟩⟩
      · show _ = _ * 1
        simp only [Array.size_append, List.size_toArray, size_zeroCells, List.length_map, List.length_drop, List.length_singleton, Value.cells]
        show _ + _ + _ * 1 = _
        omega
      · show List.take (_ * 1) _ = _
        rw [Nat.mul_one]
        simp only [Array.toList_append, List.append_assoc]
        rw [List.map_append, ← List.append_assoc]
        exact List.take_left' (by simp)
section
variable {ops : Array Oper} {rest : List Oper} {o : Oper} {a : Act} {Q : Exit → Act → World → Prop}
theorem Mem.appQ {w0 w : World} {cs : List Chunk} (S : Mem w0 w cs) (i : Nat) {B g N C d : Nat} {xs : List Int} (hi : cs[i]? = some (.own rInt B 3 (.slice (some ⟨g, 0, none⟩) N C) xs)) (hN : N = xs.length) (hd : d < N) (hlen : xs.length ≤ 1000000)
    (hgd : o.guard = none) (s x : Operand) (ho : o.op = .call { callee := .builtin .append, args := #[s, x], argTypes := #[22, 22] }) (y : Int) (c : Nat) (hs : a.eval s = quV g d N C) (ad : Addr) (hx : a.eval x = .slice (some ad) 1 c)
    (hc : w.cell? (ad.add 0) = some (.int .i64 y)) (hB : B ≤ w.heap.size)
    (h : ∀ w' g' N' C' d' xs', N' = xs'.length → d' < N' → xs'.drop d' = xs.drop d ++ [y] → xs'.length ≤ xs.length + 1 → Mem w0 w' (cs.set i (.own rInt B 3 (.slice (some ⟨g', 0, none⟩) N' C') xs')) → wpList Tryz.prog ops Q rest (a.put o.dst (quV g' d' N' C')) w') : wpList Tryz.prog ops Q (o :: rest) a w := by
  obtain ⟨w', g', N', C', d', xs', hrun, h1, h2, h3, h4, ho', hg, hwh⟩ := Own.appQ (ty := o.type) (S.ow i hi) hN hd hB hlen ad c y hc
  have hbl : Below w0.heap.size w w' := (Below.refl _ w).grown hg S.b.size (fun k hk => S.new _ (List.mem_of_getElem? hi) k hk)
  have hskn : SKN (fun k => some g = some k) w w' := ⟨hg.size, fun k hk hn => hg.block k hk (fun e => hn e.symm)⟩
  refine wpList_plain hgd fun _ hK => ?_
  unfold Oper.wp execOp
  simp only [ho, resolve, invoke, builtin, Sem.run_bind, Sem.run_pure, Result.andThen_ok, List.map_toArray, List.map_cons, List.map_nil, hs, hx, hrun]
  exact hK _ _ (h w' g' N' C' d' xs' h1 h2 h3 h4 (S.upd i hi _ hskn (S.b.trans hbl) (fun k e => by
    cases e
    rcases hwh with e | e
    · exact .inl (by rw [e]; rfl)
    · exact .inr e) (ho' _)))
end
end Go.Proofs.YtfdcgedcfafmcaaGreatDoor

/- (*group).far: how many steps each touch is away from one. -/
namespace Go.Proofs.YtfdcgedcfafmcaaGreatDoor
open Go Go.RowKit
def GivesFar (r : Rul) (ts : List Tch) (s : Nat) (w : World) (e : Ending) (w' : World) : Prop :=
  ∃ V out, e = .returned (.slice (some ⟨V, 0, none⟩) ts.length ts.length) ∧ out.length = ts.length ∧ (∀ i, i < ts.length → out[i]? = some (farI ts.length (Edge r ts) s i)) ∧ Mem w w' [.own rInt w.heap.size 3 (.slice (some ⟨V, 0, none⟩) ts.length ts.length) out]
theorem neg_le (xs : List Int) : negL xs ≤ xs.length := List.length_filter_le _ _
theorem neg_start (n s : Nat) (hs : s < n) : negL ((List.replicate n (-1 : Int)).set s 0) + 1 ≤ n := by
  have h := neg_set (List.replicate n (-1)) s 0 (by rw [List.getElem?_replicate, if_pos hs]) (by decide)
  have h2 := neg_le (List.replicate n (-1 : Int))
  rw [List.length_replicate] at h2
  omega
structure QuAt (n N C d d1 n1 c1 : Nat) (xs out : List Int) (q : List Nat) : Prop where
  hN : N = xs.length
  hd : 0 < n1 → d1 = d
  dn : d + n1 = N
  dc : d + c1 = C
  nc : N ≤ C
  q : xs.drop d = iL q
  sm : xs.length + negL out ≤ n
theorem QuAt.n1 {n N C d d1 n1 c1 : Nat} {xs out : List Int} {q : List Nat} (h : QuAt n N C d d1 n1 c1 xs out q) : n1 = q.length := by
  have h1 := congrArg List.length h.q
  rw [List.length_drop, iL_len] at h1
  have := h.hN; have := h.dn
  omega
theorem QuAt.at' {n N C d d1 n1 c1 : Nat} {xs out : List Int} {q : List Nat} (h : QuAt n N C d d1 n1 c1 xs out q) {i : Nat} {x : Nat} (hx : q[i]? = some x) : xs[d + i]? = some (x : Int) := by
  rw [← List.getElem?_drop, h.q]
  unfold iL
  rw [List.getElem?_map, hx]; rfl
theorem QuAt.put {n N C d d1 n1 c1 N2 C2 d2 : Nat} {xs out out2 xs2 : List Int} {q : List Nat} (h : QuAt n N C d d1 n1 c1 xs out q) {j : Nat} (h1 : N2 = xs2.length) (h2 : d2 < N2) (h3 : xs2.drop d2 = xs.drop d ++ [(j : Int)]) (h4 : xs2.length ≤ xs.length + 1) (hc : N2 ≤ C2) (ho : negL out2 + 1 = negL out) : QuAt n N2 C2 d2 d2 (N2 - d2) (C2 - d2) xs2 out2 (q ++ [j]) := by
  refine ⟨h1, fun _ => rfl, by omega, by omega, hc, ?_, ?_⟩
  · rw [h3, h.q]
    unfold iL
    rw [List.map_append]; rfl
  · have := h.sm
    omega
theorem QuAt.next {n N C d n1 c1 d1 : Nat} {xs out : List Int} {x : Nat} {q : List Nat} (h : QuAt n N C d d n1 c1 xs out (x :: q)) (hd1 : 0 < n1 - 1 → d1 = d + 1) : QuAt n N C (d + 1) d1 (n1 - 1) (c1 - 1) xs out q := by
  have e := h.n1
  rw [List.length_cons] at e
  have := h.dn; have := h.dc; have := h.hN; have := h.nc
  refine ⟨h.hN, hd1, by omega, by omega, h.nc, ?_, h.sm⟩
  have h1 := congrArg (List.drop 1) h.q
  rw [List.drop_drop] at h1
  exact h1
theorem Own.capLe {α : Type} {r : Rep α} {N : Nat → Prop} {B E g n cap : Nat} {w : World} {xs : List α} (h : Own r N B E w (.slice (some ⟨g, 0, none⟩) n cap) xs) : xs.length ≤ cap := by
  rcases h.shape2 with ⟨e, _⟩ | ⟨g2, c2, e, hle⟩
  · cases e
  · cases e; exact hle
theorem set_told {out : List Int} {z : Nat} {v : Int} {p : Nat} (hz : out[z]? = some (-1)) (h : ∃ m : Nat, out[p]? = some (m : Int)) : ∃ m : Nat, (out.set z v)[p]? = some (m : Int) := by
  obtain ⟨m, hm⟩ := h
  refine ⟨m, ?_⟩
  rw [List.getElem?_set_ne (fun e => by rw [e, hm] at hz; have := Option.some.inj hz; omega)]
  exact hm
set_option maxHeartbeats 8000000 in
set_option maxRecDepth 100000 in
theorem far_any (G X : Nat) (r : Rul) (K W S A : Option Addr) (ck cw cs c : Nat) (ts : List Tch) (qs : List HQ) (s : Nat) (w : World) (hG : Grp (fun _ => False) w G X r K W S A ck cw cs c ts qs) (ho : RtOk r ts) (hs : s < ts.length) :
    Calls Tryz.prog 38 #[.pointer (some ⟨G, 0, none⟩), .int .i64 s] w (GivesFar r ts s w) := by
  have HN := Lib.hid (fun w' i (h : Below w.heap.size w w') (hi : i < ts.length) => neighbours_any G X r K W S A ck cw cs c ts qs i w' (hG.keepB h) ho hi)
  have htb := ho.tb
  have h1 : 1 ≤ ts.length := by omega
  have T0 : Mem w (w.alloc (.cells #[.int .i64 (-1)] 3)) [.loc w.heap.size #[.int .i64 (-1)] 3] := (Mem.start w).newAt #[.int .i64 (-1)] 3 w.heap.size rfl
  have z0 := (LV.kb3 hG.g T0.b hG.g.lt).all
  have Hrep := Lib.hid (repN_any w.heap.size ts.length _ (T0.lv 0 rfl) h1 (by omega))
  have Hnb := Lib.hid (fun i => nbL_len r ts i)
  have HT0 := Lib.hid T0
  clear hG ho T0
  go_enter Tryz.func38, Tryz.ntmps38
  go_wp2_with fail
  ((with_reducible refine (Hrep.out).mono ?_); rintro e w2 ⟨V, rfl, T1⟩)
  obtain ⟨B, hB⟩ : ∃ B, B = w.heap.size := ⟨_, rfl⟩
  have T3 : Mem w w2 [.own rInt B 3 (.slice (some ⟨V, 0, none⟩) ts.length ts.length) (List.replicate ts.length (-1))] := ((HT0.out.join T1).del 0).ownBase flatInt 0 rfl (by rw [hB]; simp)
  have Hb := Lib.hid hB
  clear hB T1 HT0 Hrep z0
  obtain ⟨d0, f0⟩ := (T3.ow 0 rfl).intAt (by simp) s (-1) (by rw [List.getElem?_replicate, if_pos hs])
  have T4 : Mem w (w2.setCell ⟨V, s, none⟩ (.int .i64 0)) [.own rInt B 3 (.slice (some ⟨V, 0, none⟩) ts.length ts.length) ((List.replicate ts.length (-1)).set s 0)] := T3.putI 0 rfl (by simp) s (-1) 0 (by rw [List.getElem?_replicate, if_pos hs])
  have HB0 := Lib.hid (Bfs.start (R := Edge r ts) hs)
  have Hng := Lib.hid (neg_start ts.length s hs)
  clear T3
  go_upto_region 3 with fail
  clear d0 f0
  generalize w2.setCell ⟨V, s, none⟩ (.int .i64 0) = w3 at *
  go_upto_region 4 with fail
  obtain ⟨Q0, hQ0⟩ : ∃ Q0, Q0 = w3.heap.size := ⟨_, rfl⟩
  have T5 : Mem w (w3.alloc (.cells #[.int .i64 s] 3)) [.own rInt B 3 (.slice (some ⟨V, 0, none⟩) ts.length ts.length) ((List.replicate ts.length (-1)).set s 0), .own rInt B 3 (.slice (some ⟨Q0, 0, none⟩) 1 1) [(s : Int)]] := (T4.newAt #[.int .i64 s] 3 Q0 hQ0).asOwn flatInt 1 rfl [(s : Int)] rfl rfl (by simp) Hb.out 1 rfl
  rw [← hQ0]
  clear hQ0 T4
  generalize w3.alloc (.cells #[.int .i64 s] 3) = w4 at *
  go_loopw [6] (fun v wr => ∃ (g N C d d1 n1 c1 : Nat) (out xs : List Int) (q : List Nat), v = .slice (some ⟨g, d1, none⟩) n1 c1 ∧ Hid (QuAt ts.length N C d d1 n1 c1 xs out q) ∧ Hid (Bfs ts.length (Edge r ts) s out q) ∧ Mem w wr [.own rInt B 3 (.slice (some ⟨V, 0, none⟩) ts.length ts.length) out, .own rInt B 3 (.slice (some ⟨g, 0, none⟩) N C) xs]) (fun v wr => lenV v + negW wr V ts.length)
  case atStart => exact ⟨Q0, 1, 1, 0, 0, 1, 1, (List.replicate ts.length (-1)).set s 0, [(s : Int)], [s], rfl, ⟨rfl, fun _ => rfl, rfl, rfl, Nat.le_refl _, rfl, by have := Hng.out; simp; omega⟩, HB0.out, T5⟩
  case round =>
    clear T5 HB0 Hng
    obtain ⟨g, N, C, d, d1, n1, c1, out, xs, q, rfl, HQ, HB, T⟩ := hrel
    have hol : ts.length = out.length := HB.out.len.symm
    have Hneg0 : Hid (negW wr V ts.length = negL out) := negW_is (T.ow 0 rfl) hol
    have Hol := Lib.hid hol
    clear hol
    by_cases hlt : 0 < n1
    · obtain ⟨h, q, rfl⟩ : ∃ h t, q = h :: t := by
        cases q with
        | nil => have := HQ.out.n1; simp at this; omega
        | cons a t => exact ⟨a, t, rfl⟩
      obtain rfl := HQ.out.hd hlt
      obtain ⟨L, hL⟩ := HB.out.inq h (List.mem_cons_self ..)
      have hhl : h < ts.length := by rw [Hol.out]; exact lt_of_get hL
      have hLs : L < ts.length := far_small hs L h (HB.out.far hL)
      have HL := Lib.hid hL
      clear hL
      obtain ⟨d0, _⟩ := (T.ow 1 rfl).intAt HQ.out.hN d1 h (by have := HQ.out.at' (i := 0) (x := h) rfl; exact this)
      have Hn := Lib.hid (HN.out wr h T.b hhl)
      go_wp2_with fail
      ((with_reducible refine (Hn.out).mono ?_); rintro e w5 ⟨v5, rfl, T5⟩)
      clear Hn d0
      obtain ⟨A9, c9, rfl, T6⟩ := (T.join T5).frz 2 rfl
      obtain ⟨zs, hzs⟩ : ∃ zs, nbL r ts h = zs := ⟨_, rfl⟩
      have hzl : zs.length ≤ 2000 := by rw [← hzs]; have := Hnb.out h; omega
      have Hnm : Hid (∀ z, z ∈ zs ↔ z < ts.length ∧ Edge r ts h z) := fun z => by rw [← hzs]; exact nbL_mem
      rw [hzs] at T6 ⊢
      replace T6 : Mem w w5 [.own rInt B 3 (.slice (some ⟨V, 0, none⟩) ts.length ts.length) out, .own rInt B 3 (.slice (some ⟨g, 0, none⟩) N C) xs, .sl rInt A9 (iL zs)] := T6
      rw [iL_len]
      clear T T5 hzs
      obtain ⟨M0, hM0⟩ : ∃ M0, n1 + negL out = M0 := ⟨_, rfl⟩
      have HMo := Lib.hid hM0
      clear hM0
      go_wp2_with fail
      go_loopw [6, 32] (fun v i wx => ∃ (g N C d n1 c1 j : Nat) (out xs : List Int) (q : List Nat), v = .slice (some ⟨g, d, none⟩) n1 c1 ∧ i = .int .i64 j ∧ j ≤ zs.length ∧ 0 < n1 ∧ Hid (QuAt ts.length N C d d n1 c1 xs out (h :: q)) ∧ Hid (Bfs ts.length (Edge r ts) s out (h :: q)) ∧ Hid (∀ p z, p < j → zs[p]? = some z → ∃ m : Nat, out[z]? = some (m : Int)) ∧ Hid (n1 + negL out = M0) ∧ Hid (out[h]? = some (L : Int)) ∧ Mem w wx [.own rInt B 3 (.slice (some ⟨V, 0, none⟩) ts.length ts.length) out, .own rInt B 3 (.slice (some ⟨g, 0, none⟩) N C) xs, .sl rInt A9 (iL zs)]) (fun _ i _ => zs.length - (intOf i).toNat)
      case atStart => exact ⟨g, N, C, d1, n1, c1, 0, out, xs, q, rfl, rfl, Nat.zero_le _, hlt, HQ, HB, (fun p z hp => by omega), HMo, HL, T6⟩
      case round =>
        clear T6 HQ HB HL Hol hlt
        obtain ⟨g, N, C, d, n1, c1, j, out, xs, q, rfl, rfl, hj, hn1, HQ, HB, Htl, HM0, HL, T⟩ := hrel
        have Hol : Hid (ts.length = out.length) := HB.out.len.symm
        by_cases hlt : j < zs.length
        · obtain ⟨z, hz⟩ : ∃ z, zs[j]? = some z := ⟨_, List.getElem?_eq_getElem hlt⟩
          obtain ⟨b5, o5, rfl, hb5, d0⟩ := (T.slc 2 rfl).int j (z : Int) (by unfold iL; rw [List.getElem?_map, hz]; rfl)
          obtain ⟨hzn, hze⟩ := (Hnm.out z).1 (List.mem_of_getElem? hz)
          have Hz := Lib.hid hz
          have Hze := Lib.hid hze
          clear hz hze
          go_upto_region 9 with fail
          clear d0
          obtain ⟨v, hv⟩ : ∃ v, out[z]? = some v := ⟨_, List.getElem?_eq_getElem (by have := Hol.out; omega)⟩
          obtain ⟨dz, fz⟩ := (T.ow 0 rfl).intAt Hol.out z v hv
          rcases HB.out.lab z v hv with rfl | ⟨k, rfl, _⟩
          · have hne := HB.out.tell HL.out hv Hze.out
            have HB2 := Lib.hid hne.1
            have Hzv := Lib.hid hv
            obtain ⟨dq, _⟩ := (T.ow 1 rfl).intAt HQ.out.hN d h (HQ.out.at' (i := 0) (x := h) rfl)
            obtain ⟨dh, _⟩ := (T.ow 0 rfl).intAt Hol.out h (L : Int) HL.out
            have T2 : Mem w (wr.setCell ⟨V, z, none⟩ (.int .i64 ((L : Int) + 1))) [.own rInt B 3 (.slice (some ⟨V, 0, none⟩) ts.length ts.length) (out.set z ((L : Int) + 1)), .own rInt B 3 (.slice (some ⟨g, 0, none⟩) N C) xs, .sl rInt (some ⟨b5, o5, none⟩) (iL zs)] := T.putI 0 rfl Hol.out z (-1) ((L : Int) + 1) hv
            have Hn2 : Hid (negL (out.set z ((L : Int) + 1)) + 1 = negL out) := neg_set out z _ hv (by omega)
            have HL2 : Hid ((out.set z ((L : Int) + 1))[h]? = some (L : Int)) := by
              show _ = _
              rw [List.getElem?_set_ne (fun e => by rw [e, HL.out] at hv; have := Option.some.inj hv; omega)]
              exact HL.out
            have Ht2 : Hid (∀ p y, p < j + 1 → zs[p]? = some y → ∃ m : Nat, (out.set z ((L : Int) + 1))[y]? = some (m : Int)) := fun p y hp hy => by
              by_cases e : p = j
              · subst e
                rw [Hz.out] at hy
                obtain rfl := Option.some.inj hy
                exact ⟨L + 1, by rw [List.getElem?_set_self (by have := Hol.out; omega)]; rfl⟩
              · exact set_told hv (Htl.out p y (by omega) hy)
            clear T hv hne
            go_upto_region 11 with fail
            clear dz fz dq dh
            generalize wr.setCell ⟨V, z, none⟩ (.int .i64 ((L : Int) + 1)) = w7 at *
            have hd : d < N := by have := HQ.out.dn; omega
            have e1 : n1 = N - d := by have := HQ.out.dn; omega
            have e2 : c1 = C - d := by have := HQ.out.dc; omega
            have hxl : xs.length ≤ 1000000 := by have := HQ.out.sm; omega
            have hBs : B ≤ w7.heap.size := by rw [Hb.out]; exact T2.b.size
            have Hfc := Lib.hid (new_cells (w := w7) (cells := #[.int .i64 (z : Int)]) (T := 3) (L := [.int .i64 (z : Int)]) rfl 0 _ rfl)
            have HT2 := Lib.hid (T2.alloc (.cells #[.int .i64 (z : Int)] 3))
            have HhN := Lib.hid HQ.out.hN
            have Hnum := Lib.hid (And.intro e1 e2)
            clear T2 e1 e2
            go_wp2_with (refine HT2.out.appQ 1 rfl HhN.out hd hxl rfl _ _ rfl (z : Int) 1 (by rw [quV, ← Hnum.out.1, ← Hnum.out.2]; rfl) ⟨w7.heap.size, 0, none⟩ rfl Hfc.out (by rw [alloc_size]; omega) ?_; intro w8 g2 N2 C2 d2 xs2 i1 i2 i3 i4 T3; have Hi := Lib.hid (And.intro i1 (And.intro i2 (And.intro i3 i4))); clear i1 i2 i3 i4)
            obtain ⟨i1, i2, i3, i4⟩ := Hi.out
            have T4 : Mem w w8 [.own rInt B 3 (.slice (some ⟨V, 0, none⟩) ts.length ts.length) (out.set z ((L : Int) + 1)), .own rInt B 3 (.slice (some ⟨g2, 0, none⟩) N2 C2) xs2, .sl rInt (some ⟨b5, o5, none⟩) (iL zs)] := T3
            have HQ2 := Lib.hid (HQ.out.put i1 i2 i3 i4 (by rw [i1]; exact (T4.ow 1 rfl).capLe) Hn2.out)
            have HM2 : Hid (N2 - d2 + negL (out.set z ((L : Int) + 1)) = M0) := by
              have a1 := HQ2.out.n1
              have a2 := HQ.out.n1
              have a3 := HM0.out
              have a4 := Hn2.out
              show _ = _
              simp only [List.length_append, List.length_cons, List.length_nil] at a1 a2
              omega
            have hp : 0 < N2 - d2 := by omega
            clear T3 HT2 i1 i2 i3 i4 Hi HQ
            go_wp2_with fail
            go_roundw
            case rel => exact ⟨g2, N2, C2, d2, N2 - d2, C2 - d2, j + 1, _, xs2, q ++ [z], rfl, by go_num, by omega, hp, HQ2, HB2, Ht2, HM2, HL2, T4⟩
            case measure => simp [intOf]; omega
          · have Ht2 : Hid (∀ p y, p < j + 1 → zs[p]? = some y → ∃ m : Nat, out[y]? = some (m : Int)) := fun p y hp hy => by
              by_cases e : p = j
              · subst e
                rw [Hz.out] at hy
                obtain rfl := Option.some.inj hy
                exact ⟨k, hv⟩
              · exact Htl.out p y (by omega) hy
            clear hv
            go_wp2_with fail
            go_roundw
            case rel => exact ⟨g, N, C, d, n1, c1, j + 1, out, xs, q, rfl, by go_num, by omega, hn1, HQ, HB, Ht2, HM0, HL, T⟩
            case measure => simp [intOf]; omega
        · obtain rfl : j = zs.length := by omega
          have HB2 : Hid (Bfs ts.length (Edge r ts) s out q) := HB.out.drop (fun y hy hr => by
            obtain ⟨p, hp⟩ := List.mem_iff_getElem?.1 ((Hnm.out y).2 ⟨hy, hr⟩)
            exact Htl.out p y (lt_of_get hp) hp)
          have T2 : Mem w wr [.own rInt B 3 (.slice (some ⟨V, 0, none⟩) ts.length ts.length) out, .own rInt B 3 (.slice (some ⟨g, 0, none⟩) N C) xs] := T.del 2
          have Hms : Hid (n1 - 1 + negW wr V ts.length < n1 + negL out) := by
            show _ < _
            rw [negW_is (T2.ow 0 rfl) Hol.out]
            omega
          clear T
          by_cases hc : c1 = 1
          · subst hc
            have HQ2 : Hid (QuAt ts.length N C (d + 1) d (n1 - 1) (1 - 1) xs out q) := HQ.out.next (fun hh => by have := HQ.out.dn; have := HQ.out.dc; have := HQ.out.nc; omega)
            clear HQ HB
            go_wp2_with fail
            go_roundw
            case rel => exact ⟨g, N, C, d + 1, d, n1 - 1, 1 - 1, out, xs, q, by go_num, HQ2, HB2, T2⟩
            case measure => simp [lenV, Hneg0.out]; have := Hms.out; have := HM0.out; have := HMo.out; omega
          · have hc2 : 1 < c1 := by have := HQ.out.dn; have := HQ.out.dc; have := HQ.out.nc; omega
            have HQ2 : Hid (QuAt ts.length N C (d + 1) (d + 1) (n1 - 1) (c1 - 1) xs out q) := HQ.out.next (fun hh => rfl)
            clear HQ HB
            go_wp2_with fail
            go_roundw
            case rel => exact ⟨g, N, C, d + 1, d + 1, n1 - 1, c1 - 1, out, xs, q, by go_num, HQ2, HB2, T2⟩
            case measure => simp [lenV, Hneg0.out]; have := Hms.out; have := HM0.out; have := HMo.out; omega
    · obtain rfl : q = [] := by
        have := HQ.out.n1
        exact List.length_eq_zero_iff.1 (by omega)
      have Hall : Hid (∀ i, i < ts.length → out[i]? = some (farI ts.length (Edge r ts) s i)) := fun i hi => HB.out.all hi
      have HT : Hid (Mem w wr [.own rInt w.heap.size 3 (.slice (some ⟨V, 0, none⟩) ts.length ts.length) out]) := by
        have h := T.del 1
        rw [← Hb.out]
        exact h
      obtain rfl : n1 = 0 := by omega
      clear T HB HQ
      go_wp2_with fail
      go_ret
      exact ⟨V, out, rfl, Hol.out.symm, Hall.out, HT.out⟩
end Go.Proofs.YtfdcgedcfafmcaaGreatDoor
