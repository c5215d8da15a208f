/- Several texts in one: Free, Facts. -/
import Derived.Test.YtmlpkejeglpciaaGreatDoorPkAE
import Derived.Test.YtmlpkejeglpciaaGreatDoorPkAD
/- Regions that draw their order, with operations that may come in many orders (new blocks, draws): each keeps what the others have laid. No program is in sight. -/
namespace Go.Proofs.YtmlpkejeglpciaaGreatDoor
open Go
section
variable {P : Program} {ops : Array Oper} {Q : Exit → Act → World → Prop} {md : Region.Mode} {C : World → Prop} {L : Nat}
def edge (md : Region.Mode) (ops : Array Oper) (j i : Nat) : Bool := match ops[j]? with | some o => o.after.any (fun e => Region.binds md e && decide (e.on = i)) | none => false
def dstOf (ops : Array Oper) (i : Nat) : Option Tmp := (ops[i]?).bind (·.dst)
def upd (ν : Nat → Value) (i : Nat) (v : Value) : Nat → Value := fun j => if j = i then v else ν j
theorem upd_at (ν : Nat → Value) (i : Nat) (v : Value) : upd ν i v i = v := by simp [upd]
theorem upd_ne (ν : Nat → Value) {i j : Nat} (v : Value) (h : j ≠ i) : upd ν i v j = ν j := by simp [upd, h]
def fillL (ops : Array Oper) (listed : Array Bool) (ν : Nat → Value) (is : List Nat) (a : Act) : Act := is.foldl (fun a i => if listed.getD i false = true then a.put (dstOf ops i) (ν i) else a) a
def fillG (ops : Array Oper) (ν : Nat → Value) (is : List Nat) (a : Act) : Act := is.foldl (fun a i => a.put (dstOf ops i) (ν i)) a
theorem fillL_all {listed : Array Bool} {ν : Nat → Value} : ∀ (is : List Nat) (a : Act), (∀ i ∈ is, listed.getD i false = true) → fillL ops listed ν is a = fillG ops ν is a
  | [], _, _ => rfl
  | i :: r, a, h => by
    have h1 := h i (by simp)
    simp only [fillL, fillG, List.foldl_cons, h1, if_true]
    exact fillL_all r _ (fun j hj => h j (by simp [hj]))
theorem fillL_none {listed : Array Bool} {ν : Nat → Value} : ∀ (is : List Nat) (a : Act), (∀ i ∈ is, listed.getD i false = false) → fillL ops listed ν is a = a
  | [], _, _ => rfl
  | i :: r, a, h => by
    have h1 := h i (by simp)
    simp only [fillL, List.foldl_cons, h1, Bool.false_eq_true, if_false]
    exact fillL_none r _ (fun j hj => h j (by simp [hj]))
theorem fillL_put {listed : Array Bool} {ν : Nat → Value} {x : Option Tmp} (v : Value) : ∀ (is : List Nat) (a : Act), (∀ i ∈ is, ∀ d, x = some d → dstOf ops i ≠ some d) → fillL ops listed ν is (a.put x v) = (fillL ops listed ν is a).put x v
  | [], _, _ => rfl
  | i :: r, a, h => by
    simp only [fillL, List.foldl_cons]
    have hi := h i (by simp)
    have hr := fun j hj => h j (List.mem_cons_of_mem i hj)
    split
    · rw [Act.put_comm a v (ν i) hi]
      exact fillL_put v r _ hr
    · exact fillL_put v r _ hr
theorem fillL_congr {listed listed' : Array Bool} {ν ν' : Nat → Value} : ∀ (is : List Nat) (a : Act), (∀ i ∈ is, listed.getD i false = listed'.getD i false ∧ ν i = ν' i) → fillL ops listed ν is a = fillL ops listed' ν' is a
  | [], _, _ => rfl
  | i :: r, a, h => by
    obtain ⟨h1, h2⟩ := h i (by simp)
    simp only [fillL, List.foldl_cons, h1, h2]
    exact fillL_congr r _ (fun j hj => h j (by simp [hj]))
theorem fillL_step {listed : Array Bool} {ν : Nat → Value} {i : Nat} (v : Value) (hsz : i < listed.size) : ∀ (is : List Nat) (a : Act), is.Nodup → i ∈ is → listed.getD i false = false →
    (∀ j ∈ is, j ≠ i → ∀ d, dstOf ops i = some d → dstOf ops j ≠ some d) → fillL ops (listed.setIfInBounds i true) (upd ν i v) is a = (fillL ops listed ν is a).put (dstOf ops i) v
  | [], _, _, h, _, _ => by cases h
  | j :: r, a, hnd, hm, hl, hd => by
    obtain ⟨hjr, hndr⟩ := List.nodup_cons.1 hnd
    by_cases hji : j = i
    · subst hji
      have e1 : (listed.setIfInBounds j true).getD j false = true := by simp [Array.getD, hsz]
      have hrest : fillL ops (listed.setIfInBounds j true) (upd ν j v) r (a.put (dstOf ops j) v) = fillL ops listed ν r (a.put (dstOf ops j) v) :=
        fillL_congr r _ fun k hk => by
          have hkj : k ≠ j := fun e => hjr (e ▸ hk)
          exact ⟨getD_set_ne false (Ne.symm hkj), upd_ne ν v hkj⟩
      simp only [fillL, List.foldl_cons, e1, if_true, upd_at, hl, Bool.false_eq_true, if_false]
      refine hrest.trans ?_
      exact fillL_put v r a fun k hk => hd k (by simp [hk]) (fun e => hjr (e ▸ hk))
    · have hm' : i ∈ r := by
        rcases List.mem_cons.1 hm with h | h
        · exact absurd h.symm hji
        · exact h
      simp only [fillL, List.foldl_cons, getD_set_ne false (Ne.symm hji), upd_ne ν v hji]
      exact fillL_step v hsz r _ hndr hm' hl (fun k hk => hd k (by simp [hk]))
theorem put_size (a : Act) (x : Option Tmp) (v : Value) : (a.put x v).tmps.size = a.tmps.size := by cases x <;> simp [Act.put]
theorem put_get_ne (a : Act) {x : Option Tmp} {t : Nat} (v : Value) (h : x ≠ some t) : (a.put x v).tmps.getD t undef = a.tmps.getD t undef := by
  cases x with
  | none => rfl
  | some d =>
    have : d ≠ t := fun e => h (by rw [e])
    simp [Act.put, Array.getD_eq_getD_getElem?, this]
theorem put_get (a : Act) {t : Nat} (v : Value) (h : t < a.tmps.size) : (a.put (some t) v).tmps.getD t undef = v := by
  simp [Act.put, Array.getD_eq_getD_getElem?, h]
theorem fillL_size {listed : Array Bool} {ν : Nat → Value} : ∀ (is : List Nat) (a : Act), (fillL ops listed ν is a).tmps.size = a.tmps.size
  | [], _ => rfl
  | i :: r, a => by
    simp only [fillL, List.foldl_cons]
    split
    · exact (fillL_size r _).trans (put_size _ _ _)
    · exact fillL_size r _
theorem fillL_other {listed : Array Bool} {ν : Nat → Value} {t : Nat} : ∀ (is : List Nat) (a : Act), (∀ i ∈ is, dstOf ops i ≠ some t) → (fillL ops listed ν is a).tmps.getD t undef = a.tmps.getD t undef
  | [], _, _ => rfl
  | i :: r, a, h => by
    simp only [fillL, List.foldl_cons]
    have hr := fun j hj => h j (List.mem_cons_of_mem i hj)
    split
    · exact (fillL_other r _ hr).trans (put_get_ne a _ (h i (by simp)))
    · exact fillL_other r _ hr
theorem fillL_at {listed : Array Bool} {ν : Nat → Value} {p t : Nat} (hp : listed.getD p false = true) (ht : dstOf ops p = some t) : ∀ (is : List Nat) (a : Act), is.Nodup → p ∈ is → t < a.tmps.size →
    (∀ j ∈ is, j ≠ p → dstOf ops j ≠ some t) → (fillL ops listed ν is a).tmps.getD t undef = ν p
  | [], _, _, h, _, _ => by cases h
  | j :: r, a, hnd, hm, hs, hd => by
    obtain ⟨hjr, hndr⟩ := List.nodup_cons.1 hnd
    by_cases hjp : j = p
    · subst hjp
      simp only [fillL, List.foldl_cons, hp, if_true]
      refine (fillL_other r _ fun k hk => hd k (by simp [hk]) (fun e => hjr (e ▸ hk))).trans ?_
      rw [ht]
      exact put_get a _ hs
    · have hm' : p ∈ r := by
        rcases List.mem_cons.1 hm with h | h
        · exact absurd h.symm hjp
        · exact h
      simp only [fillL, List.foldl_cons]
      split
      · exact fillL_at hp ht r _ hndr hm' (by rw [put_size]; exact hs) (fun k hk => hd k (by simp [hk]))
      · exact fillL_at hp ht r _ hndr hm' hs (fun k hk => hd k (by simp [hk]))

def groupOk (md : Region.Mode) (ops : Array Oper) (L : Nat) (is : List Nat) (listed : Array Bool) : Bool :=
  decide (is.Nodup) && decide ((is.map (dstOf ops)).Nodup) &&
  is.all (fun i => decide (i < listed.size) && decide (i < ops.size) && decide (i ≠ L) && (dstOf ops i).isSome && !(listed.getD i false) && (match ops[i]? with | some o => o.guard.isNone && o.after.all (fun e => !(Region.binds md e) || (decide (e.on < i) && (is.contains e.on || listed.getD e.on false))) | none => false)) &&
  (List.range ops.size).all (fun j => is.contains j || listed.getD j true || ((List.range ops.size).any (fun p => !(is.contains p) && !(listed.getD p true) && edge md ops j p) || is.all (fun i => edge md ops j i || is.any (fun k => decide (i < k) && edge md ops k i)))) &&
  (List.range ops.size).all (fun j => !(listed.getD j false) || (match ops[j]? with | some o => o.after.all (fun e => !(Region.binds md e) || listed.getD e.on false) | none => true))
structure FreeG (P : Program) (md : Region.Mode) (ops : Array Oper) (C : World → Prop) (Q : Exit → Act → World → Prop) (is : List Nat) (K : Act → World → Prop) (a0 : Act) (w0 : World) where
  inv : Nat → World → Prop
  rel : World → World → Prop
  fact : Nat → (Nat → Value) → World → Prop
  dep : Nat → List Nat
  start : inv 0 w0
  cls : ∀ c w, inv c w → C w
  depOk : ∀ i ∈ is, ∀ d ∈ dep i, d = i ∨ (d ∈ is ∧ edge md ops i d = true)
  cong : ∀ i ∈ is, ∀ ν ν' w, (∀ d ∈ dep i, ν d = ν' d) → fact i ν w → fact i ν' w
  stay : ∀ i ∈ is, ∀ ν w w', rel w w' → fact i ν w → fact i ν w'
  room : ∀ i ∈ is, ∀ d, dstOf ops i = some d → d < a0.tmps.size
  step : ∀ i ∈ is, ∀ o, ops[i]? = some o → ∀ c ν a w, c < is.length → inv c w → (∀ p ∈ is, edge md ops i p = true → fact p ν w) → (∀ p ∈ is, edge md ops i p = true → ∀ d, dstOf ops p = some d → a.tmps.getD d undef = ν p) →
    (∀ t, (∀ q ∈ is, dstOf ops q ≠ some t) → a.tmps.getD t undef = a0.tmps.getD t undef) → o.wp P a w (fun a' w' => ∃ v, a' = a.put o.dst v ∧ rel w w' ∧ inv (c + 1) w' ∧ fact i (upd ν i v) w') Q
  done : ∀ ν w, inv is.length w → (∀ i ∈ is, fact i ν w) → K (fillG ops ν is a0) w
def markAll (is : List Nat) (listed : Array Bool) : Array Bool := is.foldl (fun l i => l.setIfInBounds i true) listed
theorem markAll_size : ∀ (is : List Nat) (listed : Array Bool), (markAll is listed).size = listed.size
  | [], _ => rfl
  | i :: r, l => (markAll_size r _).trans (by simp)
theorem markAll_get {j : Nat} (d : Bool) : ∀ (is : List Nat) (listed : Array Bool), (∀ i ∈ is, i < listed.size) → (markAll is listed).getD j d = if j ∈ is then true else listed.getD j d
  | [], _, _ => by simp [markAll]
  | i :: r, l, h => by
    have h1 := markAll_get (j := j) d r (l.setIfInBounds i true) (fun k hk => by simp; exact h k (by simp [hk]))
    have h2 : markAll (i :: r) l = markAll r (l.setIfInBounds i true) := rfl
    rw [h2, h1]
    by_cases hjr : j ∈ r
    · simp [hjr]
    · by_cases hji : j = i
      · subst hji
        have := h j (by simp)
        simp [hjr, Array.getD, this]
      · simp only [hjr, if_false, List.mem_cons, hji, or_self]
        exact getD_set_ne d (fun e => hji e.symm)
theorem getD_of_unlisted {l : Array Bool} {j : Nat} (h : l.getD j true = false) : l.getD j false = false := by
  rcases Nat.lt_or_ge j l.size with hj | hj
  · simp [Array.getD, hj] at h ⊢; exact h
  · simp [Array.getD, Nat.not_lt.2 hj] at h
theorem edge_spec {j p : Nat} {o : Oper} (ho : ops[j]? = some o) : edge md ops j p = true ↔ ∃ e ∈ o.after, Region.binds md e = true ∧ e.on = p := by
  unfold edge
  rw [ho]
  simp only []
  rw [Array.any_eq_true]
  constructor
  · rintro ⟨k, hk, h⟩
    simp only [Bool.and_eq_true, decide_eq_true_eq] at h
    exact ⟨_, Array.getElem_mem hk, h.1, h.2⟩
  · rintro ⟨e, he, h1, h2⟩
    obtain ⟨k, hk, e'⟩ := Array.getElem_of_mem he
    exact ⟨k, hk, by rw [e']; simp [h1, h2]⟩
theorem max_of {U : List Nat} (h : U ≠ []) : ∃ m ∈ U, ∀ k ∈ U, k ≤ m := by
  induction U with
  | nil => exact absurd rfl h
  | cons a r ih =>
    by_cases hr : r = []
    · subst hr; exact ⟨a, by simp, fun k hk => by simp at hk; omega⟩
    · obtain ⟨m, hm, hk⟩ := ih hr
      by_cases ham : a ≤ m
      · exact ⟨m, by simp [hm], fun k hk' => by rcases List.mem_cons.1 hk' with rfl | h; exact ham; exact hk k h⟩
      · exact ⟨a, by simp, fun k hk' => by rcases List.mem_cons.1 hk' with rfl | h; exact Nat.le_refl _; have := hk k h; omega⟩
theorem min_of {U : List Nat} (h : U ≠ []) : ∃ m ∈ U, ∀ k ∈ U, m ≤ k := by
  induction U with
  | nil => exact absurd rfl h
  | cons a r ih =>
    by_cases hr : r = []
    · subst hr; exact ⟨a, by simp, fun k hk => by simp at hk; omega⟩
    · obtain ⟨m, hm, hk⟩ := ih hr
      by_cases ham : m ≤ a
      · exact ⟨m, by simp [hm], fun k hk' => by rcases List.mem_cons.1 hk' with rfl | h; exact ham; exact hk k h⟩
      · exact ⟨a, by simp, fun k hk' => by rcases List.mem_cons.1 hk' with rfl | h; exact Nat.le_refl _; have := hk k h; omega⟩
theorem free_any {is : List Nat} {K : Act → World → Prop} {a0 : Act} {w0 : World} {listed0 : Array Bool} (hB : groupOk md ops L is listed0 = true) (F : FreeG P md ops C Q is K a0 w0) (fuel : Nat)
    (hrest : ∀ a w, K a w → C w → wpAnyL P md ops L C Q fuel (markAll is listed0) a w) :
    ∀ (n : Nat) (U : List Nat) (listed : Array Bool) (ν : Nat → Value) (a : Act) (w : World) (c : Nat), U.length = n → U.Nodup → (∀ i, i ∈ U ↔ i ∈ is ∧ listed.getD i false = false) → c + n = is.length → listed.size = listed0.size →
      (∀ j, j ∉ is → ∀ d, listed.getD j d = listed0.getD j d) → a = fillL ops listed ν is a0 → (∀ i ∈ is, listed.getD i false = true → F.fact i ν w) → (∀ j p, listed.getD j false = true → edge md ops j p = true → listed.getD p false = true) → F.inv c w →
      wpAnyL P md ops L C Q (n + fuel) listed a w := by
  simp only [groupOk, Bool.and_eq_true, decide_eq_true_eq] at hB
  obtain ⟨⟨⟨⟨hnd, hndd⟩, hel⟩, hout⟩, _⟩ := hB
  have hel' : ∀ i ∈ is, i < listed0.size ∧ i ≠ L ∧ (∃ d, dstOf ops i = some d) ∧ ∃ o, ops[i]? = some o ∧ o.guard = none ∧ ∀ e ∈ o.after, Region.binds md e = true → e.on < i ∧ (e.on ∈ is ∨ listed0.getD e.on false = true) := fun i hi => by
    have := List.all_eq_true.1 hel i hi
    simp only [Bool.and_eq_true, decide_eq_true_eq, Bool.not_eq_true'] at this
    obtain ⟨⟨⟨⟨⟨h1, h2⟩, h3⟩, h4⟩, h5⟩, h6⟩ := this
    refine ⟨h1, h3, Option.isSome_iff_exists.1 h4, ?_⟩
    cases ho : ops[i]? with
    | none => rw [ho] at h6; cases h6
    | some o =>
      rw [ho] at h6
      simp only [Bool.and_eq_true, Option.isNone_iff_eq_none] at h6
      refine ⟨o, rfl, h6.1, fun e he hb => ?_⟩
      obtain ⟨k, hk, e'⟩ := Array.getElem_of_mem he
      have := Array.all_eq_true.1 h6.2 k hk
      rw [e'] at this
      simp only [hb, Bool.not_true, Bool.false_or, Bool.and_eq_true, decide_eq_true_eq, Bool.or_eq_true, List.contains_iff_mem] at this
      exact this
  have hdd : ∀ i ∈ is, ∀ j ∈ is, j ≠ i → ∀ d, dstOf ops i = some d → dstOf ops j ≠ some d := fun i hi j hj hji d e1 e2 => by
    obtain ⟨x, hx, ex⟩ := List.getElem_of_mem hi
    obtain ⟨y, hy, ey⟩ := List.getElem_of_mem hj
    have hxy : x ≠ y := fun e => by subst e; exact hji (ey.symm.trans ex)
    have := (List.nodup_iff_pairwise_ne.1 hndd)
    have hp := List.pairwise_iff_getElem.1 this
    rcases Nat.lt_or_gt_of_ne hxy with h | h
    · exact hp x y (by simpa using hx) (by simpa using hy) h (by simp [ex, ey, e1, e2])
    · exact hp y x (by simpa using hy) (by simpa using hx) h (by simp [ex, ey, e1, e2])
  intro n
  induction n with
  | zero =>
    intro U listed ν a w c hUl hUn hU hc hsz hag ha hf hcl hinv
    obtain rfl : U = [] := List.length_eq_zero_iff.1 hUl
    have hall : ∀ i ∈ is, listed.getD i false = true := fun i hi => by
      cases h : listed.getD i false with
      | true => rfl
      | false => exact absurd ((hU i).2 ⟨hi, h⟩) (by simp)
    have hm : listed = markAll is listed0 := by
      apply Array.ext
      · rw [markAll_size, hsz]
      · intro j h1 h2
        have e1 := markAll_get (j := j) false is listed0 (fun i hi => (hel' i hi).1)
        have e2 : listed.getD j false = listed[j] := by simp [Array.getD, h1]
        have e3 : (markAll is listed0).getD j false = (markAll is listed0)[j] := by simp [Array.getD, h2]
        rw [← e2, ← e3, e1]
        by_cases hj : j ∈ is
        · rw [if_pos hj]; exact hall j hj
        · rw [if_neg hj]; exact hag j hj false
    rw [Nat.zero_add, hm, ha, fillL_all is a0 hall]
    refine hrest _ _ (F.done ν w ?_ fun i hi => hf i hi (hall i hi)) (F.cls _ _ hinv)
    rw [← hc]
    exact hinv
  | succ n ih =>
    intro U listed ν a w c hUl hUn hU hc hsz hag ha hf hcl hinv
    have hne : U ≠ [] := fun e => by rw [e] at hUl; cases hUl
    rw [Nat.add_right_comm]
    refine ⟨fun h0 => ?_, fun j hj => ?_⟩
    · obtain ⟨i, hi, hmin⟩ := min_of hne
      obtain ⟨hiS, hiL⟩ := (hU i).1 hi
      obtain ⟨h1, _, _, o, ho, _, hpre⟩ := hel' i hiS
      have : i ∈ Region.ready md ops listed := mem_ready.2 ⟨by
        have h1' : i < listed.size := by omega
        simp [Array.getD, h1'] at hiL ⊢; exact hiL, o, ho, fun e he hb => by
        obtain ⟨hlt, hor⟩ := hpre e he hb
        by_cases hin : e.on ∈ is
        · cases hl : listed.getD e.on false with
          | true => rfl
          | false => have := hmin _ ((hU _).2 ⟨hin, hl⟩); omega
        · rw [hag _ hin]; exact hor.resolve_left hin⟩
      rw [h0] at this
      cases this
    · obtain ⟨hjun, o, ho, hall⟩ := mem_ready.1 hj
      have hjs : j < ops.size := (Array.getElem?_eq_some_iff.1 ho).1
      have hjin : j ∈ is := by
        refine Classical.byContradiction fun hjn => ?_
        have := List.all_eq_true.1 hout j (List.mem_range.2 hjs)
        simp only [Bool.or_eq_true, List.contains_iff_mem, hjn, false_or] at this
        rcases this with h | h | h
        · rw [← hag j hjn] at h; rw [h] at hjun; cases hjun
        · obtain ⟨p, _, hp⟩ := List.any_eq_true.1 h
          simp only [Bool.and_eq_true, Bool.not_eq_true'] at hp
          obtain ⟨⟨hp1, hp2⟩, hp3⟩ := hp
          have hpn : p ∉ is := fun e => by rw [List.contains_iff_mem.2 e] at hp1; cases hp1
          obtain ⟨e, he, hb, rfl⟩ := (edge_spec ho).1 hp3
          have h1 := hall e he hb
          rw [hag _ hpn] at h1
          rw [getD_of_unlisted hp2] at h1
          cases h1
        · obtain ⟨i, hi, hmax⟩ := max_of hne
          obtain ⟨hiS, hiL⟩ := (hU i).1 hi
          have h2 := List.all_eq_true.1 h i hiS
          simp only [Bool.or_eq_true] at h2
          rcases h2 with h2 | h2
          · obtain ⟨e, he, hb, rfl⟩ := (edge_spec ho).1 h2
            rw [hall e he hb] at hiL
            cases hiL
          · obtain ⟨k, hk, hk2⟩ := List.any_eq_true.1 h2
            simp only [Bool.and_eq_true, decide_eq_true_eq] at hk2
            have hkl : listed.getD k false = true := by
              cases hl : listed.getD k false with
              | true => rfl
              | false => have := hmax k ((hU k).2 ⟨hk, hl⟩); omega
            rw [hcl k i hkl hk2.2] at hiL
            cases hiL
      obtain ⟨hjsz, hjL, ⟨d, hd⟩, o', ho', hg, hpre⟩ := hel' j hjin
      obtain rfl : o = o' := Option.some.inj (ho.symm.trans ho')
      have hod : dstOf ops j = o.dst := by simp [dstOf, ho]
      have hjlt : listed.getD j false = false := getD_of_unlisted hjun
      have hpl : ∀ p, edge md ops j p = true → listed.getD p false = true := fun p hp => by
        obtain ⟨e, he, hb, rfl⟩ := (edge_spec ho).1 hp
        exact hall e he hb
      have hst := F.step j hjin o ho c ν a w (by omega) hinv (fun p hp he => hf p hp (hpl p he)) (fun p hp he t ht => by
        rw [ha]
        exact fillL_at (hpl p he) ht is a0 hnd hp (F.room p hp t ht) (fun k hk hkp => hdd p hp k hk hkp t ht)) (fun t ht => by
        rw [ha]
        exact fillL_other is a0 ht)
      unfold wpOp
      simp only [ho]
      have hw : Region.wanted o (yielded ops a.tmps) = true := by simp [Region.wanted, hg]
      rw [if_pos hw]
      refine .inl (Oper.wp_mono (fun a' w' hv => ?_) hst)
      obtain ⟨v, rfl, hr, hinv', hfj⟩ := hv
      refine ⟨fun _ => F.cls _ _ hinv', ?_⟩
      have hjU : j ∈ U := (hU j).2 ⟨hjin, hjlt⟩
      refine ih (U.erase j) (listed.setIfInBounds j true) (upd ν j v) _ w' (c + 1) ?_ (hUn.erase j) (fun i => ?_) (by omega) (by simpa using hsz) (fun i hi d => ?_) ?_ (fun i hi hl => ?_) (fun x p hx he => ?_) hinv'
      · rw [List.length_erase_of_mem hjU, hUl]; rfl
      · rw [hUn.mem_erase_iff]
        by_cases hij : i = j
        · subst hij
          have : (listed.setIfInBounds i true).getD i false = true := by simp [Array.getD, hsz ▸ hjsz]
          simp [this]
        · rw [getD_set_ne false (Ne.symm hij), hU i]
          simp [hij]
      · have hij : i ≠ j := fun e => hi (e ▸ hjin)
        rw [getD_set_ne d (Ne.symm hij)]
        exact hag i hi d
      · rw [fillL_step v (hsz ▸ hjsz) is a0 hnd hjin hjlt (fun k hk hkj e e1 => hdd j hjin k hk hkj e e1), ha, hod]
      · by_cases hij : i = j
        · subst hij; exact hfj
        · rw [getD_set_ne false (Ne.symm hij)] at hl
          refine F.cong i hi ν _ w' (fun q hq => ?_) (F.stay i hi ν w w' hr (hf i hi hl))
          have hqj : q ≠ j := by
            rcases F.depOk i hi q hq with rfl | ⟨_, he⟩
            · exact hij
            · intro e
              subst e
              rw [hcl i q hl he] at hjlt
              cases hjlt
          exact (upd_ne ν v hqj).symm
      · by_cases hxj : x = j
        · subst hxj
          exact getD_set_true (hpl p he)
        · rw [getD_set_ne false (Ne.symm hxj)] at hx
          exact getD_set_true (hcl x p hx he)
inductive Ord where
  | q (i : Nat)
  | e (i : Nat)
  | f (is : List Nat)
def Ord.len : List Ord → Nat
  | [] => 0
  | .q _ :: r => Ord.len r + 1
  | .e _ :: r => Ord.len r + 1
  | .f is :: r => is.length + Ord.len r
def wpMixG (P : Program) (md : Region.Mode) (ops : Array Oper) (L : Nat) (C : World → Prop) (Q : Exit → Act → World → Prop) : List Ord → Act → World → Prop
  | [], a, w => Q .normal a w
  | .q i :: r, a, w => ∃ o v, ops[i]? = some o ∧ YieldsM P ops C o v a ∧ wpMixG P md ops L C Q r (a.put o.dst v) w
  | .e i :: r, a, w => ∃ o, ops[i]? = some o ∧ (if Region.wanted o (yielded ops a.tmps) = true then o.wp P a w (fun a' w' => (i ≠ L → C w') ∧ wpMixG P md ops L C Q r a' w') Q else C w ∧ wpMixG P md ops L C Q r (a.put o.dst undef) w)
  | .f is :: r, a, w => Nonempty (FreeG P md ops C Q is (wpMixG P md ops L C Q r) a w)
def lastQ (md : Region.Mode) (ops : Array Oper) (L : Nat) (listed : Array Bool) (i : Nat) : Bool := match ops[L]? with
  | none => true
  | some o => o.after.any (fun e => Region.binds md e && (decide (e.on = i) || (!(listed.getD e.on false) && (match ops[e.on]? with | some oj => oj.after.any (fun e' => Region.binds md e' && decide (e'.on = i)) | none => false))))
theorem listed_both {listed : Array Bool} {i : Nat} (h1 : listed.getD i false = true) (h0 : listed.getD i true = false) : False := by
  rcases Nat.lt_or_ge i listed.size with h | h
  · simp [h] at h0 h1; rw [h0] at h1; cases h1
  · simp [Array.getElem?_eq_none h] at h1
theorem lastQ_spec {listed : Array Bool} {i : Nat} (h : lastQ md ops L listed i = true) (hun : listed.getD i true = false) : L ∉ Region.ready md ops listed := by
  intro hr
  obtain ⟨_, o, ho, hall⟩ := mem_ready.1 hr
  unfold lastQ at h
  rw [ho] at h
  obtain ⟨k, hk, he⟩ := Array.any_eq_true.1 h
  simp only [Bool.and_eq_true, Bool.or_eq_true, decide_eq_true_eq] at he
  have h1 := hall _ (Array.getElem_mem hk) he.1
  rcases he.2 with he2 | he2
  · rw [he2] at h1
    exact listed_both h1 hun
  · rw [h1] at he2
    simp at he2
theorem lastQ_step {listed : Array Bool} {i j : Nat} (h : lastQ md ops L listed i = true) (hun : listed.getD i true = false) (hj : j ∈ Region.ready md ops listed) : lastQ md ops L (listed.setIfInBounds j true) i = true := by
  obtain ⟨_, oj, hoj, hall⟩ := mem_ready.1 hj
  unfold lastQ at h ⊢
  cases ho : ops[L]? with
  | none => rfl
  | some o =>
    rw [ho] at h
    obtain ⟨k, hk, he⟩ := Array.any_eq_true.1 h
    refine Array.any_eq_true.2 ⟨k, hk, ?_⟩
    simp only [Bool.and_eq_true, Bool.or_eq_true, decide_eq_true_eq] at he ⊢
    refine ⟨he.1, ?_⟩
    rcases he.2 with he2 | he2
    · exact .inl he2
    · right
      by_cases hjk : j = (o.after[k]).on
      · exfalso
        rw [← hjk, hoj] at he2
        obtain ⟨q, hq, hq2⟩ := Array.any_eq_true.1 he2.2
        simp only [Bool.and_eq_true, decide_eq_true_eq] at hq2
        have h1 := hall _ (Array.getElem_mem hq) hq2.1
        rw [hq2.2] at h1
        exact listed_both h1 hun
      · rw [getD_set_ne false hjk]
        exact he2
theorem wpAnyL_firstQ {i : Nat} {oi : Oper} {v : Value} (hi : ops[i]? = some oi) (hiL : i ≠ L) (hsel : ∀ (j : Nat) (o : Oper) cs b, ops[j]? = some o → o.op ≠ .select cs b)
    (hQ : ∀ c a w, Q (.panic c) (a.put oi.dst v) w → Q (.panic c) a w) :
    ∀ (fuel : Nat) (listed : Array Bool) (a : Act) (w : World), lastQ md ops L listed i = true → C w →
      (∀ j oj, ops[j]? = some oj → j ≠ i → listed.getD j true = false → (∀ e ∈ oj.after, Region.binds md e = true → e.on ≠ i) → oi.apart ops oj = true) →
      i ∈ Region.ready md ops listed → YieldsM P ops C oi v a →
      wpAnyL P md ops L C Q fuel (listed.setIfInBounds i true) (a.put oi.dst v) w → wpAnyL P md ops L C Q (fuel + 1) listed a w := by
  intro fuel
  induction fuel with
  | zero =>
    intro listed a w _ hC _ hr hy H
    refine ⟨fun h => (by rw [h] at hr; cases hr), fun j hj => ?_⟩
    by_cases hji : j = i
    · subst hji; exact hy.wpOp hi hC ⟨fun _ => hC, H⟩
    · have := ready_mono hj hji
      rw [H.1] at this
      cases this
  | succ fuel ih =>
    intro listed a w hlast hC hfree hr hy H
    refine ⟨fun h => (by rw [h] at hr; cases hr), fun j hj => ?_⟩
    by_cases hji : j = i
    · subst hji; exact hy.wpOp hi hC ⟨fun _ => hC, H⟩
    · have h1 := H.2 j (ready_mono hj hji)
      obtain ⟨hjun, oj, hoj, hall⟩ := mem_ready.1 hj
      have hiun := (mem_ready.1 hr).1
      have hnot : ∀ e ∈ oj.after, Region.binds md e = true → e.on ≠ i := fun e he hb heq => by
        have h1 := hall e he hb
        rw [heq] at h1
        exact listed_both h1 hiun
      have hjL : j ≠ L := fun e => lastQ_spec hlast hiun (e ▸ hj)
      have h2 := wpOp_putM hoj (hfree j oj hoj hji hjun hnot) (fun cs b => hsel i oi cs b hi) (fun cs b => hsel j oj cs b hoj) hQ hy h1
      have hfree' : ∀ k ok, ops[k]? = some ok → k ≠ i → (listed.setIfInBounds j true).getD k true = false →
          (∀ e ∈ ok.after, Region.binds md e = true → e.on ≠ i) → oi.apart ops ok = true := fun k ok hk hki hun hno => by
        refine hfree k ok hk hki ?_ hno
        by_cases hjk : j = k
        · subst hjk; exact hjun
        · rw [getD_set_ne true hjk] at hun; exact hun
      refine wpOp_mono (fun a' w' h3 => ⟨h3.2.1, ih (listed.setIfInBounds j true) a' w' (lastQ_step hlast hiun hj) (h3.2.1 hjL) hfree' (ready_mono hr (Ne.symm hji)) h3.1 ?_⟩) h2
      rw [Array.setIfInBounds_comm _ _ hji]
      exact h3.2.2
def mixOkG (md : Region.Mode) (ops : Array Oper) (L : Nat) : List Ord → Array Bool → Bool
  | [], listed => (Region.ready md ops listed).isEmpty
  | .q i :: r, listed => (Region.ready md ops listed).contains i && Region.free md ops listed i && (decide (i ≠ L) && lastQ md ops L listed i) && mixOkG md ops L r (listed.setIfInBounds i true)
  | .e i :: r, listed => decide (Region.ready md ops listed = [i]) && (decide (i ≠ L) || r.isEmpty) && mixOkG md ops L r (listed.setIfInBounds i true)
  | .f is :: r, listed => groupOk md ops L is listed && decide (is ≠ []) && mixOkG md ops L r (markAll is listed)
theorem groupOk_closed {is : List Nat} {listed : Array Bool} (h : groupOk md ops L is listed = true) (hs : listed.size = ops.size) (j p : Nat) (hj : listed.getD j false = true) (he : edge md ops j p = true) : listed.getD p false = true := by
  simp only [groupOk, Bool.and_eq_true] at h
  have hjs : j < ops.size := by
    rcases Nat.lt_or_ge j listed.size with h' | h'
    · omega
    · simp [Array.getD, Nat.not_lt.2 h'] at hj
  have h1 := List.all_eq_true.1 h.2 j (List.mem_range.2 hjs)
  simp only [hj, Bool.not_true, Bool.false_or] at h1
  cases ho : ops[j]? with
  | none => unfold edge at he; rw [ho] at he; cases he
  | some o =>
    rw [ho] at h1
    obtain ⟨e, hem, hb, rfl⟩ := (edge_spec ho).1 he
    obtain ⟨k, hk, e'⟩ := Array.getElem_of_mem hem
    have := Array.all_eq_true.1 h1 k hk
    rw [e'] at this
    simpa [hb] using this
theorem wpAnyL_mixG (hs : Region.noSelect ops = true) (hQ : ∀ c a w, ¬ Q (.panic c) a w) : ∀ (l : List Ord) (listed : Array Bool) (a : Act) (w : World), listed.size = ops.size → (l ≠ [] → C w) →
    mixOkG md ops L l listed = true → wpMixG P md ops L C Q l a w → wpAnyL P md ops L C Q (Ord.len l) listed a w
  | [], listed, a, w, _, _, hB, h => ⟨by simpa [mixOkG] using hB, h⟩
  | .q i :: r, listed, a, w, hsz, hC, hB, h => by
    have hC := hC (by simp)
    obtain ⟨o, v, hi, hy, h⟩ := h
    simp only [mixOkG, Bool.and_eq_true, decide_eq_true_eq] at hB
    obtain ⟨⟨⟨hr, hf⟩, hiL, hlq⟩, hB'⟩ := hB
    exact wpAnyL_firstQ hi hiL (Region.noSelect_spec hs) (fun c a w h => absurd h (hQ c _ w)) (Ord.len r) listed a w hlq hC (Region.free_spec hi hf) (by simpa using hr) hy
      (wpAnyL_mixG hs hQ r _ _ w (by simpa using hsz) (fun _ => hC) hB' h)
  | .e i :: r, listed, a, w, hsz, hC0, hB, h => by
    have hCw := hC0 (by simp)
    obtain ⟨o, hi, h⟩ := h
    simp only [mixOkG, Bool.and_eq_true, Bool.or_eq_true, decide_eq_true_eq, List.isEmpty_iff] at hB
    obtain ⟨⟨hr, hl⟩, hB'⟩ := hB
    refine ⟨fun h0 => (by rw [h0] at hr; cases hr), fun j hj => ?_⟩
    rw [hr, List.mem_singleton] at hj
    subst hj
    unfold wpOp
    simp only [hi]
    split
    · rename_i hw
      simp only [hw, if_true] at h
      exact .inl (Oper.wp_mono (fun a' w' h' => ⟨h'.1, wpAnyL_mixG hs hQ r _ a' w' (by simpa using hsz) (fun hr => h'.1 (hl.resolve_right hr)) hB' h'.2⟩) h)
    · rename_i hw
      simp only [hw] at h
      exact ⟨fun _ => hCw, wpAnyL_mixG hs hQ r _ _ w (by simpa using hsz) (fun _ => hCw) hB' h.2⟩
  | .f is :: r, listed, a, w, hsz, hC0, hB, h => by
    obtain ⟨F⟩ := h
    simp only [mixOkG, Bool.and_eq_true, decide_eq_true_eq] at hB
    obtain ⟨⟨hg, _⟩, hB'⟩ := hB
    have hg' := hg
    simp only [groupOk, Bool.and_eq_true, decide_eq_true_eq] at hg'
    have hun : ∀ i ∈ is, listed.getD i false = false := fun i hi => by
      have := List.all_eq_true.1 hg'.1.1.2 i hi
      simp only [Bool.and_eq_true, Bool.not_eq_true'] at this
      exact this.1.2
    refine free_any hg F (Ord.len r) (fun a w hK hC => wpAnyL_mixG hs hQ r _ a w (by rw [markAll_size]; exact hsz) (fun _ => hC) hB' hK) is.length is listed (fun _ => undef) a w 0 rfl hg'.1.1.1.1 (fun i => ⟨fun hi => ⟨hi, hun i hi⟩, fun h => h.1⟩) (by omega) rfl (fun _ _ _ => rfl)
      (fillL_none is a hun).symm (fun i hi hl => by rw [hun i hi] at hl; cases hl) (fun j p hj he => groupOk_closed hg hsz j p hj he) F.start
theorem wp_region_mixG {id : Nat} {a : Act} {w : World} {l : List Oper} (L : Nat) (C : World → Prop) (ord : List Ord) (hm : P.follows .mixedOrders = true) (hB : (Region.noSelect l.toArray && mixOkG .any l.toArray L ord (Array.replicate l.length false) && decide (Ord.len ord = l.length)) = true)
    (hC : ∀ w1, Drewn w w1 → C w1) (h : ∀ K : Act → World → Prop, (∀ a' w', Q .normal a' w' → K a' w') → ∀ w1, Drewn w w1 → wpMixG P .any l.toArray L C (Exit.then K (fun _ _ _ => False)) ord a w1) : (Code.region id l.toArray true).wp P Q a w := by
  simp only [Bool.and_eq_true, decide_eq_true_eq] at hB
  obtain ⟨⟨h1, h2⟩, h3⟩ := hB
  have H := h (fun a' w' => Q .normal a' w') (fun _ _ h => h) w.drew rfl
  have H2 := wpAnyL_mixG (md := .any) h1 (Q := Exit.then (fun a' w' => Q .normal a' w') (fun _ _ _ => False)) (fun _ _ _ h => h) ord (Array.replicate l.length false) a w.drew (by simp) (fun _ => hC _ rfl) h2 H
  refine Code.wp_mono (Q := Exit.then (fun a' w' => Q .normal a' w') (fun _ _ _ => False)) (fun e a w q => by cases e <;> first | exact q | exact q.elim) ?_
  refine wp_region_any hm ?_
  have H3 := wpAny_of_L _ _ _ _ H2
  rw [h3] at H3
  simpa using H3
theorem fillG_size {ν : Nat → Value} : ∀ (is : List Nat) (a : Act), (fillG ops ν is a).tmps.size = a.tmps.size
  | [], _ => rfl
  | _ :: r, _ => (fillG_size r _).trans (put_size _ _ _)
theorem fillG_other {ν : Nat → Value} {t : Nat} : ∀ (is : List Nat) (a : Act), (∀ i ∈ is, dstOf ops i ≠ some t) → (fillG ops ν is a).tmps.getD t undef = a.tmps.getD t undef
  | [], _, _ => rfl
  | i :: r, a, h => (fillG_other r _ fun j hj => h j (List.mem_cons_of_mem i hj)).trans (put_get_ne a _ (h i (by simp)))
theorem fillG_at {ν : Nat → Value} {p t : Nat} (ht : dstOf ops p = some t) : ∀ (is : List Nat) (a : Act), p ∈ is → t < a.tmps.size → (∀ j ∈ is, j ≠ p → dstOf ops j ≠ some t) → (fillG ops ν is a).tmps.getD t undef = ν p
  | [], _, h, _, _ => by cases h
  | j :: r, a, hm, hs, hd => by
    have e : fillG ops ν (j :: r) a = fillG ops ν r (a.put (dstOf ops j) (ν j)) := rfl
    rw [e]
    by_cases hpr : p ∈ r
    · exact fillG_at ht r _ hpr (by rw [put_size]; exact hs) (fun k hk => hd k (by simp [hk]))
    · obtain rfl : p = j := by
        rcases List.mem_cons.1 hm with h | h
        · exact h
        · exact absurd h hpr
      rw [fillG_other r _ fun k hk => hd k (by simp [hk]) (fun e => hpr (e ▸ hk)), ht]
      exact put_get a _ hs
def predsIn (md : Region.Mode) (ops : Array Oper) (is : List Nat) (i : Nat) : List Nat := is.filter (fun p => edge md ops i p)
def looksOk (md : Region.Mode) (ops : Array Oper) (is : List Nat) : Bool :=
  Region.noSelect ops && decide (is.Nodup) && decide ((is.map (dstOf ops)).Nodup) && is.all (fun i => match ops[i]? with | some o => o.guard.isNone && is.all (fun q => edge md ops i q || (match dstOf ops q with | some d => !((o.looksAt ops).contains d) | none => true)) | none => false)
theorem wp_moved {o : Oper} {a a' : Act} {w : World} {Φ : Value → World → Prop} {d : Nat} (hd : o.dst = some d) (hs : d < a.tmps.size) (he : execOp a.eval o = execOp a'.eval o) (hQ : ∀ c a w, ¬ Q (.panic c) a w)
    (h : o.wp P a w (fun x w' => ∃ v, x = a.put o.dst v ∧ Φ v w') Q) : o.wp P a' w (fun x w' => ∃ v, x = a'.put o.dst v ∧ Φ v w') Q := by
  have hv : ∀ v v', a.put o.dst v = a.put o.dst v' → v = v' := fun v v' e => by
    rw [hd] at e
    have := put_get a v hs
    rw [e, put_get a v' hs] at this
    exact this.symm
  have hdf : ∀ (x : Deferred) v v', ({ a with defers := x :: a.defers } : Act).put o.dst v ≠ a.put o.dst v' := fun x v v' e => by
    rw [hd] at e
    have := congrArg Act.defers e
    simp [Act.put] at this
  unfold Oper.wp at *
  rw [← he]
  generalize (execOp a.eval o).run P w = r at *
  cases r with
  | ok n w' =>
    cases n <;> simp only [Oper.upon] at h ⊢
    case value v => obtain ⟨v', e, hv'⟩ := h; exact ⟨v, rfl, hv v v' e ▸ hv'⟩
    case skip => obtain ⟨v', e, hv'⟩ := h; exact ⟨undef, rfl, hv _ v' e ▸ hv'⟩
    case defer x => obtain ⟨v', e, _⟩ := h; exact absurd e (hdf x _ v')
    case enter f args =>
      refine Calls.mono h fun e w'' he => ?_
      cases e with
      | returned u => obtain ⟨v', e, hv'⟩ := he; exact ⟨u, rfl, hv u v' e ▸ hv'⟩
      | panicked c => exact absurd he (hQ _ _ _)
      | outgrown => exact he
    case row row args => exact Rows.mono h fun u w'' ⟨v', e, hv'⟩ => ⟨u, rfl, hv u v' e ▸ hv'⟩
  | halt x w' =>
    cases x <;> simp only [Oper.upon] at h ⊢
    case panic u => exact absurd h (hQ _ _ _)
theorem wp_of_list {K0 K : Act → World → Prop} {o : Oper} {a : Act} {w : World} (hg : o.guard = none) (h : wpList P ops (Exit.then K (fun _ _ _ => False)) [o] a w) : o.wp P a w K (Exit.then K0 (fun _ _ _ => False)) := by
  unfold wpList at h
  have hw : Region.wanted o (yielded ops a.tmps) = true := by simp [Region.wanted, hg]
  rw [if_pos hw] at h
  rcases h with h1 | ⟨_, a', w', h2⟩
  · unfold Oper.wp at *
    generalize (execOp a.eval o).run P w = res at *
    cases res with
    | ok n w' =>
      cases n <;> simp only [Oper.upon, wpList, Exit.then] at h1 ⊢ <;> exact h1
    | halt x w' => cases x <;> simp only [Oper.upon, Exit.then] at h1 ⊢
  · exact h2.elim
theorem free_walk {is : List Nat} {r : List Ord} {K0 : Act → World → Prop} {a0 : Act} {w0 : World} (hB : looksOk md ops is = true)
    (inv : Nat → World → Prop) (rel : World → World → Prop) (fact : Nat → (Nat → Value) → World → Prop) (start : inv 0 w0) (cls : ∀ c w, inv c w → C w)
    (cong : ∀ i ∈ is, ∀ ν ν' w, (∀ d, d = i ∨ (d ∈ is ∧ edge md ops i d = true) → ν d = ν' d) → fact i ν w → fact i ν' w)
    (stay : ∀ i ∈ is, ∀ ν w w', rel w w' → fact i ν w → fact i ν w')
    (room : ∀ i ∈ is, ∃ d, dstOf ops i = some d ∧ d < a0.tmps.size)
    (step : ∀ i ∈ is, ∀ o, ops[i]? = some o → ∀ c ν w, c < is.length → inv c w → (∀ p ∈ predsIn md ops is i, fact p ν w) →
      wpList P ops (Exit.then (fun x w' => ∃ v, x = (fillG ops ν (predsIn md ops is i) a0).put o.dst v ∧ rel w w' ∧ inv (c + 1) w' ∧ fact i (upd ν i v) w') (fun _ _ _ => False)) [o] (fillG ops ν (predsIn md ops is i) a0) w)
    (done : ∀ ν w, inv is.length w → (∀ i ∈ is, fact i ν w) → wpMixG P md ops L C (Exit.then K0 (fun _ _ _ => False)) r (fillG ops ν is a0) w) :
    wpMixG P md ops L C (Exit.then K0 (fun _ _ _ => False)) (.f is :: r) a0 w0 := by
  simp only [looksOk, Bool.and_eq_true, decide_eq_true_eq] at hB
  obtain ⟨⟨⟨hsel, hnd⟩, hndd⟩, hlk⟩ := hB
  have hdd : ∀ i ∈ is, ∀ j ∈ is, j ≠ i → ∀ d, dstOf ops i = some d → dstOf ops j ≠ some d := fun i hi j hj hji d e1 e2 => by
    obtain ⟨x, hx, ex⟩ := List.getElem_of_mem hi
    obtain ⟨y, hy, ey⟩ := List.getElem_of_mem hj
    have hxy : x ≠ y := fun e => by subst e; exact hji (ey.symm.trans ex)
    have hp := List.pairwise_iff_getElem.1 (List.nodup_iff_pairwise_ne.1 hndd)
    rcases Nat.lt_or_gt_of_ne hxy with h | h
    · exact hp x y (by simpa using hx) (by simpa using hy) h (by simp [ex, ey, e1, e2])
    · exact hp y x (by simpa using hy) (by simpa using hx) h (by simp [ex, ey, e1, e2])
  refine ⟨{ inv := inv, rel := rel, fact := fact, dep := fun i => i :: predsIn md ops is i, start := start, cls := cls, depOk := fun i _ d hd => ?_, cong := fun i hi ν ν' w h => cong i hi ν ν' w fun d hd => h d ?_, stay := stay, room := fun i hi d e => ?_, step := fun i hi o ho c ν a w hc hinv hf hsl hba => ?_, done := done }⟩
  · rcases List.mem_cons.1 hd with h | h
    · exact .inl h
    · exact .inr (by simpa [predsIn] using h)
  · rcases hd with rfl | h
    · simp
    · exact List.mem_cons_of_mem _ (by simpa [predsIn] using h)
  · obtain ⟨d', e', h⟩ := room i hi
    rw [e] at e'
    cases e'
    exact h
  · obtain ⟨d, ed, hdlt⟩ := room i hi
    have hod : o.dst = some d := by simpa [dstOf, ho] using ed
    have hl := List.all_eq_true.1 hlk i hi
    rw [ho] at hl
    simp only [Bool.and_eq_true, Option.isNone_iff_eq_none] at hl
    have H := wp_of_list (K0 := K0) hl.1 (step i hi o ho c ν w hc hinv fun p hp => hf p (by simp [predsIn] at hp; exact hp.1) (by simp [predsIn] at hp; exact hp.2))
    refine wp_moved (d := d) hod (by rw [fillG_size]; exact hdlt) (execOp_congr o (Region.noSelect_spec hsel i o · · ho) fun x hx => ?_) (fun _ _ _ h => h) H
    cases x with
    | const v => rfl
    | global g => rfl
    | func f => rfl
    | tmp t =>
      show (fillG ops ν (predsIn md ops is i) a0).tmps.getD t undef = a.tmps.getD t undef
      by_cases hq : ∃ q ∈ is, dstOf ops q = some t
      · obtain ⟨q, hq, hqt⟩ := hq
        have hqe : edge md ops i q = true := by
          have := List.all_eq_true.1 hl.2 q hq
          rw [hqt] at this
          simp only [Bool.or_eq_true, Bool.not_eq_true'] at this
          rcases this with h | h
          · exact h
          · exfalso
            have hmem : t ∈ o.looksAt ops := List.mem_append_left _ (List.mem_filterMap.2 ⟨.tmp t, by simpa using hx, rfl⟩)
            rw [List.contains_iff_mem.2 hmem] at h
            cases h
        have hqp : q ∈ predsIn md ops is i := by simp [predsIn, hq, hqe]
        obtain ⟨d2, e2, h2⟩ := room q hq
        rw [hqt] at e2
        cases e2
        rw [fillG_at hqt (predsIn md ops is i) a0 hqp h2 (fun k hk hkq => hdd q hq k (by simp [predsIn] at hk; exact hk.1) hkq t hqt)]
        exact (hsl q hq hqe t hqt).symm
      · rw [fillG_other (predsIn md ops is i) a0 (fun k hk e => hq ⟨k, by simp [predsIn] at hk; exact hk.1, e⟩)]
        exact (hba t (fun q hq' e => hq ⟨q, hq', e⟩)).symm
def fillD (ν : Nat → Value) (l : List (Nat × Nat)) (a : Act) : Act := l.foldl (fun a p => a.put (some p.2) (ν p.1)) a
theorem fillD_eq {ν : Nat → Value} : ∀ (l : List (Nat × Nat)) (a : Act), (∀ p ∈ l, dstOf ops p.1 = some p.2) → fillG ops ν (l.map (·.1)) a = fillD ν l a
  | [], _, _ => rfl
  | p :: r, a, h => by
    have e : fillG ops ν ((p :: r).map (·.1)) a = fillG ops ν (r.map (·.1)) (a.put (dstOf ops p.1) (ν p.1)) := rfl
    rw [e, h p (by simp)]
    exact fillD_eq r _ (fun q hq => h q (by simp [hq]))
def planOk (md : Region.Mode) (ops : Array Oper) (plan : List (Nat × Nat × List (Nat × Nat))) : Bool :=
  looksOk md ops (plan.map (·.1)) && plan.all (fun x => decide (dstOf ops x.1 = some x.2.1) && decide (x.2.2.map (·.1) = predsIn md ops (plan.map (·.1)) x.1) && x.2.2.all (fun p => decide (dstOf ops p.1 = some p.2)))
theorem free_plan {r : List Ord} {K0 : Act → World → Prop} {a0 : Act} {w0 : World} (plan : List (Nat × Nat × List (Nat × Nat))) {is : List Nat} (his : is = plan.map (·.1)) (hB : planOk md ops plan = true)
    (inv : Nat → World → Prop) (rel : World → World → Prop) (φ : Nat → Value → World → Prop) (start : inv 0 w0) (cls : ∀ c w, inv c w → C w)
    (stay : ∀ x ∈ plan, ∀ v w w', rel w w' → φ x.1 v w → φ x.1 v w')
    (room : plan.all (fun x => decide (x.2.1 < a0.tmps.size)) = true)
    (step : ∀ x ∈ plan, ∀ o, ops[x.1]? = some o → ∀ c ν w, c < plan.length → inv c w → (∀ p ∈ x.2.2, φ p.1 (ν p.1) w) →
      wpList P ops (Exit.then (fun y w' => ∃ v, y = (fillD ν x.2.2 a0).put (some x.2.1) v ∧ rel w w' ∧ inv (c + 1) w' ∧ φ x.1 v w') (fun _ _ _ => False)) [o] (fillD ν x.2.2 a0) w)
    (done : ∀ ν w, inv plan.length w → (∀ x ∈ plan, φ x.1 (ν x.1) w) → wpMixG P md ops L C (Exit.then K0 (fun _ _ _ => False)) r (fillD ν (plan.map (fun x => (x.1, x.2.1))) a0) w) :
    wpMixG P md ops L C (Exit.then K0 (fun _ _ _ => False)) (.f is :: r) a0 w0 := by
  subst his
  simp only [planOk, Bool.and_eq_true] at hB
  obtain ⟨hlk, hpl⟩ := hB
  have hpl' : ∀ x ∈ plan, dstOf ops x.1 = some x.2.1 ∧ x.2.2.map (·.1) = predsIn md ops (plan.map (·.1)) x.1 ∧ ∀ p ∈ x.2.2, dstOf ops p.1 = some p.2 := fun x hx => by
    have := List.all_eq_true.1 hpl x hx
    simp only [Bool.and_eq_true, decide_eq_true_eq, List.all_eq_true] at this
    exact ⟨this.1.1, this.1.2, this.2⟩
  refine free_walk hlk inv rel (fun i ν w => φ i (ν i) w) start cls (fun i _ ν ν' w h hf => h i (.inl rfl) ▸ hf) (fun i hi ν w w' hr hf => ?_) (fun i hi => ?_) (fun i hi o ho c ν w hc hinv hp => ?_) (fun ν w hinv hf => ?_)
  · obtain ⟨x, hx, rfl⟩ := List.mem_map.1 hi
    exact stay x hx _ w w' hr hf
  · obtain ⟨x, hx, rfl⟩ := List.mem_map.1 hi
    exact ⟨x.2.1, (hpl' x hx).1, by simpa using List.all_eq_true.1 room x hx⟩
  · obtain ⟨x, hx, rfl⟩ := List.mem_map.1 hi
    obtain ⟨h1, h2, h3⟩ := hpl' x hx
    have H := step x hx o ho c ν w (by simpa using hc) hinv (fun p hp' => hp p.1 (by rw [← h2]; exact List.mem_map.2 ⟨p, hp', rfl⟩))
    have hod : o.dst = some x.2.1 := by simpa [dstOf, ho] using h1
    rw [← h2, fillD_eq x.2.2 a0 h3, hod]
    have eu : ∀ v, upd ν x.1 v x.1 = v := fun v => upd_at ν x.1 v
    simp only [eu]
    exact H
  · have e : plan.map (·.1) = (plan.map (fun x => (x.1, x.2.1))).map (·.1) := by simp
    rw [e, fillD_eq _ a0 (fun p hp => by obtain ⟨x, hx, rfl⟩ := List.mem_map.1 hp; exact (hpl' x hx).1)]
    exact done ν w (by simpa using hinv) (fun x hx => hf x.1 (List.mem_map.2 ⟨x, hx, rfl⟩))
theorem all_cons {α : Type} {p : α → Prop} {a : α} {l : List α} (h : p a) (t : ∀ i ∈ l, p i) : ∀ i ∈ a :: l, p i := fun i hi => by
  rcases List.mem_cons.1 hi with rfl | hi
  · exact h
  · exact t i hi
theorem all_nil {α : Type} {p : α → Prop} : ∀ i ∈ ([] : List α), p i := fun i hi => by cases hi
theorem mixG_p {i : Nat} {r : List Ord} {o : Oper} {a : Act} {w : World} (hi : ops[i]? = some o)
    (h : ∀ K : Act → Prop, (∀ a', wpMixG P md ops L C Q r a' w → K a') → if Region.wanted o (yielded ops a.tmps) then ∃ v, (∀ w, Oper.quietUpon P (fun w'' => w'' = w) w v ((execOp a.eval o).run P w)) ∧ K (a.put o.dst v) else K (a.put o.dst undef)) :
    wpMixG P md ops L C Q (.q i :: r) a w := by
  have := h (fun a' => wpMixG P md ops L C Q r a' w) (fun _ h => h)
  by_cases hw : Region.wanted o (yielded ops a.tmps) = true
  · rw [if_pos hw] at this
    obtain ⟨v, h1, h2⟩ := this
    exact ⟨o, v, hi, .inl ⟨hw, fun w _ => h1 w⟩, h2⟩
  · rw [if_neg hw] at this
    exact ⟨o, undef, hi, .inr ⟨by simpa using hw, rfl⟩, this⟩
theorem mixG_load {i : Nat} {r : List Ord} {o : Oper} {a : Act} {w : World} {t : TypeId} {x : Operand} {ad : Addr} (v : Value) (hi : ops[i]? = some o) (hg : o.guard = none) (ho : o.op = .load t x) (hx : a.eval x = .pointer (some ad))
    (hty : ∀ w, (isAgg t).run P w = .ok false w) (hc : ∀ w', C w' → w'.cell? ad = some v) (h : wpMixG P md ops L C Q r (a.put o.dst v) w) : wpMixG P md ops L C Q (.q i :: r) a w := by
  refine ⟨o, v, hi, .inl ⟨by simp [Region.wanted, hg], fun w hC => ?_⟩, h⟩
  have h1 := hc w hC
  have h2 : (Instr.loadAt t (.pointer (some ad))).run P w = .ok v w := by
    simp only [Instr.loadAt, Instr.sureAddr, loadVar, Sem.run_bind, Sem.run_pure, Result.andThen_ok, hty, Bool.false_eq_true, if_false]
    simp [load, Sem.run, h1]
  unfold execOp
  simp only [ho, hx, Sem.run_bind, h2, Result.andThen_ok, Sem.run_pure, Oper.quietUpon, and_self]
theorem mixG_l {K0 : Act → World → Prop} {i : Nat} {r : List Ord} {o : Oper} {a : Act} {w : World} (hi : ops[i]? = some o) (hg : o.guard = none)
    (h : ∀ K : Act → World → Prop, (∀ a' w', ((i ≠ L → C w') ∧ wpMixG P md ops L C (Exit.then K0 (fun _ _ _ => False)) r a' w') → K a' w') → wpList P ops (Exit.then K (fun _ _ _ => False)) [o] a w) :
    wpMixG P md ops L C (Exit.then K0 (fun _ _ _ => False)) (.e i :: r) a w := by
  have := h _ (fun _ _ h => h)
  have hw : Region.wanted o (yielded ops a.tmps) = true := by simp [Region.wanted, hg]
  refine ⟨o, hi, ?_⟩
  rw [if_pos hw]
  exact wp_of_list hg this
theorem mixG_nil {a : Act} {w : World} (h : Q .normal a w) : wpMixG P md ops L C Q [] a w := h
theorem mpG {R g : Prop} (h : R) (e : Kp R → g := by intro h9; (repeat (refine mixG_p rfl (fun K hK => ?_); go_simp; (try go_bits); (try simp (disch := omega) only [if_pos, if_neg, dif_pos, dif_neg]); (try go_simp); (refine hK _ ?_; clear hK K))); exact h9.out) : g := e ⟨h⟩
end
end Go.Proofs.YtmlpkejeglpciaaGreatDoor

/- What is known of values that a region has made in whatever order. -/
namespace Go.Proofs.YtmlpkejeglpciaaGreatDoor
open Go.RowKit
def IsI (lo hi : Int) (v : Value) : Prop := ∃ n : Int, v = .int .i64 n ∧ lo ≤ n ∧ n ≤ hi
def IsS (n : Nat) (v : Value) : Prop := ∃ s : ByteArray, v = .string s ∧ s.size ≤ n
def IsLit (B : Nat) (zs : List Int) (v : Value) (w : World) : Prop := ∃ blk, v = .slice (some ⟨blk, 0, none⟩) zs.length zs.length ∧ LV w blk (zs.map (Value.int .i64)).toArray 3 ∧ B ≤ blk
def IsNew (B : Nat) (cs : Array Value) (T : TypeId) (v : Value) (w : World) : Prop := ∃ blk, v = .pointer (some ⟨blk, 0, none⟩) ∧ LV w blk cs T ∧ B ≤ blk
theorem IsLit.keep {b B : Nat} {zs : List Int} {v : Value} {w w' : World} (h : IsLit B zs v w) (k : SK b w w') (hb : b < B) : IsLit B zs v w' := by
  obtain ⟨blk, e, h1, h2⟩ := h
  exact ⟨blk, e, h1.keep k (by omega), h2⟩
theorem IsNew.keep {b B : Nat} {cs : Array Value} {T : TypeId} {v : Value} {w w' : World} (h : IsNew B cs T v w) (k : SK b w w') (hb : b < B) : IsNew B cs T v w' := by
  obtain ⟨blk, e, h1, h2⟩ := h
  exact ⟨blk, e, h1.keep k (by omega), h2⟩
theorem flatStr : rStr.Flat (fun s => [.string s]) := fun _ _ _ _ => Iff.rfl
theorem results_cell1 {P : Program} {fn : Func} {t : Tmp} {T : TypeId} {a : Addr} {v : Value} {w : World} {tmps : Array Value} (h : fn.results = #[.cell t T]) (hp : tmps.getD t undef = .pointer (some a)) (hl : (loadVar T a).run P w = .ok v w) : (results fn tmps).run P w = .ok v w := by
  have hp' : tmps[t]?.getD undef = .pointer (some a) := by simpa using hp
  simp [results, h, asAddr, hp', hl]
end Go.Proofs.YtmlpkejeglpciaaGreatDoor
