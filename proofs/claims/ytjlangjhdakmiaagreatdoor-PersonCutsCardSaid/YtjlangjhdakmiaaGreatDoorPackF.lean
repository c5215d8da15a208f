/- Several texts in one: CutLaw, CutsL, Keyed, CutsM. -/
import Derived.Test.YtjlangjhdakmiaaGreatDoorPackT
import Derived.Test.YtjlangjhdakmiaaGreatDoorPackD
import Derived.Test.YtjlangjhdakmiaaGreatDoorPackK
import Derived.Test.YtjlangjhdakmiaaGreatDoorPackN
import Derived.Test.YtjlangjhdakmiaaGreatDoorPackU
import Derived.Test.YtjlangjhdakmiaaGreatDoorPackX
import Derived.Test.YtjlangjhdakmiaaGreatDoorPackI
import Derived.Test.YtjlangjhdakmiaaGreatDoorPackJ
import Derived.Test.YtjlangjhdakmiaaGreatDoorPackZ
import Derived.Test.YtjlangjhdakmiaaGreatDoorPackM
/- The plain law of Cuts: an id without which a person is several, seen in the person's own touches and in all of them. No program is in sight. -/
namespace Go.Proofs.YtjlangjhdakmiaaGreatDoor
open Go Go.RowKit
structure OwnOf (l : List Tch) (at' : List Nat) (own : List Tch) : Prop where
  len : own.length = at'.length
  get : ∀ (a i : Nat), at'[a]? = some i → own[a]? = l[i]?
theorem OwnOf.ids {l own : List Tch} {at' : List Nat} (h : OwnOf l at' own) {a i : Nat} (ha : at'[a]? = some i) : idsAt own a = idsAt l i := by unfold idsAt; rw [h.get a i ha]
structure InRules (r : Rul) (l : List Tch) (at' : List Nat) (own : List Tch) (r' : Rul) : Prop where
  kinds : r'.kinds = r.kinds
  weak : ∀ x, (∃ i ∈ at', x ∈ idsAt l i) → (x ∈ r'.weak ↔ x ∈ r.weak ∨ r.most < ((hav l x).length : Int))
  most : (own.length : Int) ≤ r'.most
theorem InRules.joins {r r' : Rul} {l own : List Tch} {at' : List Nat} (h : InRules r l at' own r') {x : IdV} (hx : ∃ i ∈ at', x ∈ idsAt l i) : joinsP r' own x = joinsP r l x := by
  have h1 : decide (((hav own x).length : Int) ≤ r'.most) = true := by
    have := hav_len own x
    have := h.most
    simp only [decide_eq_true_eq]
    omega
  unfold joinsP
  rw [h1, Bool.and_true, h.kinds]
  have h2 := h.weak x hx
  by_cases hk : x.k ∈ r.kinds
  · rw [decide_eq_true hk, Bool.true_and, Bool.true_and]
    by_cases hw : x ∈ r.weak
    · rw [decide_eq_true (h2.2 (.inl hw)), decide_eq_true hw]; rfl
    · rw [decide_eq_false hw]
      by_cases hm : r.most < ((hav l x).length : Int)
      · rw [decide_eq_true (h2.2 (.inr hm)), decide_eq_false (by omega)]; rfl
      · rw [decide_eq_false (fun e => (h2.1 e).elim hw hm), decide_eq_true (by omega)]; rfl
  · rw [decide_eq_false hk]; rfl
section
variable {r r' : Rul} {l own : List Tch} {c : Nat → Nat} {hd : Nat} {at' : List Nat} {x : IdV}
structure PartOf (r : Rul) (l : List Tch) (c : Nat → Nat) (hd : Nat) (at' : List Nat) : Prop where
  part : IsPart l.length (Edge r l) c
  top : hd < l.length ∧ c hd = hd
  mem : ∀ i, i ∈ at' ↔ i < l.length ∧ c i = hd
  up : at'.Pairwise (· < ·)
theorem PartOf.mk' (hp : IsPart l.length (Edge r l) c) (h : hd < l.length ∧ c hd = hd) : PartOf r l c hd (partAt c l.length hd) :=
  ⟨hp, h, fun i => by unfold partAt; simp, by unfold partAt; exact (List.pairwise_lt_range).filter _⟩
theorem PartOf.head (h : PartOf r l c hd at') : at'[0]? = some hd := by
  have hm : hd ∈ at' := (h.mem hd).2 h.top
  cases ha : at' with
  | nil => rw [ha] at hm; cases hm
  | cons a t =>
    have h1 := (h.mem a).1 (by rw [ha]; exact List.mem_cons_self ..)
    have h2 := h.part.le a h1.1
    rw [h1.2] at h2
    have hu := h.up
    rw [ha] at hm hu
    rcases List.mem_cons.1 hm with e | e
    · rw [e]; rfl
    · have := (List.pairwise_cons.1 hu).1 hd e
      omega
theorem edgeX_edge {i j : Nat} (h : EdgeX r l (some x) i j) : Edge r l i j := by
  obtain ⟨y, h1, h2, h3⟩ := h
  unfold joinsX at h1
  rw [Bool.and_eq_true] at h1
  exact ⟨y, h1.1, h2, h3⟩
theorem connX_conn {n i j : Nat} (h : Conn n (EdgeX r l (some x)) i j) : Conn n (Edge r l) i j := by
  induction h with
  | refl => exact .refl _
  | step _ h1 h2 h3 ih => exact .step ih h1 h2 (edgeX_edge h3)
theorem edge_in (ho : OwnOf l at' own) (hr : InRules r l at' own r') {a b i j : Nat} (ha : at'[a]? = some i) (hb : at'[b]? = some j) : EdgeX r' own (some x) a b ↔ EdgeX r l (some x) i j := by
  unfold EdgeX
  rw [ho.ids ha, ho.ids hb]
  constructor
  · rintro ⟨y, h1, h2, h3⟩
    refine ⟨y, ?_, h2, h3⟩
    unfold joinsX at h1 ⊢
    rw [hr.joins ⟨i, List.mem_of_getElem? ha, h2⟩] at h1
    exact h1
  · rintro ⟨y, h1, h2, h3⟩
    refine ⟨y, ?_, h2, h3⟩
    unfold joinsX at h1 ⊢
    rw [hr.joins ⟨i, List.mem_of_getElem? ha, h2⟩]
    exact h1
theorem conn_out (ho : OwnOf l at' own) (hr : InRules r l at' own r') (hp : PartOf r l c hd at') {a b : Nat} (h : Conn own.length (EdgeX r' own (some x)) a b) {i j : Nat} (ha : at'[a]? = some i) (hb : at'[b]? = some j) : Conn l.length (EdgeX r l (some x)) i j := by
  induction h generalizing j with
  | refl => rw [ha] at hb; rw [Option.some.inj hb]; exact .refl _
  | step _ h1 h2 h3 ih =>
    rename_i u v _
    rw [ho.len] at h1
    have hu : at'[u]? = some at'[u] := List.getElem?_eq_getElem h1
    have hi := ih hu
    have hm1 := ((hp.mem at'[u]).1 (List.getElem_mem h1)).1
    have hm2 := ((hp.mem j).1 (List.mem_of_getElem? hb)).1
    exact .step hi hm1 hm2 ((edge_in ho hr hu hb).1 h3)
theorem conn_in (ho : OwnOf l at' own) (hr : InRules r l at' own r') (hp : PartOf r l c hd at') {i j : Nat} (h : Conn l.length (EdgeX r l (some x)) i j) {a : Nat} (ha : at'[a]? = some i) : ∃ b, at'[b]? = some j ∧ Conn own.length (EdgeX r' own (some x)) a b := by
  induction h with
  | refl => exact ⟨a, ha, .refl _⟩
  | step _ h1 h2 h3 ih =>
    rename_i u v _
    obtain ⟨b, hb, hc⟩ := ih
    have hu := (hp.mem u).1 (List.mem_of_getElem? hb)
    have hv : v ∈ at' := (hp.mem v).2 ⟨h2, by rw [← hp.part.edge u v h1 h2 (edgeX_edge h3)]; exact hu.2⟩
    obtain ⟨b2, hb2⟩ := List.mem_iff_getElem?.1 hv
    exact ⟨b2, hb2, .step hc (by rw [ho.len]; exact lt_of_get hb) (by rw [ho.len]; exact lt_of_get hb2) ((edge_in ho hr hb hb2).2 h3)⟩
theorem whole_is (ho : OwnOf l at' own) (hr : InRules r l at' own r') (hp : PartOf r l c hd at') {d e : Nat → Nat} (hd' : IsPart own.length (EdgeX r' own (some x)) d) (he : IsPart l.length (EdgeX r l (some x)) e) :
    (∀ a, a < own.length → d a = 0) ↔ ∀ i ∈ at', e i = hd := by
  have hh := hp.head
  have hpos : 0 < own.length := by rw [ho.len]; exact lt_of_get hh
  have hsym : ∀ a b, EdgeX r l (some x) a b → EdgeX r l (some x) b a := fun a b h => EdgeX.symm a b h
  have hsym2 : ∀ a b, EdgeX r' own (some x) a b → EdgeX r' own (some x) b a := fun a b h => EdgeX.symm a b h
  have hehd : e hd = hd := by
    have h1 := he.le hd hp.top.1
    have h2 := connX_conn (he.conn hd hp.top.1)
    have h3 := hp.part.const h2
    rw [hp.top.2] at h3
    have h4 := hp.part.le (e hd) (Nat.lt_of_le_of_lt h1 hp.top.1)
    omega
  constructor
  · intro h i hi
    obtain ⟨a, ha⟩ := List.mem_iff_getElem?.1 hi
    have hal : a < own.length := by rw [ho.len]; exact lt_of_get ha
    have h1 := hd'.conn a hal
    rw [h a hal] at h1
    have h2 := conn_out ho hr hp h1 ha hh
    have h3 := he.const h2
    rw [h3, hehd]
  · intro h a hal
    have hal2 : a < at'.length := by rw [← ho.len]; exact hal
    have ha : at'[a]? = some at'[a] := List.getElem?_eq_getElem hal2
    have hi : at'[a] ∈ at' := List.getElem_mem hal2
    have h1 := he.conn at'[a] ((hp.mem _).1 hi).1
    rw [h _ hi] at h1
    obtain ⟨b, hb, hc⟩ := conn_in ho hr hp h1 ha
    have hb0 : b = 0 := by
      have hup := hp.up
      have hbl := lt_of_get hb
      obtain ⟨_, eb⟩ := List.getElem?_eq_some_iff.1 hb
      obtain ⟨h0l, e0⟩ := List.getElem?_eq_some_iff.1 hh
      rcases Nat.eq_zero_or_pos b with h | h
      · exact h
      · have := List.pairwise_iff_getElem.1 hup 0 b h0l hbl h
        omega
    subst hb0
    have h2 := hd'.const hc
    have h3 := hd'.le 0 hpos
    omega
theorem whole_ref (hp : PartOf r l c hd at') {e : Nat → Nat} (he : IsPart l.length (EdgeX r l (some x)) e) : (∀ i ∈ at', e i = hd) ↔ ∃ h' ∈ heads e l.length, partAt e l.length h' = at' := by
  have hhm : hd ∈ at' := (hp.mem hd).2 hp.top
  constructor
  · intro h
    refine ⟨hd, by unfold heads; simp [hp.top.1, h hd hhm], ?_⟩
    have hm : ∀ i, i ∈ partAt e l.length hd ↔ i ∈ at' := fun i => by
      unfold partAt
      rw [List.mem_filter, List.mem_range, beq_iff_eq]
      constructor
      · rintro ⟨h1, h2⟩
        have h3 := connX_conn (he.conn i h1)
        rw [h2] at h3
        have h4 := hp.part.const h3
        rw [hp.top.2] at h4
        exact (hp.mem i).2 ⟨h1, h4⟩
      · intro hi
        exact ⟨((hp.mem i).1 hi).1, h i hi⟩
    refine strict_eq (fun a b : Nat => a < b) (fun _ => Nat.lt_irrefl _) (fun _ _ _ h1 h2 => Nat.lt_trans h1 h2) _ _ ?_ hp.up hm
    unfold partAt
    exact (List.pairwise_lt_range).filter _
  · rintro ⟨h', hh', e'⟩ i hi
    rw [← e'] at hi hhm
    unfold partAt at hi hhm
    rw [List.mem_filter, List.mem_range, beq_iff_eq] at hi hhm
    unfold heads at hh'
    rw [List.mem_filter, List.mem_range, beq_iff_eq] at hh'
    have h1 : h' ∈ at' := by
      rw [← e']
      unfold partAt
      rw [List.mem_filter, List.mem_range, beq_iff_eq]
      exact ⟨hh'.1, hh'.2⟩
    have h2 := (hp.mem h').1 h1
    have h3 := hp.part.le h' h2.1
    have h4 := he.le hd hp.top.1
    rw [hhm.2] at h4
    rw [h2.2] at h3
    rw [hi.2]
    omega
theorem whole_one (ho : OwnOf l at' own) (hp : PartOf r l c hd at') (h1 : (hav own x).length < 2) {e : Nat → Nat} (he : IsPart l.length (EdgeX r l (some x)) e) : ∀ i ∈ at', e i = hd := by
  have hhm : hd ∈ at' := (hp.mem hd).2 hp.top
  have key : ∀ {i j : Nat}, Conn l.length (Edge r l) i j → i ∈ at' → j ∈ at' ∧ Conn l.length (EdgeX r l (some x)) i j := by
    intro i j h hi
    induction h with
    | refl => exact ⟨hi, .refl _⟩
    | step _ g1 g2 g3 ih =>
      rename_i u v _
      obtain ⟨hu, hc⟩ := ih
      have hv : v ∈ at' := (hp.mem v).2 ⟨g2, by rw [← hp.part.edge u v g1 g2 g3]; exact ((hp.mem u).1 hu).2⟩
      refine ⟨hv, ?_⟩
      by_cases huv : u = v
      · rw [← huv]; exact hc
      · obtain ⟨y, e1, e2, e3⟩ := g3
        by_cases hyx : y = x
        · exfalso
          subst hyx
          obtain ⟨a, ha⟩ := List.mem_iff_getElem?.1 hu
          obtain ⟨b, hb⟩ := List.mem_iff_getElem?.1 hv
          have hma : a ∈ hav own y := by
            rw [hav_mem]
            obtain ⟨t, ht⟩ : ∃ t, own[a]? = some t := ⟨_, List.getElem?_eq_getElem (by rw [ho.len]; exact lt_of_get ha)⟩
            exact ⟨t, ht, by rw [← idsAt_is ht, ho.ids ha]; exact e2⟩
          have hmb : b ∈ hav own y := by
            rw [hav_mem]
            obtain ⟨t, ht⟩ : ∃ t, own[b]? = some t := ⟨_, List.getElem?_eq_getElem (by rw [ho.len]; exact lt_of_get hb)⟩
            exact ⟨t, ht, by rw [← idsAt_is ht, ho.ids hb]; exact e3⟩
          have hab : a = b := by
            cases hl : hav own y with
            | nil => rw [hl] at hma; cases hma
            | cons z t =>
              rw [hl, List.length_cons] at h1
              have ht : t = [] := List.length_eq_zero_iff.1 (by omega)
              rw [hl, ht] at hma hmb
              rw [List.mem_singleton.1 hma, List.mem_singleton.1 hmb]
          rw [hab, hb] at ha
          exact huv (Option.some.inj ha).symm
        · exact .step hc g1 g2 ⟨y, by unfold joinsX; rw [e1]; simp; exact fun h => hyx h.symm, e2, e3⟩
  intro i hi
  have hc := key (hp.part.conn i ((hp.mem i).1 hi).1) hi
  rw [((hp.mem i).1 hi).2] at hc
  have h2 := he.const hc.2
  rw [h2]
  have h3 := he.le hd hp.top.1
  have h4 := connX_conn (he.conn hd hp.top.1)
  have h5 := hp.part.const h4
  rw [hp.top.2] at h5
  have h6 := hp.part.le (e hd) (Nat.lt_of_le_of_lt h3 hp.top.1)
  omega
end
theorem edge_weak (r : Rul) (l : List Tch) (x : IdV) (r2 : Rul) (h1 : r2.kinds = r.kinds) (h2 : ∀ y, y ∈ r2.weak ↔ y ∈ r.weak ∨ y = x) (h3 : r2.most = r.most) : Edge r2 l = EdgeX r l (some x) := by
  funext i j
  unfold Edge EdgeX
  have hj : ∀ y, joinsP r2 l y = joinsX r l (some x) y := fun y => by
    unfold joinsX joinsP
    rw [h1, h3]
    by_cases e : y = x
    · subst e
      rw [decide_eq_true ((h2 y).2 (.inr rfl))]
      simp
    · have e2 : decide (y ∈ r2.weak) = decide (y ∈ r.weak) := by
        by_cases hw : y ∈ r.weak
        · rw [decide_eq_true hw, decide_eq_true ((h2 y).2 (.inl hw))]
        · rw [decide_eq_false hw, decide_eq_false (fun h => ((h2 y).1 h).elim hw e)]
      rw [e2, decide_eq_true (p := (some x ≠ some y)) (fun h => e (Option.some.inj h).symm), Bool.and_true]
  simp only [hj]
end Go.Proofs.YtjlangjhdakmiaaGreatDoor

/- The cuts of a person: what both sides compute; slices.Equal of numbers. -/
namespace Go.Proofs.YtjlangjhdakmiaaGreatDoor
open Go Go.RowKit
theorem eqInts_any (N : Nat → Prop) (A A2 : Option Addr) (xs ys : List Int) (c c2 : Nat) (w : World) (h1 : Sl rInt N w A xs) (h2 : Sl rInt N w A2 ys) (hl : xs.length ≤ 1000000000) (hl2 : ys.length ≤ 1000000000) :
    Calls Tryz.prog 53 #[.slice A xs.length c, .slice A2 ys.length c2] w fun e w' => e = .returned (.bool (decide (xs = ys))) ∧ Below w.heap.size w w' := by
  by_cases hn : xs.length = ys.length
  · by_cases h0 : xs = []
    · subst h0
      have hy : ys = [] := List.length_eq_zero_iff.1 hn.symm
      subst hy
      refine (Tryz.slices_Equal_int_empty A A2 c 0 c2 w (by decide)).mono ?_
      rintro e w' ⟨rfl, rfl⟩
      exact ⟨rfl, Below.refl _ _⟩
    · have h3 : ys ≠ [] := fun e => h0 (List.length_eq_zero_iff.1 (by rw [hn, e]; rfl))
      obtain ⟨b, o, rfl, hc⟩ := h1.intAt h0
      obtain ⟨b2, o2, rfl, hc2⟩ := h2.intAt h3
      refine (Tryz.slices_Equal_int b o xs.length c b2 o2 ys.length c2 xs ys w (Nat.le_refl _) (Nat.le_refl _) (by omega) (by omega) hc hc2).mono ?_
      rintro e w' ⟨rfl, q, rfl⟩
      refine ⟨?_, below_drewN _ _ _⟩
      rw [List.take_length, List.take_length]
      congr 2
      rw [Bool.eq_iff_iff, beq_iff_eq, decide_eq_true_eq]
  · refine (Tryz.slices_Equal_int_lens A A2 xs.length c ys.length c2 w hn).mono ?_
    rintro e w' ⟨rfl, rfl⟩
    refine ⟨?_, Below.refl _ _⟩
    rw [decide_eq_false (fun e => hn (by rw [e]))]
def CutP (r : Rul) (ts : List Tch) (at' : List Nat) (hd : Nat) (x : IdV) : Prop := joinsP r ts x = true ∧ ∃ e, IsPart ts.length (EdgeX r ts (some x)) e ∧ ¬ ∀ i ∈ at', e i = hd
open Classical in
noncomputable def cutB (r : Rul) (ts : List Tch) (at' : List Nat) (hd : Nat) (x : IdV) : Bool := decide (CutP r ts at' hd x)
open Classical in
theorem cutB_iff {r : Rul} {ts : List Tch} {at' : List Nat} {hd : Nat} {x : IdV} : cutB r ts at' hd x = true ↔ CutP r ts at' hd x := by
  unfold cutB
  exact decide_eq_true_iff
theorem cutB_no {r : Rul} {ts : List Tch} {at' : List Nat} {hd : Nat} {x : IdV} (h : joinsP r ts x = false) : cutB r ts at' hd x = false := by
  rw [Bool.eq_false_iff]
  intro h2
  have := (cutB_iff.1 h2).1
  rw [h] at this
  cases this
theorem cutB_is {r : Rul} {ts : List Tch} {at' : List Nat} {hd : Nat} {x : IdV} (h : joinsP r ts x = true) {e : Nat → Nat} (he : IsPart ts.length (EdgeX r ts (some x)) e) (hat : ∀ i ∈ at', i < ts.length) {b : Bool} (hb : b = true ↔ ∀ i ∈ at', e i = hd) : cutB r ts at' hd x = !b := by
  rw [Bool.eq_iff_iff, cutB_iff, Bool.not_eq_true']
  constructor
  · rintro ⟨_, e2, he2, hn⟩
    cases b with
    | false => rfl
    | true => exact absurd (fun i hi => by rw [he2.uniq he (hat i hi)]; exact hb.1 rfl i hi) hn
  · intro hf
    exact ⟨h, e, he, fun ha => by rw [hb.2 ha] at hf; cases hf⟩
noncomputable def cutsL (r : Rul) (ts : List Tch) (cc : Nat → Nat) (hd : Nat) : List IdV := (srtId ((partAt cc ts.length hd).flatMap (idsAt ts))).filter (cutB r ts (partAt cc ts.length hd) hd)
def NoUp (ts : List Tch) : Prop := ∀ i j, i < j → j < ts.length → noAt ts i < noAt ts j
theorem NoUp.inj {ts : List Tch} (h : NoUp ts) {i j : Nat} (hi : i < ts.length) (hj : j < ts.length) (e : noAt ts i = noAt ts j) : i = j := by
  rcases Nat.lt_trichotomy i j with h1 | h1 | h1
  · have := h i j h1 hj; omega
  · exact h1
  · have := h j i h1 hi; omega
theorem parts_same {ts : List Tch} (h : NoUp ts) {c d : Nat → Nat} {i j : Nat} (e : (partAt c ts.length i).map (noAt ts) = (partAt d ts.length j).map (noAt ts)) : partAt c ts.length i = partAt d ts.length j := by
  have hlt : ∀ (c : Nat → Nat) (i k : Nat), k ∈ partAt c ts.length i → k < ts.length := fun c i k hk => by unfold partAt at hk; exact List.mem_range.1 (List.mem_filter.1 hk).1
  have hup : ∀ (c : Nat → Nat) (i : Nat), (partAt c ts.length i).Pairwise (· < ·) := fun c i => by unfold partAt; exact (List.pairwise_lt_range).filter _
  refine strict_eq (fun a b : Nat => a < b) (fun _ => Nat.lt_irrefl _) (fun _ _ _ h1 h2 => Nat.lt_trans h1 h2) _ _ (hup _ _) (hup _ _) (fun k => ⟨fun hk => ?_, fun hk => ?_⟩)
  · have h1 : noAt ts k ∈ (partAt d ts.length j).map (noAt ts) := by rw [← e]; exact List.mem_map_of_mem hk
    obtain ⟨k2, hk2, e2⟩ := List.mem_map.1 h1
    rw [← h.inj (hlt _ _ _ hk2) (hlt _ _ _ hk) e2]; exact hk2
  · have h1 : noAt ts k ∈ (partAt c ts.length i).map (noAt ts) := by rw [e]; exact List.mem_map_of_mem hk
    obtain ⟨k2, hk2, e2⟩ := List.mem_map.1 h1
    rw [← h.inj (hlt _ _ _ hk2) (hlt _ _ _ hk) e2]; exact hk2
theorem whole_any {r r2 : Rul} {ts : List Tch} {cc : Nat → Nat} {hd : Nat} {x : IdV} {P : List Psn} (hu : NoUp ts) (hp : IsPart ts.length (Edge r ts) cc) (hh : hd ∈ heads cc ts.length) (he : Edge r2 ts = EdgeX r ts (some x)) (hP : IsPsns r2 ts P) (hj : joinsP r ts x = true) :
    cutB r ts (partAt cc ts.length hd) hd x = !(P.any (fun q => decide (q.tch = (partAt cc ts.length hd).map (noAt ts)))) := by
  obtain ⟨e, hpe, rfl⟩ := hP
  rw [he] at hpe
  have hm := heads_mem.1 hh
  have hpo := PartOf.mk' hp hm
  refine cutB_is hj hpe (fun i hi => ((hpo.mem i).1 hi).1) ?_
  rw [whole_ref hpo hpe, List.any_eq_true]
  unfold psns
  constructor
  · rintro ⟨q, hq, h1⟩
    obtain ⟨h', hh', rfl⟩ := List.mem_map.1 hq
    rw [decide_eq_true_eq] at h1
    exact ⟨h', hh', parts_same hu h1⟩
  · rintro ⟨h', hh', h1⟩
    refine ⟨psnAt r2 ts e h', List.mem_map_of_mem hh', ?_⟩
    rw [decide_eq_true_eq]
    show (partAt e ts.length h').map (noAt ts) = _
    rw [h1]
def GivesCutsR (r : Rul) (ts : List Tch) (x : IdV) (w : World) (e : Ending) (w' : World) : Prop :=
  ∃ (A : Option Addr) (c : Nat) (l : List IdV) (F : Int) (cc : Nat → Nat), e = .returned (.tuple #[.slice A l.length c, .int .i64 F]) ∧ Mem w w' [.sl rId A l] ∧ IsPart ts.length (Edge r ts) cc ∧
    ((kfP (psns r ts cc) x = none ∧ F = 8 ∧ l = []) ∨ ∃ hd ∈ heads cc ts.length, kfP (psns r ts cc) x = some (psnAt r ts cc hd) ∧ F = 0 ∧ l = cutsL r ts cc hd)
theorem IsKf.form {N : Nat → Prop} {P : List Psn} {x : IdV} {w : World} {cs : Array Value} {b : Bool} (h : IsKf N P x w cs b) : ∃ k t A n a B m c, cs = #[.int .i64 k, .string t, .slice A n a, .slice B m c] := by
  rcases h with ⟨_, _, rfl⟩ | ⟨p, A, a, B, b', h1, h2, rfl, _⟩
  · exact ⟨_, _, _, _, _, _, _, _, rfl⟩
  · exact ⟨_, _, _, _, _, _, _, _, rfl⟩
theorem kf_head {r : Rul} {ts : List Tch} {cc : Nat → Nat} {x : IdV} {p : Psn} (h : kfP (psns r ts cc) x = some p) : ∃ hd ∈ heads cc ts.length, p = psnAt r ts cc hd := by
  have := List.mem_of_find?_eq_some h
  unfold psns at this
  obtain ⟨hd, h1, h2⟩ := List.mem_map.1 this
  exact ⟨hd, h1, h2.symm⟩
end Go.Proofs.YtjlangjhdakmiaaGreatDoor

/- person.keyed: the group, and the first person with a key. -/
namespace Go.Proofs.YtjlangjhdakmiaaGreatDoor
open Go Go.RowKit
abbrev mzCs : Array Value := #[.int .i64 0, .string ⟨#[]⟩, .slice none 0 0, .slice none 0 0, .slice none 0 0]
theorem results_tctK {P : Program} {fn : Func} {s t r : Tmp} {T : TypeId} {a : Addr} {v u x : Value} {w : World} {tmps : Array Value} (h : fn.results = #[.tmp s, .cell t T, .tmp r]) (hp : tmps.getD t undef = .pointer (some a)) (hs : tmps.getD s undef = u) (hr : tmps.getD r undef = x) (hl : (loadVar T a).run P w = .ok v w) : (results fn tmps).run P w = .ok (.tuple #[u, v, x]) w := by
  have hp' : tmps[t]?.getD undef = .pointer (some a) := by simpa using hp
  have hs' : tmps[s]?.getD undef = u := by simpa using hs
  have hr' : tmps[r]?.getD undef = x := by simpa using hr
  simp [results, h, asAddr, hp', hs', hr', hl]
theorem loadMbK {w : World} {X : Nat} {a b c d e : Value} (h : LV w X #[a, b, c, d, e] 118) : (loadVar 118 ⟨X, 0, none⟩).run Tryz.prog w = .ok (.agg #[a, b, c, d, e]) w := by
  have c0 := h.all
  go_simp
def FirstK (ms : List MQ) (x : IdV) (j : Nat) (q : MQ) : Prop := ms[j]? = some q ∧ q.key = x ∧ ∀ p ∈ ms.take j, p.key ≠ x
def GivesKeyed (r : Rul) (K : Option Addr) (ck : Nat) (W : Option Addr) (cw : Nat) (S : Option Addr) (cs : Nat) (A : Option Addr) (c : Nat) (ts : List Tch) (x : IdV) (w : World) (e : Ending) (w' : World) : Prop :=
  ∃ g zs F, e = .returned (.tuple #[g, .agg zs, .int .i64 F]) ∧ Below w.heap.size w w' ∧
    ((bothF r ts ≠ 0 ∧ F = bothF r ts ∧ zs = mzCs ∧ g = .pointer none) ∨ (bothF r ts = 0 ∧ L.idFault x.k x.t ≠ 0 ∧ F = L.idFault x.k x.t ∧ zs = mzCs ∧ g = .pointer none) ∨
      (bothF r ts = 0 ∧ L.idFault x.k x.t = 0 ∧ ∃ cc ms, IsPart ts.length (Edge r ts) cc ∧ IsMembs r ts cc ms ∧
        ((F = 8 ∧ zs = mzCs ∧ g = .pointer none ∧ ∀ p ∈ ms, p.key ≠ x) ∨
         (F = 0 ∧ ∃ G X qs j q, g = .pointer (some ⟨G, 0, none⟩) ∧ Grp (fun _ => False) w' G X r K W S A ck cw cs c ts qs ∧ FirstK ms x j q ∧ zs = mqCs q ∧ Sl rInt (fun _ => False) w' q.A q.tch ∧ Sl rId (fun _ => False) w' q.B q.ids ∧ Sl rInt (fun _ => False) w' q.C (iL q.at')))))
theorem FirstK.none {ms : List MQ} {x : IdV} {j : Nat} {q : MQ} (h : ∀ p ∈ ms.take j, p.key ≠ x) (hq : ms[j]? = some q) (hk : ¬ q.key = x) : ∀ p ∈ ms.take (j + 1), p.key ≠ x := fun p hp => by
  rw [take_snoc hq] at hp
  rcases List.mem_append.1 hp with hp | hp
  · exact h p hp
  · rw [List.mem_singleton.1 hp]; exact hk
set_option maxHeartbeats 8000000 in
set_option maxRecDepth 100000 in
theorem keyed_any (r : Rul) (K W S A : Option Addr) (ck cw cs c : Nat) (ts : List Tch) (x : IdV) (w : World) (hR : RulIn (fun _ => False) w r K W S) (hT : Sl rTch (fun _ => False) w A ts) (hr : RulOk r) (ht : TchsOk ts) (hx : x.t.size ≤ 1000000) (hU : Tabs w) (hM : MaxL w) :
    Calls Tryz.prog 65 #[.agg (ruCs r K ck W cw S cs), .slice A ts.length c, .agg #[.int .i64 x.k, .string x.t]] w (GivesKeyed r K ck W cw S cs A c ts x w) := by
  obtain ⟨Y, hY⟩ : ∃ Y, Y = w.heap.size := ⟨_, rfl⟩
  have T0 := (Mem.start w).newAt (ruCs r K ck W cw S cs) 29 Y hY
  have T1 := T0.newAt #[.int .i64 x.k, .string x.t] 43 (Y + 1) (by rw [hY, World.size_alloc])
  have T : Mem w _ [.loc Y (ruCs r K ck W cw S cs) 29, .loc (Y + 1) #[.int .i64 x.k, .string x.t] 43, .loc (Y + 1 + 1) mzCs 118] := T1.newAt mzCs 118 (Y + 1 + 1) (by rw [hY, World.size_alloc, World.size_alloc])
  have Hc := Lib.hid (fun w' (h : Below w.heap.size w w') => checkBoth_any (fun _ => False) r K W S A ck cw cs c ts w' (hR.keepB h) (hT.keepB h) hr ht (Utf8Tabs_below hU h) (hM.below h))
  obtain ⟨F, hF⟩ : ∃ F, bothF r ts = F := ⟨_, rfl⟩
  rw [hF] at Hc
  have HF := Lib.hid hF
  have HR := Lib.hid hR
  have HT := Lib.hid hT
  have Hr := Lib.hid hr
  clear hF hR hT hr ht T0 T1
  go_enter Tryz.func65, Tryz.ntmps65
  go_upto_region 1 with fail
  rw [← hY]
  clear hY
  generalize ((w.alloc (.cells (ruCs r K ck W cw S cs) 29)).alloc (.cells #[.int .i64 x.k, .string x.t] 43)).alloc (.cells mzCs 118) = w1 at *
  obtain ⟨X, hX⟩ : ∃ X, X = Y + 1 := ⟨_, rfl⟩
  obtain ⟨R, hRr⟩ : ∃ R, R = X + 1 := ⟨_, rfl⟩
  rw [← hX, ← hRr] at T ⊢
  clear hX hRr
  have y0 := (T.lv 0 rfl).all
  go_wp2_with fail
  ((with_reducible refine (Hc.out w1 T.b).mono ?_); rintro e w2 ⟨rfl, hl2⟩)
  have T2 := T.below hl2
  clear y0 Hc hl2 T
  by_cases hE : F = 0
  · subst hE
    have Hid1 := Lib.hid (checkId_any x.k x.t w2 hx (hM.below T2.b))
    have l1 := (T2.lv 1 rfl).all
    obtain ⟨F1, hF1⟩ : ∃ F1, L.idFault x.k x.t = F1 := ⟨_, rfl⟩
    rw [hF1] at Hid1
    have HF1 := Lib.hid hF1
    clear hF1
    go_wp2_with fail
    ((with_reducible refine (Hid1.out).mono ?_); rintro e w3 ⟨rfl, hl3⟩)
    have T3 := T2.below hl3
    clear l1 T2 hl3 Hid1
    by_cases hE1 : F1 = 0
    · subst hE1
      have Ho : Hid (RtOk r ts) := RtOk.both HF.out Hr.out
      have Hn := Lib.hid (fun w' (h : Below w.heap.size w w') => newGroup_any (fun _ => False) r K W S A ck cw cs c ts w' (HT.out.keepB h) Ho.out.tl (fun t h => (Ho.out.up t h).nodup) Ho.out.il)
      have l0 := (T3.lv 0 rfl).all
      go_wp2_with fail
      ((with_reducible refine (Hn.out _ T3.b).mono ?_); rintro e wg ⟨G, Xg, qs, rfl, T4, hH⟩)
      have Hm := Lib.hid (members_any (fun _ => False) G Xg r K W S A ck cw cs c ts qs wg (grp_of T4.b (HR.out.keepB T3.b) (HT.out.keepB T3.b) T4 hH) Ho.out)
      obtain ⟨gs, hgs⟩ : ∃ gs, gs = Chunk.loc G (grCs r K ck W cw S cs A ts.length c Xg) 84 :: havC w3.heap.size Xg qs := ⟨_, rfl⟩
      have S4 : Mem w wg ([.loc Y (ruCs r K ck W cw S cs) 29, .loc X #[.int .i64 x.k, .string x.t] 43, .loc R mzCs 118] ++ gs) := by rw [hgs]; exact T3.join T4
      have HH := Lib.hid hH
      have Hgs := Lib.hid hgs
      clear l0 T3 T4 hH hgs Hn
      go_wp2_with fail
      ((with_reducible refine (Hm.out).mono ?_); rintro e wm ⟨Aq, cq, cc, ms, rfl, hp, hm, T5⟩)
      have S0 : Mem w wm (.loc Y (ruCs r K ck W cw S cs) 29 :: .loc X #[.int .i64 x.k, .string x.t] 43 :: .loc R mzCs 118 :: .sl rMQ Aq ms :: .mdat ms :: gs) := (S4.join T5).perm (by
        rw [List.append_assoc]
        exact List.Perm.append_left [_, _, _] (List.perm_append_comm (l₂ := [Chunk.sl rMQ Aq ms, Chunk.mdat ms])))
      have Hp := Lib.hid hp
      have Hml := Lib.hid hm
      have hmsl : ms.length ≤ 1000000 := by have := hm.len; have := Ho.out.tl; omega
      clear S4 T5 hp hm Hm
      go_wp2_with fail
      go_loopw [33] (fun i wr => ∃ j : Nat, j ≤ ms.length ∧ i = .int .i64 j ∧ Hid (∀ p ∈ ms.take j, p.key ≠ x) ∧ Mem w wr (.loc Y (ruCs r K ck W cw S cs) 29 :: .loc X #[.int .i64 x.k, .string x.t] 43 :: .loc R mzCs 118 :: .sl rMQ Aq ms :: .mdat ms :: gs)) (fun i _ => ms.length - (intOf i).toNat)
      case atStart => exact ⟨0, Nat.zero_le _, rfl, (by show ∀ p ∈ _, _; simp), S0⟩
      case round =>
        clear S0
        obtain ⟨j, hj, rfl, Hf, S0⟩ := hrel
        by_cases hlt : j < ms.length
        · obtain ⟨q, hq⟩ : ∃ q, ms[j]? = some q := ⟨_, List.getElem?_eq_getElem hlt⟩
          obtain ⟨b1, o1, rfl, hb1, c0, c1, c2, c3, c4⟩ := (S0.slc 3 rfl).mq j q hq
          have Hq := Lib.hid hq
          clear hq
          obtain ⟨U, hU⟩ : ∃ U, U = wr.heap.size := ⟨_, rfl⟩
          have S2 : Mem w (wr.alloc (.cells (mqCs q) 118)) (.loc U (mqCs q) 118 :: .loc Y (ruCs r K ck W cw S cs) 29 :: .loc X #[.int .i64 x.k, .string x.t] 43 :: .loc R mzCs 118 :: .sl rMQ (some ⟨b1, o1, none⟩) ms :: .mdat ms :: gs) := (S0.newAt (mqCs q) 118 U hU).front
          go_upto_region 11 with fail
          rw [← hU]
          clear hU S0 c0 c1 c2 c3 c4
          generalize wr.alloc (.cells (mqCs q) 118) = w4 at *
          have l0 := (S2.lv 0 rfl).all
          have l2 := (S2.lv 2 rfl).all
          rcases idv_cmp q.key x with ⟨hke, h1, h2⟩ | ⟨hke, h1⟩ | ⟨hke, h1, h2⟩
          · have Hke := Lib.hid hke
            have l3 := (S2.lv 3 rfl).all
            clear hke
            go_wp2_with fail
            have HS2 := Lib.hid S2
            clear S2
            go_region
            go_wp2_with fail
            have S8 := ((((HS2.out.set 3 0 (.int .i64 q.key.k) rfl).set 3 1 (.string q.key.t) rfl).set 3 2 (.slice q.A q.tch.length q.a) rfl).set 3 3 (.slice q.B q.ids.length q.b) rfl).set 3 4 (.slice q.C q.at'.length q.c) rfl
            have S9 := S8.below (w' := World.drew _) ((Below.refl _ _).drew)
            have hmd : MdOk _ _ ms := S9.ok (.mdat ms) (.tail _ (.tail _ (.tail _ (.tail _ (.tail _ (.head _))))))
            have hmq := hmd q (List.mem_of_getElem? Hq.out)
            have SG := (((((S9.del 0).del 0).del 0).del 0).del 0).del 0
            have hG := grp_of (B := w3.heap.size) SG.b HR.out HT.out (by rw [← show gs = _ from Hgs.out]; exact SG) HH.out
            have HG := Lib.hid hG
            have Hmq := Lib.hid hmq
            exact bodyPost_ret (results_tctK rfl rfl rfl rfl (loadMbK (S9.lv 3 rfl))) rfl ⟨_, _, 0, rfl, S9.b, .inr (.inr ⟨HF.out, HF1.out, cc, ms, Hp.out, Hml.out, .inr ⟨rfl, G, Xg, qs, j, q, rfl, HG.out, ⟨Hq.out, Hke.out, Hf.out⟩, rfl, Hmq.out.1.mono (fun _ _ h => h.elim), Hmq.out.2.1.mono (fun _ _ h => h.elim), Hmq.out.2.2.mono (fun _ _ h => h.elim)⟩⟩)⟩
          · have Hn := Lib.hid (FirstK.none Hf.out Hq.out hke)
            clear hke Hf
            go_wp2_with fail
            go_roundw
            case rel => exact ⟨j + 1, by omega, by go_num, Hn.out, S2.del 0⟩
            case measure => simp [intOf]; omega
          · have Hn := Lib.hid (FirstK.none Hf.out Hq.out hke)
            clear hke Hf
            go_wp2_with fail
            go_roundw
            case rel => exact ⟨j + 1, by omega, by go_num, Hn.out, S2.del 0⟩
            case measure => simp [intOf]; omega
        · obtain rfl : j = ms.length := by omega
          have Hall : Hid (∀ p ∈ ms, p.key ≠ x) := by have := Hf.out; rw [List.take_length] at this; exact this
          have l2 := (S0.lv 2 rfl).all
          have S9 := ((((S0.set 2 0 (.int .i64 0) rfl).set 2 1 (.string ⟨#[]⟩) rfl).set 2 2 (.slice none 0 0) rfl).set 2 3 (.slice none 0 0) rfl).set 2 4 (.slice none 0 0) rfl
          clear Hf
          go_wp2_with fail
          exact bodyPost_ret (results_tctK rfl rfl rfl rfl (loadMbK (S9.lv 2 rfl))) rfl ⟨_, _, 8, rfl, S9.b, .inr (.inr ⟨HF.out, HF1.out, cc, ms, Hp.out, Hml.out, .inl ⟨rfl, rfl, rfl, Hall.out⟩⟩)⟩
    · have h1 : (F1 != 0) = true := by simpa using hE1
      have Hf1 := Lib.hid hE1
      have l2 := (T3.lv 2 rfl).all
      have S9 := ((((T3.set 2 0 (.int .i64 0) rfl).set 2 1 (.string ⟨#[]⟩) rfl).set 2 2 (.slice none 0 0) rfl).set 2 3 (.slice none 0 0) rfl).set 2 4 (.slice none 0 0) rfl
      clear hE1
      go_wp2_with fail
      exact bodyPost_ret (results_tctK rfl rfl rfl rfl (loadMbK (S9.lv 2 rfl))) rfl ⟨_, _, F1, rfl, S9.b, .inr (.inl ⟨HF.out, by rw [HF1.out]; exact Hf1.out, HF1.out.symm, rfl, rfl⟩)⟩
  · have h1 : (F != 0) = true := by simpa using hE
    have Hf1 := Lib.hid hE
    have l2 := (T2.lv 2 rfl).all
    have S9 := ((((T2.set 2 0 (.int .i64 0) rfl).set 2 1 (.string ⟨#[]⟩) rfl).set 2 2 (.slice none 0 0) rfl).set 2 3 (.slice none 0 0) rfl).set 2 4 (.slice none 0 0) rfl
    clear hE
    go_wp2_with fail
    exact bodyPost_ret (results_tctK rfl rfl rfl rfl (loadMbK (S9.lv 2 rfl))) rfl ⟨_, _, F, rfl, S9.b, .inl ⟨by rw [HF.out]; exact Hf1.out, HF.out.symm, rfl, rfl⟩⟩
end Go.Proofs.YtjlangjhdakmiaaGreatDoor

/- A person's own touches and its own group: the memory they want, and the law of their cuts. -/
namespace Go.Proofs.YtjlangjhdakmiaaGreatDoor
open Go Go.RowKit
abbrev zTQ : TQ := ⟨⟨0, 0, ⟨#[]⟩, [], []⟩, none, 0, none, 0⟩
theorem rep_flat {α : Type} {l : List α} (h : l.length = 5) : ∀ (n i : Nat), i < n * 5 → (List.replicate n l).flatten[i]? = l[i % 5]?
  | 0, i, hi => by omega
  | n + 1, i, hi => by
    rw [List.replicate_succ, List.flatten_cons]
    rcases Nat.lt_or_ge i 5 with h5 | h5
    · rw [List.getElem?_append_left (by omega), Nat.mod_eq_of_lt h5]
    · rw [List.getElem?_append_right (by omega), h, rep_flat h n (i - 5) (by omega)]
      congr 1
      omega
theorem rep_len {α : Type} {l : List α} (h : l.length = 5) (n : Nat) : (List.replicate n l).flatten.length = n * 5 := by
  induction n with
  | zero => simp
  | succ n ih => rw [List.replicate_succ, List.flatten_cons, List.length_append, ih, h]; omega
theorem madeT (n : Nat) : madeCells (Value.agg #[.int .i64 0, .int .i64 0, .string ⟨#[]⟩, .slice none 0 0, .slice none 0 0]).cells ((n : Int).toNat * rTQ.size) = ((List.replicate n zTQ).map TQ.cells).flatten.toArray := by
  rw [Int.toNat_natCast, show n * rTQ.size = n * 5 from rfl, List.map_replicate]
  have h5 : (TQ.cells zTQ).length = 5 := rfl
  apply Array.ext
  · simp [madeCells, rep_len h5]
  · intro i h1 h2
    have hi : i < n * 5 := by
      have := h2
      simp [rep_len h5] at this
      exact this
    have h6 := rep_flat h5 n i hi
    have e8 : (TQ.cells zTQ)[i % 5]? = some ((List.replicate n (TQ.cells zTQ)).flatten.toArray[i]) := by
      rw [← h6, List.getElem_toArray]
      exact List.getElem?_eq_getElem _
    apply Option.some.inj
    rw [← e8]
    have h7 : i % 5 = 0 ∨ i % 5 = 1 ∨ i % 5 = 2 ∨ i % 5 = 3 ∨ i % 5 = 4 := by omega
    rcases h7 with e | e | e | e | e <;> simp [madeCells, Value.cells, e, TQ.cells]
theorem makeT (n : Nat) (hn : n ≤ 1000000) (w : World) : (Instr.makeSlice 30 (.int .i64 n) (.int .i64 n)).run Tryz.prog w = .ok (.slice (some ⟨w.heap.size, 0, none⟩) n n) (w.alloc (.cells ((List.replicate n zTQ).map TQ.cells).flatten.toArray 64)) := by
  obtain ⟨i, hi, hz0, hz1, hz2⟩ := info_parts tyTch.info
  have h := run_makeSlice (P := Tryz.prog) w 30 64 i _ tyTch.under hi hz0 .i64 .i64 n n (by omega) (by omega) (by rw [hz1, Int.toNat_natCast, show n * rTQ.size = n * 5 from rfl]; omega) (by rw [hz2]; omega) (by omega)
  rw [hz1, madeT n] at h
  exact h
theorem Mem.putTQ {w0 w : World} {cs : List Chunk} (S : Mem w0 w cs) (i : Nat) {B E g n cap : Nat} {ys : List TQ} (hi : cs[i]? = some (.own rTQ B E (.slice (some ⟨g, 0, none⟩) n cap) ys)) (hn : n = ys.length) (p : Nat) (z x : TQ) (hz : ys[p]? = some z) :
    Mem w0 (((((w.setCell ⟨g, p * 5, none⟩ (.int .i64 x.t.no)).setCell ⟨g, p * 5 + 1, none⟩ (.int .i64 x.t.at')).setCell ⟨g, p * 5 + 2, none⟩ (.string x.t.src)).setCell ⟨g, p * 5 + 3, none⟩ (.slice x.A x.t.ids.length x.c)).setCell ⟨g, p * 5 + 4, none⟩ (.slice x.B x.t.flds.length x.d)) (cs.set i (.own rTQ B E (.slice (some ⟨g, 0, none⟩) n cap) (ys.set p x))) := by
  have hp := lt_of_get hz
  have hci : i < cs.length := lt_of_get hi
  have S1 := S.put flatTQ i hi hn p z (⟨⟨x.t.no, z.t.at', z.t.src, z.t.ids, z.t.flds⟩, z.A, z.c, z.B, z.d⟩ : TQ) hz 0 (by decide) (.int .i64 x.t.no) rfl
  have S2 := S1.put flatTQ i (by rw [List.getElem?_set_self hci]) (by rw [List.length_set]; exact hn) p (⟨⟨x.t.no, z.t.at', z.t.src, z.t.ids, z.t.flds⟩, z.A, z.c, z.B, z.d⟩ : TQ) (⟨⟨x.t.no, x.t.at', z.t.src, z.t.ids, z.t.flds⟩, z.A, z.c, z.B, z.d⟩ : TQ) (by rw [List.getElem?_set_self hp]) 1 (by decide) (.int .i64 x.t.at') rfl
  simp only [List.set_set] at S2
  have S3 := S2.put flatTQ i (by rw [List.getElem?_set_self hci]) (by rw [List.length_set]; exact hn) p (⟨⟨x.t.no, x.t.at', z.t.src, z.t.ids, z.t.flds⟩, z.A, z.c, z.B, z.d⟩ : TQ) (⟨⟨x.t.no, x.t.at', x.t.src, z.t.ids, z.t.flds⟩, z.A, z.c, z.B, z.d⟩ : TQ) (by rw [List.getElem?_set_self hp]) 2 (by decide) (.string x.t.src) rfl
  simp only [List.set_set] at S3
  have S4 := S3.put flatTQ i (by rw [List.getElem?_set_self hci]) (by rw [List.length_set]; exact hn) p (⟨⟨x.t.no, x.t.at', x.t.src, z.t.ids, z.t.flds⟩, z.A, z.c, z.B, z.d⟩ : TQ) (⟨⟨x.t.no, x.t.at', x.t.src, x.t.ids, z.t.flds⟩, x.A, x.c, z.B, z.d⟩ : TQ) (by rw [List.getElem?_set_self hp]) 3 (by decide) (.slice x.A x.t.ids.length x.c) rfl
  simp only [List.set_set] at S4
  have S5 := S4.put flatTQ i (by rw [List.getElem?_set_self hci]) (by rw [List.length_set]; exact hn) p (⟨⟨x.t.no, x.t.at', x.t.src, x.t.ids, z.t.flds⟩, x.A, x.c, z.B, z.d⟩ : TQ) x (by rw [List.getElem?_set_self hp]) 4 (by decide) (.slice x.B x.t.flds.length x.d) rfl
  simp only [List.set_set] at S5
  exact S5
theorem Mem.ownBase {α : Type} {r : Rep α} {f : α → List Value} (hf : r.Flat f) {w0 w : World} {cs : List Chunk} (S : Mem w0 w cs) (i : Nat) {B B' E : Nat} {v : Value} {xs : List α} (hi : cs[i]? = some (.own r B E v xs)) (hB : B' ≤ B) : Mem w0 w (cs.set i (.own r B' E v xs)) :=
  S.upd i hi (.own r B' E v xs) ⟨Nat.le_refl _, fun _ _ _ => rfl⟩ S.b (fun _ e => .inl e) (((S.ow i hi).flatM hf).base hB)
theorem fold_pos (zs : List Int) : ∀ a : Int, 0 < zs.foldl max a ↔ 0 < a ∨ ∃ z ∈ zs, 0 < z := by
  induction zs with
  | nil => intro a; simp
  | cons y t ih =>
    intro a
    rw [List.foldl_cons, ih]
    constructor
    · rintro (h | ⟨z, hz, h⟩)
      · by_cases ha : 0 < a
        · exact .inl ha
        · exact .inr ⟨y, List.mem_cons_self .., by omega⟩
      · exact .inr ⟨z, List.mem_cons_of_mem _ hz, h⟩
    · rintro (h | ⟨z, hz, h⟩)
      · exact .inl (by omega)
      · rcases List.mem_cons.1 hz with rfl | hz
        · exact .inl (by omega)
        · exact .inr ⟨z, hz, h⟩
theorem max_pos (zs : List Int) : 0 < Lib.maxOf zs ↔ ∃ z ∈ zs, 0 < z := by
  unfold Lib.maxOf
  rw [fold_pos]
  constructor
  · rintro (h | h)
    · cases zs with
      | nil => simp at h
      | cons y t => exact ⟨y, List.mem_cons_self .., by simpa using h⟩
    · exact h
  · exact .inr
theorem max_row (n : Nat) (d : Nat → Nat) : 0 < Lib.maxOf (iL (rowC n d)) ↔ ¬ ∀ a, a < n → d a = 0 := by
  rw [max_pos]
  constructor
  · rintro ⟨z, hz, h⟩ hall
    obtain ⟨k, hk, rfl⟩ := List.mem_map.1 hz
    unfold rowC at hk
    obtain ⟨a, ha, rfl⟩ := List.mem_map.1 hk
    rw [hall a (List.mem_range.1 ha)] at h
    exact absurd h (by decide)
  · intro h
    obtain ⟨a, ha⟩ := Classical.not_forall.1 h
    obtain ⟨h1, h2⟩ := Classical.not_imp.1 ha
    refine ⟨(d a : Int), List.mem_map.2 ⟨d a, List.mem_map.2 ⟨a, List.mem_range.2 h1, rfl⟩, rfl⟩, by omega⟩
theorem part_ex (n : Nat) (E : Nat → Nat → Prop) (hs : ∀ a b, E a b → E b a) : ∃ c, IsPart n E c := by
  have hex : ∀ i, ∃ j, Conn n E i j ∧ ∀ k, Conn n E i k → j ≤ k := fun i => by
    have key : ∀ m j, j ≤ m → Conn n E i j → ∃ j, Conn n E i j ∧ ∀ k, Conn n E i k → j ≤ k := by
      intro m
      induction m with
      | zero => intro j hj h; exact ⟨j, h, fun k _ => by omega⟩
      | succ m ih =>
        intro j hj h
        by_cases hl : ∃ k, Conn n E i k ∧ k < j
        · obtain ⟨k, h1, h2⟩ := hl
          exact ih k (by omega) h1
        · exact ⟨j, h, fun k hk => by
            rcases Nat.lt_or_ge k j with h3 | h3
            · exact absurd ⟨k, hk, h3⟩ hl
            · exact h3⟩
    exact key i i (Nat.le_refl _) (.refl i)
  obtain ⟨c, hc⟩ := Classical.axiomOfChoice hex
  refine ⟨c, fun i _ => (hc i).2 i (.refl i), fun i j hi hj h => ?_, fun i _ => (hc i).1⟩
  have h1 : Conn n E i j := .one hi hj h
  have h2 : Conn n E j i := .one hj hi (hs _ _ h)
  exact Nat.le_antisymm ((hc i).2 _ (h1.trans (hc j).1)) ((hc j).2 _ (h2.trans (hc i).1))
section
variable {r r' : Rul} {l own : List Tch} {c : Nat → Nat} {hd : Nat} {at' : List Nat} {x : IdV}
theorem cut_nj (hr : InRules r l at' own r') (hx : ∃ i ∈ at', x ∈ idsAt l i) (h : joinsP r' own x = false) : cutB r l at' hd x = false := cutB_no (by rw [← hr.joins hx]; exact h)
theorem cut_one (ho : OwnOf l at' own) (hp : PartOf r l c hd at') (h1 : (hav own x).length < 2) : cutB r l at' hd x = false := by
  rw [Bool.eq_false_iff]
  intro h2
  obtain ⟨_, e, he, hn⟩ := cutB_iff.1 h2
  exact hn (whole_one ho hp h1 he)
theorem cut_max (ho : OwnOf l at' own) (hr : InRules r l at' own r') (hp : PartOf r l c hd at') (hx : ∃ i ∈ at', x ∈ idsAt l i) (hj : joinsP r' own x = true) {d : Nat → Nat} (hd' : IsPart own.length (EdgeX r' own (some x)) d) : cutB r l at' hd x = decide (0 < Lib.maxOf (iL (rowC own.length d))) := by
  obtain ⟨e, he⟩ := part_ex l.length (EdgeX r l (some x)) (fun a b h => EdgeX.symm a b h)
  rw [cutB_is (b := decide (∀ i ∈ at', e i = hd)) (by rw [← hr.joins hx]; exact hj) he (fun i hi => ((hp.mem i).1 hi).1) decide_eq_true_iff, Bool.eq_iff_iff, decide_eq_true_eq, max_row, whole_is ho hr hp hd' he]
  simp
end
theorem memb_at {r : Rul} {l : List Tch} {c : Nat → Nat} {ms : List MQ} (h : IsMembs r l c ms) {j : Nat} {q : MQ} (hq : ms[j]? = some q) : ∃ hd ∈ heads c l.length, q.psn = psnAt r l c hd ∧ q.at' = partAt c l.length hd := by
  have h1 : (ms.map MQ.raw)[j]? = some q.raw := by rw [List.getElem?_map, hq]; rfl
  rw [h] at h1
  obtain ⟨row, hrow, e⟩ := List.mem_map.1 (List.mem_of_getElem? h1)
  unfold mRows at hrow
  obtain ⟨hd, hh, rfl⟩ := List.mem_map.1 hrow
  refine ⟨hd, hh, ?_, (congrArg (fun t => t.2.2.2) e).symm⟩
  have e1 : q.psn = (⟨q.raw.1, q.raw.2.1, q.raw.2.2.1⟩ : Psn) := rfl
  rw [e1, ← e]
  rfl
theorem kf_first {r : Rul} {l : List Tch} {c : Nat → Nat} {ms : List MQ} {x : IdV} (h : IsMembs r l c ms) {j : Nat} {q : MQ} (hf : FirstK ms x j q) : kfP (psns r l c) x = some q.psn := by
  obtain ⟨hq, hk, hb⟩ := hf
  rw [← h.are]
  unfold kfP
  rw [List.find?_map]
  obtain ⟨hj, e⟩ := List.getElem?_eq_some_iff.1 hq
  have : ms.find? ((fun p : Psn => decide (p.key = x)) ∘ MQ.psn) = some q := by
    rw [List.find?_eq_some_iff_append]
    refine ⟨by simp [MQ.psn, hk], ms.take j, ms.drop (j + 1), ?_, fun p hp => by show (!decide (p.key = x)) = true; rw [decide_eq_false (hb p hp)]; rfl⟩
    rw [← e, List.getElem_cons_drop, List.take_append_drop]
  rw [this]; rfl
theorem kf_none {r : Rul} {l : List Tch} {c : Nat → Nat} {ms : List MQ} {x : IdV} (h : IsMembs r l c ms) (hf : ∀ p ∈ ms, p.key ≠ x) : kfP (psns r l c) x = none := by
  rw [← h.are]
  unfold kfP
  rw [List.find?_eq_none]
  intro p hp
  obtain ⟨q, hq, rfl⟩ := List.mem_map.1 hp
  exact fun h => hf q hq (of_decide_eq_true h)
theorem in_rules {r : Rul} {l own : List Tch} {c : Nat → Nat} {hd : Nat} {ws M : List IdV} {mo : Int} (hM : M = srtId ((partAt c l.length hd).flatMap (idsAt l))) (hw : ws.Perm (r.weak ++ M.filter (fun y => decide (r.most < ((hav l y).length : Int))))) (hm : (own.length : Int) ≤ mo) : InRules r l (partAt c l.length hd) own ⟨r.kinds, mo, ws, r.surv⟩ :=
  ⟨rfl, fun x hx => by
    show x ∈ ws ↔ _
    have hxM : x ∈ M := by
      rw [hM, srtId_mem]
      obtain ⟨i, hi, h⟩ := hx
      exact List.mem_flatMap.2 ⟨i, hi, h⟩
    rw [hw.mem_iff, List.mem_append, List.mem_filter, decide_eq_true_eq]
    exact or_congr_right ⟨fun h => h.2, fun h => ⟨hxM, h⟩⟩, hm⟩
theorem grp_now {N : Nat → Prop} {w w0 : World} {G X : Nat} {r : Rul} {K W S A : Option Addr} {ck cw cs c : Nat} {ts : List Tch} {qs : List HQ} (hR : RulIn N w r K W S) (hT : Sl rTch N w A ts)
    {B : Nat} (T : Mem w0 w (.loc G (grCs r K ck W cw S cs A ts.length c X) 84 :: havC B X qs)) (hH : HavOk ts ts.length [] (qs.map HQ.kl)) : Grp N w G X r K W S A ck cw cs c ts qs := by
  have T2 : Mem w0 w ([.loc G (grCs r K ck W cw S cs A ts.length c X) 84, .mapG keyId X (qs.map HQ.kv)] ++ [.slots qs]) := Mem.frzSlots (cs := [.loc G (grCs r K ck W cw S cs A ts.length c X) 84, .mapG keyId X (qs.map HQ.kv)]) T
  refine ⟨T.lv 0 rfl, T.ok _ (.tail _ (.head _)), fun q hqm => ?_, hH, hR, hT, fun q hqm => ?_⟩
  · have h := T2.ok (.slots qs) (.tail _ (.tail _ (.head _)))
    exact (h q hqm).mono (fun _ _ h => h.elim)
  · obtain ⟨j, hj⟩ := List.mem_iff_getElem?.1 hqm
    have ho := T.ow (j + 2) (by show (qs.map (hq B))[j]? = _; rw [List.getElem?_map, hj]; rfl)
    rcases ho.shape2 with ⟨e, e2⟩ | ⟨g, cap, e, hc⟩
    · simp only [Value.slice.injEq] at e
      omega
    · simp only [Value.slice.injEq] at e
      obtain ⟨_, h1, rfl⟩ := e
      rw [iL_len] at hc
      omega
theorem maxI_any (N : Nat → Prop) (A : Option Addr) (xs : List Int) (n c : Nat) (w : World) (h : Sl rInt N w A xs) (hn : xs.length = n) (h0 : 0 < n) (hl : n ≤ 1000000) :
    Calls Tryz.prog 67 #[.slice A n c] w fun e w' => e = .returned (.int .i64 (Lib.maxOf xs)) ∧ w' = w := by
  obtain ⟨b, o, rfl, hc⟩ := h.intAt (fun e => by rw [e] at hn; simp at hn; omega)
  refine (Tryz.slices_Max_int b o n c xs w h0 (by omega) (by omega) hc).mono ?_
  rintro e w' ⟨rfl, rfl⟩
  rw [← hn, List.take_length]
  exact ⟨rfl, rfl⟩
def GivesCutsP (r : Rul) (ts : List Tch) (x : IdV) (w : World) (e : Ending) (w' : World) : Prop :=
  ∃ (A : Option Addr) (c : Nat) (l : List IdV) (F : Int), e = .returned (.tuple #[.slice A l.length c, .int .i64 F]) ∧ Mem w w' [.sl rId A l] ∧
    ((bothF r ts ≠ 0 ∧ F = bothF r ts ∧ l = []) ∨ (bothF r ts = 0 ∧ L.idFault x.k x.t ≠ 0 ∧ F = L.idFault x.k x.t ∧ l = []) ∨
      (bothF r ts = 0 ∧ L.idFault x.k x.t = 0 ∧ ∃ cc, IsPart ts.length (Edge r ts) cc ∧
        ((kfP (psns r ts cc) x = none ∧ F = 8 ∧ l = []) ∨ ∃ hd ∈ heads cc ts.length, kfP (psns r ts cc) x = some (psnAt r ts cc hd) ∧ F = 0 ∧ l = cutsL r ts cc hd)))
end Go.Proofs.YtjlangjhdakmiaaGreatDoor
