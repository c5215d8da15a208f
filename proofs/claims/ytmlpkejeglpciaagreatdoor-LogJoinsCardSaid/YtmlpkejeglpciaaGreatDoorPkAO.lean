/- Several texts in one: Tree, LogPut, DelE, LogTake, LogLaw2. -/
import Derived.Test.YtmlpkejeglpciaaGreatDoorPkAF
import Derived.Test.YtmlpkejeglpciaaGreatDoorPkAK
import Derived.Test.YtmlpkejeglpciaaGreatDoorPkAL
import Derived.Test.YtmlpkejeglpciaaGreatDoorPkAN
import Derived.Test.YtmlpkejeglpciaaGreatDoorPkAA
import Derived.Test.YtmlpkejeglpciaaGreatDoorPkAG
import Derived.RegionTactic
import Derived.ChangeAlike
import Derived.Test.YtmlpkejeglpciaaGreatDoorPkAI
/- Regions that draw their order, where two operations that act may be ready at once (the walk parts in two), and where some operations leave the class of worlds. No program is in sight. -/
namespace Go.Proofs.YtmlpkejeglpciaaGreatDoor
open Go
section
variable {P : Program} {ops : Array Oper} {Q : Exit → Act → World → Prop} {md : Region.Mode} {C : World → Prop} {B : List Nat}
def brk (B : List Nat) (listed : Array Bool) : Bool := B.any fun b => listed.getD b false
theorem brk_set {listed : Array Bool} {j : Nat} (h : j ∉ B) : brk B (listed.setIfInBounds j true) = brk B listed := by
  have hjb : ∀ b ∈ B, j ≠ b := fun b hb e => h (by rw [e]; exact hb)
  unfold brk
  rw [Bool.eq_iff_iff, List.any_eq_true, List.any_eq_true]
  constructor
  · rintro ⟨b, hb, e⟩
    rw [getD_set_ne false (hjb b hb)] at e
    exact ⟨b, hb, e⟩
  · rintro ⟨b, hb, e⟩
    exact ⟨b, hb, by rw [getD_set_ne false (hjb b hb)]; exact e⟩
theorem brk_mono {listed : Array Bool} (j : Nat) (h : brk B listed = true) : brk B (listed.setIfInBounds j true) = true := by
  unfold brk at h ⊢
  obtain ⟨b, hb, e⟩ := List.any_eq_true.1 h
  exact List.any_eq_true.2 ⟨b, hb, getD_set_true e⟩
def waitsQ (md : Region.Mode) (ops : Array Oper) (listed : Array Bool) (i : Nat) : Nat → Nat → Bool
  | 0, _ => false
  | n + 1, j => match ops[j]? with
    | none => true
    | some o => o.after.any (fun e => Region.binds md e && (decide (e.on = i) || (!(listed.getD e.on false) && waitsQ md ops listed i n e.on)))
theorem waitsQ_spec {listed : Array Bool} {i : Nat} (hun : listed.getD i true = false) : ∀ (n j : Nat), waitsQ md ops listed i n j = true → j ∉ Region.ready md ops listed
  | 0, _, h => by cases h
  | n + 1, j, h => by
    intro hr
    obtain ⟨_, o, ho, hall⟩ := mem_ready.1 hr
    unfold waitsQ at h
    rw [ho] at h
    obtain ⟨k, hk, he⟩ := Array.any_eq_true.1 h
    simp only [Bool.and_eq_true, Bool.or_eq_true, decide_eq_true_eq] at he
    have h1 := hall _ (Array.getElem_mem hk) he.1
    rcases he.2 with he2 | he2
    · rw [he2] at h1
      exact listed_both h1 hun
    · rw [h1] at he2
      simp at he2
theorem waitsQ_step {listed : Array Bool} {i j : Nat} (hun : listed.getD i true = false) (hj : j ∈ Region.ready md ops listed) : ∀ (n b : Nat), waitsQ md ops listed i n b = true → waitsQ md ops (listed.setIfInBounds j true) i n b = true
  | 0, _, h => by cases h
  | n + 1, b, h => by
    unfold waitsQ at h ⊢
    cases ho : ops[b]? with
    | none => rfl
    | some o =>
      rw [ho] at h
      obtain ⟨k, hk, he⟩ := Array.any_eq_true.1 h
      refine Array.any_eq_true.2 ⟨k, hk, ?_⟩
      simp only [Bool.and_eq_true, Bool.or_eq_true, decide_eq_true_eq] at he ⊢
      refine ⟨he.1, ?_⟩
      rcases he.2 with he2 | he2
      · exact .inl he2
      · right
        by_cases hjk : j = (o.after[k]).on
        · exact absurd hj (by rw [hjk]; exact waitsQ_spec hun n _ he2.2)
        · rw [getD_set_ne false hjk]
          exact ⟨he2.1, waitsQ_step hun hj n _ he2.2⟩
def wpAnyB (P : Program) (md : Region.Mode) (ops : Array Oper) (B : List Nat) (C : World → Prop) (Q : Exit → Act → World → Prop) : Nat → Array Bool → Act → World → Prop
  | 0, listed, a, w => Region.ready md ops listed = [] ∧ Q .normal a w
  | fuel + 1, listed, a, w =>
    (Region.ready md ops listed = [] → Q .normal a w) ∧
    ∀ i ∈ Region.ready md ops listed, wpOp P ops Q i (fun a' w' => (brk B (listed.setIfInBounds i true) = false → C w') ∧ wpAnyB P md ops B C Q fuel (listed.setIfInBounds i true) a' w') a w
theorem wpAny_of_B : ∀ (fuel : Nat) (listed : Array Bool) (a : Act) (w : World), wpAnyB P md ops B C Q fuel listed a w → wpAny P md ops Q fuel listed a w
  | 0, _, _, _, h => h
  | fuel + 1, _, _, _, h => ⟨h.1, fun i hi => wpOp_mono (fun a' w' h' => wpAny_of_B fuel _ a' w' h'.2) (h.2 i hi)⟩
theorem wpAnyB_first {i : Nat} {oi : Oper} {v : Value} {C' : World → Prop} (hi : ops[i]? = some oi) (hsel : ∀ (j : Nat) (o : Oper) cs b, ops[j]? = some o → o.op ≠ .select cs b)
    (hQ : ∀ c a w, Q (.panic c) (a.put oi.dst v) w → Q (.panic c) a w) (br : Bool) (hC' : ∀ w, (br = false → C w) → C' w) :
    ∀ (fuel : Nat) (listed : Array Bool) (a : Act) (w : World), brk B listed = br → (br = false → i ∉ B ∧ C w ∧ ∀ b ∈ B, waitsQ md ops listed i 12 b = true) →
      (∀ j oj, ops[j]? = some oj → j ≠ i → listed.getD j true = false → (∀ e ∈ oj.after, Region.binds md e = true → e.on ≠ i) → oi.apart ops oj = true) →
      i ∈ Region.ready md ops listed → YieldsM P ops C' oi v a →
      wpAnyB P md ops B C Q fuel (listed.setIfInBounds i true) (a.put oi.dst v) w → wpAnyB P md ops B C Q (fuel + 1) listed a w := by
  intro fuel
  induction fuel with
  | zero =>
    intro listed a w hbr hC _ hr hy H
    refine ⟨fun h => (by rw [h] at hr; cases hr), fun j hj => ?_⟩
    by_cases hji : j = i
    · subst hji
      refine hy.wpOp hi (hC' w (fun h => (hC h).2.1)) ⟨fun h => ?_, H⟩
      cases hb : br with
      | false => exact (hC hb).2.1
      | true => rw [hb] at hbr; rw [brk_mono j hbr] at h; cases h
    · have := ready_mono hj hji
      rw [H.1] at this
      cases this
  | succ fuel ih =>
    intro listed a w hbr hC hfree hr hy H
    refine ⟨fun h => (by rw [h] at hr; cases hr), fun j hj => ?_⟩
    by_cases hji : j = i
    · subst hji
      refine hy.wpOp hi (hC' w (fun h => (hC h).2.1)) ⟨fun h => ?_, H⟩
      cases hb : br with
      | false => exact (hC hb).2.1
      | true => rw [hb] at hbr; rw [brk_mono j hbr] at h; cases h
    · have h1 := H.2 j (ready_mono hj hji)
      obtain ⟨hjun, oj, hoj, hall⟩ := mem_ready.1 hj
      have hiun := (mem_ready.1 hr).1
      have hnot : ∀ e ∈ oj.after, Region.binds md e = true → e.on ≠ i := fun e he hb heq => by
        have h1 := hall e he hb
        rw [heq] at h1
        exact listed_both h1 hiun
      have hjB : br = false → j ∉ B := fun hb hjb => waitsQ_spec hiun 12 j ((hC hb).2.2 j hjb) hj
      have h2 := wpOp_putM hoj (hfree j oj hoj hji hjun hnot) (fun cs b => hsel i oi cs b hi) (fun cs b => hsel j oj cs b hoj) hQ hy h1
      have hfree' : ∀ k ok, ops[k]? = some ok → k ≠ i → (listed.setIfInBounds j true).getD k true = false →
          (∀ e ∈ ok.after, Region.binds md e = true → e.on ≠ i) → oi.apart ops ok = true := fun k ok hk hki hun hno => by
        refine hfree k ok hk hki ?_ hno
        by_cases hjk : j = k
        · subst hjk; exact hjun
        · rw [getD_set_ne true hjk] at hun; exact hun
      have hbj : brk B (listed.setIfInBounds j true) = br := by
        cases hb : br with
        | false => rw [brk_set (hjB hb), hbr, hb]
        | true => exact brk_mono j (by rw [hbr, hb])
      have hbij : brk B ((listed.setIfInBounds i true).setIfInBounds j true) = br := by
        cases hb : br with
        | false => rw [brk_set (hjB hb), brk_set (hC hb).1, hbr, hb]
        | true => exact brk_mono j (brk_mono i (by rw [hbr, hb]))
      refine wpOp_mono (fun a' w' h3 => ⟨fun h => h3.2.1 (by rw [hbij, ← hbj]; exact h), ih (listed.setIfInBounds j true) a' w' hbj (fun hb => ⟨(hC hb).1, h3.2.1 (by rw [hbij]; exact hb), fun b hbB => waitsQ_step hiun hj 12 b ((hC hb).2.2 b hbB)⟩) hfree' (ready_mono hr (Ne.symm hji)) h3.1 ?_⟩) h2
      rw [Array.setIfInBounds_comm _ _ hji]
      exact h3.2.2
theorem wpAnyB_pure {i : Nat} {oi : Oper} {v : Value} (hi : ops[i]? = some oi) (hiB : i ∉ B) (hsel : ∀ (j : Nat) (o : Oper) cs b, ops[j]? = some o → o.op ≠ .select cs b)
    (hQ : ∀ c a w, Q (.panic c) (a.put oi.dst v) w → Q (.panic c) a w) :
    ∀ (fuel : Nat) (listed : Array Bool) (a : Act) (w : World), (brk B listed = false → C w) →
      (∀ j oj, ops[j]? = some oj → j ≠ i → listed.getD j true = false → (∀ e ∈ oj.after, Region.binds md e = true → e.on ≠ i) → oi.apart ops oj = true) →
      i ∈ Region.ready md ops listed → YieldsM P ops (fun _ => True) oi v a →
      wpAnyB P md ops B C Q fuel (listed.setIfInBounds i true) (a.put oi.dst v) w → wpAnyB P md ops B C Q (fuel + 1) listed a w := by
  intro fuel
  induction fuel with
  | zero =>
    intro listed a w hC _ hr hy H
    refine ⟨fun h => (by rw [h] at hr; cases hr), fun j hj => ?_⟩
    by_cases hji : j = i
    · subst hji
      exact hy.wpOp hi trivial ⟨fun h => hC (by rw [← brk_set hiB]; exact h), H⟩
    · have := ready_mono hj hji
      rw [H.1] at this
      cases this
  | succ fuel ih =>
    intro listed a w hC hfree hr hy H
    refine ⟨fun h => (by rw [h] at hr; cases hr), fun j hj => ?_⟩
    by_cases hji : j = i
    · subst hji
      exact hy.wpOp hi trivial ⟨fun h => hC (by rw [← brk_set hiB]; exact h), H⟩
    · have h1 := H.2 j (ready_mono hj hji)
      obtain ⟨hjun, oj, hoj, hall⟩ := mem_ready.1 hj
      have hiun := (mem_ready.1 hr).1
      have hnot : ∀ e ∈ oj.after, Region.binds md e = true → e.on ≠ i := fun e he hb heq => by
        have h1 := hall e he hb
        rw [heq] at h1
        exact listed_both h1 hiun
      have h2 := wpOp_putM hoj (hfree j oj hoj hji hjun hnot) (fun cs b => hsel i oi cs b hi) (fun cs b => hsel j oj cs b hoj) hQ hy h1
      have hfree' : ∀ k ok, ops[k]? = some ok → k ≠ i → (listed.setIfInBounds j true).getD k true = false →
          (∀ e ∈ ok.after, Region.binds md e = true → e.on ≠ i) → oi.apart ops ok = true := fun k ok hk hki hun hno => by
        refine hfree k ok hk hki ?_ hno
        by_cases hjk : j = k
        · subst hjk; exact hjun
        · rw [getD_set_ne true hjk] at hun; exact hun
      have hbij : brk B ((listed.setIfInBounds i true).setIfInBounds j true) = brk B (listed.setIfInBounds j true) := by
        rw [Array.setIfInBounds_comm _ _ (Ne.symm hji), brk_set hiB]
      refine wpOp_mono (fun a' w' h3 => ⟨fun h => h3.2.1 (by rw [hbij]; exact h), ih (listed.setIfInBounds j true) a' w' (fun h => h3.2.1 (by rw [hbij]; exact h)) hfree' (ready_mono hr (Ne.symm hji)) h3.1 ?_⟩) h2
      rw [Array.setIfInBounds_comm _ _ hji]
      exact h3.2.2
inductive OrdT where
  | z
  | q (i : Nat) (r : OrdT)
  | p (i : Nat) (r : OrdT)
  | e (i : Nat) (r : OrdT)
  | b (i : Nat) (r : OrdT)
  | e2 (i : Nat) (r : OrdT) (j : Nat) (s : OrdT)
def OrdT.len : OrdT → Nat
  | .z => 0
  | .q _ r => r.len + 1
  | .p _ r => r.len + 1
  | .e _ r => r.len + 1
  | .b _ r => r.len + 1
  | .e2 _ r _ _ => r.len + 1
def wpOneT (P : Program) (ops : Array Oper) (C D : World → Prop) (Q : Exit → Act → World → Prop) (i : Nat) (K : Act → World → Prop) (a : Act) (w : World) : Prop :=
  ∃ o, ops[i]? = some o ∧ (if Region.wanted o (yielded ops a.tmps) = true then o.wp P a w (fun a' w' => D w' ∧ K a' w') Q else (C w → D w) ∧ K (a.put o.dst undef) w)
def wpMixT (P : Program) (ops : Array Oper) (Q : Exit → Act → World → Prop) : (World → Prop) → OrdT → Act → World → Prop
  | _, .z, a, w => Q .normal a w
  | C, .q i r, a, w => ∃ o v, ops[i]? = some o ∧ YieldsM P ops C o v a ∧ wpMixT P ops Q C r (a.put o.dst v) w
  | C, .p i r, a, w => ∃ o v, ops[i]? = some o ∧ YieldsM P ops (fun _ => True) o v a ∧ wpMixT P ops Q C r (a.put o.dst v) w
  | C, .e i r, a, w => wpOneT P ops C C Q i (wpMixT P ops Q C r) a w
  | C, .b i r, a, w => wpOneT P ops C (fun _ => True) Q i (wpMixT P ops Q (fun _ => True) r) a w
  | C, .e2 i r j s, a, w => wpOneT P ops C C Q i (wpMixT P ops Q C r) a w ∧ wpOneT P ops C C Q j (wpMixT P ops Q C s) a w
def mixOkT (md : Region.Mode) (ops : Array Oper) (B : List Nat) : Bool → OrdT → Array Bool → Bool
  | _, .z, listed => (Region.ready md ops listed).isEmpty
  | br, .q i r, listed => (Region.ready md ops listed).contains i && Region.free md ops listed i && (br || (decide (i ∉ B) && B.all fun b => waitsQ md ops listed i 12 b)) && mixOkT md ops B br r (listed.setIfInBounds i true)
  | br, .p i r, listed => (Region.ready md ops listed).contains i && Region.free md ops listed i && decide (i ∉ B) && mixOkT md ops B br r (listed.setIfInBounds i true)
  | br, .e i r, listed => decide (Region.ready md ops listed = [i]) && (br || decide (i ∉ B)) && mixOkT md ops B br r (listed.setIfInBounds i true)
  | _, .b i r, listed => decide (Region.ready md ops listed = [i]) && decide (i ∈ B) && decide (i < listed.size) && mixOkT md ops B true r (listed.setIfInBounds i true)
  | br, .e2 i r j s, listed => decide (Region.ready md ops listed = [i, j]) && (br || decide (i ∉ B)) && mixOkT md ops B br r (listed.setIfInBounds i true) && (br || decide (j ∉ B)) && mixOkT md ops B br s (listed.setIfInBounds j true) && decide (s.len = r.len)
def clsB (br : Bool) (C : World → Prop) : World → Prop := if br = true then fun _ => True else C
theorem wpOneT_op {i : Nat} {n : Nat} {listed : Array Bool} {a : Act} {w : World} {D D' : World → Prop} {K : Act → World → Prop} (hD : D w) (hob : ∀ w, D' w → brk B (listed.setIfInBounds i true) = false → C w)
    (ih : ∀ a' w', D' w' → K a' w' → wpAnyB P md ops B C Q n (listed.setIfInBounds i true) a' w') (h : wpOneT P ops D D' Q i K a w) :
    wpOp P ops Q i (fun a' w' => (brk B (listed.setIfInBounds i true) = false → C w') ∧ wpAnyB P md ops B C Q n (listed.setIfInBounds i true) a' w') a w := by
  obtain ⟨o, hi, h⟩ := h
  unfold wpOp
  simp only [hi]
  split
  · rename_i hw
    simp only [hw, if_true] at h
    exact .inl (Oper.wp_mono (fun a' w' h' => ⟨hob w' h'.1, ih a' w' h'.1 h'.2⟩) h)
  · rename_i hw
    simp only [hw] at h
    exact ⟨hob w (h.1 hD), ih _ _ (h.1 hD) h.2⟩
theorem wpAnyB_mixT (hs : Region.noSelect ops = true) (hQ : ∀ c a w, ¬ Q (.panic c) a w) : ∀ (l : OrdT) (br : Bool) (listed : Array Bool) (a : Act) (w : World), brk B listed = br → clsB br C w →
    mixOkT md ops B br l listed = true → wpMixT P ops Q (clsB br C) l a w → wpAnyB P md ops B C Q l.len listed a w
  | .z, br, listed, a, w, _, _, hB, h => ⟨by simpa [mixOkT] using hB, h⟩
  | .q i r, br, listed, a, w, hbr, hC, hB, h => by
    obtain ⟨o, v, hi, hy, h⟩ := h
    simp only [mixOkT, Bool.and_eq_true, Bool.or_eq_true, decide_eq_true_eq] at hB
    obtain ⟨⟨⟨hr, hf⟩, hb⟩, hB'⟩ := hB
    have hnb : br = false → i ∉ B ∧ ∀ b ∈ B, waitsQ md ops listed i 12 b = true := fun e => by
      rcases hb with hb | hb
      · rw [e] at hb; cases hb
      · exact ⟨hb.1, fun b hbB => List.all_eq_true.1 hb.2 b hbB⟩
    have hset : brk B (listed.setIfInBounds i true) = br := by
      cases e : br with
      | false => rw [brk_set (hnb e).1, hbr, e]
      | true => exact brk_mono i (by rw [hbr, e])
    refine wpAnyB_first hi (Region.noSelect_spec hs) (fun c a w h => absurd h (hQ c _ w)) br (C' := clsB br C) (fun w h => ?_) r.len listed a w hbr (fun e => ⟨(hnb e).1, ?_, (hnb e).2⟩) (Region.free_spec hi hf) (by simpa using hr) hy
      (wpAnyB_mixT hs hQ r br _ _ w hset hC hB' h)
    · unfold clsB
      split
      · trivial
      · rename_i e; exact h (by simpa using e)
    · unfold clsB at hC
      rw [e, if_neg (by decide)] at hC
      exact hC
  | .p i r, br, listed, a, w, hbr, hC, hB, h => by
    obtain ⟨o, v, hi, hy, h⟩ := h
    simp only [mixOkT, Bool.and_eq_true, decide_eq_true_eq] at hB
    obtain ⟨⟨⟨hr, hf⟩, hb⟩, hB'⟩ := hB
    refine wpAnyB_pure hi hb (Region.noSelect_spec hs) (fun c a w h => absurd h (hQ c _ w)) r.len listed a w (fun e => ?_) (Region.free_spec hi hf) (by simpa using hr) hy
      (wpAnyB_mixT hs hQ r br _ _ w (by rw [brk_set hb, hbr]) hC hB' h)
    unfold clsB at hC
    rw [← hbr, e, if_neg (by decide)] at hC
    exact hC
  | .e i r, br, listed, a, w, hbr, hC, hB, h => by
    simp only [mixOkT, Bool.and_eq_true, Bool.or_eq_true, decide_eq_true_eq] at hB
    obtain ⟨⟨hr, hb⟩, hB'⟩ := hB
    have hset : brk B (listed.setIfInBounds i true) = br := by
      cases e : br with
      | false => rw [brk_set (hb.resolve_left (by rw [e]; decide)), hbr, e]
      | true => exact brk_mono i (by rw [hbr, e])
    refine ⟨fun h0 => (by rw [h0] at hr; cases hr), fun j hj => ?_⟩
    rw [hr, List.mem_singleton] at hj
    subst hj
    exact wpOneT_op hC (fun w hD e => by rw [hset] at e; unfold clsB at hD; rw [e, if_neg (by decide)] at hD; exact hD) (fun a' w' hD h' => wpAnyB_mixT hs hQ r br _ a' w' hset hD hB' h') h
  | .b i r, br, listed, a, w, hbr, hC, hB, h => by
    simp only [mixOkT, Bool.and_eq_true, decide_eq_true_eq] at hB
    obtain ⟨⟨⟨hr, hb⟩, hlt⟩, hB'⟩ := hB
    have hset : brk B (listed.setIfInBounds i true) = true := List.any_eq_true.2 ⟨i, hb, by simp [hlt]⟩
    refine ⟨fun h0 => (by rw [h0] at hr; cases hr), fun j hj => ?_⟩
    rw [hr, List.mem_singleton] at hj
    subst hj
    exact wpOneT_op hC (fun w _ e => by rw [hset] at e; cases e) (fun a' w' _ h' => wpAnyB_mixT hs hQ r true _ a' w' hset (by unfold clsB; rw [if_pos rfl]; trivial) hB' (by unfold clsB; rw [if_pos rfl]; exact h')) h
  | .e2 i r j s, br, listed, a, w, hbr, hC, hB, h => by
    simp only [mixOkT, Bool.and_eq_true, Bool.or_eq_true, decide_eq_true_eq] at hB
    obtain ⟨⟨⟨⟨⟨hr, hb1⟩, hB'⟩, hb2⟩, hB2⟩, hlen⟩ := hB
    have hset : ∀ k, (br = true ∨ k ∉ B) → brk B (listed.setIfInBounds k true) = br := fun k hb => by
      cases e : br with
      | false => rw [brk_set (hb.resolve_left (by rw [e]; decide)), hbr, e]
      | true => exact brk_mono k (by rw [hbr, e])
    refine ⟨fun h0 => (by rw [h0] at hr; cases hr), fun k hk => ?_⟩
    rw [hr] at hk
    rcases List.mem_cons.1 hk with rfl | hk
    · exact wpOneT_op hC (fun w hD e => by rw [hset k hb1] at e; unfold clsB at hD; rw [e, if_neg (by decide)] at hD; exact hD) (fun a' w' hD h' => wpAnyB_mixT hs hQ r br _ a' w' (hset k hb1) hD hB' h') h.1
    · rw [List.mem_singleton] at hk
      subst hk
      refine wpOneT_op hC (fun w hD e => by rw [hset k hb2] at e; unfold clsB at hD; rw [e, if_neg (by decide)] at hD; exact hD) (fun a' w' hD h' => ?_) h.2
      have := wpAnyB_mixT hs hQ s br _ a' w' (hset k hb2) hD hB2 h'
      rw [hlen] at this
      exact this
theorem wp_region_mixT {id : Nat} {a : Act} {w : World} {l : List Oper} (B : List Nat) (C : World → Prop) (ord : OrdT) (hm : P.follows .mixedOrders = true) (hB : (Region.noSelect l.toArray && !(brk B (Array.replicate l.length false)) && mixOkT .any l.toArray B false ord (Array.replicate l.length false) && decide (ord.len = l.length)) = true)
    (hC : ∀ w1, Drewn w w1 → C w1) (h : ∀ K : Act → World → Prop, (∀ a' w', Q .normal a' w' → K a' w') → ∀ w1, Drewn w w1 → wpMixT P l.toArray (Exit.then K (fun _ _ _ => False)) C ord a w1) : (Code.region id l.toArray true).wp P Q a w := by
  simp only [Bool.and_eq_true, decide_eq_true_eq, Bool.not_eq_true'] at hB
  obtain ⟨⟨⟨h1, h4⟩, h2⟩, h3⟩ := hB
  have H := h (fun a' w' => Q .normal a' w') (fun _ _ h => h) w.drew rfl
  have H2 := wpAnyB_mixT (md := .any) (C := C) h1 (Q := Exit.then (fun a' w' => Q .normal a' w') (fun _ _ _ => False)) (fun _ _ _ h => h) ord false (Array.replicate l.length false) a w.drew h4 (by unfold clsB; rw [if_neg (by decide)]; exact hC _ rfl) h2 (by unfold clsB; rw [if_neg (by decide)]; exact H)
  refine Code.wp_mono (Q := Exit.then (fun a' w' => Q .normal a' w') (fun _ _ _ => False)) (fun e a w q => by cases e <;> first | exact q | exact q.elim) ?_
  refine wp_region_any hm ?_
  have H3 := wpAny_of_B _ _ _ _ H2
  rw [h3] at H3
  simpa using H3
theorem mixT_p {i : Nat} {r : OrdT} {o : Oper} {a : Act} {w : World} (hi : ops[i]? = some o)
    (h : ∀ K : Act → Prop, (∀ a', wpMixT P ops Q C r a' w → K a') → if Region.wanted o (yielded ops a.tmps) then ∃ v, (∀ w, Oper.quietUpon P (fun w'' => w'' = w) w v ((execOp a.eval o).run P w)) ∧ K (a.put o.dst v) else K (a.put o.dst undef)) :
    wpMixT P ops Q C (.q i r) a w := by
  have := h (fun a' => wpMixT P ops Q C r a' w) (fun _ h => h)
  by_cases hw : Region.wanted o (yielded ops a.tmps) = true
  · rw [if_pos hw] at this
    obtain ⟨v, h1, h2⟩ := this
    exact ⟨o, v, hi, .inl ⟨hw, fun w _ => h1 w⟩, h2⟩
  · rw [if_neg hw] at this
    exact ⟨o, undef, hi, .inr ⟨by simpa using hw, rfl⟩, this⟩
theorem mixT_pp {i : Nat} {r : OrdT} {o : Oper} {a : Act} {w : World} (hi : ops[i]? = some o)
    (h : ∀ K : Act → Prop, (∀ a', wpMixT P ops Q C r a' w → K a') → if Region.wanted o (yielded ops a.tmps) then ∃ v, (∀ w, Oper.quietUpon P (fun w'' => w'' = w) w v ((execOp a.eval o).run P w)) ∧ K (a.put o.dst v) else K (a.put o.dst undef)) :
    wpMixT P ops Q C (.p i r) a w := by
  have := h (fun a' => wpMixT P ops Q C r a' w) (fun _ h => h)
  by_cases hw : Region.wanted o (yielded ops a.tmps) = true
  · rw [if_pos hw] at this
    obtain ⟨v, h1, h2⟩ := this
    exact ⟨o, v, hi, .inl ⟨hw, fun w _ => h1 w⟩, h2⟩
  · rw [if_neg hw] at this
    exact ⟨o, undef, hi, .inr ⟨by simpa using hw, rfl⟩, this⟩
theorem mixT_loadR {i : Nat} {r : OrdT} {o : Oper} {a : Act} {w : World} {t : TypeId} {x : Operand} {p : Value} (v : Value) (hi : ops[i]? = some o) (hg : o.guard = none) (ho : o.op = .load t x) (hx : a.eval x = p)
    (hr : ∀ w', C w' → (Instr.loadAt t p).run P w' = .ok v w') (h : wpMixT P ops Q C r (a.put o.dst v) w) : wpMixT P ops Q C (.q i r) a w := by
  refine ⟨o, v, hi, .inl ⟨by simp [Region.wanted, hg], fun w hC => ?_⟩, h⟩
  have h2 := hr w hC
  unfold execOp
  simp only [ho, hx, Sem.run_bind, h2, Result.andThen_ok, Sem.run_pure, Oper.quietUpon, and_self]
theorem mixT_one {K0 K1 : Act → World → Prop} {D : World → Prop} {i : Nat} {o : Oper} {a : Act} {w : World} (hi : ops[i]? = some o) (hg : o.guard = none)
    (h : ∀ K : Act → World → Prop, (∀ a' w', (D w' ∧ K1 a' w') → K a' w') → wpList P ops (Exit.then K (fun _ _ _ => False)) [o] a w) :
    wpOneT P ops C D (Exit.then K0 (fun _ _ _ => False)) i K1 a w := by
  have := h _ (fun _ _ h => h)
  have hw : Region.wanted o (yielded ops a.tmps) = true := by simp [Region.wanted, hg]
  refine ⟨o, hi, ?_⟩
  rw [if_pos hw]
  exact wp_of_list hg this
theorem mixT_l {K0 : Act → World → Prop} {i : Nat} {r : OrdT} {o : Oper} {a : Act} {w : World} (hi : ops[i]? = some o) (hg : o.guard = none)
    (h : ∀ K : Act → World → Prop, (∀ a' w', (C w' ∧ wpMixT P ops (Exit.then K0 (fun _ _ _ => False)) C r a' w') → K a' w') → wpList P ops (Exit.then K (fun _ _ _ => False)) [o] a w) :
    wpMixT P ops (Exit.then K0 (fun _ _ _ => False)) C (.e i r) a w := mixT_one hi hg h
theorem mixT_b {K0 : Act → World → Prop} {i : Nat} {r : OrdT} {o : Oper} {a : Act} {w : World} (hi : ops[i]? = some o) (hg : o.guard = none)
    (h : ∀ K : Act → World → Prop, (∀ a' w', (True ∧ wpMixT P ops (Exit.then K0 (fun _ _ _ => False)) (fun _ => True) r a' w') → K a' w') → wpList P ops (Exit.then K (fun _ _ _ => False)) [o] a w) :
    wpMixT P ops (Exit.then K0 (fun _ _ _ => False)) C (.b i r) a w := mixT_one hi hg h
theorem mixT_2 {i j : Nat} {r s : OrdT} {a : Act} {w : World} (h1 : wpOneT P ops C C Q i (wpMixT P ops Q C r) a w) (h2 : wpOneT P ops C C Q j (wpMixT P ops Q C s) a w) : wpMixT P ops Q C (.e2 i r j s) a w := ⟨h1, h2⟩
theorem mixT_nil {a : Act} {w : World} (h : Q .normal a w) : wpMixT P ops Q C .z a w := h
theorem mpT {R g : Prop} (h : R) (e : Kp R → g := by intro h9; (repeat ((first | refine mixT_pp rfl (fun K hK => ?_) | refine mixT_p rfl (fun K hK => ?_)); go_simp; (try go_bits); (try simp (disch := omega) only [if_pos, if_neg, dif_pos, dif_neg]); (try go_simp); (refine hK _ ?_; clear hK K))); exact h9.out) : g := e ⟨h⟩
end
end Go.Proofs.YtmlpkejeglpciaaGreatDoor

/- (*Log).put: an event is put at its place. -/
namespace Go.Proofs.YtmlpkejeglpciaaGreatDoor
open Go Go.RowKit
abbrev logP (X : Nat) (K : Option Addr) (n ck : Nat) (v : Value) (B : Nat) (qs : List EQ) (AT : Nat) (La : List (ByteArray × Value)) (GN : Nat) (ch : List Chunk) : List Chunk :=
  .loc X (logCs K n ck v AT GN) 83 :: .own rEQ B 47 v qs :: .flds qs :: .mapG keyStr AT La :: ch
def GivesPut (X : Nat) (K : Option Addr) (n ck : Nat) (B : Nat) (qs : List EQ) (AT : Nat) (La : List (ByteArray × Value)) (GN : Nat) (x : Evt) (w0 : World) (ch : List Chunk) (e : Ending) (w' : World) : Prop :=
  ∃ (i : Nat) (q : EQ) (v' : Value), e = .returned (.tuple #[]) ∧ q.e = x ∧ IsPlE (qs.map EQ.e) x i ∧ Mem w0 w' (logP X K n ck v' B (qs.take i ++ q :: qs.drop i) AT (updG x.id (.int .i64 x.at') La) GN ch)
theorem loadEvA {w : World} {X : Nat} {a b c d e f : Value} (h : LV w X #[a, b, c, d, e, f] 47) : (Instr.loadAt 47 (.pointer (some ⟨X, 0, none⟩))).run Tryz.prog w = .ok (.agg #[a, b, c, d, e, f]) w := by
  have c0 := h.all
  go_simp
theorem loadC1 {P : Program} {t : TypeId} {ad : Addr} {v : Value} {w : World} (hty : (isAgg t).run P w = .ok false w) (hc : w.cell? ad = some v) : (Instr.loadAt t (.pointer (some ad))).run P w = .ok v w := by
  simp only [Instr.loadAt, Instr.sureAddr, loadVar, Sem.run_bind, Sem.run_pure, Result.andThen_ok, hty, Bool.false_eq_true, if_false]
  simp [load, Sem.run, hc]
set_option maxHeartbeats 8000000 in
set_option maxRecDepth 100000 in
theorem put_log {w0 w : World} (ch : List Chunk) (X : Nat) (K : Option Addr) (n ck : Nat) (v : Value) (B : Nat) (qs : List EQ) (AT : Nat) (La : List (ByteArray × Value)) (GN : Nat) (x : Evt) (A : Option Addr) (c : Nat) (S : Mem w0 w (logP X K n ck v B qs AT La GN ch))
    (hF : Sl rFld (fun _ => False) w A x.flds) (hfl : x.flds.length ≤ 1000) (hlo : LogE (qs.map EQ.e)) (hl : qs.length ≤ 900) (hB : B ≤ w.heap.size) :
    Calls Tryz.prog 54 #[.pointer (some ⟨X, 0, none⟩), .agg (evCs x A c)] w (GivesPut X K n ck B qs AT La GN x w0 ch) := by
  obtain ⟨A0, c0, rfl⟩ := (S.ow 1 rfl).len
  have HF := Lib.hid (fun w' (h : Below w.heap.size w w') => copyEv_any x A c w' (hF.keepB h) hfl)
  have hS := (S.ow 1 rfl).slF flatEQ
  have HBs := Lib.hid (fun w' (h : Below w.heap.size w w') => bsEv_any (fun _ => False) A0 qs x A c c0 w' (hS.keepB h) (Nat.le_trans hl (by decide)) (logE_q hlo))
  obtain ⟨Y, hY⟩ : ∃ Y, Y = w.heap.size := ⟨_, rfl⟩
  have S1 : Mem w0 _ (.loc Y (evCs x A c) 47 :: logP X K n ck (.slice A0 qs.length c0) B qs AT La GN ch) := (S.newAt (evCs x A c) 47 Y hY).front
  have hb1 : Below w.heap.size w (w.alloc (.cells (evCs x A c) 47)) := (Below.refl _ _).alloc (Nat.le_refl _) _
  have Hl := Lib.hid hl
  have HB := Lib.hid hB
  clear hF hfl hlo hS S hl hB
  go_enter Tryz.func54, Tryz.ntmps54
  go_upto_region 1 with fail
  rw [← hY]
  clear hY
  generalize w.alloc (.cells (evCs x A c) 47) = w1 at *
  refine wp_region_mixT [] (fun wx => LV wx X (logCs K n ck (.slice A0 qs.length c0) AT GN) 83 ∧ LV wx Y (evCs x A c) 47) (.p 0 (.p 1 (.p 2 (.q 3 (.q 4 (.e 5 (.p 6 (.p 7 (.p 8 (.p 9 (.p 10 .z))))))))))) (by kernel_rfl) (by kernel_rfl) (fun _ hd => ⟨(S1.below (hd.below _)).lv 1 rfl, (S1.below (hd.below _)).lv 0 rfl⟩) (fun KK hKK wd hd => ?_)
  have S := S1.below (hd.below _)
  have hbd := hb1.trans ((hd.below w1.heap.size).mono hb1.size)
  clear hd S1 hb1
  refine mpT ?_
  refine mixT_loadR (.slice A0 qs.length c0) rfl rfl rfl rfl (fun w' h => loadC1 rfl (h.1.cell 1 _ rfl)) ?_
  refine mpT ?_
  refine mixT_loadR (.agg (evCs x A c)) rfl rfl rfl rfl (fun w' h => loadEvA h.2) ?_
  refine mixT_l rfl rfl (fun K9 hK9 => ?_)
  have HS := Lib.hid S
  have Hbd := Lib.hid hbd
  have Hb := Lib.hid (HBs.out wd hbd)
  clear S hbd HBs
  go_wp2_with fail
  refine (Hb.out).mono ?_
  rintro e w3 ⟨i, b, rfl, hil, hlo, hhi, _, hb⟩
  have S := HS.out.below hb
  have Hp := Lib.hid (plE_of hil hlo hhi)
  have Hil := Lib.hid hil
  have Hb3 := Lib.hid (Hbd.out.trans (hb.mono Hbd.out.size))
  have hC := (⟨S.lv 1 rfl, S.lv 0 rfl⟩ : LV w3 X (logCs K n ck (.slice A0 qs.length c0) AT GN) 83 ∧ LV w3 Y (evCs x A c) 47)
  clear HS hb hlo hhi hil Hb Hbd
  go_wp2_with fail
  refine ⟨hC, ?_⟩
  clear hC
  refine mpT ?_
  refine mixT_nil ?_
  simp only [Exit.then]
  refine hKK _ _ ?_
  clear hKK KK
  go_upto_region 2 with fail
  refine wp_region_mixT [12] (fun wx => LV wx X (logCs K n ck (.slice A0 qs.length c0) AT GN) 83 ∧ LV wx Y (evCs x A c) 47) (.p 0 (.p 1 (.p 2 (.p 3 (.q 4 (.p 5 (.q 6 (.e 7 (.e 8 (.e 9 (.p 10 (.p 11 (.b 12 .z))))))))))))) (by kernel_rfl) (by kernel_rfl) (fun _ hd => ⟨(S.below (hd.below _)).lv 1 rfl, (S.below (hd.below _)).lv 0 rfl⟩) (fun KK hKK wd hd => ?_)
  have HS : Hid (Mem w0 wd (.loc Y (evCs x A c) 47 :: logP X K n ck (.slice A0 qs.length c0) B qs AT La GN ch)) := S.below (hd.below _)
  have Hbd := Lib.hid (Hb3.out.trans ((hd.below w3.heap.size).mono Hb3.out.size))
  clear hd S Hb3
  refine mpT ?_
  refine mixT_loadR (.slice A0 qs.length c0) rfl rfl rfl rfl (fun w' h => loadC1 rfl (h.1.cell 1 _ rfl)) ?_
  refine mpT ?_
  refine mixT_loadR (.agg (evCs x A c)) rfl rfl rfl rfl (fun w' h => loadEvA h.2) ?_
  refine mixT_l rfl rfl (fun K9 hK9 => ?_)
  have Hc := Lib.hid (HF.out wd Hbd.out)
  go_wp2_with fail
  refine (Hc.out).mono ?_
  rintro e w4 ⟨A1, c1, rfl, T4⟩
  have S4 := HS.out.join T4
  have hC := (⟨S4.lv 1 rfl, S4.lv 0 rfl⟩ : LV w4 X (logCs K n ck (.slice A0 qs.length c0) AT GN) 83 ∧ LV w4 Y (evCs x A c) 47)
  have HS4 := Lib.hid S4
  have Hb4 := Lib.hid (Hbd.out.trans (T4.b.mono Hbd.out.size))
  clear S4 T4 Hc HS HF Hbd
  go_wp2_with fail
  refine ⟨hC, ?_⟩
  clear hC
  refine mixT_l rfl rfl (fun K9 hK9 => ?_)
  obtain ⟨q, hq⟩ : ∃ q : EQ, q = ⟨x, A1, c1⟩ := ⟨_, rfl⟩
  obtain ⟨Z, hZ⟩ : ∃ Z, Z = w4.heap.size := ⟨_, rfl⟩
  have S5 := HS4.out.newAt (evCs x A1 c1) 47 Z hZ
  have Hb5 : Hid (Below w.heap.size w (w4.alloc (.cells (evCs x A1 c1) 47))) := Hb4.out.alloc Hb4.out.size _
  go_wp2_with fail
  rw [← hZ]
  clear hZ HS4
  generalize World.alloc _ _ = w6 at S5 Hb5 ⊢
  refine ⟨⟨S5.lv 1 rfl, S5.lv 0 rfl⟩, ?_⟩
  refine mixT_l rfl rfl (fun K9 hK9 => ?_)
  have S6 : Mem w0 w6 (.own rEQ B 47 (.slice A0 qs.length c0) qs :: .loc Z (eqCs q) 47 :: .loc Y (evCs x A c) 47 :: .loc X (logCs K n ck (.slice A0 qs.length c0) AT GN) 83 :: .flds qs :: .mapG keyStr AT La :: (ch ++ [.sl rFld A1 x.flds])) := by
    rw [hq]
    exact S5.front.perm ((List.perm_append_comm (l₁ := [Chunk.loc Z (evCs x A1 c1) 47, .loc Y (evCs x A c) 47, .loc X (logCs K n ck (.slice A0 qs.length c0) AT GN) 83]) (l₂ := [Chunk.own rEQ B 47 (.slice A0 qs.length c0) qs])).append_right _)
  have Hin := Lib.hid (insEq_any i q Z S6 (Nat.le_trans HB.out Hb5.out.size) (Nat.le_trans Hl.out (by decide)) Hil.out)
  have hqx : q.e = x := by rw [hq]
  have hqA : q.A = A1 := by rw [hq]
  clear S6 S5 hq
  go_wp2_with fail
  refine (Hin.out).mono ?_
  rintro e w7 ⟨v7, rfl, S7⟩
  have S8 : Mem w0 w7 (.sl rFld A1 x.flds :: .own rEQ B 47 v7 (qs.take i ++ q :: qs.drop i) :: .loc Y (evCs x A c) 47 :: .loc X (logCs K n ck (.slice A0 qs.length c0) AT GN) 83 :: .flds qs :: .mapG keyStr AT La :: ch) := Mem.front (cs := .own rEQ B 47 v7 (qs.take i ++ q :: qs.drop i) :: .loc Y (evCs x A c) 47 :: .loc X (logCs K n ck (.slice A0 qs.length c0) AT GN) 83 :: .flds qs :: .mapG keyStr AT La :: ch) (Mem.del S7 1)
  have S9 : Mem w0 w7 (.sl rFld A1 x.flds :: .own rEQ B 47 v7 (qs.take i ++ q :: qs.drop i) :: .loc Y (evCs x A c) 47 :: .loc X (logCs K n ck (.slice A0 qs.length c0) AT GN) 83 :: .flds (qs.take i ++ q :: qs.drop i) :: .mapG keyStr AT La :: ch) := S8.insFl 4 0 rfl rfl q hqA (by rw [hqx]) ins_mem
  obtain ⟨q2, hq2⟩ : ∃ q2, qs.take i ++ q :: qs.drop i = q2 := ⟨_, rfl⟩
  have Hfin : Hid (∀ v' w', Mem w0 w' (logP X K n ck v' B q2 AT (updG x.id (.int .i64 x.at') La) GN ch) → GivesPut X K n ck B qs AT La GN x w0 ch (.returned (.tuple #[])) w') := fun v' w' h => ⟨i, q, v', rfl, hqx, Hp.out, by rw [hq2]; exact h⟩
  rw [hq2] at S9
  have hC := (⟨S9.lv 3 rfl, S9.lv 2 rfl⟩ : LV w7 X (logCs K n ck (.slice A0 qs.length c0) AT GN) 83 ∧ LV w7 Y (evCs x A c) 47)
  obtain ⟨A7, c7, rfl⟩ := (S9.ow 1 rfl).len
  have HS9 := Lib.hid S9
  have l0 := hC.1.all
  clear Hin S7 S8 S9 hq2 hqx hqA
  go_wp2_with fail
  refine ⟨hC, ?_⟩
  clear hC
  refine mpT ?_
  refine mixT_b rfl rfl (fun K9 hK9 => ?_)
  have S10 := HS9.out.set 3 1 (.slice A7 q2.length c7) rfl
  have HS10 : Hid (Mem w0 _ (.sl rFld A1 x.flds :: .own rEQ B 47 (.slice A7 q2.length c7) q2 :: .loc Y (evCs x A c) 47 :: .loc X (logCs K n ck (.slice A7 q2.length c7) AT GN) 83 :: .flds q2 :: .mapG keyStr AT La :: ch)) := S10
  clear S10 HS9
  go_wp2_with fail
  refine ⟨trivial, ?_⟩
  refine mixT_nil ?_
  simp only [Exit.then]
  refine hKK _ _ ?_
  clear hKK KK l0
  generalize World.setCell _ _ _ = w8 at HS10 ⊢
  have S := HS10.out
  clear HS10
  go_upto_region 3 with fail
  refine wp_region_mixT [8] (fun wx => LV wx X (logCs K n ck (.slice A7 q2.length c7) AT GN) 83 ∧ LV wx Y (evCs x A c) 47) (.p 0 (.p 1 (.p 2 (.q 3 (.p 4 (.q 5 (.p 6 (.q 7 (.b 8 .z))))))))) (by kernel_rfl) (by kernel_rfl) (fun _ hd => ⟨(S.below (hd.below _)).lv 3 rfl, (S.below (hd.below _)).lv 2 rfl⟩) (fun KK hKK wd hd => ?_)
  have HS := Lib.hid (S.below (hd.below _))
  clear hd S
  refine mpT ?_
  refine mixT_loadR (.map (some AT)) rfl rfl rfl rfl (fun w' h => loadC1 rfl (h.1.cell 2 _ rfl)) ?_
  refine mpT ?_
  refine mixT_loadR (.string x.id) rfl rfl rfl rfl (fun w' h => loadC1 rfl (h.2.cell 0 _ rfl)) ?_
  refine mpT ?_
  refine mixT_loadR (.int .i64 x.at') rfl rfl rfl rfl (fun w' h => loadC1 rfl (h.2.cell 2 _ rfl)) ?_
  refine mixT_b rfl rfl (fun K9 hK9 => ?_)
  go_simp
  refine HS.out.putG 5 rfl (T := 80) (E := 3) (by kernel_rfl) rfl _ _ _ rfl rfl x.id rfl (.int .i64 x.at') rfl ?_
  intro w9 S9
  have HS9 : Hid (Mem w0 w9 (logP X K n ck (.slice A7 q2.length c7) B q2 AT (updG x.id (.int .i64 x.at') La) GN ch)) := by
    have h1 : Mem w0 w9 (.sl rFld A1 x.flds :: .own rEQ B 47 (.slice A7 q2.length c7) q2 :: .loc Y (evCs x A c) 47 :: .loc X (logCs K n ck (.slice A7 q2.length c7) AT GN) 83 :: .flds q2 :: .mapG keyStr AT (updG x.id (.int .i64 x.at') La) :: ch) := S9
    exact ((h1.del 2).del 0).perm (List.Perm.swap _ _ _)
  go_wp2_with fail
  refine ⟨trivial, ?_⟩
  refine mixT_nil ?_
  simp only [Exit.then]
  refine hKK _ _ ?_
  clear hKK KK HS
  clear S9
  go_wp2_with fail
  exact bodyPost_ret (results_none rfl _ _ _) rfl (Hfin.out _ _ HS9.out)
end Go.Proofs.YtmlpkejeglpciaaGreatDoor

/- slices.Delete of one event, from a slice of the call's own. -/
namespace Go.Proofs.YtmlpkejeglpciaaGreatDoor
open Go Go.RowKit
theorem zeroEvtD (w : World) : (zeroValue 47).run Tryz.prog w = .ok (.agg #[.string ⟨#[]⟩, .string ⟨#[]⟩, .int .i64 0, .int .i64 0, .string ⟨#[]⟩, .slice none 0 0]) w := by kernel_rfl
theorem oneZED (j : Nat) (h : j < rEQ.size) : (((Value.agg #[.string ⟨#[]⟩, .string ⟨#[]⟩, .int .i64 0, .int .i64 0, .string ⟨#[]⟩, .slice none 0 0]).cells)[j]!).oneCell' = true := by
  have h : j < 6 := h
  rcases (by omega : j = 0 ∨ j = 1 ∨ j = 2 ∨ j = 3 ∨ j = 4 ∨ j = 5) with rfl | rfl | rfl | rfl | rfl | rfl <;> rfl
theorem step_append_runE {ops : Array Oper} {o : Oper} {a : Act} {w : World} {K : Act → World → Prop} {Q : Exit → Act → World → Prop} {E : Prop} (hgd : o.guard = none) (d s : Operand) (t t' : TypeId)
    (ho : o.op = .call { callee := .builtin .append, args := #[d, s], argTypes := #[t, t'] }) (v u : Value) (hd : a.eval d = v) (hs : a.eval s = u) {v' : Value} {w' : World} (hr : (Builtin.append_ #[t, t'] o.type #[v, u]).run Tryz.prog w = .ok v' w')
    (h : K (a.put o.dst v') w') : if Region.wanted o (yielded ops a.tmps) = true then Oper.wp Tryz.prog o a w K Q else E := by
  have hw : Region.wanted o (yielded ops a.tmps) = true := by simp [Region.wanted, hgd]
  rw [if_pos hw]
  unfold Oper.wp
  simp [execOp, ho, resolve, invoke, builtin, hd, hs, hr, Result.andThen]
  exact h
theorem del_cellsE (xs : List EQ) (i n cap : Nat) (cur : List Value) (hn : n = xs.length) (hc : cur.length = cap * 6) (hcap : n ≤ cap) (hi : i < n) (ht : cur.take (xs.length * 6) = (xs.map EQ.cells).flatten) (z : EQ) (hz : xs[n - 1]? = some z) :
    (cur.take (i * 6) ++ ((xs.drop (i + 1)).map EQ.cells).flatten ++ cur.drop (i * 6 + ((xs.drop (i + 1)).map EQ.cells).flatten.length)).length = cap * 6 ∧
    (cur.take (i * 6) ++ ((xs.drop (i + 1)).map EQ.cells).flatten ++ cur.drop (i * 6 + ((xs.drop (i + 1)).map EQ.cells).flatten.length)).take ((xs.take i ++ xs.drop (i + 1) ++ [z]).length * 6) = ((xs.take i ++ xs.drop (i + 1) ++ [z]).map EQ.cells).flatten := by
  have hml : ∀ ys : List EQ, (ys.map EQ.cells).flatten.length = ys.length * 6 := fun ys => map_flat_len (r := rEQ) (fun _ => rfl) ys
  have hdl : ((xs.drop (i + 1)).map EQ.cells).flatten.length = (n - 1 - i) * 6 := by rw [hml, List.length_drop]; omega
  have t1 : cur.take (i * 6) = ((xs.take i).map EQ.cells).flatten := by
    have h1 : (cur.take (xs.length * 6)).take (i * 6) = ((xs.map EQ.cells).flatten).take (i * 6) := by rw [ht]
    rw [List.take_take, Nat.min_eq_left (by omega)] at h1
    rw [h1]
    conv => lhs; rw [← List.take_append_drop i xs, List.map_append, List.flatten_append]
    rw [List.take_left' (by rw [hml, List.length_take, Nat.min_eq_left (by omega)])]
  have t2 : (cur.drop ((n - 1) * 6)).take 6 = EQ.cells z := by
    have h1 : (cur.take (xs.length * 6)).drop ((n - 1) * 6) = ((xs.map EQ.cells).flatten).drop ((n - 1) * 6) := by rw [ht]
    rw [List.drop_take, show xs.length * 6 - (n - 1) * 6 = 6 by omega] at h1
    rw [h1]
    conv => lhs; rw [← List.take_append_drop (n - 1) xs, List.map_append, List.flatten_append]
    rw [List.drop_left' (by rw [hml, List.length_take, Nat.min_eq_left (by omega)])]
    have h2 : xs.drop (n - 1) = [z] := by
      have h3 : n - 1 < xs.length := by omega
      rw [List.drop_eq_getElem_cons h3, show n - 1 + 1 = xs.length by omega, List.drop_length]
      rw [List.getElem?_eq_getElem h3] at hz
      rw [Option.some.inj hz]
    rw [h2]; rfl
  constructor
  · rw [List.length_append, List.length_append, List.length_take, List.length_drop, hdl, hc]
    omega
  · rw [hdl, show i * 6 + (n - 1 - i) * 6 = (n - 1) * 6 by omega, t1]
    have hl : (xs.take i ++ xs.drop (i + 1) ++ [z]).length * 6 = (((xs.take i).map EQ.cells).flatten ++ ((xs.drop (i + 1)).map EQ.cells).flatten).length + 6 := by
      rw [List.length_append, List.length_append, List.length_append, hml, hml, List.length_singleton]; omega
    rw [hl, List.take_append, List.take_of_length_le (by omega), show (((xs.take i).map EQ.cells).flatten ++ ((xs.drop (i + 1)).map EQ.cells).flatten).length + 6 - (((xs.take i).map EQ.cells).flatten ++ ((xs.drop (i + 1)).map EQ.cells).flatten).length = 6 by omega, t2]
    rw [List.map_append, List.map_append, List.flatten_append, List.flatten_append]
    simp
def GivesDelEq (xs : List EQ) (w0 : World) (cs : List Chunk) (B g cap : Nat) (e : Ending) (w' : World) : Prop := e = .returned (.slice (some ⟨g, 0, none⟩) xs.length cap) ∧ Mem w0 w' (.own rEQ B 47 (.slice (some ⟨g, 0, none⟩) xs.length cap) xs :: cs)
set_option maxHeartbeats 8000000 in
set_option maxRecDepth 100000 in
theorem delEq_any {w0 w : World} {cs : List Chunk} {B g n cap : Nat} {xs : List EQ} (i : Nat) (S : Mem w0 w (.own rEQ B 47 (.slice (some ⟨g, 0, none⟩) n cap) xs :: cs)) (hn1 : n = xs.length) (hi : i < n) (hl : n ≤ 1000) :
    Calls Tryz.prog 114 #[.slice (some ⟨g, 0, none⟩) n cap, .int .i64 i, .int .i64 ((i : Int) + 1)] w (GivesDelEq (xs.take i ++ xs.drop (i + 1)) w0 cs B g cap) := by
  obtain ⟨cur, hg, hna, hnc, hcm, hcs, htk, _⟩ := (S.ow 0 rfl).openF flatEQ
  obtain ⟨z, hz⟩ : ∃ z, xs[n - 1]? = some z := ⟨_, List.getElem?_eq_getElem (by omega)⟩
  obtain ⟨i0, hi0, hz0, hzs, hzb⟩ := info_parts tyEvt.info
  have hcell := del_cellsE xs i n cap cur.toList hn1 (by rw [Array.length_toList]; exact hcs) hnc hi htk z hz
  have hfc := Sl.flatCells flatEQ (fun _ => rfl) ((S.ow 0 rfl).slF flatEQ)
  obtain ⟨D, hD⟩ : ∃ D, ((xs.drop (i + 1)).map EQ.cells).flatten = D := ⟨_, rfl⟩
  have hDl : D.length = (n - 1 - i) * 6 := by rw [← hD, map_flat_len (r := rEQ) (fun _ => rfl), List.length_drop, hn1]; show (xs.length - (i + 1)) * 6 = _; omega
  rw [hD] at hcell
  obtain ⟨c1, hc1⟩ : ∃ c1 : List Value, cur.toList.take (i * 6) ++ D ++ cur.toList.drop (i * 6 + D.length) = c1 := ⟨_, rfl⟩
  rw [hc1] at hcell
  have hD5 : ∀ j u, D[j]? = some u → w.drew.cell? ((⟨g, (i + 1) * 6, none⟩ : Addr).add j) = some u := fun j u hj => by
    have h1 : ((xs.map EQ.cells).flatten)[(i + 1) * 6 + j]? = some u := by
      have hml : ((xs.take (i + 1)).map EQ.cells).flatten.length = (i + 1) * 6 := by
        rw [map_flat_len (r := rEQ) (fun _ => rfl), List.length_take, Nat.min_eq_left (by omega)]; rfl
      conv => lhs; rw [← List.take_append_drop (i + 1) xs, List.map_append, List.flatten_append]
      rw [List.getElem?_append_right (by omega), hml, Nat.add_sub_cancel_left, hD]
      exact hj
    have h2 := hfc ((i + 1) * 6 + j) u h1
    rw [Addr.add_lit, Nat.zero_add] at h2
    rw [Addr.add_lit]
    exact h2
  have hap : ∀ ty ad sc, (∀ j u, D[j]? = some u → w.drew.cell? (Addr.add ad j) = some u) → (Builtin.append_ #[36, 36] ty #[.slice (some ⟨g, 0, none⟩) i cap, .slice (some ad) (n - (i + 1)) sc]).run Tryz.prog w.drew = .ok (.slice (some ⟨g, 0, none⟩) (n - 1) cap) (w.drew.setRow g c1.toArray) := fun ty ad sc hD5 => by
    have h1 := run_append_room (P := Tryz.prog) w.drew 36 ty 47 i0 tyEvt.under hi0 g i cap cur hg ad (n - (i + 1)) sc D (by rw [hzs, hDl, show n - 1 - i = n - (i + 1) by omega]; rfl) hD5 (fun u hu => by
      rw [← hD] at hu
      obtain ⟨l, hl, hu2⟩ := List.mem_flatten.1 hu
      obtain ⟨y, _, rfl⟩ := List.mem_map.1 hl
      exact oneEQ y u hu2) (by omega) (by rw [hzs, hDl, hcs]; show i * 6 + _ ≤ cap * 6; omega)
    rw [hzs] at h1
    rw [show i + (n - (i + 1)) = n - 1 by omega] at h1
    rw [show rEQ.size = 6 from rfl, hc1] at h1
    exact h1
  have M1 : Mem w0 (w.drew.setRow g c1.toArray) (.own rEQ B 47 (.slice (some ⟨g, 0, none⟩) (xs.take i ++ xs.drop (i + 1) ++ [z]).length cap) (xs.take i ++ xs.drop (i + 1) ++ [z]) :: cs) :=
    (S.below ((show Drewn w w.drew from rfl).below _)).reown flatEQ (fun _ => rfl) c1.toArray _ (by rw [List.size_toArray]; exact hcell.1) hcell.2 (by rw [List.length_append, List.length_append, List.length_take, List.length_drop, List.length_singleton]; omega)
  have hlen : (xs.take i ++ xs.drop (i + 1) ++ [z]).length = n := by rw [List.length_append, List.length_append, List.length_take, List.length_drop, List.length_singleton]; omega
  have hlen2 : (xs.take i ++ xs.drop (i + 1)).length = n - 1 := by rw [List.length_append, List.length_take, List.length_drop]; omega
  rw [hlen] at M1
  have HM := Lib.hid M1
  have Hlen := Lib.hid hlen
  have Htk : Hid ((xs.take i ++ xs.drop (i + 1) ++ [z]).take (n - 1) = xs.take i ++ xs.drop (i + 1)) := by show _ = _; rw [List.take_left' hlen2]
  have Hlen2 := Lib.hid hlen2
  unfold GivesDelEq
  rw [hlen2]
  obtain ⟨ys, hys⟩ : ∃ ys, xs.take i ++ xs.drop (i + 1) = ys := ⟨_, rfl⟩
  rw [hys] at HM Hlen Htk Hlen2 ⊢
  clear hys
  have hne : ((i : Int) == (i : Int) + 1) = false := by simpa using (by omega : (i : Int) ≠ (i : Int) + 1)
  have hw3 : IntKind.i64.wrap ((i : Int) + 1) = (i : Int) + 1 := by rw [IntKind.wrap_i64]; omega
  have htn : ((i : Int) + 1).toNat = i + 1 := by omega
  have hb1 : (0 : Int) ≤ (i : Int) + 1 := by omega
  have hb3 : (i : Int) + 1 ≤ (n : Int) := by omega
  have hb4 : (i : Int) ≤ (i : Int) + 1 := by omega
  have hin : i ≤ n := by omega
  have hin1 : i + 1 ≤ n := by omega
  have hap2 : Hid (∀ ty sc, (Builtin.append_ #[36, 36] ty #[.slice (some ⟨g, 0, none⟩) i cap, .slice (if cap = i + 1 then some ⟨g, 0, none⟩ else some ⟨g, (i + 1) * 6, none⟩) (n - (i + 1)) sc]).run Tryz.prog w.drew = .ok (.slice (some ⟨g, 0, none⟩) (n - 1) cap) (w.drew.setRow g c1.toArray)) := fun ty sc => by
    by_cases hce : cap = i + 1
    · rw [if_pos hce]
      have hD0 : D = [] := List.length_eq_zero_iff.1 (by rw [hDl]; omega)
      exact hap ty _ sc (fun j u hj => by rw [hD0] at hj; cases hj)
    · rw [if_neg hce]
      exact hap ty _ sc hD5
  have hic : i ≤ cap := by omega
  have hcn : ¬ (cap = n - 1) := by omega
  have hnn : n - 1 ≤ n := by omega
  have mixed : Tryz.prog.follows .mixedOrders = true := by kernel_rfl
  unfold maxLen at hcm
  have Hn := Lib.hid hn1
  clear hap hn1 hna S hg htk hfc hc1 hcell hD hDl hD5 M1 hlen hlen2 hcs hz hi0 hz0 hzs hzb
  go_enter Tryz.func114, Tryz.ntmps114
  go_wp2_with fail
  go_region_law_o (refine step_append_runE rfl _ _ 36 36 rfl _ _ (by first | rfl | simp [Act.eval, Act.put]) (by first | rfl | simp [Act.eval, Act.put]) (hap2.out _ (cap - (i + 1))) ?_)
  go_wp2_with (refine HM.out.clearTail 0 rfl Hlen.out.symm tyEvt zeroEvtD oneZED (n - 1) (cap - (n - 1)) (by omega) rfl _ rfl ((n - 1) * 6) (n - (n - 1)) rfl rfl rfl ?_; intro w5 M5)
  all_goals (rw [Htk.out] at M5; go_ret; refine ⟨rfl, ?_⟩; first | exact M5 | (simp_all; done))
end Go.Proofs.YtmlpkejeglpciaaGreatDoor

/- (*Log).take: an event is taken away, if it is there. -/
namespace Go.Proofs.YtmlpkejeglpciaaGreatDoor
open Go Go.RowKit
def GivesTake (X : Nat) (K : Option Addr) (n ck : Nat) (v : Value) (B : Nat) (qs : List EQ) (AT : Nat) (La : List (ByteArray × Value)) (GN : Nat) (s : ByteArray) (w0 : World) (ch : List Chunk) (e : Ending) (w' : World) : Prop :=
  (hasE s qs = none ∧ e = .returned (.bool false) ∧ Mem w0 w' (logP X K n ck v B qs AT La GN ch)) ∨
  (∃ (i : Nat) (q : EQ) (v' : Value), qs[i]? = some q ∧ q.e.id = s ∧ e = .returned (.bool true) ∧ Mem w0 w' (logP X K n ck v' B (qs.take i ++ qs.drop (i + 1)) AT (delG s La) GN ch))
set_option maxHeartbeats 8000000 in
set_option maxRecDepth 100000 in
theorem take_log {w0 w : World} (ch : List Chunk) (X : Nat) (K : Option Addr) (n ck : Nat) (v : Value) (B : Nat) (qs : List EQ) (AT : Nat) (La : List (ByteArray × Value)) (GN : Nat) (s : ByteArray) (S : Mem w0 w (logP X K n ck v B qs AT La GN ch))
    (hat : AtOk qs La) (hlo : LogE (qs.map EQ.e)) (hl : qs.length ≤ 900) :
    Calls Tryz.prog 60 #[.pointer (some ⟨X, 0, none⟩), .string s] w (GivesTake X K n ck v B qs AT La GN s w0 ch) := by
  have hM : MapG keyStr w AT La := S.ok (.mapG keyStr AT La) (.tail _ (.tail _ (.tail _ (.head _))))
  have HM := Lib.hid hM
  have Hlo : Hid (LogE (qs.map EQ.e)) := hlo
  have Hat := Lib.hid (hat s)
  have HS := Lib.hid S
  have x0 := (S.lv 0 rfl).all
  cases hh : hasE s qs with
  | none =>
    have hg : getG s La = none := by rw [Hat.out, hh]; rfl
    have Hh := Lib.hid hh
    clear hh Hat hM S hat hlo
    go_enter Tryz.func60, Tryz.ntmps60
    go_wp2_with (at_lookup; refine look_wp HM.out (T := 80) (E := 3) (by kernel_rfl) zeroIntL rfl _ _ true rfl rfl s rfl ?_; rw [if_pos rfl, hg])
    go_ret
    exact .inl ⟨Hh.out, rfl, HS.out⟩
  | some q =>
    obtain ⟨j, hj, hid⟩ := hasE_some hh
    have hg : getG s La = some (.int .i64 q.e.at') := by rw [Hat.out, hh]; rfl
    have hjl : j < qs.length := (List.getElem?_eq_some_iff.1 hj).1
    rcases (S.ow 1 rfl).shape2 with ⟨rfl, rfl⟩ | ⟨g, cap, rfl, hcap⟩
    · simp at hjl
    · have hS := (S.ow 1 rfl).slF flatEQ
      have Hj := Lib.hid hj
      have Hbs := Lib.hid (bsEv_any (fun _ => False) (some ⟨g, 0, none⟩) qs ⟨s, ⟨#[]⟩, q.e.at', 0, ⟨#[]⟩, []⟩ none 0 cap w hS (Nat.le_trans hl (by decide)) (logE_q hlo))
      have Hid' := Lib.hid hid
      have Hl := Lib.hid hl
      clear hh Hat hM S hat hlo hj hid hS hl
      go_enter Tryz.func60, Tryz.ntmps60
      go_wp2_with (at_lookup; refine look_wp HM.out (T := 80) (E := 3) (by kernel_rfl) zeroIntL rfl _ _ true rfl rfl s rfl ?_; rw [if_pos rfl, hg])
      refine (Hbs.out).mono ?_
      rintro e w2 ⟨i, b, rfl, hil, hlo, hhi, _, hb⟩
      obtain rfl : j = i := (at_own Hlo.out (y := (⟨s, ⟨#[]⟩, q.e.at', 0, ⟨#[]⟩, []⟩ : Evt)) Hj.out rfl Hid'.out.symm hlo hhi).symm
      have hw3 : IntKind.i64.wrap ((j : Int) + 1) = (j : Int) + 1 := by rw [IntKind.wrap_i64]; have := Hl.out; omega
      have S2 := HS.out.below hb
      have HS2 : Hid (Mem w0 w2 (.own rEQ B 47 (.slice (some ⟨g, 0, none⟩) qs.length cap) qs :: .loc X (logCs K n ck (.slice (some ⟨g, 0, none⟩) qs.length cap) AT GN) 83 :: .flds qs :: .mapG keyStr AT La :: ch)) := S2.perm (List.Perm.swap _ _ _)
      have x2 := (S2.lv 0 rfl).all
      have Hd := Lib.hid (delEq_any j HS2.out rfl hjl (Nat.le_trans Hl.out (by decide)))
      clear Hbs hlo hhi hb HS S2 x0
      go_wp2_with fail
      refine (Hd.out).mono ?_
      rintro e w3 ⟨rfl, S3⟩
      obtain ⟨q2, hq2⟩ : ∃ q2, qs.take j ++ qs.drop (j + 1) = q2 := ⟨_, rfl⟩
      have S4 := Mem.subFl S3 2 rfl (qs' := qs.take j ++ qs.drop (j + 1)) del_mem
      rw [hq2] at S4
      have x3 := (S4.lv 1 rfl).all
      have S5 : Mem w0 (w3.setCell ⟨X, 1, none⟩ (.slice (some ⟨g, 0, none⟩) q2.length cap)) (.own rEQ B 47 (.slice (some ⟨g, 0, none⟩) q2.length cap) q2 :: .loc X (logCs K n ck (.slice (some ⟨g, 0, none⟩) q2.length cap) AT GN) 83 :: .flds q2 :: .mapG keyStr AT La :: ch) := S4.set 1 1 (.slice (some ⟨g, 0, none⟩) q2.length cap) rfl
      have HS5 := Lib.hid S5
      rw [hq2]
      have Hq2 := Lib.hid hq2
      clear S3 S4 S5 hq2 Hd HS2 x2
      go_wp2_with (refine HS5.out.delG 3 rfl (T := 80) (T2 := 9) (E := 3) (by kernel_rfl) rfl _ _ rfl rfl s rfl ?_; intro w6 S6)
      have S7 : Mem w0 w6 (logP X K n ck (.slice (some ⟨g, 0, none⟩) q2.length cap) B q2 AT (delG s La) GN ch) := Mem.swap (c := .own rEQ B 47 (.slice (some ⟨g, 0, none⟩) q2.length cap) q2) S6
      go_ret
      exact .inr ⟨j, q, _, Hj.out, Hid'.out, rfl, by rw [Hq2.out]; exact S7⟩
end Go.Proofs.YtmlpkejeglpciaaGreatDoor

/- The plain law of a log's calls: what is answered when an event is added or an id is retracted; the answer is told by what stands there. No program is in sight. -/
namespace Go.Proofs.YtmlpkejeglpciaaGreatDoor
open Go Go.RowKit
def AddTo (evs : List Evt) (gone : List ByteArray) (x : Evt) (F : Int) (ok : Bool) (er : Int) : Prop :=
  (F ≠ 0 ∧ ok = false ∧ er = F) ∨ (F = 0 ∧ x ∈ evs ∧ ok = false ∧ er = 0) ∨ (F = 0 ∧ (∃ y ∈ evs, y.id = x.id ∧ y ≠ x) ∧ ok = false ∧ er = 13) ∨ (F = 0 ∧ (∀ y ∈ evs, y.id ≠ x.id) ∧ x.id ∈ gone ∧ ok = false ∧ er = 0) ∨ (F = 0 ∧ (∀ y ∈ evs, y.id ≠ x.id) ∧ x.id ∉ gone ∧ ok = true ∧ er = 0)
def RetTo (evs : List Evt) (gone : List ByteArray) (s : ByteArray) (key : Bool) (ok : Bool) (er : Int) : Prop :=
  (key = false ∧ ok = false ∧ er = 5) ∨ (key = true ∧ s ∈ gone ∧ ok = false ∧ er = 0) ∨ (key = true ∧ s ∉ gone ∧ (∃ y ∈ evs, y.id = s) ∧ ok = true ∧ er = 0) ∨ (key = true ∧ s ∉ gone ∧ (∀ y ∈ evs, y.id ≠ s) ∧ ok = false ∧ er = 0)
theorem LogS.one {l c : List Evt} {g gn : List ByteArray} (h : LogS l c g gn) {x y : Evt} (hx : x ∈ l) (hy : y ∈ l) (e : x.id = y.id) : x = y := h.same hx (h.pe.mem_iff.1 hy) e
theorem AddTo.turn {l c : List Evt} {g gn : List ByteArray} (h : LogS l c g gn) {x : Evt} {F : Int} {ok : Bool} {er : Int} (a : AddTo c gn x F ok er) : AddTo l g x F ok er := by
  have hm : ∀ y, y ∈ c ↔ y ∈ l := fun y => h.pe.mem_iff.symm
  have hg := h.gs x.id
  unfold AddTo at *
  simp only [hm, ← hg] at a
  exact a
theorem RetTo.turn {l c : List Evt} {g gn : List ByteArray} (h : LogS l c g gn) {s : ByteArray} {k : Bool} {ok : Bool} {er : Int} (a : RetTo c gn s k ok er) : RetTo l g s k ok er := by
  have hm : ∀ y, y ∈ c ↔ y ∈ l := fun y => h.pe.mem_iff.symm
  have hg := h.gs s
  unfold RetTo at *
  simp only [hm, ← hg] at a
  exact a
theorem LogS.addTo {l c : List Evt} {g gn : List ByteArray} (h : LogS l c g gn) {x : Evt} {F : Int} {ok ok' : Bool} {er er' : Int} (a : AddTo l g x F ok er) (a2 : AddTo c gn x F ok' er') : ok = ok' ∧ er = er' := by
  have b := AddTo.turn h a2
  clear a2
  have h1 : x ∈ l → (∃ y ∈ l, y.id = x.id ∧ y ≠ x) → False := fun hx ⟨y, hy, e, hn⟩ => hn (h.one hy hx e)
  have h2 : x ∈ l → (∀ y ∈ l, y.id ≠ x.id) → False := fun hx hn => hn x hx rfl
  have h3 : (∃ y ∈ l, y.id = x.id ∧ y ≠ x) → (∀ y ∈ l, y.id ≠ x.id) → False := fun ⟨y, hy, e, _⟩ hn => hn y hy e
  rcases a with ⟨a0, a1, a2⟩ | ⟨a0, a3, a1, a2⟩ | ⟨a0, a3, a1, a2⟩ | ⟨a0, a3, a4, a1, a2⟩ | ⟨a0, a3, a4, a1, a2⟩ <;> rcases b with ⟨b0, b1, b2⟩ | ⟨b0, b3, b1, b2⟩ | ⟨b0, b3, b1, b2⟩ | ⟨b0, b3, b4, b1, b2⟩ | ⟨b0, b3, b4, b1, b2⟩ <;>
  first
    | exact ⟨a1.trans b1.symm, a2.trans b2.symm⟩
    | exact absurd b0 a0
    | exact absurd a0 b0
    | exact (h1 a3 b3).elim
    | exact (h1 b3 a3).elim
    | exact (h2 a3 b3).elim
    | exact (h2 b3 a3).elim
    | exact (h3 a3 b3).elim
    | exact (h3 b3 a3).elim
    | exact absurd a4 b4
    | exact absurd b4 a4
theorem LogS.retTo {l c : List Evt} {g gn : List ByteArray} (h : LogS l c g gn) {s : ByteArray} {k ok ok' : Bool} {er er' : Int} (a : RetTo l g s k ok er) (a2 : RetTo c gn s k ok' er') : ok = ok' ∧ er = er' := by
  have b := RetTo.turn h a2
  clear a2
  have h3 : (∃ y ∈ l, y.id = s) → (∀ y ∈ l, y.id ≠ s) → False := fun ⟨y, hy, e⟩ hn => hn y hy e
  rcases a with ⟨a0, a1, a2⟩ | ⟨a0, a3, a1, a2⟩ | ⟨a0, a3, a4, a1, a2⟩ | ⟨a0, a3, a4, a1, a2⟩ <;> rcases b with ⟨b0, b1, b2⟩ | ⟨b0, b3, b1, b2⟩ | ⟨b0, b3, b4, b1, b2⟩ | ⟨b0, b3, b4, b1, b2⟩ <;>
  first
    | exact ⟨a1.trans b1.symm, a2.trans b2.symm⟩
    | (rw [a0] at b0; cases b0; done)
    | exact absurd a3 b3
    | exact absurd b3 a3
    | exact (h3 a4 b4).elim
    | exact (h3 b4 a4).elim
end Go.Proofs.YtmlpkejeglpciaaGreatDoor
