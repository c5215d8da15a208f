/- Regions that draw their order: as in the text Mix, but the last operation, for which all others have come, may leave the class of worlds. No program is in sight. -/
import Derived.Test.YtmlpkejeglpciaaDoorMix
namespace Go.Proofs.YtmlpkejeglpciaaDoor
open Go
section
variable {P : Program} {ops : Array Oper} {Q : Exit → Act → World → Prop} {md : Region.Mode} {C : World → Prop} {L : Nat}

/-- Whatever order is picked from here on; every world that is come to is of the class. -/
def wpAnyL (P : Program) (md : Region.Mode) (ops : Array Oper) (L : Nat) (C : World → Prop) (Q : Exit → Act → World → Prop) : Nat → Array Bool → Act → World → Prop
  | 0, listed, a, w => Region.ready md ops listed = [] ∧ Q .normal a w
  | fuel + 1, listed, a, w =>
    (Region.ready md ops listed = [] → Q .normal a w) ∧
    ∀ i ∈ Region.ready md ops listed, wpOp P ops Q i (fun a' w' => (i ≠ L → C w') ∧ wpAnyL P md ops L C Q fuel (listed.setIfInBounds i true) a' w') a w

theorem wpAny_of_L : ∀ (fuel : Nat) (listed : Array Bool) (a : Act) (w : World), wpAnyL P md ops L C Q fuel listed a w → wpAny P md ops Q fuel listed a w
  | 0, _, _, _, h => h
  | fuel + 1, _, _, _, h => ⟨h.1, fun i hi => wpOp_mono (fun a' w' h' => wpAny_of_L fuel _ a' w' h'.2) (h.2 i hi)⟩

/-- L waits for all others -/
def lastOk (md : Region.Mode) (ops : Array Oper) (L : Nat) : Bool := (List.range ops.size).all fun i => decide (i = L) || match ops[L]? with | some o => o.after.any (fun e => Region.binds md e && decide (e.on = i)) | none => true
theorem lastOk_spec (h : lastOk md ops L = true) {listed : Array Bool} {i : Nat} (hi : i < ops.size) (hiL : i ≠ L) (hun : listed[i]?.getD true = false) : L ∉ Region.ready md ops listed := by
  intro hr
  obtain ⟨hjun, oj, hoj, hall⟩ := mem_ready.1 hr
  have := List.all_eq_true.1 h i (List.mem_range.2 hi)
  simp only [hoj, Bool.or_eq_true, decide_eq_true_eq] at this
  rcases this with h' | h'
  · exact hiL h'
  · obtain ⟨k, hk, he⟩ := Array.any_eq_true.1 h'
    simp only [Bool.and_eq_true, decide_eq_true_eq] at he
    have h1 := hall _ (Array.getElem_mem hk) he.1
    rw [he.2] at h1
    rcases Nat.lt_or_ge i listed.size with h2 | h2
    · simp [h2] at hun h1; rw [hun] at h1; cases h1
    · simp [Array.getElem?_eq_none h2] at h1
theorem wpAnyL_first (hlast : lastOk md ops L = true) {i : Nat} {oi : Oper} {v : Value} (hi : ops[i]? = some oi) (hiL : i ≠ L) (hsel : ∀ (j : Nat) (o : Oper) cs b, ops[j]? = some o → o.op ≠ .select cs b)
    (hQ : ∀ c a w, Q (.panic c) (a.put oi.dst v) w → Q (.panic c) a w) :
    ∀ (fuel : Nat) (listed : Array Bool) (a : Act) (w : World), C w →
      (∀ j oj, ops[j]? = some oj → j ≠ i → listed.getD j true = false → (∀ e ∈ oj.after, Region.binds md e = true → e.on ≠ i) → oi.apart ops oj = true) →
      i ∈ Region.ready md ops listed → YieldsM P ops C oi v a →
      wpAnyL P md ops L C Q fuel (listed.setIfInBounds i true) (a.put oi.dst v) w → wpAnyL P md ops L C Q (fuel + 1) listed a w := by
  intro fuel
  induction fuel with
  | zero =>
    intro listed a w hC _ hr hy H
    refine ⟨fun h => (by rw [h] at hr; cases hr), fun j hj => ?_⟩
    by_cases hji : j = i
    · subst hji; exact hy.wpOp hi hC ⟨fun _ => hC, H⟩
    · have := ready_mono hj hji
      rw [H.1] at this
      cases this
  | succ fuel ih =>
    intro listed a w hC hfree hr hy H
    refine ⟨fun h => (by rw [h] at hr; cases hr), fun j hj => ?_⟩
    by_cases hji : j = i
    · subst hji; exact hy.wpOp hi hC ⟨fun _ => hC, H⟩
    · have h1 := H.2 j (ready_mono hj hji)
      obtain ⟨hjun, oj, hoj, hall⟩ := mem_ready.1 hj
      have hnot : ∀ e ∈ oj.after, Region.binds md e = true → e.on ≠ i := fun e he hb heq => by
        have h1 := hall e he hb
        have h0 := (mem_ready.1 hr).1
        rw [heq] at h1
        rcases Nat.lt_or_ge i listed.size with h' | h'
        · simp [h'] at h0 h1; rw [h0] at h1; cases h1
        · simp [Array.getElem?_eq_none h'] at h1
      have hjL : j ≠ L := fun e => lastOk_spec hlast (Array.getElem?_eq_some_iff.1 hi).1 hiL (by have h0 := (mem_ready.1 hr).1; simpa using h0) (e ▸ hj)
      have h2 := wpOp_putM hoj (hfree j oj hoj hji hjun hnot) (fun cs b => hsel i oi cs b hi) (fun cs b => hsel j oj cs b hoj) hQ hy h1
      have hfree' : ∀ k ok, ops[k]? = some ok → k ≠ i → (listed.setIfInBounds j true).getD k true = false →
          (∀ e ∈ ok.after, Region.binds md e = true → e.on ≠ i) → oi.apart ops ok = true := fun k ok hk hki hun hno => by
        refine hfree k ok hk hki ?_ hno
        by_cases hjk : j = k
        · subst hjk; exact hjun
        · rw [getD_set_ne true hjk] at hun; exact hun
      refine wpOp_mono (fun a' w' h3 => ⟨h3.2.1, ih (listed.setIfInBounds j true) a' w' (h3.2.1 hjL) hfree' (ready_mono hr (Ne.symm hji)) h3.1 ?_⟩) h2
      rw [Array.setIfInBounds_comm _ _ hji]
      exact h3.2.2

/-- The walk: quiet operations (true) and those that act (false), by their numbers. -/
def wpMixL (P : Program) (ops : Array Oper) (L : Nat) (C : World → Prop) (Q : Exit → Act → World → Prop) : List (Bool × Nat) → Act → World → Prop
  | [], a, w => Q .normal a w
  | (true, i) :: r, a, w => ∃ o v, ops[i]? = some o ∧ YieldsM P ops C o v a ∧ wpMixL P ops L C Q r (a.put o.dst v) w
  | (false, i) :: r, a, w => ∃ o, ops[i]? = some o ∧ (if Region.wanted o (yielded ops a.tmps) = true then o.wp P a w (fun a' w' => (i ≠ L → C w') ∧ wpMixL P ops L C Q r a' w') Q else C w ∧ wpMixL P ops L C Q r (a.put o.dst undef) w)

/-- quiet ones are not L, and L comes last -/
def lastAt (L : Nat) : List (Bool × Nat) → Bool
  | [] => true
  | (true, i) :: r => decide (i ≠ L) && lastAt L r
  | (false, i) :: r => (decide (i ≠ L) || r.isEmpty) && lastAt L r
theorem wpAnyL_mix (hlast : lastOk md ops L = true) (hs : Region.noSelect ops = true) (hQ : ∀ c a w, ¬ Q (.panic c) a w) : ∀ (l : List (Bool × Nat)) (listed : Array Bool) (a : Act) (w : World), (l ≠ [] → C w) → lastAt L l = true →
    mixOk md ops l listed = true → wpMixL P ops L C Q l a w → wpAnyL P md ops L C Q l.length listed a w
  | [], listed, a, w, _, _, hB, h => ⟨by simpa [mixOk] using hB, h⟩
  | (true, i) :: r, listed, a, w, hC, hl, hB, h => by
    have hC := hC (by simp)
    simp only [lastAt, Bool.and_eq_true, decide_eq_true_eq] at hl
    obtain ⟨o, v, hi, hy, h⟩ := h
    simp only [mixOk, Bool.and_eq_true] at hB
    obtain ⟨⟨hr, hf⟩, hB'⟩ := hB
    exact wpAnyL_first hlast hi hl.1 (Region.noSelect_spec hs) (fun c a w h => absurd h (hQ c _ w)) r.length listed a w hC (Region.free_spec hi hf) (by simpa using hr) hy
      (wpAnyL_mix hlast hs hQ r _ _ w (fun _ => hC) hl.2 hB' h)
  | (false, i) :: r, listed, a, w, hC0, hl, hB, h => by
    have hCw := hC0 (by simp)
    simp only [lastAt, Bool.and_eq_true, Bool.or_eq_true, decide_eq_true_eq, List.isEmpty_iff] at hl
    obtain ⟨o, hi, h⟩ := h
    simp only [mixOk, Bool.and_eq_true, decide_eq_true_eq] at hB
    obtain ⟨hr, hB'⟩ := hB
    refine ⟨fun h0 => (by rw [h0] at hr; cases hr), fun j hj => ?_⟩
    rw [hr, List.mem_singleton] at hj
    subst hj
    unfold wpOp
    simp only [hi]
    split
    · rename_i hw
      simp only [hw, if_true] at h
      exact .inl (Oper.wp_mono (fun a' w' h' => ⟨h'.1, wpAnyL_mix hlast hs hQ r _ a' w' (fun hr => h'.1 (hl.1.resolve_right hr)) hl.2 hB' h'.2⟩) h)
    · rename_i hw
      simp only [hw] at h
      exact ⟨fun _ => hCw, wpAnyL_mix hlast hs hQ r _ _ w (fun _ => hCw) hl.2 hB' h.2⟩

/-- a region that draws its order, by one walk -/
theorem wp_region_mixL {id : Nat} {a : Act} {w : World} {l : List Oper} (L : Nat) (C : World → Prop) (ord : List (Bool × Nat)) (hm : P.follows .mixedOrders = true) (hB : (Region.noSelect l.toArray && lastOk .any l.toArray L && lastAt L ord && mixOk .any l.toArray ord (Array.replicate l.length false) && decide (ord.length = l.length)) = true)
    (hC : ∀ w1, Drewn w w1 → C w1) (h : ∀ K : Act → World → Prop, (∀ a' w', Q .normal a' w' → K a' w') → ∀ w1, Drewn w w1 → wpMixL P l.toArray L C (Exit.then K (fun _ _ _ => False)) ord a w1) : (Code.region id l.toArray true).wp P Q a w := by
  simp only [Bool.and_eq_true, decide_eq_true_eq] at hB
  obtain ⟨⟨⟨⟨h1, h4⟩, h5⟩, h2⟩, h3⟩ := hB
  have H := h (fun a' w' => Q .normal a' w') (fun _ _ h => h) w.drew rfl
  have H2 := wpAnyL_mix (md := .any) h4 h1 (Q := Exit.then (fun a' w' => Q .normal a' w') (fun _ _ _ => False)) (fun _ _ _ h => h) ord (Array.replicate l.length false) a w.drew (fun _ => hC _ rfl) h5 h2 H
  refine Code.wp_mono (Q := Exit.then (fun a' w' => Q .normal a' w') (fun _ _ _ => False)) (fun e a w q => by cases e <;> first | exact q | exact q.elim) ?_
  refine wp_region_any hm ?_
  have H3 := wpAny_of_L _ _ _ _ H2
  rw [h3] at H3
  simpa using H3

/-- one quiet operation -/
theorem mixL_q {i : Nat} {r : List (Bool × Nat)} {o : Oper} {a : Act} {w : World} (hi : ops[i]? = some o)
    (h : ∀ K : Act → Prop, (∀ a', wpMixL P ops L C Q r a' w → K a') → if Region.wanted o (yielded ops a.tmps) then ∃ v, (∀ w, C w → Oper.quietUpon P (fun w'' => w'' = w) w v ((execOp a.eval o).run P w)) ∧ K (a.put o.dst v) else K (a.put o.dst undef)) :
    wpMixL P ops L C Q ((true, i) :: r) a w := by
  have := h (fun a' => wpMixL P ops L C Q r a' w) (fun _ h => h)
  by_cases hw : Region.wanted o (yielded ops a.tmps) = true
  · rw [if_pos hw] at this
    obtain ⟨v, h1, h2⟩ := this
    exact ⟨o, v, hi, .inl ⟨hw, h1⟩, h2⟩
  · rw [if_neg hw] at this
    exact ⟨o, undef, hi, .inr ⟨by simpa using hw, rfl⟩, this⟩
/-- one operation that acts -/
theorem mixL_e {i : Nat} {r : List (Bool × Nat)} {o : Oper} {a : Act} {w : World} (hi : ops[i]? = some o) (hg : o.guard = none)
    (h : ∀ K : Act → World → Prop, (∀ a' w', ((i ≠ L → C w') ∧ wpMixL P ops L C Q r a' w') → K a' w') → o.wp P a w K Q) :
    wpMixL P ops L C Q ((false, i) :: r) a w := by
  have hw : Region.wanted o (yielded ops a.tmps) = true := by simp [Region.wanted, hg]
  refine ⟨o, hi, ?_⟩
  rw [if_pos hw]
  exact h _ (fun _ _ h => h)
/-- one operation that gives its value in whatever world -/
theorem mixL_p {i : Nat} {r : List (Bool × Nat)} {o : Oper} {a : Act} {w : World} (hi : ops[i]? = some o)
    (h : ∀ K : Act → Prop, (∀ a', wpMixL P ops L C Q r a' w → K a') → if Region.wanted o (yielded ops a.tmps) then ∃ v, (∀ w, Oper.quietUpon P (fun w'' => w'' = w) w v ((execOp a.eval o).run P w)) ∧ K (a.put o.dst v) else K (a.put o.dst undef)) :
    wpMixL P ops L C Q ((true, i) :: r) a w :=
  mixL_q hi fun K hK => by
    have := h K hK
    split
    · rename_i hw
      rw [if_pos hw] at this
      obtain ⟨v, h1, h2⟩ := this
      exact ⟨v, fun w _ => h1 w, h2⟩
    · rename_i hw
      rw [if_neg hw] at this
      exact this
/-- one load of a cell that all worlds of the class hold -/
theorem mixL_load {i : Nat} {r : List (Bool × Nat)} {o : Oper} {a : Act} {w : World} {t : TypeId} {x : Operand} {ad : Addr} (v : Value) (hi : ops[i]? = some o) (hg : o.guard = none) (ho : o.op = .load t x) (hx : a.eval x = .pointer (some ad))
    (hty : ∀ w, (isAgg t).run P w = .ok false w) (hc : ∀ w', C w' → w'.cell? ad = some v) (h : wpMixL P ops L C Q r (a.put o.dst v) w) : wpMixL P ops L C Q ((true, i) :: r) a w := by
  refine ⟨o, v, hi, .inl ⟨by simp [Region.wanted, hg], fun w hC => ?_⟩, h⟩
  have h1 := hc w hC
  have h2 : (Instr.loadAt t (.pointer (some ad))).run P w = .ok v w := by
    simp only [Instr.loadAt, Instr.sureAddr, loadVar, Sem.run_bind, Sem.run_pure, Result.andThen_ok, hty, Bool.false_eq_true, if_false]
    simp [load, Sem.run, h1]
  unfold execOp
  simp only [ho, hx, Sem.run_bind, h2, Result.andThen_ok, Sem.run_pure, Oper.quietUpon, and_self]
/-- one load that all worlds of the class answer alike -/
theorem mixL_loadR {i : Nat} {r : List (Bool × Nat)} {o : Oper} {a : Act} {w : World} {t : TypeId} {x : Operand} {p : Value} (v : Value) (hi : ops[i]? = some o) (hg : o.guard = none) (ho : o.op = .load t x) (hx : a.eval x = p)
    (hr : ∀ w', C w' → (Instr.loadAt t p).run P w' = .ok v w') (h : wpMixL P ops L C Q r (a.put o.dst v) w) : wpMixL P ops L C Q ((true, i) :: r) a w := by
  refine ⟨o, v, hi, .inl ⟨by simp [Region.wanted, hg], fun w hC => ?_⟩, h⟩
  have h2 := hr w hC
  unfold execOp
  simp only [ho, hx, Sem.run_bind, h2, Result.andThen_ok, Sem.run_pure, Oper.quietUpon, and_self]
/-- the same where a guard lets it through -/
theorem mixL_loadG {i : Nat} {r : List (Bool × Nat)} {o : Oper} {a : Act} {w : World} {t : TypeId} {x : Operand} {p : Value} (v : Value) (hi : ops[i]? = some o) (hw : Region.wanted o (yielded ops a.tmps) = true) (ho : o.op = .load t x) (hx : a.eval x = p)
    (hr : ∀ w', C w' → (Instr.loadAt t p).run P w' = .ok v w') (h : wpMixL P ops L C Q r (a.put o.dst v) w) : wpMixL P ops L C Q ((true, i) :: r) a w := by
  refine ⟨o, v, hi, .inl ⟨hw, fun w hC => ?_⟩, h⟩
  have h2 := hr w hC
  unfold execOp
  simp only [ho, hx, Sem.run_bind, h2, Result.andThen_ok, Sem.run_pure, Oper.quietUpon, and_self]
/-- one quiet call -/
theorem mixL_c {i : Nat} {r : List (Bool × Nat)} {o : Oper} {a : Act} {w : World} {f : FuncId} {args : Array Value} (v : Value) (hi : ops[i]? = some o) (hg : o.guard = none)
    (hr : ∀ w, (execOp a.eval o).run P w = .ok (.enter f args) w) (hc : ∀ w', C w' → Calls P f args w' fun e w'' => e = .returned v ∧ w' = w'') (h : wpMixL P ops L C Q r (a.put o.dst v) w) : wpMixL P ops L C Q ((true, i) :: r) a w := by
  refine ⟨o, v, hi, .inl ⟨by simp [Region.wanted, hg], fun w hC => ?_⟩, h⟩
  rw [hr w]
  exact ⟨rfl, (hc w hC).mono fun e w'' ⟨h1, h2⟩ => ⟨h1, h2.symm⟩⟩
/-- one operation that acts, as the walk knows it -/
theorem mixL_l {K0 : Act → World → Prop} {i : Nat} {r : List (Bool × Nat)} {o : Oper} {a : Act} {w : World} (hi : ops[i]? = some o)
    (h : ∀ K : Act → World → Prop, (∀ a' w', ((i ≠ L → C w') ∧ wpMixL P ops L C (Exit.then K0 (fun _ _ _ => False)) r a' w') → K a' w') → wpList P ops (Exit.then K (fun _ _ _ => False)) [o] a w) (hC : C w) :
    wpMixL P ops L C (Exit.then K0 (fun _ _ _ => False)) ((false, i) :: r) a w := by
  have := h _ (fun _ _ h => h)
  refine ⟨o, hi, ?_⟩
  unfold wpList at this
  split
  · rename_i hw
    rw [if_pos hw] at this
    rcases this with h1 | ⟨_, a', w', h2⟩
    · unfold Oper.wp at *
      generalize (execOp a.eval o).run P w = res at *
      cases res with
      | ok n w' =>
        cases n <;> simp only [Oper.upon, wpList, Exit.then] at h1 ⊢ <;> exact h1
      | halt x w' => cases x <;> simp only [Oper.upon, Exit.then] at h1 ⊢
    · exact h2.elim
  · rename_i hw
    rw [if_neg hw] at this
    exact ⟨hC, this.2⟩
theorem mixL_nil {a : Act} {w : World} (h : Q .normal a w) : wpMixL P ops L C Q [] a w := h
end
end Go.Proofs.YtmlpkejeglpciaaDoor
