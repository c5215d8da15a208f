/- Regions that draw their order: what is quiet in a class of worlds (a value, an address, a load, a call that leaves the world alone) is taken first; an operation that acts comes up only when nothing else is ready. One walk serves every order. No program is in sight. -/
import Derived.Test.YtmlpkejeglpciaaDoorKp
import Derived.Deep.Quiet
import Derived.Orders
import Derived.Tactics2
import Derived.Below
namespace Go.Proofs.YtmlpkejeglpciaaDoor
open Go
section
variable {P : Program} {ops : Array Oper} {Q : Exit → Act → World → Prop} {md : Region.Mode} {C : World → Prop}

/-- In every world of the class the operation gives v and leaves that very world. -/
def YieldsM (P : Program) (ops : Array Oper) (C : World → Prop) (o : Oper) (v : Value) (a : Act) : Prop :=
  (Region.wanted o (yielded ops a.tmps) = true ∧ ∀ w, C w → Oper.quietUpon P (fun w'' => w'' = w) w v ((execOp a.eval o).run P w)) ∨
  (Region.wanted o (yielded ops a.tmps) = false ∧ v = undef)

theorem YieldsM.wpOp {i : Nat} {o : Oper} {v : Value} {a : Act} (hi : ops[i]? = some o) (hy : YieldsM P ops C o v a)
    {K : Act → World → Prop} {w : World} (hC : C w) (h : K (a.put o.dst v) w) : wpOp P ops Q i K a w := by
  unfold Go.wpOp
  simp only [hi]
  rcases hy with ⟨hw, hv⟩ | ⟨hw, rfl⟩
  · simp only [hw, if_true]
    refine .inl ?_
    have h3 := hv w hC
    unfold Oper.wp
    generalize (execOp a.eval o).run P w = r at *
    cases r with
    | ok n w' =>
      cases n <;> simp only [Oper.quietUpon] at h3 <;> simp only [Oper.upon]
      case value u => obtain ⟨e1, e2⟩ := h3; rw [e1, e2]; exact h
      case skip => obtain ⟨e1, e2⟩ := h3; rw [e1, ← e2]; exact h
      case enter f args =>
        obtain ⟨e1, hc⟩ := h3
        rw [e1]
        exact hc.mono fun e w'' ⟨he, hw''⟩ => by subst he; subst hw''; exact h
    | halt x w' => simp only [Oper.quietUpon] at h3
  · simp only [hw, Bool.false_eq_true, if_false]; exact h

theorem YieldsM.of_same {o : Oper} {v : Value} {a a' : Act} (hy : YieldsM P ops C o v a) (he : execOp a'.eval o = execOp a.eval o)
    (hw : Region.wanted o (yielded ops a'.tmps) = Region.wanted o (yielded ops a.tmps)) : YieldsM P ops C o v a' := by
  unfold YieldsM at *
  rw [he, hw]
  exact hy

theorem wpOp_putM {j : Nat} {oi oj : Oper} {v : Value} (hj : ops[j]? = some oj) (hap : oi.apart ops oj = true)
    (hsi : ∀ cs b, oi.op ≠ .select cs b) (hsj : ∀ cs b, oj.op ≠ .select cs b)
    (hQ : ∀ c a w, Q (.panic c) (a.put oi.dst v) w → Q (.panic c) a w) {K : Act → World → Prop} {a : Act} {w : World}
    (hy : YieldsM P ops C oi v a) (h : wpOp P ops Q j K (a.put oi.dst v) w) :
    wpOp P ops Q j (fun a' w' => YieldsM P ops C oi v a' ∧ K (a'.put oi.dst v) w') a w := by
  obtain ⟨h1, h2, h3⟩ := Oper.apart_spec hap
  have keep : ∀ (a : Act), YieldsM P ops C oi v a → ∀ u, YieldsM P ops C oi v (a.put oj.dst u) := fun a hy u =>
    hy.of_same (execOp_put oi hsi a oj.dst u h3) (wanted_put oi a oj.dst u h3)
  have keepD : ∀ d, YieldsM P ops C oi v { a with defers := d :: a.defers } := fun d => hy.of_same rfl rfl
  unfold wpOp at *
  simp only [hj] at *
  rw [wanted_put oj a oi.dst v h1] at h
  split
  · rename_i hw
    simp only [hw, if_true] at h
    rcases h with h | ⟨hasks, hlets⟩
    case inr => exact .inr ⟨by unfold Oper.asks at *; rw [execOp_put oj hsj a oi.dst v h1] at hasks; exact hasks, hlets⟩
    refine .inl ?_
    unfold Oper.wp at *
    rw [execOp_put oj hsj a oi.dst v h1] at h
    generalize (execOp a.eval oj).run P w = r at *
    cases r with
    | ok n w' =>
      cases n <;> simp only [Oper.upon] at h ⊢
      case value u => exact ⟨keep a hy u, by rw [← Act.put_comm a v u h2]; exact h⟩
      case skip => exact ⟨keep a hy _, by rw [← Act.put_comm a v undef h2]; exact h⟩
      case defer d =>
        refine ⟨keep _ (keepD d) _, ?_⟩
        rw [← Act.put_comm _ v undef h2, ← Act.put_defers]
        exact h
      case enter f args =>
        refine Calls.mono h fun e w'' he => ?_
        cases e with
        | returned u => exact ⟨keep a hy u, by rw [← Act.put_comm a v u h2]; exact he⟩
        | panicked c => exact hQ _ _ _ he
        | outgrown => exact he
      case row row args => exact Rows.mono h fun u w'' he => ⟨keep a hy u, by rw [← Act.put_comm a v u h2]; exact he⟩
    | halt x w' =>
      cases x <;> simp only [Oper.upon] at h ⊢
      case panic u => exact hQ _ _ _ h
  · rename_i hw
    simp only [hw] at h
    exact ⟨keep a hy _, by rw [← Act.put_comm a v undef h2]; exact h⟩

/-- Whatever order is picked from here on; every world that is come to is of the class. -/
def wpAnyC (P : Program) (md : Region.Mode) (ops : Array Oper) (C : World → Prop) (Q : Exit → Act → World → Prop) : Nat → Array Bool → Act → World → Prop
  | 0, listed, a, w => Region.ready md ops listed = [] ∧ Q .normal a w
  | fuel + 1, listed, a, w =>
    (Region.ready md ops listed = [] → Q .normal a w) ∧
    ∀ i ∈ Region.ready md ops listed, wpOp P ops Q i (fun a' w' => C w' ∧ wpAnyC P md ops C Q fuel (listed.setIfInBounds i true) a' w') a w

theorem wpAny_of_C : ∀ (fuel : Nat) (listed : Array Bool) (a : Act) (w : World), wpAnyC P md ops C Q fuel listed a w → wpAny P md ops Q fuel listed a w
  | 0, _, _, _, h => h
  | fuel + 1, _, _, _, h => ⟨h.1, fun i hi => wpOp_mono (fun a' w' h' => wpAny_of_C fuel _ a' w' h'.2) (h.2 i hi)⟩

theorem wpAnyC_first {i : Nat} {oi : Oper} {v : Value} (hi : ops[i]? = some oi) (hsel : ∀ (j : Nat) (o : Oper) cs b, ops[j]? = some o → o.op ≠ .select cs b)
    (hQ : ∀ c a w, Q (.panic c) (a.put oi.dst v) w → Q (.panic c) a w) :
    ∀ (fuel : Nat) (listed : Array Bool) (a : Act) (w : World), C w →
      (∀ j oj, ops[j]? = some oj → j ≠ i → listed.getD j true = false → (∀ e ∈ oj.after, Region.binds md e = true → e.on ≠ i) → oi.apart ops oj = true) →
      i ∈ Region.ready md ops listed → YieldsM P ops C oi v a →
      wpAnyC P md ops C Q fuel (listed.setIfInBounds i true) (a.put oi.dst v) w → wpAnyC P md ops C Q (fuel + 1) listed a w := by
  intro fuel
  induction fuel with
  | zero =>
    intro listed a w hC _ hr hy H
    refine ⟨fun h => (by rw [h] at hr; cases hr), fun j hj => ?_⟩
    by_cases hji : j = i
    · subst hji; exact hy.wpOp hi hC ⟨hC, H⟩
    · have := ready_mono hj hji
      rw [H.1] at this
      cases this
  | succ fuel ih =>
    intro listed a w hC hfree hr hy H
    refine ⟨fun h => (by rw [h] at hr; cases hr), fun j hj => ?_⟩
    by_cases hji : j = i
    · subst hji; exact hy.wpOp hi hC ⟨hC, H⟩
    · have h1 := H.2 j (ready_mono hj hji)
      obtain ⟨hjun, oj, hoj, hall⟩ := mem_ready.1 hj
      have hnot : ∀ e ∈ oj.after, Region.binds md e = true → e.on ≠ i := fun e he hb heq => by
        have h1 := hall e he hb
        have h0 := (mem_ready.1 hr).1
        rw [heq] at h1
        rcases Nat.lt_or_ge i listed.size with h' | h'
        · simp [h'] at h0 h1; rw [h0] at h1; cases h1
        · simp [Array.getElem?_eq_none h'] at h1
      have h2 := wpOp_putM hoj (hfree j oj hoj hji hjun hnot) (fun cs b => hsel i oi cs b hi) (fun cs b => hsel j oj cs b hoj) hQ hy h1
      have hfree' : ∀ k ok, ops[k]? = some ok → k ≠ i → (listed.setIfInBounds j true).getD k true = false →
          (∀ e ∈ ok.after, Region.binds md e = true → e.on ≠ i) → oi.apart ops ok = true := fun k ok hk hki hun hno => by
        refine hfree k ok hk hki ?_ hno
        by_cases hjk : j = k
        · subst hjk; exact hjun
        · rw [getD_set_ne true hjk] at hun; exact hun
      refine wpOp_mono (fun a' w' h3 => ⟨h3.2.1, ih (listed.setIfInBounds j true) a' w' h3.2.1 hfree' (ready_mono hr (Ne.symm hji)) h3.1 ?_⟩) h2
      rw [Array.setIfInBounds_comm _ _ hji]
      exact h3.2.2

/-- The walk: quiet operations (true) and those that act (false), by their numbers. -/
def wpMix (P : Program) (ops : Array Oper) (C : World → Prop) (Q : Exit → Act → World → Prop) : List (Bool × Nat) → Act → World → Prop
  | [], a, w => Q .normal a w
  | (true, i) :: r, a, w => ∃ o v, ops[i]? = some o ∧ YieldsM P ops C o v a ∧ wpMix P ops C Q r (a.put o.dst v) w
  | (false, i) :: r, a, w => ∃ o, ops[i]? = some o ∧ (if Region.wanted o (yielded ops a.tmps) = true then o.wp P a w (fun a' w' => C w' ∧ wpMix P ops C Q r a' w') Q else C w ∧ wpMix P ops C Q r (a.put o.dst undef) w)

/-- The order serves: a quiet operation is ready and nothing that does not wait for it lies in its way; one that acts is ready alone. -/
def mixOk (md : Region.Mode) (ops : Array Oper) : List (Bool × Nat) → Array Bool → Bool
  | [], listed => (Region.ready md ops listed).isEmpty
  | (true, i) :: r, listed => (Region.ready md ops listed).contains i && Region.free md ops listed i && mixOk md ops r (listed.setIfInBounds i true)
  | (false, i) :: r, listed => decide (Region.ready md ops listed = [i]) && mixOk md ops r (listed.setIfInBounds i true)

theorem wpAnyC_mix (hs : Region.noSelect ops = true) (hQ : ∀ c a w, ¬ Q (.panic c) a w) : ∀ (l : List (Bool × Nat)) (listed : Array Bool) (a : Act) (w : World), C w →
    mixOk md ops l listed = true → wpMix P ops C Q l a w → wpAnyC P md ops C Q l.length listed a w
  | [], listed, a, w, _, hB, h => ⟨by simpa [mixOk] using hB, h⟩
  | (true, i) :: r, listed, a, w, hC, hB, h => by
    obtain ⟨o, v, hi, hy, h⟩ := h
    simp only [mixOk, Bool.and_eq_true] at hB
    obtain ⟨⟨hr, hf⟩, hB'⟩ := hB
    exact wpAnyC_first hi (Region.noSelect_spec hs) (fun c a w h => absurd h (hQ c _ w)) r.length listed a w hC (Region.free_spec hi hf) (by simpa using hr) hy
      (wpAnyC_mix hs hQ r _ _ w hC hB' h)
  | (false, i) :: r, listed, a, w, hC, hB, h => by
    obtain ⟨o, hi, h⟩ := h
    simp only [mixOk, Bool.and_eq_true, decide_eq_true_eq] at hB
    obtain ⟨hr, hB'⟩ := hB
    refine ⟨fun h0 => (by rw [h0] at hr; cases hr), fun j hj => ?_⟩
    rw [hr, List.mem_singleton] at hj
    subst hj
    unfold wpOp
    simp only [hi]
    split
    · rename_i hw
      simp only [hw, if_true] at h
      exact .inl (Oper.wp_mono (fun a' w' h' => ⟨h'.1, wpAnyC_mix hs hQ r _ a' w' h'.1 hB' h'.2⟩) h)
    · rename_i hw
      simp only [hw] at h
      exact ⟨hC, wpAnyC_mix hs hQ r _ _ w hC hB' h.2⟩

/-- w1 is w after a draw -/
def Drewn (w w1 : World) : Prop := w1 = w.drew
theorem Drewn.below {w w1 : World} (h : Drewn w w1) (B : Nat) : RowKit.Below B w w1 := by
  unfold Drewn at h; subst h; exact (RowKit.Below.refl B w).drew
theorem Drewn.cell {w w1 : World} (h : Drewn w w1) (p : Addr) : w1.cell? p = w.cell? p := by
  unfold Drewn at h; subst h; rfl
theorem Drewn.frozen {w w1 : World} (h : Drewn w w1) (p : Addr) : w1.frozen? p = w.frozen? p := by
  unfold Drewn at h; subst h; rfl
theorem Drewn.heap {w w1 : World} (h : Drewn w w1) : w1.heap = w.heap := by
  unfold Drewn at h; subst h; rfl

theorem below_drewN (B : Nat) (w : World) (n : Nat) : RowKit.Below B w (w.drewN n) := ⟨rfl, rfl, rfl, Nat.le_refl _, fun _ _ => rfl⟩

/-- a region that draws its order, by one walk -/
theorem wp_region_mix {id : Nat} {a : Act} {w : World} {l : List Oper} (C : World → Prop) (ord : List (Bool × Nat)) (hm : P.follows .mixedOrders = true) (hB : (Region.noSelect l.toArray && mixOk .any l.toArray ord (Array.replicate l.length false) && decide (ord.length = l.length)) = true)
    (hC : ∀ w1, Drewn w w1 → C w1) (h : ∀ K : Act → World → Prop, (∀ a' w', Q .normal a' w' → K a' w') → ∀ w1, Drewn w w1 → wpMix P l.toArray C (Exit.then K (fun _ _ _ => False)) ord a w1) : (Code.region id l.toArray true).wp P Q a w := by
  simp only [Bool.and_eq_true, decide_eq_true_eq] at hB
  obtain ⟨⟨h1, h2⟩, h3⟩ := hB
  have H := h (fun a' w' => Q .normal a' w') (fun _ _ h => h) w.drew rfl
  have H2 := wpAnyC_mix (md := .any) h1 (Q := Exit.then (fun a' w' => Q .normal a' w') (fun _ _ _ => False)) (fun _ _ _ h => h) ord (Array.replicate l.length false) a w.drew (hC _ rfl) h2 H
  refine Code.wp_mono (Q := Exit.then (fun a' w' => Q .normal a' w') (fun _ _ _ => False)) (fun e a w q => by cases e <;> first | exact q | exact q.elim) ?_
  refine wp_region_any hm ?_
  have H3 := wpAny_of_C _ _ _ _ H2
  rw [h3] at H3
  simpa using H3

/-- one quiet operation -/
theorem mix_q {i : Nat} {r : List (Bool × Nat)} {o : Oper} {a : Act} {w : World} (hi : ops[i]? = some o)
    (h : ∀ K : Act → Prop, (∀ a', wpMix P ops C Q r a' w → K a') → if Region.wanted o (yielded ops a.tmps) then ∃ v, (∀ w, C w → Oper.quietUpon P (fun w'' => w'' = w) w v ((execOp a.eval o).run P w)) ∧ K (a.put o.dst v) else K (a.put o.dst undef)) :
    wpMix P ops C Q ((true, i) :: r) a w := by
  have := h (fun a' => wpMix P ops C Q r a' w) (fun _ h => h)
  by_cases hw : Region.wanted o (yielded ops a.tmps) = true
  · rw [if_pos hw] at this
    obtain ⟨v, h1, h2⟩ := this
    exact ⟨o, v, hi, .inl ⟨hw, h1⟩, h2⟩
  · rw [if_neg hw] at this
    exact ⟨o, undef, hi, .inr ⟨by simpa using hw, rfl⟩, this⟩
/-- one operation that acts -/
theorem mix_e {i : Nat} {r : List (Bool × Nat)} {o : Oper} {a : Act} {w : World} (hi : ops[i]? = some o) (hg : o.guard = none)
    (h : ∀ K : Act → World → Prop, (∀ a' w', (C w' ∧ wpMix P ops C Q r a' w') → K a' w') → o.wp P a w K Q) :
    wpMix P ops C Q ((false, i) :: r) a w := by
  have hw : Region.wanted o (yielded ops a.tmps) = true := by simp [Region.wanted, hg]
  refine ⟨o, hi, ?_⟩
  rw [if_pos hw]
  exact h _ (fun _ _ h => h)
/-- one operation that gives its value in whatever world -/
theorem mix_p {i : Nat} {r : List (Bool × Nat)} {o : Oper} {a : Act} {w : World} (hi : ops[i]? = some o)
    (h : ∀ K : Act → Prop, (∀ a', wpMix P ops C Q r a' w → K a') → if Region.wanted o (yielded ops a.tmps) then ∃ v, (∀ w, Oper.quietUpon P (fun w'' => w'' = w) w v ((execOp a.eval o).run P w)) ∧ K (a.put o.dst v) else K (a.put o.dst undef)) :
    wpMix P ops C Q ((true, i) :: r) a w :=
  mix_q hi fun K hK => by
    have := h K hK
    split
    · rename_i hw
      rw [if_pos hw] at this
      obtain ⟨v, h1, h2⟩ := this
      exact ⟨v, fun w _ => h1 w, h2⟩
    · rename_i hw
      rw [if_neg hw] at this
      exact this
/-- one load of a cell that all worlds of the class hold -/
theorem mix_load {i : Nat} {r : List (Bool × Nat)} {o : Oper} {a : Act} {w : World} {t : TypeId} {x : Operand} {ad : Addr} (v : Value) (hi : ops[i]? = some o) (hg : o.guard = none) (ho : o.op = .load t x) (hx : a.eval x = .pointer (some ad))
    (hty : ∀ w, (isAgg t).run P w = .ok false w) (hc : ∀ w', C w' → w'.cell? ad = some v) (h : wpMix P ops C Q r (a.put o.dst v) w) : wpMix P ops C Q ((true, i) :: r) a w := by
  refine ⟨o, v, hi, .inl ⟨by simp [Region.wanted, hg], fun w hC => ?_⟩, h⟩
  have h1 := hc w hC
  have h2 : (Instr.loadAt t (.pointer (some ad))).run P w = .ok v w := by
    simp only [Instr.loadAt, Instr.sureAddr, loadVar, Sem.run_bind, Sem.run_pure, Result.andThen_ok, hty, Bool.false_eq_true, if_false]
    simp [load, Sem.run, h1]
  unfold execOp
  simp only [ho, hx, Sem.run_bind, h2, Result.andThen_ok, Sem.run_pure, Oper.quietUpon, and_self]
/-- one load that all worlds of the class answer alike -/
theorem mix_loadR {i : Nat} {r : List (Bool × Nat)} {o : Oper} {a : Act} {w : World} {t : TypeId} {x : Operand} {p : Value} (v : Value) (hi : ops[i]? = some o) (hg : o.guard = none) (ho : o.op = .load t x) (hx : a.eval x = p)
    (hr : ∀ w', C w' → (Instr.loadAt t p).run P w' = .ok v w') (h : wpMix P ops C Q r (a.put o.dst v) w) : wpMix P ops C Q ((true, i) :: r) a w := by
  refine ⟨o, v, hi, .inl ⟨by simp [Region.wanted, hg], fun w hC => ?_⟩, h⟩
  have h2 := hr w hC
  unfold execOp
  simp only [ho, hx, Sem.run_bind, h2, Result.andThen_ok, Sem.run_pure, Oper.quietUpon, and_self]
/-- the same where a guard lets it through -/
theorem mix_loadG {i : Nat} {r : List (Bool × Nat)} {o : Oper} {a : Act} {w : World} {t : TypeId} {x : Operand} {p : Value} (v : Value) (hi : ops[i]? = some o) (hw : Region.wanted o (yielded ops a.tmps) = true) (ho : o.op = .load t x) (hx : a.eval x = p)
    (hr : ∀ w', C w' → (Instr.loadAt t p).run P w' = .ok v w') (h : wpMix P ops C Q r (a.put o.dst v) w) : wpMix P ops C Q ((true, i) :: r) a w := by
  refine ⟨o, v, hi, .inl ⟨hw, fun w hC => ?_⟩, h⟩
  have h2 := hr w hC
  unfold execOp
  simp only [ho, hx, Sem.run_bind, h2, Result.andThen_ok, Sem.run_pure, Oper.quietUpon, and_self]
/-- the guard found by itself -/
theorem mix_loadH {i : Nat} {r : List (Bool × Nat)} {o : Oper} {a : Act} {w : World} {t : TypeId} {x : Operand} {p : Value} (v : Value) (hi : ops[i]? = some o) (ho : o.op = .load t x) (hx : a.eval x = p)
    (hr : ∀ w', C w' → (Instr.loadAt t p).run P w' = .ok v w') (h : wpMix P ops C Q r (a.put o.dst v) w) (hw : Region.wanted o (yielded ops a.tmps) = true := by first | (simp [Region.wanted, go_sem]; done) | simp [Region.wanted, yielded, Act.put, go_sem]) : wpMix P ops C Q ((true, i) :: r) a w := mix_loadG v hi hw ho hx hr h
/-- one quiet call -/
theorem mix_c {i : Nat} {r : List (Bool × Nat)} {o : Oper} {a : Act} {w : World} {f : FuncId} {args : Array Value} (v : Value) (hi : ops[i]? = some o) (hg : o.guard = none)
    (hr : ∀ w, (execOp a.eval o).run P w = .ok (.enter f args) w) (hc : ∀ w', C w' → Calls P f args w' fun e w'' => e = .returned v ∧ w' = w'') (h : wpMix P ops C Q r (a.put o.dst v) w) : wpMix P ops C Q ((true, i) :: r) a w := by
  refine ⟨o, v, hi, .inl ⟨by simp [Region.wanted, hg], fun w hC => ?_⟩, h⟩
  rw [hr w]
  exact ⟨rfl, (hc w hC).mono fun e w'' ⟨h1, h2⟩ => ⟨h1, h2.symm⟩⟩
/-- one operation that acts, as the walk knows it -/
theorem mix_l {K0 : Act → World → Prop} {i : Nat} {r : List (Bool × Nat)} {o : Oper} {a : Act} {w : World} (hi : ops[i]? = some o)
    (h : ∀ K : Act → World → Prop, (∀ a' w', (C w' ∧ wpMix P ops C (Exit.then K0 (fun _ _ _ => False)) r a' w') → K a' w') → wpList P ops (Exit.then K (fun _ _ _ => False)) [o] a w) (hC : C w) :
    wpMix P ops C (Exit.then K0 (fun _ _ _ => False)) ((false, i) :: r) a w := by
  have := h _ (fun _ _ h => h)
  refine ⟨o, hi, ?_⟩
  unfold wpList at this
  split
  · rename_i hw
    rw [if_pos hw] at this
    rcases this with h1 | ⟨_, a', w', h2⟩
    · unfold Oper.wp at *
      generalize (execOp a.eval o).run P w = res at *
      cases res with
      | ok n w' =>
        cases n <;> simp only [Oper.upon, wpList, Exit.then] at h1 ⊢ <;> exact h1
      | halt x w' => cases x <;> simp only [Oper.upon, Exit.then] at h1 ⊢
    · exact h2.elim
  · rename_i hw
    rw [if_neg hw] at this
    exact ⟨hC, this.2⟩
theorem mix_nil {a : Act} {w : World} (h : Q .normal a w) : wpMix P ops C Q [] a w := h
/-- what is quiet and ready, one after another -/
theorem mpR {R g : Prop} (h : R) (e : Kp R → g := by intro h9; (repeat (refine mix_p rfl (fun K hK => ?_); go_simp; (try go_bits); (try simp (disch := omega) only [if_pos, if_neg, dif_pos, dif_neg]); (try go_simp); (refine hK _ ?_; clear hK K))); exact h9.out) : g := e ⟨h⟩
end
end Go.Proofs.YtmlpkejeglpciaaDoor
