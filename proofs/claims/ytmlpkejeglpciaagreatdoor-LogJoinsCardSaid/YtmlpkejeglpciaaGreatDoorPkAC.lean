/- Several texts in one: Mix, Cmp, Fields, IdOrder, Find, FldLaw, Base, IdLaw. -/
import Derived.Test.YtmlpkejeglpciaaGreatDoorPkAA
import Derived.Deep.Quiet
import Derived.Orders
import Derived.Tactics2
import Derived.Below
import Derived.Test.YtmlpkejeglpciaaGreatDoorPkAB
import Derived.WalkLawsBesides
import Derived.Sort.Walk0
import Derived.Lib.IndexMore
import Derived.Lib.Split
import Derived.Lib.Small
/- Regions that draw their order: what is quiet in a class of worlds (a value, an address, a load, a call that leaves the world alone) is taken first; an operation that acts comes up only when nothing else is ready. One walk serves every order. No program is in sight. -/
namespace Go.Proofs.YtmlpkejeglpciaaGreatDoor
open Go
section
variable {P : Program} {ops : Array Oper} {Q : Exit → Act → World → Prop} {md : Region.Mode} {C : World → Prop}

def YieldsM (P : Program) (ops : Array Oper) (C : World → Prop) (o : Oper) (v : Value) (a : Act) : Prop :=
  (Region.wanted o (yielded ops a.tmps) = true ∧ ∀ w, C w → Oper.quietUpon P (fun w'' => w'' = w) w v ((execOp a.eval o).run P w)) ∨
  (Region.wanted o (yielded ops a.tmps) = false ∧ v = undef)

theorem YieldsM.wpOp {i : Nat} {o : Oper} {v : Value} {a : Act} (hi : ops[i]? = some o) (hy : YieldsM P ops C o v a)
    {K : Act → World → Prop} {w : World} (hC : C w) (h : K (a.put o.dst v) w) : wpOp P ops Q i K a w := by
  unfold Go.wpOp
  simp only [hi]
  rcases hy with ⟨hw, hv⟩ | ⟨hw, rfl⟩
  · simp only [hw, if_true]
    refine .inl ?_
    have h3 := hv w hC
    unfold Oper.wp
    generalize (execOp a.eval o).run P w = r at *
    cases r with
    | ok n w' =>
      cases n <;> simp only [Oper.quietUpon] at h3 <;> simp only [Oper.upon]
      case value u => obtain ⟨e1, e2⟩ := h3; rw [e1, e2]; exact h
      case skip => obtain ⟨e1, e2⟩ := h3; rw [e1, ← e2]; exact h
      case enter f args =>
        obtain ⟨e1, hc⟩ := h3
        rw [e1]
        exact hc.mono fun e w'' ⟨he, hw''⟩ => by subst he; subst hw''; exact h
    | halt x w' => simp only [Oper.quietUpon] at h3
  · simp only [hw, Bool.false_eq_true, if_false]; exact h

theorem YieldsM.of_same {o : Oper} {v : Value} {a a' : Act} (hy : YieldsM P ops C o v a) (he : execOp a'.eval o = execOp a.eval o)
    (hw : Region.wanted o (yielded ops a'.tmps) = Region.wanted o (yielded ops a.tmps)) : YieldsM P ops C o v a' := by
  unfold YieldsM at *
  rw [he, hw]
  exact hy

theorem wpOp_putM {j : Nat} {oi oj : Oper} {v : Value} (hj : ops[j]? = some oj) (hap : oi.apart ops oj = true)
    (hsi : ∀ cs b, oi.op ≠ .select cs b) (hsj : ∀ cs b, oj.op ≠ .select cs b)
    (hQ : ∀ c a w, Q (.panic c) (a.put oi.dst v) w → Q (.panic c) a w) {K : Act → World → Prop} {a : Act} {w : World}
    (hy : YieldsM P ops C oi v a) (h : wpOp P ops Q j K (a.put oi.dst v) w) :
    wpOp P ops Q j (fun a' w' => YieldsM P ops C oi v a' ∧ K (a'.put oi.dst v) w') a w := by
  obtain ⟨h1, h2, h3⟩ := Oper.apart_spec hap
  have keep : ∀ (a : Act), YieldsM P ops C oi v a → ∀ u, YieldsM P ops C oi v (a.put oj.dst u) := fun a hy u =>
    hy.of_same (execOp_put oi hsi a oj.dst u h3) (wanted_put oi a oj.dst u h3)
  have keepD : ∀ d, YieldsM P ops C oi v { a with defers := d :: a.defers } := fun d => hy.of_same rfl rfl
  unfold wpOp at *
  simp only [hj] at *
  rw [wanted_put oj a oi.dst v h1] at h
  split
  · rename_i hw
    simp only [hw, if_true] at h
    rcases h with h | ⟨hasks, hlets⟩
    case inr => exact .inr ⟨by unfold Oper.asks at *; rw [execOp_put oj hsj a oi.dst v h1] at hasks; exact hasks, hlets⟩
    refine .inl ?_
    unfold Oper.wp at *
    rw [execOp_put oj hsj a oi.dst v h1] at h
    generalize (execOp a.eval oj).run P w = r at *
    cases r with
    | ok n w' =>
      cases n <;> simp only [Oper.upon] at h ⊢
      case value u => exact ⟨keep a hy u, by rw [← Act.put_comm a v u h2]; exact h⟩
      case skip => exact ⟨keep a hy _, by rw [← Act.put_comm a v undef h2]; exact h⟩
      case defer d =>
        refine ⟨keep _ (keepD d) _, ?_⟩
        rw [← Act.put_comm _ v undef h2, ← Act.put_defers]
        exact h
      case enter f args =>
        refine Calls.mono h fun e w'' he => ?_
        cases e with
        | returned u => exact ⟨keep a hy u, by rw [← Act.put_comm a v u h2]; exact he⟩
        | panicked c => exact hQ _ _ _ he
        | outgrown => exact he
      case row row args => exact Rows.mono h fun u w'' he => ⟨keep a hy u, by rw [← Act.put_comm a v u h2]; exact he⟩
    | halt x w' =>
      cases x <;> simp only [Oper.upon] at h ⊢
      case panic u => exact hQ _ _ _ h
  · rename_i hw
    simp only [hw] at h
    exact ⟨keep a hy _, by rw [← Act.put_comm a v undef h2]; exact h⟩

def wpAnyC (P : Program) (md : Region.Mode) (ops : Array Oper) (C : World → Prop) (Q : Exit → Act → World → Prop) : Nat → Array Bool → Act → World → Prop
  | 0, listed, a, w => Region.ready md ops listed = [] ∧ Q .normal a w
  | fuel + 1, listed, a, w =>
    (Region.ready md ops listed = [] → Q .normal a w) ∧
    ∀ i ∈ Region.ready md ops listed, wpOp P ops Q i (fun a' w' => C w' ∧ wpAnyC P md ops C Q fuel (listed.setIfInBounds i true) a' w') a w

theorem wpAny_of_C : ∀ (fuel : Nat) (listed : Array Bool) (a : Act) (w : World), wpAnyC P md ops C Q fuel listed a w → wpAny P md ops Q fuel listed a w
  | 0, _, _, _, h => h
  | fuel + 1, _, _, _, h => ⟨h.1, fun i hi => wpOp_mono (fun a' w' h' => wpAny_of_C fuel _ a' w' h'.2) (h.2 i hi)⟩

theorem wpAnyC_first {i : Nat} {oi : Oper} {v : Value} (hi : ops[i]? = some oi) (hsel : ∀ (j : Nat) (o : Oper) cs b, ops[j]? = some o → o.op ≠ .select cs b)
    (hQ : ∀ c a w, Q (.panic c) (a.put oi.dst v) w → Q (.panic c) a w) :
    ∀ (fuel : Nat) (listed : Array Bool) (a : Act) (w : World), C w →
      (∀ j oj, ops[j]? = some oj → j ≠ i → listed.getD j true = false → (∀ e ∈ oj.after, Region.binds md e = true → e.on ≠ i) → oi.apart ops oj = true) →
      i ∈ Region.ready md ops listed → YieldsM P ops C oi v a →
      wpAnyC P md ops C Q fuel (listed.setIfInBounds i true) (a.put oi.dst v) w → wpAnyC P md ops C Q (fuel + 1) listed a w := by
  intro fuel
  induction fuel with
  | zero =>
    intro listed a w hC _ hr hy H
    refine ⟨fun h => (by rw [h] at hr; cases hr), fun j hj => ?_⟩
    by_cases hji : j = i
    · subst hji; exact hy.wpOp hi hC ⟨hC, H⟩
    · have := ready_mono hj hji
      rw [H.1] at this
      cases this
  | succ fuel ih =>
    intro listed a w hC hfree hr hy H
    refine ⟨fun h => (by rw [h] at hr; cases hr), fun j hj => ?_⟩
    by_cases hji : j = i
    · subst hji; exact hy.wpOp hi hC ⟨hC, H⟩
    · have h1 := H.2 j (ready_mono hj hji)
      obtain ⟨hjun, oj, hoj, hall⟩ := mem_ready.1 hj
      have hnot : ∀ e ∈ oj.after, Region.binds md e = true → e.on ≠ i := fun e he hb heq => by
        have h1 := hall e he hb
        have h0 := (mem_ready.1 hr).1
        rw [heq] at h1
        rcases Nat.lt_or_ge i listed.size with h' | h'
        · simp [h'] at h0 h1; rw [h0] at h1; cases h1
        · simp [Array.getElem?_eq_none h'] at h1
      have h2 := wpOp_putM hoj (hfree j oj hoj hji hjun hnot) (fun cs b => hsel i oi cs b hi) (fun cs b => hsel j oj cs b hoj) hQ hy h1
      have hfree' : ∀ k ok, ops[k]? = some ok → k ≠ i → (listed.setIfInBounds j true).getD k true = false →
          (∀ e ∈ ok.after, Region.binds md e = true → e.on ≠ i) → oi.apart ops ok = true := fun k ok hk hki hun hno => by
        refine hfree k ok hk hki ?_ hno
        by_cases hjk : j = k
        · subst hjk; exact hjun
        · rw [getD_set_ne true hjk] at hun; exact hun
      refine wpOp_mono (fun a' w' h3 => ⟨h3.2.1, ih (listed.setIfInBounds j true) a' w' h3.2.1 hfree' (ready_mono hr (Ne.symm hji)) h3.1 ?_⟩) h2
      rw [Array.setIfInBounds_comm _ _ hji]
      exact h3.2.2

def wpMix (P : Program) (ops : Array Oper) (C : World → Prop) (Q : Exit → Act → World → Prop) : List (Bool × Nat) → Act → World → Prop
  | [], a, w => Q .normal a w
  | (true, i) :: r, a, w => ∃ o v, ops[i]? = some o ∧ YieldsM P ops C o v a ∧ wpMix P ops C Q r (a.put o.dst v) w
  | (false, i) :: r, a, w => ∃ o, ops[i]? = some o ∧ (if Region.wanted o (yielded ops a.tmps) = true then o.wp P a w (fun a' w' => C w' ∧ wpMix P ops C Q r a' w') Q else C w ∧ wpMix P ops C Q r (a.put o.dst undef) w)

def mixOk (md : Region.Mode) (ops : Array Oper) : List (Bool × Nat) → Array Bool → Bool
  | [], listed => (Region.ready md ops listed).isEmpty
  | (true, i) :: r, listed => (Region.ready md ops listed).contains i && Region.free md ops listed i && mixOk md ops r (listed.setIfInBounds i true)
  | (false, i) :: r, listed => decide (Region.ready md ops listed = [i]) && mixOk md ops r (listed.setIfInBounds i true)

theorem wpAnyC_mix (hs : Region.noSelect ops = true) (hQ : ∀ c a w, ¬ Q (.panic c) a w) : ∀ (l : List (Bool × Nat)) (listed : Array Bool) (a : Act) (w : World), C w →
    mixOk md ops l listed = true → wpMix P ops C Q l a w → wpAnyC P md ops C Q l.length listed a w
  | [], listed, a, w, _, hB, h => ⟨by simpa [mixOk] using hB, h⟩
  | (true, i) :: r, listed, a, w, hC, hB, h => by
    obtain ⟨o, v, hi, hy, h⟩ := h
    simp only [mixOk, Bool.and_eq_true] at hB
    obtain ⟨⟨hr, hf⟩, hB'⟩ := hB
    exact wpAnyC_first hi (Region.noSelect_spec hs) (fun c a w h => absurd h (hQ c _ w)) r.length listed a w hC (Region.free_spec hi hf) (by simpa using hr) hy
      (wpAnyC_mix hs hQ r _ _ w hC hB' h)
  | (false, i) :: r, listed, a, w, hC, hB, h => by
    obtain ⟨o, hi, h⟩ := h
    simp only [mixOk, Bool.and_eq_true, decide_eq_true_eq] at hB
    obtain ⟨hr, hB'⟩ := hB
    refine ⟨fun h0 => (by rw [h0] at hr; cases hr), fun j hj => ?_⟩
    rw [hr, List.mem_singleton] at hj
    subst hj
    unfold wpOp
    simp only [hi]
    split
    · rename_i hw
      simp only [hw, if_true] at h
      exact .inl (Oper.wp_mono (fun a' w' h' => ⟨h'.1, wpAnyC_mix hs hQ r _ a' w' h'.1 hB' h'.2⟩) h)
    · rename_i hw
      simp only [hw] at h
      exact ⟨hC, wpAnyC_mix hs hQ r _ _ w hC hB' h.2⟩

def Drewn (w w1 : World) : Prop := w1 = w.drew
theorem Drewn.below {w w1 : World} (h : Drewn w w1) (B : Nat) : RowKit.Below B w w1 := by
  unfold Drewn at h; subst h; exact (RowKit.Below.refl B w).drew
theorem below_drewN (B : Nat) (w : World) (n : Nat) : RowKit.Below B w (w.drewN n) := ⟨rfl, rfl, rfl, Nat.le_refl _, fun _ _ => rfl⟩

theorem wp_region_mix {id : Nat} {a : Act} {w : World} {l : List Oper} (C : World → Prop) (ord : List (Bool × Nat)) (hm : P.follows .mixedOrders = true) (hB : (Region.noSelect l.toArray && mixOk .any l.toArray ord (Array.replicate l.length false) && decide (ord.length = l.length)) = true)
    (hC : ∀ w1, Drewn w w1 → C w1) (h : ∀ K : Act → World → Prop, (∀ a' w', Q .normal a' w' → K a' w') → ∀ w1, Drewn w w1 → wpMix P l.toArray C (Exit.then K (fun _ _ _ => False)) ord a w1) : (Code.region id l.toArray true).wp P Q a w := by
  simp only [Bool.and_eq_true, decide_eq_true_eq] at hB
  obtain ⟨⟨h1, h2⟩, h3⟩ := hB
  have H := h (fun a' w' => Q .normal a' w') (fun _ _ h => h) w.drew rfl
  have H2 := wpAnyC_mix (md := .any) h1 (Q := Exit.then (fun a' w' => Q .normal a' w') (fun _ _ _ => False)) (fun _ _ _ h => h) ord (Array.replicate l.length false) a w.drew (hC _ rfl) h2 H
  refine Code.wp_mono (Q := Exit.then (fun a' w' => Q .normal a' w') (fun _ _ _ => False)) (fun e a w q => by cases e <;> first | exact q | exact q.elim) ?_
  refine wp_region_any hm ?_
  have H3 := wpAny_of_C _ _ _ _ H2
  rw [h3] at H3
  simpa using H3

theorem mix_q {i : Nat} {r : List (Bool × Nat)} {o : Oper} {a : Act} {w : World} (hi : ops[i]? = some o)
    (h : ∀ K : Act → Prop, (∀ a', wpMix P ops C Q r a' w → K a') → if Region.wanted o (yielded ops a.tmps) then ∃ v, (∀ w, C w → Oper.quietUpon P (fun w'' => w'' = w) w v ((execOp a.eval o).run P w)) ∧ K (a.put o.dst v) else K (a.put o.dst undef)) :
    wpMix P ops C Q ((true, i) :: r) a w := by
  have := h (fun a' => wpMix P ops C Q r a' w) (fun _ h => h)
  by_cases hw : Region.wanted o (yielded ops a.tmps) = true
  · rw [if_pos hw] at this
    obtain ⟨v, h1, h2⟩ := this
    exact ⟨o, v, hi, .inl ⟨hw, h1⟩, h2⟩
  · rw [if_neg hw] at this
    exact ⟨o, undef, hi, .inr ⟨by simpa using hw, rfl⟩, this⟩
theorem mix_p {i : Nat} {r : List (Bool × Nat)} {o : Oper} {a : Act} {w : World} (hi : ops[i]? = some o)
    (h : ∀ K : Act → Prop, (∀ a', wpMix P ops C Q r a' w → K a') → if Region.wanted o (yielded ops a.tmps) then ∃ v, (∀ w, Oper.quietUpon P (fun w'' => w'' = w) w v ((execOp a.eval o).run P w)) ∧ K (a.put o.dst v) else K (a.put o.dst undef)) :
    wpMix P ops C Q ((true, i) :: r) a w :=
  mix_q hi fun K hK => by
    have := h K hK
    split
    · rename_i hw
      rw [if_pos hw] at this
      obtain ⟨v, h1, h2⟩ := this
      exact ⟨v, fun w _ => h1 w, h2⟩
    · rename_i hw
      rw [if_neg hw] at this
      exact this
theorem mix_load {i : Nat} {r : List (Bool × Nat)} {o : Oper} {a : Act} {w : World} {t : TypeId} {x : Operand} {ad : Addr} (v : Value) (hi : ops[i]? = some o) (hg : o.guard = none) (ho : o.op = .load t x) (hx : a.eval x = .pointer (some ad))
    (hty : ∀ w, (isAgg t).run P w = .ok false w) (hc : ∀ w', C w' → w'.cell? ad = some v) (h : wpMix P ops C Q r (a.put o.dst v) w) : wpMix P ops C Q ((true, i) :: r) a w := by
  refine ⟨o, v, hi, .inl ⟨by simp [Region.wanted, hg], fun w hC => ?_⟩, h⟩
  have h1 := hc w hC
  have h2 : (Instr.loadAt t (.pointer (some ad))).run P w = .ok v w := by
    simp only [Instr.loadAt, Instr.sureAddr, loadVar, Sem.run_bind, Sem.run_pure, Result.andThen_ok, hty, Bool.false_eq_true, if_false]
    simp [load, Sem.run, h1]
  unfold execOp
  simp only [ho, hx, Sem.run_bind, h2, Result.andThen_ok, Sem.run_pure, Oper.quietUpon, and_self]
theorem mix_loadG {i : Nat} {r : List (Bool × Nat)} {o : Oper} {a : Act} {w : World} {t : TypeId} {x : Operand} {p : Value} (v : Value) (hi : ops[i]? = some o) (hw : Region.wanted o (yielded ops a.tmps) = true) (ho : o.op = .load t x) (hx : a.eval x = p)
    (hr : ∀ w', C w' → (Instr.loadAt t p).run P w' = .ok v w') (h : wpMix P ops C Q r (a.put o.dst v) w) : wpMix P ops C Q ((true, i) :: r) a w := by
  refine ⟨o, v, hi, .inl ⟨hw, fun w hC => ?_⟩, h⟩
  have h2 := hr w hC
  unfold execOp
  simp only [ho, hx, Sem.run_bind, h2, Result.andThen_ok, Sem.run_pure, Oper.quietUpon, and_self]
theorem mix_loadH {i : Nat} {r : List (Bool × Nat)} {o : Oper} {a : Act} {w : World} {t : TypeId} {x : Operand} {p : Value} (v : Value) (hi : ops[i]? = some o) (ho : o.op = .load t x) (hx : a.eval x = p)
    (hr : ∀ w', C w' → (Instr.loadAt t p).run P w' = .ok v w') (h : wpMix P ops C Q r (a.put o.dst v) w) (hw : Region.wanted o (yielded ops a.tmps) = true := by first | (simp [Region.wanted, go_sem]; done) | simp [Region.wanted, yielded, Act.put, go_sem]) : wpMix P ops C Q ((true, i) :: r) a w := mix_loadG v hi hw ho hx hr h
theorem mix_l {K0 : Act → World → Prop} {i : Nat} {r : List (Bool × Nat)} {o : Oper} {a : Act} {w : World} (hi : ops[i]? = some o)
    (h : ∀ K : Act → World → Prop, (∀ a' w', (C w' ∧ wpMix P ops C (Exit.then K0 (fun _ _ _ => False)) r a' w') → K a' w') → wpList P ops (Exit.then K (fun _ _ _ => False)) [o] a w) (hC : C w) :
    wpMix P ops C (Exit.then K0 (fun _ _ _ => False)) ((false, i) :: r) a w := by
  have := h _ (fun _ _ h => h)
  refine ⟨o, hi, ?_⟩
  unfold wpList at this
  split
  · rename_i hw
    rw [if_pos hw] at this
    rcases this with h1 | ⟨_, a', w', h2⟩
    · unfold Oper.wp at *
      generalize (execOp a.eval o).run P w = res at *
      cases res with
      | ok n w' =>
        cases n <;> simp only [Oper.upon, wpList, Exit.then] at h1 ⊢ <;> exact h1
      | halt x w' => cases x <;> simp only [Oper.upon, Exit.then] at h1 ⊢
    · exact h2.elim
  · rename_i hw
    rw [if_neg hw] at this
    exact ⟨hC, this.2⟩
theorem mix_nil {a : Act} {w : World} (h : Q .normal a w) : wpMix P ops C Q [] a w := h
theorem mpR {R g : Prop} (h : R) (e : Kp R → g := by intro h9; (repeat (refine mix_p rfl (fun K hK => ?_); go_simp; (try go_bits); (try simp (disch := omega) only [if_pos, if_neg, dif_pos, dif_neg]); (try go_simp); (refine hK _ ?_; clear hK K))); exact h9.out) : g := e ⟨h⟩
end
end Go.Proofs.YtmlpkejeglpciaaGreatDoor

/- Comparisons of strings and numbers: what cmp.Compare and cmp.Or return, and that strings are ordered. -/
namespace Go.Proofs.YtmlpkejeglpciaaGreatDoor
open Go.RowKit
def cmpS (a b : ByteArray) : Int := if Op.bytesLess a.toList b.toList then -1 else if (a.toList == b.toList) then 0 else 1
theorem isNaN_any (s : ByteArray) (w : World) : Calls Tryz.prog 171 #[.string s] w fun e w' => e = .returned (.bool false) ∧ w = w' := by
  go_enter Tryz.func171, Tryz.ntmps171
  go_wp2_with fail
  go_ret
  exact ⟨by simp, rfl⟩
theorem compareS_any (a b : ByteArray) (w : World) : Calls Tryz.prog 120 #[.string a, .string b] w fun e w' => e = .returned (.int .i64 (cmpS a b)) ∧ w = w' := by
  obtain ⟨R, HR⟩ : ∃ R, Hid (cmpS a b = R) := ⟨_, Lib.hid rfl⟩
  rw [HR.out]
  go_enter Tryz.func120, Tryz.ntmps120
  go_wp2_with (first | (go_at_call 171; refine (isNaN_any _ _).mono ?_; rintro e _ ⟨rfl, rfl⟩))
  all_goals (go_ret; refine ⟨ret_i ?_, rfl⟩; rw [← HR.out]; unfold cmpS; clear HR; simp_all)
theorem or_any (blk : Nat) (x y : Int) (w : World) (hx : w.cell? ⟨blk, 0, none⟩ = some (.int .i64 x)) (hy : w.cell? ⟨blk, 1, none⟩ = some (.int .i64 y)) :
    Calls Tryz.prog 174 #[.slice (some ⟨blk, 0, none⟩) 2 2] w fun e w' => e = .returned (.int .i64 (if x ≠ 0 then x else y)) ∧ w = w' := by
  obtain ⟨R, HR⟩ : ∃ R, Hid ((if x ≠ 0 then x else y) = R) := ⟨_, Lib.hid rfl⟩
  rw [HR.out]
  go_enter Tryz.func174, Tryz.ntmps174
  go_wp2_with fail
  go_loopw [8] (fun i wr => ∃ k : Nat, k ≤ 2 ∧ i = .int .i64 k ∧ wr = w ∧ (k = 1 → x = 0) ∧ (k = 2 → x = 0 ∧ y = 0)) (fun i _ => 2 - (intOf i).toNat)
  case atStart => exact ⟨0, by omega, rfl, rfl, fun h => by omega, fun h => by omega⟩
  case round =>
    obtain ⟨k, hk, rfl, rfl, h1, h2⟩ := hrel
    have H1 := Lib.hid h1
    have H2 := Lib.hid h2
    clear h1 h2
    obtain rfl | rfl | rfl : k = 0 ∨ k = 1 ∨ k = 2 := by omega
    · by_cases h0 : x = 0
      · have e0 : (x != 0) = false := by simpa using h0
        have H0 := Lib.hid h0
        clear h0
        go_wp2_with fail
        go_roundw
        case rel => exact ⟨1, by omega, rfl, trivial, fun _ => H0.out, fun h => by omega⟩
        case measure => simp [intOf]
      · have e0 : (x != 0) = true := by simpa using h0
        go_wp2_with fail
        go_ret
        exact ⟨ret_i (by rw [← HR.out, if_pos h0]), rfl⟩
    · have H0 : Hid (x = 0) := H1.out rfl
      by_cases h0 : y = 0
      · have e0 : (y != 0) = false := by simpa using h0
        have Hy0 := Lib.hid h0
        clear h0
        go_wp2_with fail
        go_roundw
        case rel => exact ⟨2, by omega, rfl, trivial, fun h => by omega, fun _ => ⟨H0.out, Hy0.out⟩⟩
        case measure => simp [intOf]
      · have e0 : (y != 0) = true := by simpa using h0
        go_wp2_with fail
        go_ret
        exact ⟨ret_i (by rw [← HR.out, if_neg (by simpa using H0.out)]), rfl⟩
    · have H0 := H2.out rfl
      go_wp2_with fail
      go_ret
      exact ⟨ret_i (by rw [← HR.out, if_neg (by simpa using H0.1), H0.2]), rfl⟩
theorem cmpInt_any (x y : Int) (w : World) : Calls Tryz.prog 175 #[.int .i64 x, .int .i64 y] w fun e w' => e = .returned (.int .i64 (Lib.compareInt x y)) ∧ w = w' := (Tryz.cmp_Compare_int x y w).mono fun _ _ ⟨h1, h2⟩ => ⟨h1, h2.symm⟩
def ltS (a b : ByteArray) : Bool := Op.bytesLess a.toList b.toList
theorem ltS_trans {a b c : ByteArray} (h1 : ltS a b = true) (h2 : ltS b c = true) : ltS a c = true := by
  unfold ltS at *
  have e : ∀ x y : List UInt8, Op.bytesLess x y = decide (x < y) := bytesLess_eq
  rw [e] at h1 h2 ⊢
  simp only [decide_eq_true_eq] at *
  exact List.lt_trans h1 h2
theorem cmpS_neg (a b : ByteArray) : cmpS a b < 0 ↔ ltS a b = true := by
  unfold cmpS ltS
  split
  · rename_i h; simp [h]
  · rename_i h; split <;> simp [h]
theorem ltS_irr (a : ByteArray) : ltS a a = false := by
  unfold ltS
  have e : ∀ x y : List UInt8, Op.bytesLess x y = decide (x < y) := bytesLess_eq
  rw [e]
  simp
theorem cmpS_zero (a b : ByteArray) : cmpS a b = 0 ↔ a = b := by
  constructor
  · intro h
    unfold cmpS at h
    split at h
    · cases h
    · split at h
      · rename_i h2
        rw [ByteArray.toList_eq, ByteArray.toList_eq] at h2
        exact WideShapes.bytes_inj (by simpa using h2)
      · cases h
  · rintro rfl
    have := ltS_irr a
    unfold ltS at this
    unfold cmpS
    rw [this]
    simp
def leS (a b : ByteArray) : Bool := Op.bytesLess a.toList b.toList || (a.toList == b.toList)
theorem bytes_tri : ∀ x y : List UInt8, Op.bytesLess y x = false → (y == x) = false → Op.bytesLess x y = true
  | [], [], _, h => by simp at h
  | [], _ :: _, _, _ => by simp [Op.bytesLess]
  | _ :: _, [], h, _ => by simp [Op.bytesLess] at h
  | a :: x, b :: y, h1, h2 => by
    simp only [Op.bytesLess, Bool.or_eq_false_iff, decide_eq_false_iff_not, Bool.and_eq_false_iff] at h1
    simp only [Op.bytesLess, Bool.or_eq_true, decide_eq_true_eq, Bool.and_eq_true, beq_iff_eq]
    by_cases hab : a < b
    · exact .inl hab
    · have e : a = b := UInt8.le_antisymm (UInt8.not_lt.1 h1.1) (UInt8.not_lt.1 hab)
      subst e
      refine .inr ⟨rfl, bytes_tri x y ?_ ?_⟩
      · rcases h1.2 with h | h
        · simp at h
        · exact h
      · simpa using h2
theorem ltS_of_not_le {a b : ByteArray} (h : leS b a = false) : ltS a b = true := by
  unfold leS at h
  simp only [Bool.or_eq_false_iff] at h
  exact bytes_tri _ _ h.1 h.2
theorem cmpS_pos (a b : ByteArray) : 0 < cmpS a b ↔ ltS b a = true := by
  unfold cmpS ltS
  split
  · rename_i h
    constructor
    · intro h2; simp at h2
    · intro h2
      have := ltS_trans (a := a) (b := b) (c := a) h h2
      rw [ltS_irr] at this
      cases this
  · rename_i h
    split
    · rename_i h2
      have e : a = b := by
        rw [ByteArray.toList_eq, ByteArray.toList_eq] at h2
        exact WideShapes.bytes_inj (by simpa using h2)
      subst e
      have := ltS_irr a
      unfold ltS at this
      simp [this]
    · rename_i h2
      refine ⟨fun _ => bytes_tri _ _ (by simpa using h) (by simpa using h2), fun _ => by decide⟩
end Go.Proofs.YtmlpkejeglpciaaGreatDoor

/- What person.CheckFields returns. -/
namespace Go.Proofs.YtmlpkejeglpciaaGreatDoor
open Go.RowKit
structure Fld where
  name : ByteArray
  kind : Int
  text : ByteArray
  num : Int
def Fld.cells (f : Fld) : List Value := [.string f.name, .int .i64 f.kind, .string f.text, .int .i64 f.num]
def rFld : Rep Fld := .flat 4 Fld.cells (fun _ => rfl)
def Fld.small (f : Fld) : Prop := f.name.size ≤ 1000000000 ∧ f.text.size ≤ 1000000000
def fldsGo (prev : Option ByteArray) : List Fld → Int
  | [] => 0
  | f :: r => if L.isKey f.name = false then 5 else if ¬ valueFault f.kind f.text f.num = 0 then valueFault f.kind f.text f.num else
    if prev.any (fun p => leS f.name p) then 7 else fldsGo (some f.name) r
def fldsFault (l : List Fld) : Int := if 30 < l.length then 2 else fldsGo none l
def prevAt (xs : List Fld) (k : Nat) : Option ByteArray := if k = 0 then none else (xs[k - 1]?).map Fld.name
theorem Sl.fld {N : Nat → Prop} {w : World} {A : Option Addr} {xs : List Fld} (h : Sl rFld N w A xs) (k : Nat) (f : Fld) (hk : xs[k]? = some f) : ∃ blk off, A = some ⟨blk, off, none⟩ ∧ blk < w.heap.size ∧
    w.cell? ⟨blk, off + k * 4, none⟩ = some (.string f.name) ∧ w.cell? ⟨blk, off + k * 4 + 1, none⟩ = some (.int .i64 f.kind) ∧ w.cell? ⟨blk, off + k * 4 + 2, none⟩ = some (.string f.text) ∧ w.cell? ⟨blk, off + k * 4 + 3, none⟩ = some (.int .i64 f.num) := by
  obtain ⟨blk, off, l, e, h1, _, h3, h4⟩ := h k f hk
  obtain rfl : l = Fld.cells f := h3
  exact ⟨blk, off, e, h1, h4 0 _ rfl, h4 1 _ rfl, h4 2 _ rfl, h4 3 _ rfl⟩
set_option maxHeartbeats 4000000 in
set_option maxRecDepth 100000 in
theorem checkFields_any (N : Nat → Prop) (A : Option Addr) (xs : List Fld) (c : Nat) (w : World) (hS : Sl rFld N w A xs) (hsm : ∀ f ∈ xs, f.small) (hn : xs.length ≤ 1000000000) (hT : Tabs w) :
    Calls Tryz.prog 170 #[.slice A xs.length c] w fun e w' => e = .returned (.int .i64 (fldsFault xs)) ∧ Below w.heap.size w w' := by
  have HT := Lib.hid hT
  have HS := Lib.hid hS
  have Hsm := Lib.hid hsm
  clear hT hS hsm
  obtain ⟨R, HR⟩ : ∃ R, Hid (fldsFault xs = R) := ⟨_, Lib.hid rfl⟩
  rw [HR.out]
  by_cases h30 : 30 < xs.length
  · go_enter Tryz.func170, Tryz.ntmps170
    go_wp2_with fail
    go_ret
    exact ⟨ret_i (by rw [← HR.out]; simp [fldsFault, h30]), Below.refl _ _⟩
  · have HR2 : Hid (fldsGo none xs = R) := by show _ = _; rw [← HR.out, fldsFault, if_neg h30]
    clear HR
    go_enter Tryz.func170, Tryz.ntmps170
    go_wp2_with fail
    go_loopw [11] (fun i wr => ∃ k : Nat, k ≤ xs.length ∧ i = .int .i64 k ∧ fldsGo (prevAt xs k) (xs.drop k) = R ∧ Below w.heap.size w wr) (fun i _ => xs.length - (intOf i).toNat)
    case atStart => exact ⟨0, Nat.zero_le _, rfl, HR2.out, Below.refl _ _⟩
    case round =>
      clear HR2
      obtain ⟨k, hk, rfl, hr, hbl⟩ := hrel
      have Hr := Lib.hid hr
      clear hr
      by_cases hlt : k < xs.length
      · obtain ⟨f, hf⟩ : ∃ f, xs[k]? = some f := ⟨_, List.getElem?_eq_getElem hlt⟩
        obtain ⟨blk, off, rfl, hblk, c0, c1, c2, c3⟩ := HS.out.fld k f hf
        have d0 := (hbl.cell (p := ⟨blk, off + k * 4, none⟩) hblk).trans c0
        have d1 := (hbl.cell (p := ⟨blk, off + k * 4 + 1, none⟩) hblk).trans c1
        have d2 := (hbl.cell (p := ⟨blk, off + k * 4 + 2, none⟩) hblk).trans c2
        have d3 := (hbl.cell (p := ⟨blk, off + k * 4 + 3, none⟩) hblk).trans c3
        have hfs1 : f.name.size ≤ 1000000000 := And.left (Hsm.out f (List.mem_of_getElem? hf))
        have hfs2 : f.text.size ≤ 1000000000 := And.right (Hsm.out f (List.mem_of_getElem? hf))
        have Hf := Lib.hid hf
        clear c0 c1 c2 c3 hf
        have Hstep : Hid (fldsGo (prevAt xs k) (f :: xs.drop (k + 1)) = R) := by
          show _ = _
          rw [← Hr.out, List.drop_eq_getElem_cons hlt]
          have : xs[k] = f := by simpa [List.getElem?_eq_getElem hlt] using Hf.out
          rw [this]
        clear Hr
        have Hcv : Hid (∀ w', Below w.heap.size w w' → Calls Tryz.prog 238 #[.agg #[.int .i64 f.kind, .string f.text, .int .i64 f.num]] w' fun e w'' => e = .returned (.int .i64 (valueFault f.kind f.text f.num)) ∧ Below w'.heap.size w' w'') := fun w' h => checkValue_any _ _ _ w' hfs2 (Utf8Tabs_below HT.out h)
        have Hb1 : Hid (Below w.heap.size w (wr.alloc (.cells #[.string f.name, .int .i64 f.kind, .string f.text, .int .i64 f.num] 123))) := hbl.alloc hbl.size _
        have hsz := hbl.size
        by_cases h1 : L.isKey f.name = true
        · go_wp2_with fail
          refine (isKey_any f.name _ hfs1).mono ?_
          rintro e _ ⟨rfl, rfl⟩
          rw [h1]
          by_cases h2 : valueFault f.kind f.text f.num = 0
          · rw [h2] at Hcv
            go_wp2_with fail
            refine (Hcv.out _ Hb1.out).mono ?_
            rintro e w1 ⟨rfl, hl_w1⟩
            have hz_w1 := hl_w1.size
            by_cases hk0 : k = 0
            · have hk1 : decide (0 < k) = false := by simp; omega
              have Hk0 := Lib.hid hk0
              clear hk0 d0 d1 d2 d3 Hcv
              go_wp2_with fail
              go_quiet (fail)
              go_wp2_with fail
              go_roundw
              case rel => exact ⟨k + 1, by omega, by go_num, by rw [← Hstep.out, Hk0.out, fldsGo, h1, h2]; simp [prevAt]; rw [← Hk0.out, Hf.out]; rfl, Hb1.out.trans ((hl_w1.mono (by simp; omega)).trans (below_drewN _ _ _))⟩
              case measure => simp [intOf]; omega
            · obtain ⟨g, hg⟩ : ∃ g, xs[k - 1]? = some g := ⟨_, List.getElem?_eq_getElem (by omega)⟩
              obtain ⟨_, _, e, _, p0, _, _, _⟩ := HS.out.fld (k - 1) g hg
              cases e
              obtain ⟨j, rfl⟩ : ∃ j, k = j + 1 := ⟨k - 1, by omega⟩
              rw [Nat.add_sub_cancel] at hg p0
              have Hg := Lib.hid hg
              have q0 : w1.cell? ⟨blk, off + j * 4, none⟩ = some (.string g.name) := ((Hb1.out.trans (hl_w1.mono (by simp; omega))).cell (p := ⟨blk, off + j * 4, none⟩) hblk).trans p0
              have q1 : w1.cell? ⟨wr.heap.size, 0, none⟩ = some (.string f.name) := by rw [hl_w1.cell (p := ⟨wr.heap.size, 0, none⟩) (by simp), World.cell?_alloc_at _ _ _ _ rfl]; rfl
              clear hg p0 hk0 d0 d1 d2 d3
              go_wp2_with fail
              have hk1 : decide ((0 : Int) < ((j + 1 : Nat) : Int)) = true := by simp
              have hk2 : ((j + 1 : Nat) : Int) - 1 = (j : Int) := by omega
              clear Hcv
              go_quiet (fail)
              go_wp2_with fail
              · have hle : leS f.name g.name = true := by
                  have h : Op.bytesLess f.name.toList g.name.toList = true ∨ (f.name.toList == g.name.toList) = true := by assumption
                  unfold leS; rw [Bool.or_eq_true]; exact h
                go_ret
                exact ⟨ret_i (by rw [← Hstep.out, fldsGo, h1, h2]; simp [prevAt, Hg.out, hle]), Hb1.out.trans ((hl_w1.mono (by simp; omega)).trans (below_drewN _ _ _))⟩
              · have hle : Hid (leS f.name g.name = false) := by
                  have h : Op.bytesLess f.name.toList g.name.toList = false ∧ (f.name.toList == g.name.toList) = false := by assumption
                  show leS _ _ = _; unfold leS; rw [h.1, h.2]; rfl
                go_roundw
                case rel => exact ⟨j + 1 + 1, by omega, by go_num, by rw [← Hstep.out, fldsGo, h1, h2]; simp [prevAt, Hg.out, Hf.out, hle.out], Hb1.out.trans ((hl_w1.mono (by simp; omega)).trans (below_drewN _ _ _))⟩
                case measure => simp [intOf]; omega
          · go_wp2_with fail
            refine (Hcv.out _ Hb1.out).mono ?_
            rintro e w1 ⟨rfl, hl_w1⟩
            have hz_w1 := hl_w1.size
            go_wp2_with fail
            go_ret
            exact ⟨ret_i (by rw [← Hstep.out, fldsGo, h1]; simp [h2]), Hb1.out.trans (hl_w1.mono (by simp; omega))⟩
        · have h1 : L.isKey f.name = false := by simpa using h1
          go_wp2_with fail
          refine (isKey_any f.name _ hfs1).mono ?_
          rintro e _ ⟨rfl, rfl⟩
          rw [h1]
          go_wp2_with fail
          go_ret
          exact ⟨ret_i (by rw [← Hstep.out, fldsGo, h1]; simp), Hb1.out⟩
      · go_wp2_with fail
        go_ret
        exact ⟨ret_i (by rw [← Hr.out, List.drop_eq_nil_of_le (by omega)]; rfl), hbl⟩

end Go.Proofs.YtmlpkejeglpciaaGreatDoor

/- What CompareIds and handref2.Order return. -/
namespace Go.Proofs.YtmlpkejeglpciaaGreatDoor
open Go.RowKit
end Go.Proofs.YtmlpkejeglpciaaGreatDoor

/- What person.Find and slices.BinarySearchFunc return. -/
namespace Go.Proofs.YtmlpkejeglpciaaGreatDoor
open Go.RowKit
theorem find1_any (f : Fld) (nm : ByteArray) (w : World) :
    Calls Tryz.prog 173 #[.agg #[.string f.name, .int .i64 f.kind, .string f.text, .int .i64 f.num], .string nm] w fun e w' => e = .returned (.int .i64 (cmpS f.name nm)) ∧ Below w.heap.size w w' := by
  have Hb : Hid (Below w.heap.size w (w.alloc (.cells #[.string f.name, .int .i64 f.kind, .string f.text, .int .i64 f.num] 123))) := (Below.refl _ _).alloc (Nat.le_refl _) _
  go_enter Tryz.func173, Tryz.ntmps173
  go_wp2_with fail
  refine (compareS_any f.name nm _).mono ?_
  rintro e _ ⟨rfl, rfl⟩
  go_wp2_with fail
  go_ret
  exact ⟨rfl, Hb.out⟩
def Rising (xs : List Fld) : Prop := ∀ (i j : Nat) (f g : Fld), i < j → xs[i]? = some f → xs[j]? = some g → ltS f.name g.name = true
def GivesPlace (xs : List Fld) (nm : ByteArray) (w : World) (e : Ending) (w' : World) : Prop :=
  ∃ (i : Nat) (b : Bool), e = .returned (.tuple #[.int .i64 i, .bool b]) ∧ i ≤ xs.length ∧ (∀ p f, p < i → xs[p]? = some f → ltS f.name nm = true) ∧ (∀ p f, i ≤ p → xs[p]? = some f → ltS f.name nm = false) ∧
    (b = true ↔ ∃ f, xs[i]? = some f ∧ cmpS f.name nm = 0) ∧ Below w.heap.size w w'
set_option maxHeartbeats 4000000 in
set_option maxRecDepth 100000 in
theorem bsearch_any (N : Nat → Prop) (A : Option Addr) (xs : List Fld) (nm : ByteArray) (c : Nat) (w : World) (hS : Sl rFld N w A xs) (hn : xs.length ≤ 1000) (hri : Rising xs) :
    Calls Tryz.prog 172 #[.slice A xs.length c, .string nm, .func (.func 173) #[] #[]] w (GivesPlace xs nm w) := by
  have HS := Lib.hid hS
  have Hri := Lib.hid hri
  clear hS hri
  go_enter Tryz.func172, Tryz.ntmps172
  go_wp2_with fail
  go_loopw [9, 10] (fun a b wr => ∃ i j : Nat, i ≤ j ∧ j ≤ xs.length ∧ a = .int .i64 i ∧ b = .int .i64 j ∧ (∀ p f, p < i → xs[p]? = some f → ltS f.name nm = true) ∧ (∀ p f, j ≤ p → xs[p]? = some f → ltS f.name nm = false) ∧ Below w.heap.size w wr) (fun a b _ => (intOf b - intOf a).toNat)
  case atStart => exact ⟨0, xs.length, by omega, by omega, rfl, rfl, (fun p f h => by omega), (fun p f h hp => by rw [List.getElem?_eq_none h] at hp; cases hp), Below.refl _ _⟩
  case round =>
    obtain ⟨i, j, hij, hj, rfl, rfl, hlo, hhi, hbl⟩ := hrel
    have Hlo := Lib.hid hlo
    have Hhi := Lib.hid hhi
    have hsz := hbl.size
    clear hlo hhi
    by_cases hlt : i < j
    · obtain ⟨h, hh⟩ : ∃ h : Nat, h = (i + j) / 2 := ⟨_, rfl⟩
      have h1 : i ≤ h := by omega
      have h2 : h < j := by omega
      have eh : ((i : Int) + (j : Int)) / 2 = (h : Int) := by omega
      clear hh
      obtain ⟨f, hf⟩ : ∃ f, xs[h]? = some f := ⟨_, List.getElem?_eq_getElem (by omega)⟩
      obtain ⟨blk, off, rfl, hblk, c0, c1, c2, c3⟩ := HS.out.fld h f hf
      have d0 := (hbl.cell (p := ⟨blk, off + h * 4, none⟩) hblk).trans c0
      have d1 := (hbl.cell (p := ⟨blk, off + h * 4 + 1, none⟩) hblk).trans c1
      have d2 := (hbl.cell (p := ⟨blk, off + h * 4 + 2, none⟩) hblk).trans c2
      have d3 := (hbl.cell (p := ⟨blk, off + h * 4 + 3, none⟩) hblk).trans c3
      have Hf := Lib.hid hf
      clear c0 c1 c2 c3 hf
      go_wp2_with fail
      refine (find1_any f nm _).mono ?_
      rintro e w1 ⟨rfl, hl_w1⟩
      have hz_w1 := hl_w1.size
      have Hb1 : Hid (Below w.heap.size w w1) := hbl.trans (hl_w1.mono hsz)
      have Hcn := Lib.hid (cmpS_neg f.name nm)
      generalize cmpS f.name nm = cm at *
      clear hl_w1 hz_w1 d0 d1 d2 d3
      by_cases hc : cm < 0
      · have Hl : Hid (∀ p g, p < h + 1 → xs[p]? = some g → ltS g.name nm = true) := fun p g hp hg => by
          by_cases hph : p = h
          · subst hph
            rw [Hf.out] at hg
            cases hg
            exact Hcn.out.1 hc
          · exact ltS_trans (Hri.out p h g f (by omega) hg Hf.out) (Hcn.out.1 hc)
        go_wp2_with fail
        go_roundw
        case rel => exact ⟨h + 1, j, by omega, by omega, by go_num, rfl, Hl.out, Hhi.out, Hb1.out⟩
        case measure => simp [intOf]; omega
      · have hnl : ltS f.name nm = false := by
          cases hx : ltS f.name nm
          · rfl
          · exact absurd (Hcn.out.2 hx) hc
        have Hl : Hid (∀ p g, h ≤ p → xs[p]? = some g → ltS g.name nm = false) := fun p g hp hg => by
          by_cases hph : p = h
          · subst hph
            rw [Hf.out] at hg
            cases hg
            exact hnl
          · cases hx : ltS g.name nm
            · rfl
            · rw [ltS_trans (Hri.out h p f g (by omega) Hf.out hg) hx] at hnl
              cases hnl
        clear hnl
        go_wp2_with fail
        go_roundw
        case rel => exact ⟨i, h, by omega, by omega, rfl, rfl, Hlo.out, Hl.out, Hb1.out⟩
        case measure => simp [intOf]; omega
    · obtain rfl : i = j := by omega
      by_cases hlen : i < xs.length
      · obtain ⟨f, hf⟩ : ∃ f, xs[i]? = some f := ⟨_, List.getElem?_eq_getElem hlen⟩
        obtain ⟨blk, off, rfl, hblk, c0, c1, c2, c3⟩ := HS.out.fld i f hf
        have d0 := (hbl.cell (p := ⟨blk, off + i * 4, none⟩) hblk).trans c0
        have d1 := (hbl.cell (p := ⟨blk, off + i * 4 + 1, none⟩) hblk).trans c1
        have d2 := (hbl.cell (p := ⟨blk, off + i * 4 + 2, none⟩) hblk).trans c2
        have d3 := (hbl.cell (p := ⟨blk, off + i * 4 + 3, none⟩) hblk).trans c3
        have Hf := Lib.hid hf
        clear c0 c1 c2 c3 hf
        go_wp2_with fail
        refine (find1_any f nm _).mono ?_
        rintro e w1 ⟨rfl, hl_w1⟩
        have hz_w1 := hl_w1.size
        have Hb1 : Hid (Below w.heap.size w w1) := hbl.trans (hl_w1.mono hsz)
        obtain ⟨cm, Hcm⟩ : ∃ cm, Hid (cmpS f.name nm = cm) := ⟨_, Lib.hid rfl⟩
        rw [Hcm.out]
        clear hl_w1 hz_w1 d0 d1 d2 d3
        go_wp2_with fail
        go_ret2
        exact ⟨i, (cm == 0), rfl, by omega, Hlo.out, Hhi.out, by rw [beq_iff_eq]; exact ⟨fun h => ⟨f, Hf.out, by rw [Hcm.out, h]⟩, fun ⟨g, hg, hz⟩ => by rw [Hf.out] at hg; cases hg; rw [← Hcm.out]; exact hz⟩, Hb1.out⟩
      · go_wp2_with fail
        go_ret2
        exact ⟨i, false, rfl, by omega, Hlo.out, Hhi.out, ⟨(fun h => by cases h), (fun ⟨g, hg, _⟩ => by rw [List.getElem?_eq_none (by omega)] at hg; cases hg)⟩, hbl⟩
def FindsTo (xs : List Fld) (nm : ByteArray) (o : Option Fld) : Prop := (∀ f, o = some f → f ∈ xs ∧ f.name = nm) ∧ (o = none → ∀ f ∈ xs, f.name ≠ nm)
def valOf (o : Option Fld) : Value := match o with | some f => .agg #[.int .i64 f.kind, .string f.text, .int .i64 f.num] | none => .agg #[.int .i64 0, .string ⟨#[]⟩, .int .i64 0]
def GivesFld (xs : List Fld) (nm : ByteArray) (w : World) (e : Ending) (w' : World) : Prop := ∃ o, FindsTo xs nm o ∧ e = .returned (.tuple #[valOf o, .bool o.isSome]) ∧ Below w.heap.size w w'
set_option maxHeartbeats 4000000 in
set_option maxRecDepth 100000 in
theorem find_any (N : Nat → Prop) (A : Option Addr) (xs : List Fld) (nm : ByteArray) (c : Nat) (w : World) (hS : Sl rFld N w A xs) (hn : xs.length ≤ 1000) (hri : Rising xs) :
    Calls Tryz.prog 123 #[.slice A xs.length c, .string nm] w (GivesFld xs nm w) := by
  have HS := Lib.hid hS
  have Hri := Lib.hid hri
  have Hb : Hid (Below w.heap.size w (w.alloc (.cells #[.int .i64 0, .string ⟨#[]⟩, .int .i64 0] 121))) := (Below.refl _ _).alloc (Nat.le_refl _) _
  have lvR := LV.new w w.heap.size #[.int .i64 0, .string ⟨#[]⟩, .int .i64 0] 121 rfl
  have HSb := Lib.hid (HS.out.keepB Hb.out)
  clear hS hri HS
  go_enter Tryz.func123, Tryz.ntmps123
  go_wp2_with fail
  refine (bsearch_any N A xs nm c _ HSb.out hn Hri.out).mono ?_
  rintro e w1 ⟨i, b, rfl, hi, hlo, hhi, hb, hl1⟩
  have Hlo := Lib.hid hlo
  have Hhi := Lib.hid hhi
  have HbI := Lib.hid hb
  have HS1 := Lib.hid (HSb.out.keepB hl1)
  have Hb1 := Lib.hid (Hb.out.trans (hl1.mono (by simp)))
  have lv1 : LV w1 w.heap.size #[.int .i64 0, .string ⟨#[]⟩, .int .i64 0] 121 := (hl1.block _ lvR.lt).trans lvR
  clear hlo hhi hb hl1 HSb Hb lvR
  cases b
  · have Hf : Hid (FindsTo xs nm none) := by
      refine ⟨(fun f h => by cases h), fun _ f hf hnm => ?_⟩
      obtain ⟨p, hp, e⟩ := List.getElem_of_mem hf
      have hpf : xs[p]? = some f := by rw [List.getElem?_eq_getElem hp, e]
      rcases Nat.lt_trichotomy p i with h | h | h
      · have := Hlo.out p f h hpf
        rw [hnm, ltS_irr] at this; cases this
      · subst h
        have := HbI.out.2 ⟨f, hpf, (cmpS_zero _ _).2 hnm⟩
        cases this
      · have hg : xs[i]? = some (xs[i]'(by omega)) := List.getElem?_eq_getElem (by omega)
        have h1 := Hri.out i p _ f h hg hpf
        have h2 := Hhi.out i _ (Nat.le_refl _) hg
        rw [hnm, h2] at h1; cases h1
    have Hbf : Hid (Below w.heap.size w (((w1.setCell ⟨w.heap.size, 0, none⟩ (.int .i64 0)).setCell ⟨w.heap.size, 1, none⟩ (.string ⟨#[]⟩)).setCell ⟨w.heap.size, 2, none⟩ (.int .i64 0))) := ((Hb1.out.setCell (p := ⟨w.heap.size, 0, none⟩) (Nat.le_refl _) _).setCell (p := ⟨w.heap.size, 1, none⟩) (Nat.le_refl _) _).setCell (p := ⟨w.heap.size, 2, none⟩) (Nat.le_refl _) _
    have lv1_c0 := lv1.cell 0 _ rfl
    have lv1_c1 := lv1.cell 1 _ rfl
    have lv1_c2 := lv1.cell 2 _ rfl
    have lv1_f0 := lv1.free 0
    have lv1_f1 := lv1.free 1
    have lv1_f2 := lv1.free 2
    go_wp2_with fail
    exact bodyPost_ret (v := .tuple #[.agg #[.int .i64 0, .string ⟨#[]⟩, .int .i64 0], .bool false]) (by simp [results, Tryz.results123, go_sem, lv1_c0, lv1_c1, lv1_c2]) rfl ⟨none, Hf.out, rfl, Hbf.out⟩
  · obtain ⟨f, hf, hz⟩ := HbI.out.1 rfl
    have hlt : i < xs.length := (List.getElem?_eq_some_iff.1 hf).1
    have Hf : Hid (FindsTo xs nm (some f)) := ⟨(fun g h => by cases h; exact ⟨List.mem_of_getElem? hf, (cmpS_zero _ _).1 hz⟩), (fun h => by cases h)⟩
    obtain ⟨blk, off, rfl, hblk, c0, c1, c2, c3⟩ := HS1.out.fld i f hf
    have Hbf : Hid (Below w.heap.size w (((w1.setCell ⟨w.heap.size, 0, none⟩ (.int .i64 f.kind)).setCell ⟨w.heap.size, 1, none⟩ (.string f.text)).setCell ⟨w.heap.size, 2, none⟩ (.int .i64 f.num))) := ((Hb1.out.setCell (p := ⟨w.heap.size, 0, none⟩) (Nat.le_refl _) _).setCell (p := ⟨w.heap.size, 1, none⟩) (Nat.le_refl _) _).setCell (p := ⟨w.heap.size, 2, none⟩) (Nat.le_refl _) _
    have lv1_c0 := lv1.cell 0 _ rfl
    have lv1_c1 := lv1.cell 1 _ rfl
    have lv1_c2 := lv1.cell 2 _ rfl
    have lv1_f0 := lv1.free 0
    have lv1_f1 := lv1.free 1
    have lv1_f2 := lv1.free 2
    clear hf hz c0 Hlo Hhi
    go_wp2_with fail
    exact bodyPost_ret (v := .tuple #[.agg #[.int .i64 f.kind, .string f.text, .int .i64 f.num], .bool true]) (by simp [results, Tryz.results123, go_sem, lv1_c0, lv1_c1, lv1_c2]) rfl ⟨some f, Hf.out, rfl, Hbf.out⟩
end Go.Proofs.YtmlpkejeglpciaaGreatDoor

/- What right fields have: their texts are short and their names rise. -/
namespace Go.Proofs.YtmlpkejeglpciaaGreatDoor
open Go.RowKit
theorem value_ok {k n : Int} {t : ByteArray} (h : valueFault k t n = 0) : t.size ≤ 200 := by
  have hnil : t.toList = [] → t.size ≤ 200 := fun e => by
    rw [toList_nil_iff_emptyBytes] at e
    rw [e]
    simp
  unfold valueFault at h
  repeat' split at h
  all_goals first
    | (cases h; done)
    | (refine hnil ?_; simp_all; done)
    | (unfold textFault at h
       by_cases c : 200 < t.size
       · rw [if_pos c] at h; cases h
       · omega)
theorem fldsGo_ok : ∀ (l : List Fld) (p : Option ByteArray), fldsGo p l = 0 → (∀ f ∈ l, f.text.size ≤ 200) ∧ (∀ q, p = some q → ∀ f ∈ l, ltS q f.name = true) ∧ Rising l
  | [], _, _ => ⟨(fun _ h => by cases h), (fun _ _ _ h => by cases h), (fun _ _ _ _ _ h => by simp at h)⟩
  | x :: r, p, h => by
    rw [fldsGo] at h
    split at h
    · cases h
    split at h
    · rename_i h2; exact absurd h h2
    rename_i h2
    split at h
    · cases h
    rename_i h3
    have h2 := Classical.not_not.1 h2
    obtain ⟨i1, i2, i3⟩ := fldsGo_ok r _ h
    have hp : ∀ q, p = some q → ltS q x.name = true := fun q hq => by
      subst hq
      exact ltS_of_not_le (by simpa using h3)
    refine ⟨fun f hf => ?_, fun q hq f hf => ?_, fun i j f g hij hf hg => ?_⟩
    · rcases List.mem_cons.1 hf with rfl | hf
      · exact value_ok h2
      · exact i1 f hf
    · rcases List.mem_cons.1 hf with rfl | hf
      · exact hp q hq
      · exact ltS_trans (hp q hq) (i2 _ rfl f hf)
    · cases j with
      | zero => omega
      | succ j =>
        have hg : r[j]? = some g := by simpa using hg
        cases i with
        | zero =>
          obtain rfl : x = f := by simpa using hf
          exact i2 _ rfl g (List.mem_of_getElem? hg)
        | succ i => exact i3 i j f g (by omega) (by simpa using hf) hg
theorem flds_ok {l : List Fld} (h : fldsFault l = 0) : l.length ≤ 30 ∧ (∀ f ∈ l, f.text.size ≤ 200) ∧ Rising l := by
  unfold fldsFault at h
  split at h
  · cases h
  obtain ⟨h1, _, h3⟩ := fldsGo_ok l _ h
  exact ⟨by omega, h1, h3⟩
end Go.Proofs.YtmlpkejeglpciaaGreatDoor

/- Small general laws: indexes, cells of slices of numbers and texts. -/
namespace Go.Proofs.YtmlpkejeglpciaaGreatDoor
open Go.RowKit
def isCh (n : Int) : Bool := decide (1 ≤ n ∧ n ≤ 4)
def idxGo {α : Type} (p : α → Bool) (k : Nat) : List α → Int
  | [] => -1
  | x :: r => if p x = true then k else idxGo p (k + 1) r
theorem idxGo_any {α : Type} (p : α → Bool) : ∀ (l : List α) (k : Nat), decide (0 ≤ idxGo p k l) = l.any p
  | [], k => by simp [idxGo]
  | x :: r, k => by
    rw [idxGo]
    by_cases h : p x = true
    · simp [h]
    · have h' : p x = false := by simpa using h
      rw [if_neg h, idxGo_any p r (k + 1)]
      simp [h']
theorem Sl.str {N : Nat → Prop} {w : World} {A : Option Addr} {xs : List ByteArray} (h : Sl rStr N w A xs) (k : Nat) (c : ByteArray) (hk : xs[k]? = some c) : ∃ blk off, A = some ⟨blk, off, none⟩ ∧ blk < w.heap.size ∧ w.cell? ⟨blk, off + k, none⟩ = some (.string c) := by
  obtain ⟨blk, off, l, e, h1, _, h3, h4⟩ := h k c hk
  obtain rfl : l = [.string c] := h3
  have := h4 0 _ rfl
  exact ⟨blk, off, e, h1, by simpa [rStr, Rep.flat] using this⟩
theorem drop_at3 {α : Type} {xs : List α} {k : Nat} {s : α} (h : xs[k]? = some s) : xs.drop k = s :: xs.drop (k + 1) := by
  obtain ⟨hlt, rfl⟩ := List.getElem?_eq_some_iff.1 h
  exact List.drop_eq_getElem_cons hlt
theorem LV.kb3 {w w' : World} {X B : Nat} {cs : Array Value} {T : TypeId} (h : LV w X cs T) (k : Below B w w') (hb : X < B) : LV w' X cs T := (k.block X hb).trans h
theorem step_no {e x R : Int} (h : (if e ≠ 0 then e else x) = R) (he : e ≠ 0) : e = R := by rw [if_pos he] at h; exact h
theorem step_go {e x R : Int} (h : (if e ≠ 0 then e else x) = R) (he : e = 0) : x = R := by rw [if_neg (by simp [he])] at h; exact h
theorem take_snoc {α : Type} {xs : List α} {k : Nat} {x : α} (h : xs[k]? = some x) : xs.take (k + 1) = xs.take k ++ [x] := by rw [List.take_add_one, h]; rfl
def ahd {α : Type} (xs : List α) (k : Nat) : Option α := if k = 0 then none else xs[k - 1]?
theorem ahd_succ {α : Type} (xs : List α) (k : Nat) (x : α) (h : xs[k]? = some x) : ahd xs (k + 1) = some x := by rw [ahd, if_neg (by omega)]; exact h
theorem step_is {e x R v : Int} (h : (if e ≠ 0 then e else x) = R) (he : e = v) (hv : v ≠ 0) : v = R := by subst he; exact step_no h hv
def first3 (a b c : Int) : Int := if a ≠ 0 then a else if b ≠ 0 then b else c
theorem beqS {a b : ByteArray} : (a.toList == b.toList) = true ↔ a = b := by
  rw [beq_iff_eq, ByteArray.toList_eq, ByteArray.toList_eq]
  exact ⟨fun h => WideShapes.bytes_inj (by simpa using h), fun h => by rw [h]⟩
theorem results_cs {P : Program} {fn : Func} {t s : Tmp} {T : TypeId} {a : Addr} {v u : Value} {w : World} {tmps : Array Value} (h : fn.results = #[.cell t T, .tmp s]) (hp : tmps.getD t undef = .pointer (some a)) (hs : tmps.getD s undef = u) (hl : (loadVar T a).run P w = .ok v w) : (results fn tmps).run P w = .ok (.tuple #[v, u]) w := by
  have hp' : tmps[t]?.getD undef = .pointer (some a) := by simpa using hp
  have hs' : tmps[s]?.getD undef = u := by simpa using hs
  simp [results, h, asAddr, hp', hs', hl]
end Go.Proofs.YtmlpkejeglpciaaGreatDoor

/- Plain laws on ids: what is a mail address, a phone number, a member number, the id of a device. No program is in sight. -/
namespace Go.Proofs.YtmlpkejeglpciaaGreatDoor.L
open Go
def mailByte (c : UInt8) : Bool := isSmall c || isDigit c || c.toNat == 46 || c.toNat == 45 || c.toNat == 95
def labelByte (c : UInt8) : Bool := isSmall c || isDigit c || c.toNat == 45
def memberByte (c : UInt8) : Bool := isDigit c || isCapital c
def deviceByte (c : UInt8) : Bool := isDigit c || (decide (97 ≤ c.toNat) && decide (c.toNat ≤ 102))
def ends (l : List UInt8) (c : UInt8) : Bool := l.headD 0 != c && l.getLastD 0 != c
def labelOk (s : ByteArray) : Bool := decide (1 ≤ s.size) && decide (s.size ≤ 30) && ends s.data.toList 45 && s.data.toList.all labelByte
def labels (d : ByteArray) : List ByteArray := Lib.splitB ⟨#[46]⟩ 0 (Lib.countB d ⟨#[46]⟩) d
def localOk (l : ByteArray) : Bool := decide (1 ≤ l.size) && decide (l.size ≤ 64) && ends l.data.toList 46 && !Lib.contains l.data.toList [46, 46] && l.data.toList.all mailByte
def mailOk (s : ByteArray) : Bool :=
  (Lib.cut s.data.toList [64]).2.2 && decide (s.size ≤ 80) && localOk ⟨(Lib.cut s.data.toList [64]).1.toArray⟩ && (labels ⟨(Lib.cut s.data.toList [64]).2.1.toArray⟩).all labelOk && decide (2 ≤ (labels ⟨(Lib.cut s.data.toList [64]).2.1.toArray⟩).length)
def phoneOk (s : ByteArray) : Bool := Lib.hasPrefix s.data.toList [43] && decide (8 ≤ s.size) && decide (s.size ≤ 16) && (s.data.toList.drop 1).all isDigit && (s.data.toList.drop 1).headD 0 != 48
def memberOk (s : ByteArray) : Bool := decide (4 ≤ s.size) && decide (s.size ≤ 20) && s.data.toList.all memberByte
def deviceOk (s : ByteArray) : Bool := decide (s.size = 32) && s.data.toList.all deviceByte
def signs : List UInt8 := digitsL ++ capitalsL
def sgn (c : UInt8) : Nat := (Lib.indexByte signs c).toNat
def q36 (n : Nat) : Nat := n / 36 + n % 36
def sgnSum : List UInt8 → Nat
  | [] => 0
  | c :: t => q36 (if t.length % 2 = 0 then 2 * sgn c else sgn c) + sgnSum t
def checkNo (l : List UInt8) : Nat := (36 - sgnSum l % 36) % 36
def signAt (n : Nat) : UInt8 := signs.getD n 0
def idFault (k : Int) (s : ByteArray) : Int :=
  if k = 1 then (if mailOk s then 0 else 3) else if k = 2 then (if phoneOk s then 0 else 3)
  else if k = 3 then (if memberOk s then (if signAt (checkNo s.data.toList.dropLast) = s.data.toList.getLastD 0 then 0 else 15) else 3)
  else if k = 4 then (if deviceOk s then 0 else 3) else 4
set_option maxRecDepth 100000 in
theorem sgn_lt (c : UInt8) (h : memberByte c = true) : 0 ≤ Lib.indexByte signs c ∧ Lib.indexByte signs c < 36 :=
  byte_all (p := fun c => memberByte c = true → 0 ≤ Lib.indexByte signs c ∧ Lib.indexByte signs c < 36) (by decide +kernel) c h
set_option maxRecDepth 100000 in
theorem mails_has (c : UInt8) : (smallsL ++ digitsL ++ [46, 45, 95]).contains c = mailByte c := byte_all (p := fun c => (smallsL ++ digitsL ++ [46, 45, 95]).contains c = mailByte c) (by decide +kernel) c
set_option maxRecDepth 100000 in
theorem labels_has (c : UInt8) : (smallsL ++ digitsL ++ [45]).contains c = labelByte c := byte_all (p := fun c => (smallsL ++ digitsL ++ [45]).contains c = labelByte c) (by decide +kernel) c
set_option maxRecDepth 100000 in
theorem members_has (c : UInt8) : (digitsL ++ capitalsL).contains c = memberByte c := byte_all (p := fun c => (digitsL ++ capitalsL).contains c = memberByte c) (by decide +kernel) c
set_option maxRecDepth 100000 in
theorem devices_has (c : UInt8) : (digitsL ++ [97, 98, 99, 100, 101, 102]).contains c = deviceByte c := byte_all (p := fun c => (digitsL ++ [97, 98, 99, 100, 101, 102]).contains c = deviceByte c) (by decide +kernel) c
theorem q36_le (n : Nat) (h : n ≤ 70) : q36 n ≤ 36 := by unfold q36; omega
theorem sgn_le (c : UInt8) (h : memberByte c = true) : sgn c ≤ 35 := by have := sgn_lt c h; unfold sgn; omega
theorem sgnSum_le : ∀ l : List UInt8, l.all memberByte = true → sgnSum l ≤ 36 * l.length
  | [], _ => by simp [sgnSum]
  | c :: t, h => by
    simp only [List.all_cons, Bool.and_eq_true] at h
    have h1 := sgn_le c h.1
    have h2 := sgnSum_le t h.2
    have h3 := q36_le (if t.length % 2 = 0 then 2 * sgn c else sgn c) (by split <;> omega)
    rw [sgnSum, List.length_cons]; omega
theorem trimS_same (l : List UInt8) (c : UInt8) (h : l ≠ []) : (Lib.trimS l [c] == l) = ends l c := by
  have hd : ∀ (m : List UInt8), m.headD 0 ≠ c → m.dropWhile ([c].contains ·) = m := fun m hm => by
    cases m with
    | nil => rfl
    | cons a t => rw [List.dropWhile_cons_of_neg]; simpa using hm
  have hl : ∀ m : List UInt8, m.reverse.headD 0 = m.getLastD 0 := fun m => by
    rw [List.headD_eq_head?_getD, List.getLastD_eq_getLast?, List.head?_reverse]
  rw [Bool.eq_iff_iff, beq_iff_eq]
  unfold ends Lib.trimS Lib.trimLeftS Lib.trimRightS
  simp only [Bool.and_eq_true, bne_iff_ne, ne_eq]
  constructor
  · intro e
    have hlen := congrArg List.length e
    have k1 := (List.dropWhile_sublist ([c].contains ·) (l := (l.reverse.dropWhile ([c].contains ·)).reverse)).length_le
    have k2 := (List.dropWhile_sublist ([c].contains ·) (l := l.reverse)).length_le
    simp only [List.length_reverse] at k1 k2
    have e2 : l.reverse.dropWhile ([c].contains ·) = l.reverse := (List.dropWhile_sublist _).eq_of_length (by rw [List.length_reverse]; omega)
    rw [e2, List.reverse_reverse] at e
    constructor
    · intro h0
      cases l with
      | nil => exact h rfl
      | cons a t =>
        have ha : a = c := h0
        rw [List.dropWhile_cons_of_pos (by simp [ha])] at e
        have := congrArg List.length e
        have k3 := (List.dropWhile_sublist ([c].contains ·) (l := t)).length_le
        simp only [List.length_cons] at this
        omega
    · intro h0
      rw [← hl] at h0
      cases hr : l.reverse with
      | nil => simp at hr; exact h hr
      | cons a t =>
        rw [hr] at e2 h0
        have ha : a = c := h0
        rw [List.dropWhile_cons_of_pos (by simp [ha])] at e2
        have := congrArg List.length e2
        have k3 := (List.dropWhile_sublist ([c].contains ·) (l := t)).length_le
        simp only [List.length_cons] at this
        omega
  · rintro ⟨h1, h2⟩
    rw [hd l.reverse (by rw [hl]; exact h2), List.reverse_reverse, hd l h1]
end Go.Proofs.YtmlpkejeglpciaaGreatDoor.L
