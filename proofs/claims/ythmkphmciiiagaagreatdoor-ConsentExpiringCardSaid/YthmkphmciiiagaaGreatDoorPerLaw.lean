/- The plain law of periods: an answer turns at some moments only; lists that hold these moments tell the same periods. -/
import Derived.Test.YthmkphmciiiagaaGreatDoorMayTop
namespace Go.Proofs.YthmkphmciiiagaaGreatDoor
open Go.RowKit
abbrev Ans := Bool × Int × Int
theorem const_between {f : Int → Ans} {a : Int} : ∀ (n : Nat), (∀ m, a < m → m ≤ a + n → f m = f (m - 1)) → f (a + n) = f a
  | 0, _ => by simp
  | n + 1, h => by
    have h1 := h (a + (n + 1 : Nat)) (by omega) (Int.le_refl _)
    have h2 := const_between n (fun m h2 h3 => h m h2 (by omega))
    rw [h1, show a + ((n + 1 : Nat) : Int) - 1 = a + n by omega, h2]
theorem const_to {f : Int → Ans} {a b : Int} (hab : a ≤ b) (h : ∀ m, a < m → m ≤ b → f m = f (m - 1)) : f b = f a := by
  obtain ⟨n, hn⟩ := Int.eq_ofNat_of_zero_le (show 0 ≤ b - a by omega)
  obtain rfl : b = a + n := by omega
  exact const_between n h
/-- the steps of an answer over moments -/
def steps (f : Int → Ans) (cur : Ans) : List Int → List (Int × Ans)
  | [] => []
  | m :: r => if f m = cur then steps f cur r else (m, f m) :: steps f (f m) r
def turnB (f : Int → Ans) (m : Int) : Bool := decide (f m ≠ f (m - 1))
theorem steps_turns {f : Int → Ans} {E : Int} : ∀ (L : List Int) (a : Int), (∀ m ∈ L, a < m) → L.Pairwise (· < ·) → (∀ m, a < m → m < E → f m ≠ f (m - 1) → m ∈ L) → (∀ m ∈ L, m < E) →
    steps f (f a) L = (L.filter (turnB f)).map (fun m => (m, f m))
  | [], _, _, _, _, _ => rfl
  | x :: r, a, h1, h2, h3, h4 => by
    have hx := h1 x (by simp)
    have h2' := List.pairwise_cons.1 h2
    have e : f (x - 1) = f a := const_to (by omega) fun m hm hm2 => Decidable.byContradiction fun hne => by
      have := h3 m hm (by have := h4 x (by simp); omega) hne
      rcases List.mem_cons.1 this with rfl | h
      · omega
      · have := h2'.1 m h; omega
    have h3' : ∀ m, x < m → m < E → f m ≠ f (m - 1) → m ∈ r := fun m hm hm2 hne => by
      rcases List.mem_cons.1 (h3 m (by omega) hm2 hne) with rfl | h
      · omega
      · exact h
    have ih := steps_turns r x h2'.1 h2'.2 h3' (fun m hm => h4 m (by simp [hm]))
    unfold steps
    by_cases hf : f x = f a
    · rw [if_pos hf, ← hf, ih, List.filter_cons_of_neg (by simp [turnB, e, hf])]
    · rw [if_neg hf, ih, List.filter_cons_of_pos (by simp [turnB, e, hf]), List.map_cons]
theorem sorted_ext : ∀ (L M : List Int), L.Pairwise (· < ·) → M.Pairwise (· < ·) → (∀ m, m ∈ L ↔ m ∈ M) → L = M
  | [], [], _, _, _ => rfl
  | [], y :: s, _, _, h => by have := (h y).2 (by simp); simp at this
  | x :: r, [], _, _, h => by have := (h x).1 (by simp); simp at this
  | x :: r, y :: s, h1, h2, h => by
    have h1' := List.pairwise_cons.1 h1
    have h2' := List.pairwise_cons.1 h2
    have hxy : x = y := by
      rcases List.mem_cons.1 ((h x).1 (by simp)) with e | e
      · exact e
      · rcases List.mem_cons.1 ((h y).2 (by simp)) with e2 | e2
        · exact e2.symm
        · have := h2'.1 x e; have := h1'.1 y e2; omega
    subst hxy
    rw [sorted_ext r s h1'.2 h2'.2 fun m => ?_]
    constructor
    · intro hm
      rcases List.mem_cons.1 ((h m).1 (by simp [hm])) with rfl | e
      · have := h1'.1 m hm; omega
      · exact e
    · intro hm
      rcases List.mem_cons.1 ((h m).2 (by simp [hm])) with rfl | e
      · have := h2'.1 m hm; omega
      · exact e
/-- the first step behind a moment -/
def nextP (f : Int → Ans) (at' : Int) : List Int → Int
  | [] => 4321440
  | m :: r => if at' < m ∧ f m ≠ f at' then m else nextP f at' r
theorem nextP_turns2 {f : Int → Ans} {E at' : Int} : ∀ (L : List Int) (a : Int), at' ≤ a → f a = f at' → (∀ m ∈ L, a < m) → L.Pairwise (· < ·) → (∀ m, a < m → m < E → f m ≠ f (m - 1) → m ∈ L) → (∀ m ∈ L, m < E) →
    nextP f at' L = ((L.filter (turnB f)).find? (fun m => decide (at' < m))).getD 4321440
  | [], _, _, _, _, _, _, _ => rfl
  | x :: r, a, h0, hfa, h1, h2, h3, h4 => by
    have hx := h1 x (by simp)
    have h2' := List.pairwise_cons.1 h2
    have e : f (x - 1) = f a := const_to (by omega) fun m hm hm2 => Decidable.byContradiction fun hne => by
      have := h3 m hm (by have := h4 x (by simp); omega) hne
      rcases List.mem_cons.1 this with rfl | h
      · omega
      · have := h2'.1 m h; omega
    have h3' : ∀ m, x < m → m < E → f m ≠ f (m - 1) → m ∈ r := fun m hm hm2 hne => by
      rcases List.mem_cons.1 (h3 m (by omega) hm2 hne) with rfl | h
      · omega
      · exact h
    unfold nextP
    by_cases hf : f x = f at'
    · rw [if_neg (by simp [hf]), nextP_turns2 r x (by omega) hf h2'.1 h2'.2 h3' (fun m hm => h4 m (by simp [hm])), List.filter_cons_of_neg (by simp [turnB, e, hf, hfa])]
    · rw [if_pos ⟨by omega, hf⟩, List.filter_cons_of_pos (by simp [turnB, e, hf, hfa]), List.find?_cons_of_pos (by simp; omega)]
      rfl
theorem nextP_turns {f : Int → Ans} {E at' : Int} : ∀ (L : List Int), L.Pairwise (· < ·) → (∀ m, at' < m → m < E → f m ≠ f (m - 1) → m ∈ L) → (∀ m ∈ L, m < E) →
    nextP f at' L = ((L.filter (turnB f)).find? (fun m => decide (at' < m))).getD 4321440
  | [], _, _, _ => rfl
  | x :: r, h2, h3, h4 => by
    have h2' := List.pairwise_cons.1 h2
    by_cases hx : at' < x
    · refine nextP_turns2 (x :: r) at' (Int.le_refl _) rfl (fun m hm => ?_) h2 h3 h4
      rcases List.mem_cons.1 hm with rfl | h
      · exact hx
      · have := h2'.1 m h; omega
    · have ih := nextP_turns r h2'.2 (fun m hm hm2 hne => by
        rcases List.mem_cons.1 (h3 m hm hm2 hne) with rfl | h
        · exact absurd hm hx
        · exact h) (fun m hm => h4 m (by simp [hm]))
      unfold nextP
      rw [if_neg (fun h => hx h.1), ih]
      by_cases hf : turnB f x = true
      · rw [List.filter_cons_of_pos hf, List.find?_cons_of_neg (by simpa using hx)]
      · rw [List.filter_cons_of_neg hf]
/-- a stretch of time and its answer -/
structure Per where
  from' : Int
  to' : Int
  a : Ans
def pers (x : Int × Ans) : List (Int × Ans) → List Per
  | [] => [⟨x.1, 4321440, x.2⟩]
  | y :: r => ⟨x.1, y.1, x.2⟩ :: pers y r
theorem pers_len : ∀ (L : List (Int × Ans)) (x : Int × Ans), (pers x L).length = L.length + 1
  | [], _ => rfl
  | y :: r, x => by rw [pers, List.length_cons, pers_len r y, List.length_cons]
def lastS (x : Int × Ans) : List (Int × Ans) → Int × Ans
  | [] => x
  | y :: r => lastS y r
/-- the last stretch -/
theorem pers_last : ∀ (L : List (Int × Ans)) (x : Int × Ans), (pers x L)[L.length]? = some ⟨(lastS x L).1, 4321440, (lastS x L).2⟩
  | [], _ => rfl
  | y :: r, x => by rw [pers, List.length_cons, List.getElem?_cons_succ]; exact pers_last r y
/-- one step more -/
theorem pers_snoc : ∀ (L : List (Int × Ans)) (x y : Int × Ans), pers x (L ++ [y]) = (pers x L).set L.length ⟨(lastS x L).1, y.1, (lastS x L).2⟩ ++ [⟨y.1, 4321440, y.2⟩]
  | [], _, _ => rfl
  | z :: r, x, y => by
    rw [List.cons_append, pers, pers_snoc r z y, pers, List.length_cons, List.set_cons_succ, List.cons_append]
    rfl
theorem lastS_snoc : ∀ (L : List (Int × Ans)) (x y : Int × Ans), lastS x (L ++ [y]) = y
  | [], _, _ => rfl
  | z :: r, _, y => lastS_snoc r z y
/-- the end of the stretch that holds a moment -/
def nextR (at' : Int) : List Per → Int
  | [] => 4321440
  | x :: r => if x.from' ≤ at' ∧ at' ≤ x.to' - 1 then x.to' else nextR at' r
theorem nextR_is {at' : Int} (hat : at' ≤ 4321439) : ∀ (L : List (Int × Ans)) (x : Int × Ans), x.1 ≤ at' → nextR at' (pers x L) = ((L.map Prod.fst).find? (fun m => decide (at' < m))).getD 4321440
  | [], _, hx => by simp [pers, nextR, hx]
  | y :: r, _, hx => by
    rw [pers, nextR, List.map_cons]
    by_cases hy : at' < y.1
    · rw [if_pos ⟨hx, by show at' ≤ y.1 - 1; omega⟩, List.find?_cons_of_pos (by simpa using hy)]
      rfl
    · rw [if_neg (fun h => hy (by have := h.2; simp at this; omega)), nextR_is hat r y (by omega), List.find?_cons_of_neg (by simpa using hy)]
/-- a list of moments in order that holds all turns behind the first moment -/
structure Moms (f : Int → Ans) (L : List Int) : Prop where
  ord : L.Pairwise (· < ·)
  lo : ∀ m ∈ L, 0 ≤ m
  hi : ∀ m ∈ L, m < 4321440
  all : ∀ m, 0 < m → m < 4321440 → f m ≠ f (m - 1) → m ∈ L
/-- the turns of an answer, in order -/
def turnsOf (f : Int → Ans) (L : List Int) : List Int := (L.filter (fun m => decide (0 < m))).filter (turnB f)
theorem Moms.same {f : Int → Ans} {L M : List Int} (h : Moms f L) (k : Moms f M) : turnsOf f L = turnsOf f M := by
  refine sorted_ext _ _ ((h.ord.filter _).filter _) ((k.ord.filter _).filter _) fun m => ?_
  simp only [turnsOf, List.mem_filter, turnB, decide_eq_true_eq]
  exact ⟨fun ⟨⟨h1, h2⟩, h3⟩ => ⟨⟨k.all m h2 (h.hi m h1) h3, h2⟩, h3⟩, fun ⟨⟨h1, h2⟩, h3⟩ => ⟨⟨h.all m h2 (k.hi m h1) h3, h2⟩, h3⟩⟩
theorem Moms.steps {f : Int → Ans} {L : List Int} (h : Moms f L) : steps f (f 0) L = (turnsOf f L).map (fun m => (m, f m)) := by
  have key : ∀ M : List Int, (∀ m ∈ M, 0 < m) → M.Pairwise (· < ·) → (∀ m, 0 < m → m < 4321440 → f m ≠ f (m - 1) → m ∈ M) → (∀ m ∈ M, m < 4321440) → Go.Proofs.YthmkphmciiiagaaGreatDoor.steps f (f 0) M = (turnsOf f M).map (fun m => (m, f m)) := fun M h1 h2 h3 h4 => by
    have e : M.filter (fun m => decide (0 < m)) = M := List.filter_eq_self.2 (fun m hm => by simpa using h1 m hm)
    rw [steps_turns M 0 h1 h2 h3 h4, turnsOf, e]
  cases L with
  | nil => rfl
  | cons x r =>
    have ho := List.pairwise_cons.1 h.ord
    have hx := h.lo x (by simp)
    by_cases h0 : x = 0
    · subst h0
      have hk := key r ho.1 ho.2 (fun m hm hm2 hne => by
        rcases List.mem_cons.1 (h.all m hm hm2 hne) with rfl | h
        · omega
        · exact h) (fun m hm => h.hi m (by simp [hm]))
      show (if f 0 = f 0 then Go.Proofs.YthmkphmciiiagaaGreatDoor.steps f (f 0) r else _) = _
      rw [if_pos rfl, hk, turnsOf, turnsOf, List.filter_cons_of_neg (by simp)]
    · refine key (x :: r) (fun m hm => ?_) h.ord h.all h.hi
      rcases List.mem_cons.1 hm with rfl | h
      · omega
      · have := ho.1 m h; omega
theorem Moms.next {f : Int → Ans} {L : List Int} (h : Moms f L) {at' : Int} (hat : 0 ≤ at') : nextP f at' L = ((turnsOf f L).find? (fun m => decide (at' < m))).getD 4321440 := by
  rw [nextP_turns (E := 4321440) L h.ord (fun m hm => h.all m (by omega)) h.hi, turnsOf]
  congr 1
  have e : ∀ M : List Int, (M.filter (turnB f)).find? (fun m => decide (at' < m)) = ((M.filter (fun m => decide (0 < m))).filter (turnB f)).find? (fun m => decide (at' < m)) := fun M => by
    induction M with
    | nil => rfl
    | cons x r ih =>
      by_cases hx : 0 < x
      · rw [List.filter_cons_of_pos (p := fun m => decide (0 < m)) (by simpa using hx)]
        by_cases hf : turnB f x = true
        · rw [List.filter_cons_of_pos hf, List.filter_cons_of_pos hf, List.find?_cons, List.find?_cons, ih]
        · rw [List.filter_cons_of_neg hf, List.filter_cons_of_neg hf, ih]
      · rw [List.filter_cons_of_neg (p := fun m => decide (0 < m)) (by simpa using hx)]
        by_cases hf : turnB f x = true
        · rw [List.filter_cons_of_pos hf, List.find?_cons_of_neg (by simp; omega), ih]
        · rw [List.filter_cons_of_neg hf, ih]
  exact e L
/-- what the reference says of the next step, by all periods -/
theorem Moms.nextR {f : Int → Ans} {L : List Int} (h : Moms f L) {at' : Int} (h0 : 0 ≤ at') (h1 : at' ≤ 4321439) : Go.Proofs.YthmkphmciiiagaaGreatDoor.nextR at' (pers (0, f 0) (Go.Proofs.YthmkphmciiiagaaGreatDoor.steps f (f 0) L)) = nextP f at' L := by
  rw [nextR_is h1 _ (0, f 0) h0, h.next h0, h.steps, List.map_map]
  congr 2
  exact List.map_id _
/-- a moment at which an answer can turn -/
def IsMom (tm : PTerm) (pu : ByteArray) (U : List Stm) (m : Int) : Prop := ∃ s ∈ U, m = s.at' ∨ (kindB 1 pu s = true ∧ (m = s.at' + tm.wait + 1 ∨ (tm.days ≠ 0 ∧ m = s.at' + tm.days * 1440)))
theorem upS_still {U : List Stm} {m : Int} (h : ∀ s ∈ U, s.at' ≠ m) : upS m U = upS (m - 1) U := by
  unfold upS
  refine List.filter_congr fun s hs => ?_
  have := h s hs
  rw [decide_eq_decide]
  omega
theorem bestGo_congr {st st' : Stm → Int} : ∀ (R : List Stm) (b : Stm) (why : Int), (∀ g ∈ R, st g = st' g) → bestGo st b why R = bestGo st' b why R
  | [], _, _, _ => rfl
  | g :: r, b, why, h => by
    unfold bestGo
    rw [h g (by simp), bestGo_congr r _ _ (fun x hx => h x (by simp [hx])), bestGo_congr r _ _ (fun x hx => h x (by simp [hx]))]
theorem ansP_still {o : Option PTerm} {pu : ByteArray} {U : List Stm} {m : Int} (h : ¬ IsMom (o.getD tZero) pu U m) : ansP o pu m (upS m U) = ansP o pu (m - 1) (upS (m - 1) U) := by
  cases o with
  | none => rfl
  | some tm =>
    rw [upS_still (fun s hs e => h ⟨s, hs, .inl e.symm⟩)]
    have hst : ∀ g ∈ grP pu (wdGo pu stmZ false (upS (m - 1) U)).1 (wdGo pu stmZ false (upS (m - 1) U)).2 (upS (m - 1) U), stP tm (upS (m - 1) U) m g = stP tm (upS (m - 1) U) (m - 1) g := fun g hg => by
      have h1 := List.mem_filter.1 hg
      have h2 := (List.mem_filter.1 h1.1).1
      have h3 : kindB 1 pu g = true := by
        have := h1.2
        simp only [Bool.and_eq_true] at this
        simpa [kindB] using this.1
      have h4 : m ≠ g.at' + tm.wait + 1 := fun e => h ⟨g, h2, .inr ⟨h3, .inl e⟩⟩
      have h5 : tm.days ≠ 0 → m ≠ g.at' + tm.days * 1440 := fun hd e => h ⟨g, h2, .inr ⟨h3, .inr ⟨hd, e⟩⟩⟩
      unfold stP
      have e1 : (tm.days ≠ 0 ∧ g.at' + tm.days * 1440 ≤ m) ↔ (tm.days ≠ 0 ∧ g.at' + tm.days * 1440 ≤ m - 1) := by
        constructor
        · rintro ⟨a, b⟩; have := h5 a; exact ⟨a, by omega⟩
        · rintro ⟨a, b⟩; exact ⟨a, by omega⟩
      have e2 : (m ≤ g.at' + tm.wait) ↔ (m - 1 ≤ g.at' + tm.wait) := by omega
      simp only [e1, e2]
    have e : bestGo (stP tm (upS (m - 1) U) m) stmZ 0 (grP pu (wdGo pu stmZ false (upS (m - 1) U)).1 (wdGo pu stmZ false (upS (m - 1) U)).2 (upS (m - 1) U)) = bestGo (stP tm (upS (m - 1) U) (m - 1)) stmZ 0 (grP pu (wdGo pu stmZ false (upS (m - 1) U)).1 (wdGo pu stmZ false (upS (m - 1) U)).2 (upS (m - 1) U)) := bestGo_congr _ _ _ hst
    simp only [ansP, allowP, e]
end Go.Proofs.YthmkphmciiiagaaGreatDoor
