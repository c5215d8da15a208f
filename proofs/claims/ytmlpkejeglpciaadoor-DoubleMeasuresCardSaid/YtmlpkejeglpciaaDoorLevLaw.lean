/- Edit distances, plainly: that the distance by rows from the front is the distance by columns from the end. No program is in sight. -/
import Derived.Test.YtmlpkejeglpciaaDoorDistLaw
namespace Go.Proofs.YtmlpkejeglpciaaDoor.D

/-- one column more at the front -/
def levRow (f : List Int → Nat) (x : Int) (n : Nat) : List Int → Nat
  | [] => n
  | y :: b => if x = y then f b else 1 + min (min (f b) (f (y :: b))) (levRow f x n b)
/-- the distance from the end -/
def lev : List Int → List Int → Nat
  | [] => fun b => b.length
  | x :: a => levRow (lev a) x (a.length + 1)
theorem lev_nil (b : List Int) : lev [] b = b.length := rfl
theorem lev_nil' (a : List Int) : lev a [] = a.length := by cases a <;> rfl
theorem lev_cons (x y : Int) (a b : List Int) : lev (x :: a) (y :: b) = if x = y then lev a b else 1 + min (min (lev a b) (lev a (y :: b))) (lev (x :: a) b) := rfl

/-- an alignment: what stands against what -/
abbrev Al := List (Option Int × Option Int)
def one (p : Option Int × Option Int) : Nat := match p with | (some x, some y) => if x = y then 0 else 1 | _ => 1
def cost (t : Al) : Nat := (t.map one).sum
def lft (t : Al) : List Int := t.filterMap (·.1)
def rgt (t : Al) : List Int := t.filterMap (·.2)

theorem ex_del : ∀ a : List Int, ∃ t : Al, lft t = a ∧ rgt t = [] ∧ cost t = a.length
  | [] => ⟨[], rfl, rfl, rfl⟩
  | x :: a => by
    obtain ⟨t, h1, h2, h3⟩ := ex_del a
    exact ⟨(some x, none) :: t, by simp [lft] at *; exact h1, by simp [rgt] at *; exact h2, by simp [cost, one] at *; omega⟩
theorem ex_ins : ∀ b : List Int, ∃ t : Al, lft t = [] ∧ rgt t = b ∧ cost t = b.length
  | [] => ⟨[], rfl, rfl, rfl⟩
  | x :: a => by
    obtain ⟨t, h1, h2, h3⟩ := ex_ins a
    exact ⟨(none, some x) :: t, by simp [lft] at *; exact h1, by simp [rgt] at *; exact h2, by simp [cost, one] at *; omega⟩
theorem lft_cons (p : Option Int × Option Int) (t : Al) : lft (p :: t) = match p.1 with | some x => x :: lft t | none => lft t := by
  obtain ⟨p1, p2⟩ := p; cases p1 <;> simp [lft]
theorem rgt_cons (p : Option Int × Option Int) (t : Al) : rgt (p :: t) = match p.2 with | some x => x :: rgt t | none => rgt t := by
  obtain ⟨p1, p2⟩ := p; cases p2 <;> simp [rgt]
theorem cost_cons (p : Option Int × Option Int) (t : Al) : cost (p :: t) = one p + cost t := by simp [cost]

/-- the distance is that of some alignment -/
theorem ex : ∀ (a b : List Int), ∃ t : Al, lft t = a ∧ rgt t = b ∧ cost t = lev a b
  | [], b => by obtain ⟨t, h1, h2, h3⟩ := ex_ins b; exact ⟨t, h1, h2, h3⟩
  | x :: a, [] => by obtain ⟨t, h1, h2, h3⟩ := ex_del (x :: a); exact ⟨t, h1, h2, by rw [h3, lev_nil']⟩
  | x :: a, y :: b => by
    obtain ⟨t1, l1, r1, c1⟩ := ex a b
    obtain ⟨t2, l2, r2, c2⟩ := ex a (y :: b)
    obtain ⟨t3, l3, r3, c3⟩ := ex (x :: a) b
    rw [lev_cons]
    by_cases h : x = y
    · exact ⟨(some x, some y) :: t1, by rw [lft_cons, l1], by rw [rgt_cons, r1], by rw [cost_cons, c1, if_pos h]; simp [one, h]⟩
    · rw [if_neg h]
      rcases Nat.le_total (lev a b) (lev a (y :: b)) with h1 | h1
      · rcases Nat.le_total (lev a b) (lev (x :: a) b) with h2 | h2
        · exact ⟨(some x, some y) :: t1, by rw [lft_cons, l1], by rw [rgt_cons, r1], by rw [cost_cons, c1]; simp only [one, if_neg h]; omega⟩
        · exact ⟨(none, some y) :: t3, by rw [lft_cons, l3], by rw [rgt_cons, r3], by rw [cost_cons, c3]; simp only [one]; omega⟩
      · rcases Nat.le_total (lev a (y :: b)) (lev (x :: a) b) with h2 | h2
        · exact ⟨(some x, none) :: t2, by rw [lft_cons, l2], by rw [rgt_cons, r2], by rw [cost_cons, c2]; simp only [one]; omega⟩
        · exact ⟨(none, some y) :: t3, by rw [lft_cons, l3], by rw [rgt_cons, r3], by rw [cost_cons, c3]; simp only [one]; omega⟩

theorem one_le (p : Option Int × Option Int) : one p ≤ 1 := by
  obtain ⟨p1, p2⟩ := p; cases p1 <;> cases p2 <;> simp [one]
  split <;> omega
theorem drop_l : ∀ (t : Al) (x : Int) (a : List Int), lft t = x :: a → ∃ t' : Al, lft t' = a ∧ rgt t' = rgt t ∧ cost t' ≤ cost t + 1
  | [], _, _, h => by simp [lft] at h
  | (some z, q) :: t, x, a, h => by
    rw [lft_cons] at h
    have h2 : lft t = a := (List.cons.inj h).2
    refine ⟨(none, q) :: t, by rw [lft_cons]; exact h2, by rw [rgt_cons, rgt_cons], ?_⟩
    have := one_le (none, q)
    rw [cost_cons, cost_cons]; omega
  | (none, q) :: t, x, a, h => by
    rw [lft_cons] at h
    obtain ⟨t', h1, h2, h3⟩ := drop_l t x a h
    exact ⟨(none, q) :: t', by rw [lft_cons]; exact h1, by rw [rgt_cons, rgt_cons, h2], by rw [cost_cons, cost_cons]; omega⟩
theorem drop_r : ∀ (t : Al) (y : Int) (b : List Int), rgt t = y :: b → ∃ t' : Al, rgt t' = b ∧ lft t' = lft t ∧ cost t' ≤ cost t + 1
  | [], _, _, h => by simp [rgt] at h
  | (q, some z) :: t, x, a, h => by
    rw [rgt_cons] at h
    have h2 : rgt t = a := (List.cons.inj h).2
    refine ⟨(q, none) :: t, by rw [rgt_cons]; exact h2, by rw [lft_cons, lft_cons], ?_⟩
    have := one_le (q, none)
    rw [cost_cons, cost_cons]; omega
  | (q, none) :: t, x, a, h => by
    rw [rgt_cons] at h
    obtain ⟨t', h1, h2, h3⟩ := drop_r t x a h
    exact ⟨(q, none) :: t', by rw [rgt_cons]; exact h1, by rw [lft_cons, lft_cons, h2], by rw [cost_cons, cost_cons]; omega⟩

/-- no alignment costs less -/
theorem low : ∀ (n : Nat) (t : Al), (lft t).length + (rgt t).length ≤ n → lev (lft t) (rgt t) ≤ cost t := by
  intro n
  induction n with
  | zero =>
    intro t h
    have e1 : lft t = [] := List.length_eq_zero_iff.1 (by omega)
    have e2 : rgt t = [] := List.length_eq_zero_iff.1 (by omega)
    rw [e1, e2]
    exact Nat.zero_le _
  | succ n ih =>
    intro t
    induction t with
    | nil => intro _; exact Nat.le_refl _
    | cons p t iht =>
      intro h
      match p, h with
      | (none, none), h =>
        have h' : (lft t).length + (rgt t).length ≤ n + 1 := by simpa [lft_cons, rgt_cons] using h
        have := iht h'
        rw [lft_cons, rgt_cons, cost_cons]; simp only [one]; omega
      | (some x, some y), h =>
        have h' : (lft t).length + (rgt t).length ≤ n := by simp [lft_cons, rgt_cons] at h; omega
        have := ih t h'
        rw [lft_cons, rgt_cons, cost_cons]
        simp only [lev_cons, one]
        by_cases hxy : x = y
        · rw [if_pos hxy, if_pos hxy]; omega
        · rw [if_neg hxy, if_neg hxy]; omega
      | (some x, none), h =>
        have h' : (lft t).length + (rgt t).length ≤ n := by simp [lft_cons, rgt_cons] at h; omega
        have h0 := ih t h'
        rw [lft_cons, rgt_cons, cost_cons]
        simp only [one]
        cases hb : rgt t with
        | nil => rw [hb, lev_nil'] at h0; rw [lev_nil']; simp; omega
        | cons y b =>
          rw [lev_cons]
          rw [hb] at h0 h'
          by_cases hxy : x = y
          · rw [if_pos hxy]
            obtain ⟨t1, e1, e2, e3⟩ := ex (lft t) (y :: b)
            obtain ⟨t2, f1, f2, f3⟩ := drop_r t1 y b e2
            have := ih t2 (by rw [f1, f2, e1]; simp at h'; omega)
            rw [f1, f2, e1] at this
            omega
          · rw [if_neg hxy]; omega
      | (none, some y), h =>
        have h' : (lft t).length + (rgt t).length ≤ n := by simp [lft_cons, rgt_cons] at h; omega
        have h0 := ih t h'
        rw [lft_cons, rgt_cons, cost_cons]
        simp only [one]
        cases ha : lft t with
        | nil => rw [ha, lev_nil] at h0; rw [lev_nil]; simp; omega
        | cons x a =>
          rw [lev_cons]
          rw [ha] at h0 h'
          by_cases hxy : x = y
          · rw [if_pos hxy]
            obtain ⟨t1, e1, e2, e3⟩ := ex (x :: a) (rgt t)
            obtain ⟨t2, f1, f2, f3⟩ := drop_l t1 x a e1
            have := ih t2 (by rw [f1, f2, e2]; simp at h'; omega)
            rw [f1, f2, e2] at this
            omega
          · rw [if_neg hxy]; omega
theorem lev_le (t : Al) (a b : List Int) (h1 : lft t = a) (h2 : rgt t = b) : lev a b ≤ cost t := by subst h1 h2; exact low _ t (Nat.le_refl _)

theorem lev3 (x y : Int) (a b : List Int) : lev (x :: a) (y :: b) = min (min (lev a b + (if x = y then 0 else 1)) (lev (x :: a) b + 1)) (lev a (y :: b) + 1) := by
  by_cases h : x = y
  · rw [lev_cons, if_pos h, if_pos h]
    obtain ⟨t1, e1, e2, e3⟩ := ex a (y :: b)
    obtain ⟨t2, f1, f2, f3⟩ := drop_r t1 y b e2
    have k1 := lev_le t2 a b (by rw [f2, e1]) f1
    obtain ⟨t3, e4, e5, e6⟩ := ex (x :: a) b
    obtain ⟨t4, f4, f5, f6⟩ := drop_l t3 x a e4
    have k2 := lev_le t4 a b f4 (by rw [f5, e5])
    omega
  · rw [lev_cons, if_neg h, if_neg h]; omega

theorem lev_rev (a b : List Int) : lev a.reverse b.reverse = lev a b := by
  have key : ∀ a b : List Int, lev a.reverse b.reverse ≤ lev a b := by
    intro a b
    obtain ⟨t, h1, h2, h3⟩ := ex a b
    have := lev_le t.reverse a.reverse b.reverse (by simp only [lft, List.filterMap_reverse]; rw [← h1]; rfl) (by simp only [rgt, List.filterMap_reverse]; rw [← h2]; rfl)
    have e : cost t.reverse = cost t := by simp [cost, List.sum_reverse]
    omega
  have h1 := key a b
  have h2 := key a.reverse b.reverse
  rw [List.reverse_reverse, List.reverse_reverse] at h2
  omega

theorem pre_lev (a b : List Int) : ∀ i j, i ≤ a.length → j ≤ b.length → pre a b i j = lev (a.take i).reverse (b.take j).reverse
  | 0, j, _, hj => by rw [pre_zero, List.take_zero, List.reverse_nil, lev_nil]; simp; omega
  | i + 1, 0, hi, _ => by rw [pre_col, List.take_zero, List.reverse_nil, lev_nil']; simp; omega
  | i + 1, j + 1, hi, hj => by
    have h1 := pre_lev a b i j (by omega) (by omega)
    have h2 := pre_lev a b (i + 1) j (by omega) (by omega)
    have h3 := pre_lev a b i (j + 1) (by omega) (by omega)
    have ea : (a.take (i + 1)).reverse = a[i] :: (a.take i).reverse := by rw [List.take_succ_eq_append_getElem (by omega)]; simp
    have eb : (b.take (j + 1)).reverse = b[j] :: (b.take j).reverse := by rw [List.take_succ_eq_append_getElem (by omega)]; simp
    rw [pre_succ, h1, h2, h3, ea, eb, lev3]
    have e : (a[i]? = b[j]?) = (a[i] = b[j]) := by rw [List.getElem?_eq_getElem (by omega), List.getElem?_eq_getElem (by omega)]; simp
    simp only [e]

/-- both are one number -/
theorem pre_eq (a b : List Int) : pre a b a.length b.length = lev a b := by
  rw [pre_lev a b _ _ (Nat.le_refl _) (Nat.le_refl _), List.take_length, List.take_length, lev_rev]
end Go.Proofs.YtmlpkejeglpciaaDoor.D
