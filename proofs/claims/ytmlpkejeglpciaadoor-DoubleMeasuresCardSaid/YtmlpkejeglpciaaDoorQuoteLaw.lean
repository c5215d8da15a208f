/- Quoted strings, plainly: what a byte is written as, a quoted string, and how one is read again. No program is in sight. -/
import Derived.Lib.Strings
import Derived.Lib.ConvBytes
import Derived.Lib.Bytealg
namespace Go.Proofs.YtmlpkejeglpciaaDoor.Q

/-- a digit of base 16 -/
def hexd (n : Nat) : UInt8 := ([48, 49, 50, 51, 52, 53, 54, 55, 56, 57, 97, 98, 99, 100, 101, 102] : List UInt8)[n]?.getD 0
/-- what a byte is written as -/
def qb (c : UInt8) : List UInt8 :=
  if c.toNat = 34 ∨ c.toNat = 92 then [92, c] else if c.toNat = 10 then [92, 110] else if c.toNat < 33 ∨ 126 < c.toNat then [92, 120, hexd (c.toNat / 16), hexd (c.toNat % 16)] else [c]
def quote (l : List UInt8) : List UInt8 := 34 :: (l.flatMap qb ++ [34])

theorem qb_len (c : UInt8) : 1 ≤ (qb c).length ∧ (qb c).length ≤ 4 := by
  unfold qb; repeat' split
  all_goals simp
theorem flat_len (l : List UInt8) : (l.flatMap qb).length ≤ 4 * l.length := by
  induction l with
  | nil => simp
  | cons c l ih => have := qb_len c; simp only [List.flatMap_cons, List.length_append, List.length_cons]; omega
theorem take_flat (l : List UInt8) (k : Nat) (h : k < l.length) : (l.take (k + 1)).flatMap qb = (l.take k).flatMap qb ++ qb l[k] := by
  rw [List.take_succ_eq_append_getElem h, List.flatMap_append]; simp

def hexs : List UInt8 := [48, 49, 50, 51, 52, 53, 54, 55, 56, 57, 97, 98, 99, 100, 101, 102]
/-- the value of a digit of base 16, or -1 -/
def hv (c : UInt8) : Int := Lib.indexByte hexs c
/-- a byte that is written by its number -/
def hidI (n : Int) : Prop := (n < 33 ∧ n ≠ 10) ∨ 127 ≤ n
instance (n : Int) : Decidable (hidI n) := by unfold hidI; infer_instance
/-- what stands behind a backslash: the byte, and how many bytes it takes -/
def esc : List UInt8 → UInt8 × Nat
  | [] => (0, 0)
  | c :: r =>
    if c.toNat = 34 ∨ c.toNat = 92 then (c, 1) else if c.toNat = 110 then (10, 1) else if c.toNat = 120 then
      match r with
      | x :: y :: _ => if hv x < 0 ∨ hv y < 0 then (0, 0) else if hidI (16 * hv x + hv y) then (UInt8.ofNat (16 * hv x + hv y).toNat, 3) else (0, 0)
      | _ => (0, 0)
    else (0, 0)
/-- one step of the program -/
def stepP : List UInt8 → Option (UInt8 × Nat)
  | [] => none
  | c :: r => if c.toNat = 92 then (if (esc r).2 = 0 then none else some ((esc r).1, 1 + (esc r).2)) else if hidI c.toNat ∨ c.toNat = 10 then none else some (c, 1)
/-- one step of the reference: the first byte whose writing stands there -/
def stepR (rest : List UInt8) : Option (UInt8 × Nat) :=
  (List.range 256).findSome? fun k => if (qb (UInt8.ofNat k)).isPrefixOf rest then some (UInt8.ofNat k, (qb (UInt8.ofNat k)).length) else none
/-- reading on at place i -/
def run (step : List UInt8 → Option (UInt8 × Nat)) (l : List UInt8) : Nat → Nat → List UInt8 → Option (List UInt8 × Nat)
  | 0, _, _ => none
  | f + 1, i, acc =>
    match l.drop i with
    | [] => none
    | c :: r => if c.toNat = 34 then some (acc, i + 1) else match step (c :: r) with
      | none => none
      | some (x, n) => run step l f (i + n) (acc ++ [x])
/-- reading a quoted string -/
def unq (step : List UInt8 → Option (UInt8 × Nat)) (l : List UInt8) : Option (List UInt8 × Nat) :=
  match l with
  | [] => none
  | c :: _ => if c.toNat = 34 then run step l l.length 1 [] else none

theorem hv_hexd (n : Nat) (h : n < 16) : hv (hexd n) = n := by
  have : ∀ m : Fin 16, hv (hexd m.val) = m.val := by decide
  exact this ⟨n, h⟩
theorem hexd_hv (c : UInt8) (h : 0 ≤ hv c) : hexd (hv c).toNat = c ∧ hv c < 16 := by
  have : ∀ m : Fin 256, 0 ≤ hv (UInt8.ofNat m.val) → hexd (hv (UInt8.ofNat m.val)).toNat = UInt8.ofNat m.val ∧ hv (UInt8.ofNat m.val) < 16 := by decide +kernel
  have h2 := this ⟨c.toNat, c.toNat_lt⟩
  simp only [UInt8.ofNat_toNat] at h2
  exact h2 h

theorem stepP_of_prefix (k : UInt8) (t : List UInt8) : stepP (qb k ++ t) = some (k, (qb k).length) := by
  unfold qb
  split
  · rename_i h
    simp [stepP, esc, h]
  · rename_i h1
    split
    · rename_i h2
      have : k = 10 := UInt8.toNat_inj.1 h2
      subst this
      simp [stepP, esc]
    · rename_i h2
      split
      · rename_i h3
        have hk := k.toNat_lt
        have e1 := hv_hexd (k.toNat / 16) (by omega)
        have e2 := hv_hexd (k.toNat % 16) (by omega)
        have e3 : (16 : Int) * ((k.toNat / 16 : Nat) : Int) + ((k.toNat % 16 : Nat) : Int) = k.toNat := by omega
        have e4 : hidI k.toNat := by unfold hidI; omega
        have e5 : esc (120 :: hexd (k.toNat / 16) :: hexd (k.toNat % 16) :: t) = (k, 3) := by
          simp only [esc]
          rw [if_neg (by decide), if_neg (by decide), if_pos (by decide), e1, e2, if_neg (by omega), e3, if_pos e4]
          simp
        simp only [stepP, List.cons_append, List.nil_append, e5]
        rfl
      · rename_i h3
        have e4 : ¬ (hidI k.toNat ∨ k.toNat = 10) := by unfold hidI; omega
        simp only [stepP, List.cons_append, List.nil_append]
        rw [if_neg (by omega), if_neg e4]; rfl

theorem prefix_of_stepP (rest : List UInt8) (x : UInt8) (n : Nat) (h0 : ∀ c r, rest = c :: r → c.toNat ≠ 34) (h : stepP rest = some (x, n)) : ∃ t, rest = qb x ++ t := by
  cases rest with
  | nil => cases h
  | cons c r =>
    have h34 := h0 c r rfl
    simp only [stepP] at h
    split at h
    · rename_i h92
      have hc : c = 92 := UInt8.toNat_inj.1 h92
      subst hc
      split at h
      · cases h
      · rename_i hne
        cases h
        cases r with
        | nil => simp [esc] at hne
        | cons d r =>
          simp only [esc] at hne ⊢
          split at hne
          · rename_i hd
            rw [if_pos hd]
            exact ⟨r, by simp [qb, hd]⟩
          · rename_i hd
            rw [if_neg hd]
            split at hne
            · rename_i hd2
              rw [if_pos hd2]
              have : d = 110 := UInt8.toNat_inj.1 hd2
              subst this
              exact ⟨r, by simp [qb]⟩
            · rename_i hd2
              rw [if_neg hd2]
              split at hne
              · rename_i hd3
                rw [if_pos hd3]
                have : d = 120 := UInt8.toNat_inj.1 hd3
                subst this
                match r, hne with
                | [], hne => simp at hne
                | [_], hne => simp at hne
                | a :: b :: r, hne =>
                  simp only at hne ⊢
                  split at hne
                  · simp at hne
                  · rename_i hv0
                    rw [if_neg hv0]
                    split at hne
                    · rename_i hh
                      rw [if_pos hh]
                      have ha := hexd_hv a (by omega)
                      have hb := hexd_hv b (by omega)
                      have hn0 : 0 ≤ hv a ∧ 0 ≤ hv b := by omega
                      have hx : (UInt8.ofNat (16 * hv a + hv b).toNat).toNat = (16 * hv a + hv b).toNat := by
                        rw [UInt8.toNat_ofNat_of_lt']; show _ < 256; omega
                      refine ⟨r, ?_⟩
                      unfold hidI at hh
                      unfold qb
                      rw [hx]
                      rw [if_neg (by omega), if_neg (by omega), if_pos (by omega)]
                      have q1 : (16 * hv a + hv b).toNat / 16 = (hv a).toNat := by omega
                      have q2 : (16 * hv a + hv b).toNat % 16 = (hv b).toNat := by omega
                      rw [q1, q2, ha.1, hb.1]
                      rfl
                    · simp at hne
              · simp at hne
    · rename_i h92
      split at h
      · cases h
      · rename_i hh
        cases h
        refine ⟨r, ?_⟩
        unfold hidI at hh
        unfold qb
        rw [if_neg (by omega), if_neg (by omega), if_neg (by omega)]
        rfl

theorem step_same (rest : List UInt8) (h0 : ∀ c r, rest = c :: r → c.toNat ≠ 34) : stepR rest = stepP rest := by
  have hA : ∀ k : UInt8, (qb k).isPrefixOf rest = true → stepP rest = some (k, (qb k).length) := by
    intro k hk
    obtain ⟨t, ht⟩ := List.isPrefixOf_iff_prefix.1 hk
    rw [← ht]
    exact stepP_of_prefix k t
  cases hs : stepP rest with
  | none =>
    unfold stepR
    rw [List.findSome?_eq_none_iff]
    intro k _
    split
    · rename_i hk
      have := hA _ hk
      rw [hs] at this
      cases this
    · rfl
  | some p =>
    obtain ⟨x, n⟩ := p
    obtain ⟨t, ht⟩ := prefix_of_stepP rest x n h0 hs
    have hx : (qb x).isPrefixOf rest = true := List.isPrefixOf_iff_prefix.2 ⟨t, ht.symm⟩
    have hn : n = (qb x).length := by
      have := hA x hx
      rw [hs] at this
      simpa using this
    unfold stepR
    cases hf : (List.range 256).findSome? (fun k => if (qb (UInt8.ofNat k)).isPrefixOf rest then some (UInt8.ofNat k, (qb (UInt8.ofNat k)).length) else none) with
    | none =>
      rw [List.findSome?_eq_none_iff] at hf
      have := hf x.toNat (by simp; exact x.toNat_lt)
      simp [hx] at this
    | some y =>
      obtain ⟨k, hk, hy⟩ := List.exists_of_findSome?_eq_some hf
      split at hy
      · rename_i hp
        have := hA _ hp
        rw [hs] at this
        rw [← this] at hy
        exact hy.symm
      · cases hy

theorem run_same (l : List UInt8) : ∀ f i acc, run stepR l f i acc = run stepP l f i acc
  | 0, _, _ => rfl
  | f + 1, i, acc => by
    unfold run
    cases hd : l.drop i with
    | nil => rfl
    | cons c r =>
      simp only
      split
      · rfl
      · rename_i hc
        rw [step_same (c :: r) (fun c' r' he => by cases he; exact hc)]
        cases stepP (c :: r) with
        | none => rfl
        | some p => exact run_same l f _ _
theorem unq_same (l : List UInt8) : unq stepR l = unq stepP l := by
  unfold unq
  cases l with
  | nil => rfl
  | cons c r => simp only; split
                · exact run_same _ _ _ _
                · rfl
end Go.Proofs.YtmlpkejeglpciaaDoor.Q
