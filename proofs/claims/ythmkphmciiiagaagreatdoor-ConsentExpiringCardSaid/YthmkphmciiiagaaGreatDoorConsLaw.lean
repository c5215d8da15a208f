/- The plain law of policies, and how they lie in memory. -/
import Derived.Test.YthmkphmciiiagaaGreatDoorPackW
namespace Go.Proofs.YthmkphmciiiagaaGreatDoor
open Go.RowKit
structure PTerm where
  region : ByteArray
  channel : Int
  free : Bool
  days : Int
  wait : Int
def PTerm.cells (t : PTerm) : List Value := [.string t.region, .int .i64 t.channel, .bool t.free, .int .i64 t.days, .int .i64 t.wait]
def rTerm : Rep PTerm := .flat 5 PTerm.cells (fun _ => rfl)
structure Purp where
  name : ByteArray
  terms : List PTerm
def Purp.cells (p : Purp) : List Value := [.string p.name]
def rPurp : Rep Purp := ((Rep.flat 1 Purp.cells (fun _ => rfl)).app rTerm.list).via (fun p => (p, p.terms))
theorem Sl.term {N : Nat → Prop} {w : World} {A : Option Addr} {xs : List PTerm} (h : Sl rTerm N w A xs) (k : Nat) (t : PTerm) (hk : xs[k]? = some t) : ∃ blk off, A = some ⟨blk, off, none⟩ ∧ blk < w.heap.size ∧
    w.cell? ⟨blk, off + k * 5, none⟩ = some (.string t.region) ∧ w.cell? ⟨blk, off + k * 5 + 1, none⟩ = some (.int .i64 t.channel) ∧ w.cell? ⟨blk, off + k * 5 + 2, none⟩ = some (.bool t.free) ∧ w.cell? ⟨blk, off + k * 5 + 3, none⟩ = some (.int .i64 t.days) ∧ w.cell? ⟨blk, off + k * 5 + 4, none⟩ = some (.int .i64 t.wait) := by
  obtain ⟨blk, off, l, e, h1, _, h3, h4⟩ := h k t hk
  obtain rfl : l = PTerm.cells t := h3
  exact ⟨blk, off, e, h1, h4 0 _ rfl, h4 1 _ rfl, h4 2 _ rfl, h4 3 _ rfl, h4 4 _ rfl⟩
theorem Sl.purp {N : Nat → Prop} {w : World} {A : Option Addr} {xs : List Purp} (h : Sl rPurp N w A xs) (k : Nat) (p : Purp) (hk : xs[k]? = some p) : ∃ blk off At ct, A = some ⟨blk, off, none⟩ ∧ blk < w.heap.size ∧
    w.cell? ⟨blk, off + k * 2, none⟩ = some (.string p.name) ∧ w.cell? ⟨blk, off + k * 2 + 1, none⟩ = some (.slice At p.terms.length ct) ∧ Sl rTerm N w At p.terms := by
  obtain ⟨blk, off, l, e, h1, _, h3, h4⟩ := h k p hk
  obtain ⟨l1, l2, rfl, e1, At, ct, rfl, hs⟩ := h3
  obtain rfl : l1 = Purp.cells p := e1
  exact ⟨blk, off, At, ct, e, h1, h4 0 _ rfl, h4 1 _ rfl, hs⟩
/-- terms stand by region, then by channel -/
def tCmp (a b : PTerm) : Int := if cmpS a.region b.region ≠ 0 then cmpS a.region b.region else Lib.compareInt a.channel b.channel
def termF (prev : Option PTerm) (t : PTerm) : Int :=
  if L.isKey t.region = false then 5 else if isCh t.channel = false then 4 else if t.free = true ∧ (t.days ≠ 0 ∨ t.wait ≠ 0) then 3
  else if ¬ ((0 ≤ t.days ∧ t.days ≤ 2000) ∧ (0 ≤ t.wait ∧ t.wait ≤ 100000)) then 1 else if prev.any (fun p => decide (0 ≤ tCmp p t)) then 7 else 0
def termsGo (prev : Option PTerm) : List PTerm → Int
  | [] => 0
  | t :: r => if termF prev t ≠ 0 then termF prev t else termsGo (some t) r
def termsFault (l : List PTerm) : Int := if 160 < l.length then 2 else termsGo none l
def policyGo (prev : Option ByteArray) : List Purp → Int
  | [] => 0
  | p :: r => if L.isKey p.name = false then 5 else if prev.any (fun q => leS p.name q) then 7 else if termsFault p.terms ≠ 0 then termsFault p.terms else policyGo (some p.name) r
def policyFault (l : List Purp) : Int := if l.length = 0 then 3 else if 30 < l.length then 2 else policyGo none l
theorem step_is {e x R v : Int} (h : (if e ≠ 0 then e else x) = R) (he : e = v) (hv : v ≠ 0) : v = R := by subst he; exact step_no h hv
theorem termF_key {prev : Option PTerm} {t : PTerm} (h : L.isKey t.region = false) : termF prev t = 5 := by rw [termF, if_pos h]
theorem termF_ch {prev : Option PTerm} {t : PTerm} (h : L.isKey t.region = true) (h2 : isCh t.channel = false) : termF prev t = 4 := by rw [termF, if_neg (by simp [h]), if_pos h2]
theorem termF_form {prev : Option PTerm} {t : PTerm} (h : L.isKey t.region = true) (h2 : isCh t.channel = true) (h3 : t.free = true ∧ (t.days ≠ 0 ∨ t.wait ≠ 0)) : termF prev t = 3 := by rw [termF, if_neg (by simp [h]), if_neg (by simp [h2]), if_pos h3]
theorem termF_rng {prev : Option PTerm} {t : PTerm} (h : L.isKey t.region = true) (h2 : isCh t.channel = true) (h3 : ¬ (t.free = true ∧ (t.days ≠ 0 ∨ t.wait ≠ 0))) (h4 : ¬ ((0 ≤ t.days ∧ t.days ≤ 2000) ∧ (0 ≤ t.wait ∧ t.wait ≤ 100000))) : termF prev t = 1 := by rw [termF, if_neg (by simp [h]), if_neg (by simp [h2]), if_neg h3, if_pos h4]
theorem termF_ord {prev : Option PTerm} {t : PTerm} (h : L.isKey t.region = true) (h2 : isCh t.channel = true) (h3 : ¬ (t.free = true ∧ (t.days ≠ 0 ∨ t.wait ≠ 0))) (h4 : (0 ≤ t.days ∧ t.days ≤ 2000) ∧ (0 ≤ t.wait ∧ t.wait ≤ 100000)) : termF prev t = if prev.any (fun p => decide (0 ≤ tCmp p t)) then 7 else 0 := by rw [termF, if_neg (by simp [h]), if_neg (by simp [h2]), if_neg h3, if_neg (not_not_intro h4)]
theorem cmpS_pos (a b : ByteArray) : 0 < cmpS a b ↔ ltS b a = true := by
  unfold cmpS ltS
  split
  · rename_i h
    constructor
    · intro h2; simp at h2
    · intro h2
      have := ltS_trans (a := a) (b := b) (c := a) h h2
      rw [ltS_irr] at this
      cases this
  · rename_i h
    split
    · rename_i h2
      have e : a = b := by
        rw [ByteArray.toList_eq, ByteArray.toList_eq] at h2
        exact WideShapes.bytes_inj (by simpa using h2)
      subst e
      have := ltS_irr a
      unfold ltS at this
      simp [this]
    · rename_i h2
      refine ⟨fun _ => bytes_tri _ _ (by simpa using h) (by simpa using h2), fun _ => by decide⟩
/-- a term stands no further than the one ahead of it, as the other package says it -/
theorem tCmp_le (p t : PTerm) : 0 ≤ tCmp p t ↔ (ltS t.region p.region = true ∨ (t.region = p.region ∧ t.channel ≤ p.channel)) := by
  unfold tCmp
  by_cases h : cmpS p.region t.region = 0
  · rw [if_neg (not_not_intro h)]
    have e := (cmpS_zero _ _).1 h
    unfold Lib.compareInt
    constructor
    · intro h2
      refine .inr ⟨e.symm, ?_⟩
      split at h2
      · cases h2
      · omega
    · rintro (h2 | ⟨_, h2⟩)
      · rw [e, ltS_irr] at h2; cases h2
      · split
        · omega
        · split <;> omega
  · rw [if_pos h]
    constructor
    · intro h2
      exact .inl ((cmpS_pos _ _).1 (by omega))
    · rintro (h2 | ⟨h2, _⟩)
      · have := (cmpS_pos p.region t.region).2 h2; omega
      · exact absurd ((cmpS_zero _ _).2 h2.symm) h
theorem tCmp_neg_trans {a b c : PTerm} (h1 : tCmp a b < 0) (h2 : tCmp b c < 0) : tCmp a c < 0 := by
  have n : ∀ x y : PTerm, tCmp x y < 0 ↔ (ltS x.region y.region = true ∨ (x.region = y.region ∧ x.channel < y.channel)) := fun x y => by
    unfold tCmp
    by_cases h : cmpS x.region y.region = 0
    · rw [if_neg (not_not_intro h)]
      have e := (cmpS_zero _ _).1 h
      unfold Lib.compareInt
      constructor
      · intro h2
        refine .inr ⟨e, ?_⟩
        split at h2
        · assumption
        · split at h2 <;> omega
      · rintro (h2 | ⟨_, h2⟩)
        · rw [e, ltS_irr] at h2; cases h2
        · rw [if_pos h2]; decide
    · rw [if_pos h, cmpS_neg]
      exact ⟨.inl, fun h2 => by
        rcases h2 with h2 | ⟨h2, _⟩
        · exact h2
        · exact absurd ((cmpS_zero _ _).2 h2) h⟩
  rw [n] at h1 h2 ⊢
  rcases h1 with h1 | ⟨e1, h1⟩
  · rcases h2 with h2 | ⟨e2, h2⟩
    · exact .inl (ltS_trans h1 h2)
    · exact .inl (e2 ▸ h1)
  · rcases h2 with h2 | ⟨e2, h2⟩
    · exact .inl (e1 ▸ h2)
    · exact .inr ⟨e1.trans e2, by omega⟩
end Go.Proofs.YthmkphmciiiagaaGreatDoor
