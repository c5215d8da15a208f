/- What right fields have: their texts are short and their names rise. -/
import Derived.Test.YtmlpkejeglpciaaDoorFind
namespace Go.Proofs.YtmlpkejeglpciaaDoor
open Go.RowKit
theorem value_ok {k n : Int} {t : ByteArray} (h : valueFault k t n = 0) : t.size ≤ 200 := by
  have hnil : t.toList = [] → t.size ≤ 200 := fun e => by
    rw [toList_nil_iff_emptyBytes] at e
    rw [e]
    simp
  unfold valueFault at h
  repeat' split at h
  all_goals first
    | (cases h; done)
    | (refine hnil ?_; simp_all; done)
    | (unfold textFault at h
       by_cases c : 200 < t.size
       · rw [if_pos c] at h; cases h
       · omega)
theorem fldsGo_ok : ∀ (l : List Fld) (p : Option ByteArray), fldsGo p l = 0 → (∀ f ∈ l, f.text.size ≤ 200) ∧ (∀ q, p = some q → ∀ f ∈ l, ltS q f.name = true) ∧ Rising l
  | [], _, _ => ⟨(fun _ h => by cases h), (fun _ _ _ h => by cases h), (fun _ _ _ _ _ h => by simp at h)⟩
  | x :: r, p, h => by
    rw [fldsGo] at h
    split at h
    · cases h
    split at h
    · rename_i h2; exact absurd h h2
    rename_i h2
    split at h
    · cases h
    rename_i h3
    have h2 := Classical.not_not.1 h2
    obtain ⟨i1, i2, i3⟩ := fldsGo_ok r _ h
    have hp : ∀ q, p = some q → ltS q x.name = true := fun q hq => by
      subst hq
      exact ltS_of_not_le (by simpa using h3)
    refine ⟨fun f hf => ?_, fun q hq f hf => ?_, fun i j f g hij hf hg => ?_⟩
    · rcases List.mem_cons.1 hf with rfl | hf
      · exact value_ok h2
      · exact i1 f hf
    · rcases List.mem_cons.1 hf with rfl | hf
      · exact hp q hq
      · exact ltS_trans (hp q hq) (i2 _ rfl f hf)
    · cases j with
      | zero => omega
      | succ j =>
        have hg : r[j]? = some g := by simpa using hg
        cases i with
        | zero =>
          obtain rfl : x = f := by simpa using hf
          exact i2 _ rfl g (List.mem_of_getElem? hg)
        | succ i => exact i3 i j f g (by omega) (by simpa using hf) hg
theorem flds_ok {l : List Fld} (h : fldsFault l = 0) : l.length ≤ 30 ∧ (∀ f ∈ l, f.text.size ≤ 200) ∧ Rising l := by
  unfold fldsFault at h
  split at h
  · cases h
  obtain ⟨h1, _, h3⟩ := fldsGo_ok l _ h
  exact ⟨by omega, h1, h3⟩
end Go.Proofs.YtmlpkejeglpciaaDoor
