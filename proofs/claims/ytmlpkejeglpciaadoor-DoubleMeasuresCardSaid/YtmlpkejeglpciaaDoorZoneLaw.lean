/- The plain law of zones: what clocks show, and when they first show a minute. No program in sight. -/
import Derived.Test.YtmlpkejeglpciaaDoorWordLaw
namespace Go.Proofs.YtmlpkejeglpciaaDoor
/-- from at on, clocks show off minutes more -/
structure Sft where
  at' : Int
  off : Int
def shiftsGo (prev : Option Int) : List Sft → Int
  | [] => 0
  | s :: r => if ¬ ((0 ≤ s.at' ∧ s.at' ≤ 4321439) ∧ (-720 ≤ s.off ∧ s.off ≤ 840)) then 1 else if prev = none ∧ s.at' ≠ 0 then 3 else
    if prev.any (fun p => decide (s.at' < p + 1800)) then 7 else shiftsGo (some s.at') r
theorem shiftsGo_rng (prev : Option Int) (s : Sft) (r : List Sft) (h : ¬ ((0 ≤ s.at' ∧ s.at' ≤ 4321439) ∧ (-720 ≤ s.off ∧ s.off ≤ 840))) : shiftsGo prev (s :: r) = 1 := by
  unfold shiftsGo; rw [if_pos h]
theorem shiftsGo_first (s : Sft) (r : List Sft) (h : (0 ≤ s.at' ∧ s.at' ≤ 4321439) ∧ (-720 ≤ s.off ∧ s.off ≤ 840)) (hz : s.at' ≠ 0) : shiftsGo none (s :: r) = 3 := by
  unfold shiftsGo; rw [if_neg (not_not_intro h), if_pos ⟨rfl, hz⟩]
theorem shiftsGo_zero (s : Sft) (r : List Sft) (h : (0 ≤ s.at' ∧ s.at' ≤ 4321439) ∧ (-720 ≤ s.off ∧ s.off ≤ 840)) (hz : s.at' = 0) : shiftsGo none (s :: r) = shiftsGo (some s.at') r := by
  rw [shiftsGo, if_neg (not_not_intro h), if_neg (fun h => h.2 hz)]
  rfl
theorem shiftsGo_next (p : Int) (s : Sft) (r : List Sft) (h : (0 ≤ s.at' ∧ s.at' ≤ 4321439) ∧ (-720 ≤ s.off ∧ s.off ≤ 840)) : shiftsGo (some p) (s :: r) = if s.at' < p + 1800 then 7 else shiftsGo (some s.at') r := by
  rw [shiftsGo, if_neg (not_not_intro h), if_neg (fun h => by cases h.1)]
  simp
def zoneFault (nm : ByteArray) (xs : List Sft) : Int := if L.isKey nm = false then 5 else if xs.length = 0 then 3 else if 100 < xs.length then 2 else shiftsGo none xs
/-- what clocks show at m -/
def clk (xs : List Sft) (m : Int) : Int := xs.foldl (fun a s => if s.at' ≤ m then m + s.off else a) m
theorem clk_past (xs : List Sft) (m a : Int) (h : ∀ t ∈ xs, m < t.at') : xs.foldl (fun a s => if s.at' ≤ m then m + s.off else a) a = a := by
  induction xs generalizing a with
  | nil => rfl
  | cons s r ih =>
    rw [List.foldl_cons, if_neg (by have := h s (by simp); omega)]
    exact ih a (fun t ht => h t (by simp [ht]))
theorem clk_at (xs : List Sft) (m : Int) (k : Nat) (s : Sft) (hk : xs[k]? = some s) (h1 : s.at' ≤ m) (h2 : ∀ (j : Nat) (t : Sft), k < j → xs[j]? = some t → m < t.at') : clk xs m = m + s.off := by
  have hlt : k < xs.length := (List.getElem?_eq_some_iff.1 hk).1
  have e : xs = xs.take k ++ s :: xs.drop (k + 1) := by
    have : xs[k] = s := by simpa [List.getElem?_eq_getElem hlt] using hk
    rw [← this, ← List.drop_eq_getElem_cons hlt, List.take_append_drop]
  unfold clk
  rw [e, List.foldl_append, List.foldl_cons, if_pos h1]
  refine clk_past _ _ _ fun t ht => ?_
  obtain ⟨i, hi, he⟩ := List.getElem_of_mem ht
  refine h2 (k + 1 + i) t (by omega) ?_
  rw [List.getElem_drop] at he
  rw [← he]
  exact List.getElem?_eq_getElem _
theorem clk_none (xs : List Sft) (m : Int) (h : ∀ (j : Nat) (t : Sft), xs[j]? = some t → m < t.at') : clk xs m = m := by
  refine clk_past _ _ _ fun t ht => ?_
  obtain ⟨i, hi, he⟩ := List.getElem_of_mem ht
  exact h i t (by rw [List.getElem?_eq_getElem hi, he])
theorem clk_le (xs : List Sft) (m : Int) (h : ∀ s ∈ xs, -720 ≤ s.off ∧ s.off ≤ 840) : m - 720 ≤ clk xs m ∧ clk xs m ≤ m + 840 := by
  have : ∀ (l : List Sft) (a : Int), (∀ s ∈ l, -720 ≤ s.off ∧ s.off ≤ 840) → m - 720 ≤ a → a ≤ m + 840 → m - 720 ≤ l.foldl (fun a s => if s.at' ≤ m then m + s.off else a) a ∧ l.foldl (fun a s => if s.at' ≤ m then m + s.off else a) a ≤ m + 840 := by
    intro l
    induction l with
    | nil => intro a _ h1 h2; exact ⟨h1, h2⟩
    | cons s r ih =>
      intro a hs h1 h2
      rw [List.foldl_cons]
      have := hs s (by simp)
      refine ih _ (fun t ht => hs t (by simp [ht])) ?_ ?_ <;> split <;> omega
  exact this xs m h (by omega) (by omega)
/-- a right zone's shifts -/
structure GoodZ (xs : List Sft) : Prop where
  ne : 1 ≤ xs.length
  len : xs.length ≤ 100
  rng : ∀ s ∈ xs, (0 ≤ s.at' ∧ s.at' ≤ 4321439) ∧ (-720 ≤ s.off ∧ s.off ≤ 840)
  zero : ∀ s : Sft, xs[0]? = some s → s.at' = 0
  rise : ∀ (i j : Nat) (s t : Sft), i < j → xs[i]? = some s → xs[j]? = some t → s.at' < t.at'
theorem shiftsGo_ok (xs : List Sft) (prev : Option Int) (h : shiftsGo prev xs = 0) : (∀ s ∈ xs, (0 ≤ s.at' ∧ s.at' ≤ 4321439) ∧ (-720 ≤ s.off ∧ s.off ≤ 840)) ∧ (prev = none → ∀ s : Sft, xs[0]? = some s → s.at' = 0) ∧
    (∀ p, prev = some p → ∀ s ∈ xs, p < s.at') ∧ (∀ (i j : Nat) (s t : Sft), i < j → xs[i]? = some s → xs[j]? = some t → s.at' < t.at') := by
  induction xs generalizing prev with
  | nil => exact ⟨(fun _ h => by cases h), (fun _ _ h => by simp at h), (fun _ _ _ h => by cases h), (fun _ _ _ _ _ h => by simp at h)⟩
  | cons s r ih =>
    unfold shiftsGo at h
    split at h
    · cases h
    rename_i h1
    split at h
    · cases h
    rename_i h2
    split at h
    · cases h
    rename_i h3
    obtain ⟨i1, _, i3, i4⟩ := ih _ h
    have h1 := Classical.not_not.1 h1
    have hp : ∀ p, prev = some p → p < s.at' := fun p hp => by subst hp; simp at h3; omega
    refine ⟨fun t ht => ?_, fun hn t ht => ?_, fun p hp' t ht => ?_, fun i j a b hij ha hb => ?_⟩
    · rcases List.mem_cons.1 ht with rfl | ht
      · exact h1
      · exact i1 t ht
    · have : s = t := by simpa using ht
      subst this
      exact Classical.not_not.1 fun h => h2 ⟨hn, h⟩
    · have := hp p hp'
      rcases List.mem_cons.1 ht with rfl | ht
      · exact this
      · have := i3 _ rfl t ht; omega
    · cases j with
      | zero => omega
      | succ j =>
        have hb : r[j]? = some b := by simpa using hb
        cases i with
        | zero =>
          have : s = a := by simpa using ha
          subst this
          exact i3 _ rfl b (List.mem_of_getElem? hb)
        | succ i => exact i4 i j a b (by omega) (by simpa using ha) hb
theorem zone_good {nm : ByteArray} {xs : List Sft} (h : zoneFault nm xs = 0) : GoodZ xs := by
  unfold zoneFault at h
  split at h
  · cases h
  split at h
  · cases h
  split at h
  · cases h
  obtain ⟨h1, h2, _, h4⟩ := shiftsGo_ok _ _ h
  exact ⟨by omega, by omega, h1, h2 rfl, h4⟩
/-- the least moment from lo on at which clocks show at least T -/
def FirstAt (xs : List Sft) (lo T m : Int) : Prop := lo ≤ m ∧ m < 4321440 ∧ T ≤ clk xs m ∧ ∀ k, lo ≤ k → k < m → clk xs k < T
def NoneAt (xs : List Sft) (lo T : Int) : Prop := ∀ k, lo ≤ k → k < 4321440 → clk xs k < T
theorem FirstAt.one {xs : List Sft} {lo T m n : Int} (h : FirstAt xs lo T m) (k : FirstAt xs lo T n) : m = n := by
  obtain ⟨a1, a2, a3, a4⟩ := h
  obtain ⟨b1, b2, b3, b4⟩ := k
  rcases Int.lt_trichotomy m n with h | h | h
  · have := b4 m a1 h; omega
  · exact h
  · have := a4 n b1 h; omega
theorem FirstAt.no {xs : List Sft} {lo T m : Int} (h : FirstAt xs lo T m) (k : NoneAt xs lo T) : False := by
  have := k m h.1 h.2.1
  have := h.2.2.1
  omega
/-- where a shift ends -/
def endOf : List Sft → Int
  | [] => 4321440
  | t :: _ => t.at'
/-- what Reach gives -/
def reachGo (T : Int) : List Sft → Option Int
  | [] => none
  | s :: r => if max 0 (max s.at' (T - s.off)) < endOf r then some (max 0 (max s.at' (T - s.off))) else reachGo T r
theorem clk_in {xs : List Sft} (hz : GoodZ xs) (k : Nat) (s : Sft) (hk : xs[k]? = some s) (m : Int) (h1 : s.at' ≤ m) (h2 : ∀ t : Sft, xs[k + 1]? = some t → m < t.at') : clk xs m = m + s.off := by
  refine clk_at xs m k s hk h1 fun j t hj ht => ?_
  by_cases hj' : j = k + 1
  · subst hj'; exact h2 t ht
  · have hlt : k + 1 < xs.length := by have := (List.getElem?_eq_some_iff.1 ht).1; omega
    have h3 : xs[k + 1]? = some xs[k + 1] := List.getElem?_eq_getElem hlt
    have := h2 _ h3
    have := hz.rise (k + 1) j _ t (by omega) h3 ht
    omega
/-- before the shift k, all moments having been looked at -/
theorem reach_from {xs : List Sft} (hz : GoodZ xs) (T : Int) : ∀ (l : List Sft) (k : Nat), xs.drop k = l → (∀ m, 0 ≤ m → (∀ s : Sft, xs[k]? = some s → m < s.at') → m < 4321440 → clk xs m < T) →
    (∀ m, reachGo T l = some m → FirstAt xs 0 T m) ∧ (reachGo T l = none → NoneAt xs 0 T)
  | [], k, hd, hb => ⟨(fun m h => by cases h), fun _ m h1 h2 => hb m h1 (fun s hs => by rw [List.drop_eq_nil_iff] at hd; rw [List.getElem?_eq_none hd] at hs; cases hs) h2⟩
  | s :: r, k, hd, hb => by
    have hlt : k < xs.length := by
      rcases Nat.lt_or_ge k xs.length with h | h
      · exact h
      · rw [List.drop_eq_nil_of_le h] at hd; cases hd
    have hc := List.drop_eq_getElem_cons hlt
    rw [hd] at hc
    obtain ⟨rfl, hr⟩ := List.cons.inj hc
    have hk : xs[k]? = some xs[k] := List.getElem?_eq_getElem hlt
    have hR := hz.rng _ (List.getElem_mem hlt)
    obtain ⟨e, he1, he2⟩ : ∃ e : Int, endOf r = e ∧ e ≤ 4321440 ∧ (∀ m : Int, m < e → ∀ t : Sft, xs[k + 1]? = some t → m < t.at') ∧ (∀ m : Int, m < 4321440 → (∀ t : Sft, xs[k + 1]? = some t → m < t.at') → m < e) := by
      refine ⟨_, rfl, ?_⟩
      rcases hrr : r with _ | ⟨t, r'⟩
      · rw [hrr] at hr
        refine ⟨Int.le_refl _, fun m _ t ht => ?_, fun m h _ => h⟩
        have := List.drop_eq_nil_iff.1 hr.symm
        rw [List.getElem?_eq_none this] at ht; cases ht
      · have ht : xs[k + 1]? = some t := by
          have : (xs.drop (k + 1))[0]? = some t := by rw [← hr, hrr]; rfl
          simpa using this
        have := hz.rng t (List.mem_of_getElem? ht)
        exact ⟨by show t.at' ≤ _; omega, fun m h u hu => by rw [ht] at hu; cases hu; exact h, fun m _ h => h t ht⟩
    obtain ⟨he2, he3, he4⟩ := he2
    unfold reachGo
    rw [he1]
    have below : ∀ m, 0 ≤ m → m < e → m < max 0 (max xs[k].at' (T - xs[k].off)) → clk xs m < T := fun m h0 h1 h2 => by
      by_cases hm : m < xs[k].at'
      · exact hb m h0 (fun s hs => by rw [hk] at hs; cases hs; exact hm) (by omega)
      · rw [clk_in hz k _ hk m (by omega) (he3 m h1)]; omega
    split
    · rename_i hm
      refine ⟨fun m h => ?_, fun h => by cases h⟩
      obtain rfl := Option.some.inj h
      refine ⟨by omega, by omega, ?_, fun m h0 h1 => below m h0 (by omega) h1⟩
      rw [clk_in hz k _ hk _ (by omega) (he3 _ hm)]; omega
    · rename_i hm
      refine reach_from hz T r (k + 1) hr.symm fun m h0 h1 h2 => below m h0 (he4 m h2 h1) (by have := he4 m h2 h1; omega)
theorem reach_first {xs : List Sft} (hz : GoodZ xs) (T : Int) : (∀ m, reachGo T xs = some m → FirstAt xs 0 T m) ∧ (reachGo T xs = none → NoneAt xs 0 T) :=
  reach_from hz T xs 0 rfl fun m h0 h1 _ => by
    have hlt : 0 < xs.length := hz.ne
    have hk : xs[0]? = some xs[0] := List.getElem?_eq_getElem hlt
    have := h1 _ hk
    have := hz.zero _ hk
    omega
end Go.Proofs.YtmlpkejeglpciaaDoor
