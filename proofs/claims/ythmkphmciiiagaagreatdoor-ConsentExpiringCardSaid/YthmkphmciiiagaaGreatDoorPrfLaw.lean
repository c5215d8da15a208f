/- The plain law of proofs: the statement behind an answer, and its confirmation. -/
import Derived.Test.YthmkphmciiiagaaGreatDoorMayTop
namespace Go.Proofs.YthmkphmciiiagaaGreatDoor
open Go.RowKit
theorem no_uniq {l : List Stm} (h : l.Pairwise (fun a b => a.no < b.no)) {s g : Stm} (hs : s ∈ l) (hg : g ∈ l) (e : s.no = g.no) : s = g := by
  obtain ⟨i, hi, rfl⟩ := List.getElem_of_mem hs
  obtain ⟨j, hj, rfl⟩ := List.getElem_of_mem hg
  rcases Nat.lt_trichotomy i j with h1 | h1 | h1
  · have := List.pairwise_iff_getElem.1 h i j hi hj h1; omega
  · subst h1; rfl
  · have := List.pairwise_iff_getElem.1 h j i hj hi h1; omega
theorem ahead_irr (a : Stm) : ¬ ahead a a := by unfold ahead; omega
theorem filter_one {U : List Stm} (h : U.Pairwise ahead) {q : Stm → Bool} {g : Stm} (hg : g ∈ U) (hq : q g = true) (hu : ∀ s ∈ U, q s = true → s = g) : U.filter q = [g] := by
  have h1 : (U.filter q).Pairwise ahead := h.filter _
  have h2 : ∀ s ∈ U.filter q, s = g := fun s hs => hu s (List.mem_filter.1 hs).1 (List.mem_filter.1 hs).2
  have h3 : g ∈ U.filter q := List.mem_filter.2 ⟨hg, hq⟩
  generalize U.filter q = F at *
  cases F with
  | nil => cases h3
  | cons x r =>
    cases r with
    | nil => rw [h2 x (by simp)]
    | cons y r =>
      have e1 := h2 x (by simp)
      have e2 := h2 y (by simp)
      have := (List.pairwise_cons.1 h1).1 y (by simp)
      rw [e1, e2] at this
      exact absurd this (ahead_irr g)
/-- the grant behind an answer -/
theorem pickR_mem {st : Stm → Int} {gs : List Stm} (h0 : ∀ s ∈ gs, 0 ≤ s.at') {m : Bool} {n : Int} (h : pickR st gs = (m, 2, n)) : ∃ g ∈ gs, g.no = n := by
  unfold pickR at h
  split at h
  · rename_i h1
    obtain ⟨s, hs, e⟩ := (lat_spec (l := gs.filter (fun g => decide (st g = 2))) (fun s hs => h0 s (List.mem_filter.1 hs).1)).mem h1
    refine ⟨s, (List.mem_filter.1 hs).1, ?_⟩
    have : (lat (gs.filter (fun g => decide (st g = 2)))).2 = n := congrArg (fun x : Bool × Int × Int => x.2.2) h
    rw [e] at this
    exact this
  · split at h
    · simp at h
    · split at h
      · simp at h
      · split at h
        · simp at h
        · simp at h
theorem granted_mem {tm : PTerm} {k : Int} {t : ByteArray} {ch at' : Int} {pu : ByteArray} {l U : List Stm} (hU : IsSaid k t ch at' l U) (h0 : ∀ s ∈ l, 0 ≤ s.at') {m : Bool} {n : Int} (h : askR (some tm) k t ch at' pu l = (m, 2, n)) : ∃ g ∈ U, g.no = n := by
  unfold askR at h
  simp only at h
  split at h
  · simp at h
  · split at h
    · simp at h
    · split at h
      · simp at h
      · have h1 : ∀ s ∈ liveR (lat (saidR k t ch at' 3 pu l)).1 (saidR k t ch at' 1 pu l), 0 ≤ s.at' := fun s hs => h0 s ((hU.mem s).1 ((mem_saidR hU s).1 (List.mem_filter.1 hs).1).1).1
        obtain ⟨g, hg, e⟩ := pickR_mem h1 h
        exact ⟨g, ((mem_saidR hU g).1 (List.mem_filter.1 hg).1).1, e⟩
/-- the first of the confirmations, as the reference looks for it -/
def bestR (a b bat bno : Int) : List Stm → Int × Int
  | [] => (bat, bno)
  | c :: r => if (a ≤ c.at' ∧ c.at' ≤ b) ∧ c.at' < bat then bestR a b c.at' c.no r else bestR a b bat bno r
theorem bestR_spec {a b : Int} : ∀ (R : List Stm) (bat bno : Int), R.Pairwise (fun a b => a.no < b.no) →
    (bestR a b bat bno R = (bat, bno) ∧ ∀ c ∈ R, (a ≤ c.at' ∧ c.at' ≤ b) → bat ≤ c.at') ∨
    ∃ c ∈ R, (a ≤ c.at' ∧ c.at' ≤ b) ∧ c.at' < bat ∧ bestR a b bat bno R = (c.at', c.no) ∧ ∀ d ∈ R, (a ≤ d.at' ∧ d.at' ≤ b) → c.at' < d.at' ∨ (c.at' = d.at' ∧ c.no ≤ d.no)
  | [], _, _, _ => .inl ⟨rfl, fun c hc => by cases hc⟩
  | x :: r, bat, bno, h => by
    have h' := List.pairwise_cons.1 h
    unfold bestR
    by_cases hx : (a ≤ x.at' ∧ x.at' ≤ b) ∧ x.at' < bat
    · rw [if_pos hx]
      refine .inr ?_
      rcases bestR_spec r x.at' x.no h'.2 with ⟨e, hr⟩ | ⟨c, hc, h1, h2, e, h3⟩
      · refine ⟨x, by simp, hx.1, hx.2, e, fun d hd hw => ?_⟩
        rcases List.mem_cons.1 hd with rfl | hd
        · exact .inr ⟨rfl, Int.le_refl _⟩
        · have := hr d hd hw
          have := h'.1 d hd
          omega
      · refine ⟨c, by simp [hc], h1, by omega, e, fun d hd hw => ?_⟩
        rcases List.mem_cons.1 hd with rfl | hd
        · exact .inl h2
        · exact h3 d hd hw
    · rw [if_neg hx]
      rcases bestR_spec r bat bno h'.2 with ⟨e, hr⟩ | ⟨c, hc, h1, h2, e, h3⟩
      · refine .inl ⟨e, fun d hd hw => ?_⟩
        rcases List.mem_cons.1 hd with rfl | hd
        · rcases Int.lt_or_le d.at' bat with h4 | h4
          · exact absurd ⟨hw, h4⟩ hx
          · exact h4
        · exact hr d hd hw
      · refine .inr ⟨c, by simp [hc], h1, h2, e, fun d hd hw => ?_⟩
        rcases List.mem_cons.1 hd with rfl | hd
        · rcases Int.lt_or_le d.at' bat with h4 | h4
          · exact absurd ⟨hw, h4⟩ hx
          · exact .inl (by omega)
        · exact h3 d hd hw
/-- the first of a list in order -/
theorem find_first {U : List Stm} (h : U.Pairwise ahead) {q : Stm → Bool} {c : Stm} (hc : U.find? q = some c) : (c ∈ U ∧ q c = true) ∧ ∀ d ∈ U, q d = true → d = c ∨ ahead c d := by
  induction U with
  | nil => cases hc
  | cons x r ih =>
    have h' := List.pairwise_cons.1 h
    rw [List.find?_cons] at hc
    split at hc
    · rename_i hx
      obtain rfl : x = c := by simpa using hc
      refine ⟨⟨by simp, hx⟩, fun d hd _ => ?_⟩
      rcases List.mem_cons.1 hd with rfl | hd
      · exact .inl rfl
      · exact .inr (h'.1 d hd)
    · rename_i hx
      obtain ⟨⟨h1, h2⟩, h3⟩ := ih h'.2 hc
      refine ⟨⟨by simp [h1], h2⟩, fun d hd hq => ?_⟩
      rcases List.mem_cons.1 hd with rfl | hd
      · rw [hq] at hx; cases hx
      · exact h3 d hd hq
/-- the number of a statement, 0 if there is none -/
def noOf (o : Option Stm) : Int := (o.getD stmZ).no
theorem conf_is {k : Int} {t : ByteArray} {ch at' : Int} {pu : ByteArray} {l U : List Stm} (hU : IsSaid k t ch at' l U) (hn : l.Pairwise (fun a b => a.no < b.no)) (hhi : ∀ s ∈ l, s.at' ≤ 4321439) (a b : Int) :
    (bestR a b 4321440 0 (saidR k t ch at' 2 pu l)).2 = noOf (confP pu a b U) := by
  have hmem : ∀ s, s ∈ saidR k t ch at' 2 pu l ↔ s ∈ U ∧ kindB 2 pu s = true := mem_saidR hU
  have hbest := bestR_spec (a := a) (b := b) (saidR k t ch at' 2 pu l) 4321440 0 (hn.filter _)
  unfold confP
  cases hf : U.find? (fun s => kindB 2 pu s && decide (a ≤ s.at' ∧ s.at' ≤ b)) with
  | none =>
    have hnone := List.find?_eq_none.1 hf
    rcases hbest with ⟨e, _⟩ | ⟨c, hc, h1, _⟩
    · rw [e]; rfl
    · have h2 := (hmem c).1 hc
      exact absurd (by simp [h2.2, h1]) (hnone c h2.1)
  | some g =>
    obtain ⟨⟨hg, hq⟩, hfirst⟩ := find_first hU.ord hf
    have hq' : kindB 2 pu g = true ∧ (a ≤ g.at' ∧ g.at' ≤ b) := by
      rw [Bool.and_eq_true, decide_eq_true_eq] at hq; exact hq
    have hgl := ((hU.mem g).1 hg).1
    rcases hbest with ⟨_, hr⟩ | ⟨c, hc, h1, _, e, h3⟩
    · have := hr g ((hmem g).2 ⟨hg, hq'.1⟩) hq'.2
      have := hhi g hgl
      omega
    · rw [e]
      have h2 := (hmem c).1 hc
      show c.no = g.no
      rcases hfirst c h2.1 (by rw [Bool.and_eq_true, decide_eq_true_eq]; exact ⟨h2.2, h1⟩) with rfl | ha
      · rfl
      · have := h3 g ((hmem g).2 ⟨hg, hq'.1⟩) hq'.2
        unfold ahead at ha
        omega
/-- what the proof holds: the statement, and its confirmation -/
def prfAns (o : Option PTerm) (k : Int) (t : ByteArray) (ch at' : Int) (pu : ByteArray) (l : List Stm) : List Int :=
  if (askR o k t ch at' pu l).2.2 = 0 then []
  else if (askR o k t ch at' pu l).2.1 = 2 ∧ 0 < (o.getD tZero).wait then
    match l.find? (fun s => decide (s.no = (askR o k t ch at' pu l).2.2)) with
    | some g => [(askR o k t ch at' pu l).2.2, (bestR g.at' (g.at' + (o.getD tZero).wait) 4321440 0 (saidR k t ch at' 2 pu l)).2].mergeSort (fun x y => decide (x ≤ y))
    | none => [(askR o k t ch at' pu l).2.2]
  else [(askR o k t ch at' pu l).2.2]
/-- what the program finds -/
def prfNos (wait n : Int) (pu : ByteArray) (U V : List Stm) : List Int := (V.filter (fun g => decide (g.no = n))).map (fun g => noOf (confP pu g.at' (g.at' + wait) U))
theorem prf_is {tm : PTerm} {k : Int} {t : ByteArray} {ch at' : Int} {pu : ByteArray} {l U : List Stm} (hU : IsSaid k t ch at' l U) (hn : l.Pairwise (fun a b => a.no < b.no)) (hr : ∀ s ∈ l, 0 ≤ s.at' ∧ s.at' ≤ 4321439) {m : Bool} {n : Int} (h : askR (some tm) k t ch at' pu l = (m, 2, n)) :
    ∃ g ∈ U, g ∈ l ∧ g.no = n ∧ l.find? (fun s => decide (s.no = n)) = some g ∧ prfNos tm.wait n pu U U = [(bestR g.at' (g.at' + tm.wait) 4321440 0 (saidR k t ch at' 2 pu l)).2] := by
  obtain ⟨g, hg, e⟩ := granted_mem hU (fun s hs => (hr s hs).1) h
  have hgl := ((hU.mem g).1 hg).1
  refine ⟨g, hg, hgl, e, ?_, ?_⟩
  · cases hf : l.find? (fun s => decide (s.no = n)) with
    | none =>
      have := List.find?_eq_none.1 hf g hgl
      exact absurd (by simpa using e) this
    | some s =>
      have h1 := List.mem_of_find?_eq_some hf
      have h2 : s.no = n := by simpa using List.find?_some hf
      rw [no_uniq hn h1 hgl (by omega)]
  · unfold prfNos
    rw [filter_one hU.ord hg (by simpa using e) (fun s hs hq => by
      have h1 : s.no = n := by simpa using hq
      exact no_uniq hn ((hU.mem s).1 hs).1 hgl (h1.trans e.symm)), List.map_cons, List.map_nil, conf_is hU hn (fun s hs => (hr s hs).2)]
/-- what the program hands back is what the reference says -/
theorem prfAns_is {o : Option PTerm} {k : Int} {t : ByteArray} {ch at' : Int} {pu : ByteArray} {l U : List Stm} (hU : IsSaid k t ch at' l U) (hn : l.Pairwise (fun a b => a.no < b.no)) (hr : ∀ s ∈ l, 0 ≤ s.at' ∧ s.at' ≤ 4321439) (hw : 0 ≤ (o.getD tZero).wait) {m : Bool} {y n : Int} (h : askR o k t ch at' pu l = (m, y, n)) (h0 : n ≠ 0) :
    prfAns o k t ch at' pu l = if y = 2 ∧ (o.getD tZero).wait ≠ 0 then (n :: prfNos (o.getD tZero).wait n pu U U).mergeSort (fun x y => decide (x ≤ y)) else [n] := by
  unfold prfAns
  rw [h]
  simp only
  rw [if_neg h0]
  by_cases hy : y = 2 ∧ (o.getD tZero).wait ≠ 0
  · rw [if_pos hy, if_pos ⟨hy.1, by omega⟩]
    obtain ⟨rfl, _⟩ := hy
    cases o with
    | none => cases h
    | some tm =>
      obtain ⟨g, _, _, _, hf, hp⟩ := prf_is hU hn hr h
      rw [hf]
      show _ = (n :: prfNos tm.wait n pu U U).mergeSort _
      rw [hp]
      rfl
  · rw [if_neg hy, if_neg (fun e => hy ⟨e.1, by omega⟩)]
theorem prfAns_len (o : Option PTerm) (k : Int) (t : ByteArray) (ch at' : Int) (pu : ByteArray) (l : List Stm) : (prfAns o k t ch at' pu l).length ≤ 2 := by
  unfold prfAns
  split
  · simp
  · split
    · split
      · rw [List.length_mergeSort]; simp
      · simp
    · simp
theorem ahead_ins {x : Stm} : ∀ {U : List Stm}, U.Pairwise ahead → (∀ u ∈ U, u.no ≠ x.no) → ∃ V : List Stm, V.Pairwise ahead ∧ ∀ s, s ∈ V ↔ s = x ∨ s ∈ U
  | [], _, _ => ⟨[x], List.pairwise_singleton _ _, fun s => by simp⟩
  | u :: r, h, hx => by
    have h' := List.pairwise_cons.1 h
    have hux := hx u (by simp)
    by_cases ha : ahead x u
    · refine ⟨x :: u :: r, List.pairwise_cons.2 ⟨fun b hb => ?_, h⟩, fun s => by simp⟩
      rcases List.mem_cons.1 hb with rfl | hb
      · exact ha
      · have := h'.1 b hb
        unfold ahead at *
        omega
    · obtain ⟨V, hV, hm⟩ := ahead_ins h'.2 (fun b hb => hx b (by simp [hb]))
      refine ⟨u :: V, List.pairwise_cons.2 ⟨fun b hb => ?_, hV⟩, fun s => ?_⟩
      · rcases (hm b).1 hb with rfl | hb
        · unfold ahead at *
          omega
        · exact h'.1 b hb
      · rw [List.mem_cons, hm, List.mem_cons]
        constructor
        · rintro (h1 | h1 | h1)
          · exact .inr (.inl h1)
          · exact .inl h1
          · exact .inr (.inr h1)
        · rintro (h1 | h1 | h1)
          · exact .inr (.inl h1)
          · exact .inl h1
          · exact .inr (.inr h1)
/-- what was said, in order, there is -/
theorem isSaid_ex (k : Int) (t : ByteArray) (ch at' : Int) : ∀ {l : List Stm}, l.Pairwise (fun a b => a.no < b.no) → ∃ U, IsSaid k t ch at' l U
  | [], _ => ⟨[], List.Pairwise.nil, fun s => by simp⟩
  | x :: r, h => by
    have h' := List.pairwise_cons.1 h
    obtain ⟨U, hU⟩ := isSaid_ex k t ch at' h'.2
    by_cases hx : ofB k t ch x = true ∧ x.at' ≤ at'
    · obtain ⟨V, hV, hm⟩ := ahead_ins (x := x) hU.ord (fun u hu => by
        have := h'.1 u ((hU.mem u).1 hu).1
        omega)
      refine ⟨V, hV, fun s => ?_⟩
      rw [hm, hU.mem, List.mem_cons]
      constructor
      · rintro (rfl | ⟨h1, h2⟩)
        · exact ⟨.inl rfl, hx⟩
        · exact ⟨.inr h1, h2⟩
      · rintro ⟨rfl | h1, h2⟩
        · exact .inl rfl
        · exact .inr ⟨h1, h2⟩
    · refine ⟨U, hU.ord, fun s => ?_⟩
      rw [hU.mem, List.mem_cons]
      constructor
      · rintro ⟨h1, h2⟩; exact ⟨.inr h1, h2⟩
      · rintro ⟨rfl | h1, h2⟩
        · exact absurd h2 hx
        · exact ⟨h1, h2⟩
/-- what was said up to a moment stands in front -/
theorem upS_pre {U : List Stm} (h : U.Pairwise ahead) (at' : Int) : ∃ n, U.take n = upS at' U := by
  induction U with
  | nil => exact ⟨0, rfl⟩
  | cons x r ih =>
    have h' := List.pairwise_cons.1 h
    by_cases hx : x.at' ≤ at'
    · obtain ⟨n, hn⟩ := ih h'.2
      refine ⟨n + 1, ?_⟩
      unfold upS at hn ⊢
      rw [List.filter_cons_of_pos (by simpa using hx), List.take_succ_cons, hn]
    · refine ⟨0, ?_⟩
      unfold upS
      rw [List.take_zero]
      refine (List.filter_eq_nil_iff.2 fun s hs => ?_).symm
      rcases List.mem_cons.1 hs with rfl | hs
      · simpa using hx
      · have := h'.1 s hs
        unfold ahead at this
        simp; omega
theorem prfNos_snoc {wait n : Int} {pu : ByteArray} {U V : List Stm} {j : Nat} {s : Stm} (h : V[j]? = some s) : prfNos wait n pu U (V.take (j + 1)) = if s.no = n then prfNos wait n pu U (V.take j) ++ [noOf (confP pu s.at' (s.at' + wait) U)] else prfNos wait n pu U (V.take j) := by
  unfold prfNos
  rw [take_snoc h, List.filter_append, List.map_append]
  by_cases hs : s.no = n
  · rw [if_pos hs, List.filter_cons_of_pos (by simpa using hs)]; rfl
  · rw [if_neg hs, List.filter_cons_of_neg (by simpa using hs)]; simp
theorem prfNos_len (wait n : Int) (pu : ByteArray) (U V : List Stm) : (prfNos wait n pu U V).length ≤ V.length := by
  unfold prfNos
  rw [List.length_map]
  exact List.length_filter_le ..
end Go.Proofs.YthmkphmciiiagaaGreatDoor
