/- The plain law of changes: what must be said, so that an answer is as it is wanted. -/
import Derived.Test.YthmkphmciiiagaaGreatDoorPerLaw
namespace Go.Proofs.YthmkphmciiiagaaGreatDoor
open Go.RowKit
theorem stmsGo_no {p : List Purp} : ∀ {l : List Stm} {prev : Option Stm}, stmsGo p prev l = 0 → ∀ s ∈ l, s.no ≤ 1000000
  | [], _, _ => by simp
  | s :: r, prev, h => by
    rw [stmsGo] at h
    split at h
    · rename_i h1; exact absurd h h1
    · rename_i h1
      have h2 := (stmF_ok (Decidable.not_not.1 h1)).1
      intro x hx
      rcases List.mem_cons.1 hx with rfl | hx
      · exact h2.2
      · exact stmsGo_no h x hx
theorem stms_no {p : List Purp} {l : List Stm} (h : stmsFault p l = 0) : ∀ s ∈ l, s.no ≤ 1000000 := by
  unfold stmsFault at h
  split at h
  · rename_i h1; exact absurd h h1
  · split at h
    · cases h
    · exact stmsGo_no h
theorem objGo_none : ∀ (R : List Stm) (no last : Int), (∀ s ∈ R, s.what ≠ 4) → (objGo no last false R).2 = false
  | [], _, _, _ => rfl
  | s :: r, no, last, h => by
    have hs := h s (by simp)
    have hr : ∀ x ∈ r, x.what ≠ 4 := fun x hx => h x (by simp [hx])
    unfold objGo
    split
    · exact objGo_none r no last hr
    · split
      · exact objGo_none r 0 s.at' hr
      · rw [if_neg (fun e => hs e.1)]; exact objGo_none r no last hr
/-- all but the objections -/
abbrev calmB (s : Stm) : Bool := !decide (s.what = 4)
theorem wdGo_calm (pu : ByteArray) : ∀ (R : List Stm) (w : Stm) (has : Bool), wdGo pu w has (R.filter calmB) = wdGo pu w has R
  | [], _, _ => rfl
  | s :: r, w, has => by
    by_cases hs : s.what = 4
    · rw [List.filter_cons_of_neg (by simp [hs]), wdGo_calm pu r, wdGo, if_neg (fun e => by rw [e.1] at hs; cases hs)]
    · rw [List.filter_cons_of_pos (by simp [hs]), wdGo, wdGo, wdGo_calm pu r, wdGo_calm pu r]
theorem filter_calm {n : Int} (hn : n ≠ 4) (pu : ByteArray) (q : Stm → Bool) : ∀ R : List Stm, (R.filter calmB).filter (fun s => kindB n pu s && q s) = R.filter (fun s => kindB n pu s && q s)
  | [] => rfl
  | s :: r => by
    by_cases hs : s.what = 4
    · rw [List.filter_cons_of_neg (p := calmB) (by simp [hs]), filter_calm hn pu q r, List.filter_cons_of_neg (by simp [kindB, hs, Ne.symm hn])]
    · rw [List.filter_cons_of_pos (p := calmB) (by simp [hs]), List.filter_cons, List.filter_cons, filter_calm hn pu q r]
theorem find_calm {n : Int} (hn : n ≠ 4) (pu : ByteArray) (q : Stm → Bool) : ∀ R : List Stm, (R.filter calmB).find? (fun s => kindB n pu s && q s) = R.find? (fun s => kindB n pu s && q s)
  | [] => rfl
  | s :: r => by
    by_cases hs : s.what = 4
    · rw [List.filter_cons_of_neg (p := calmB) (by simp [hs]), find_calm hn pu q r, List.find?_cons_of_neg (by simp [kindB, hs, Ne.symm hn])]
    · rw [List.filter_cons_of_pos (p := calmB) (by simp [hs]), List.find?_cons, List.find?_cons, find_calm hn pu q r]
theorem allowP_calm (tm : PTerm) (pu : ByteArray) (at' : Int) (U : List Stm) : allowP tm pu at' (U.filter calmB) = allowP tm pu at' U := by
  have e1 := wdGo_calm pu U stmZ false
  have e2 : ∀ w has, grP pu w has (U.filter calmB) = grP pu w has U := fun w has => filter_calm (by decide) pu _ U
  have e3 : stP tm (U.filter calmB) at' = stP tm U at' := funext fun g => by
    unfold stP confP
    rw [find_calm (by decide)]
  unfold allowP
  rw [e1, e2, e3]
/-- what would be said without objections -/
theorem allow_calm {tm : PTerm} {k : Int} {t : ByteArray} {ch at' : Int} {pu : ByteArray} {l U : List Stm} (hU : IsSaid k t ch at' l U) (h0 : ∀ s ∈ l, 0 ≤ s.at') (hw : ∀ s ∈ l, whole s.what = true → (s.purpose.toList == []) = true) (hd : 0 ≤ tm.days) :
    allowP tm pu at' U = askR (some tm) k t ch at' pu (l.filter calmB) := by
  have hV : IsSaid k t ch at' (l.filter calmB) (U.filter calmB) := ⟨hU.ord.filter _, fun s => by
    rw [List.mem_filter, List.mem_filter, hU.mem]
    constructor
    · rintro ⟨⟨h1, h2⟩, h3⟩; exact ⟨⟨h1, h3⟩, h2⟩
    · rintro ⟨⟨h1, h3⟩, h2⟩; exact ⟨⟨h1, h2⟩, h3⟩⟩
  have e := ans_is (tm := some tm) (pu := pu) hV (fun s hs => h0 s (List.mem_filter.1 hs).1) (fun s hs => hw s (List.mem_filter.1 hs).1) (fun t ht => by cases ht; exact hd)
  rw [← e, ansP, if_neg (by rw [objGo_none _ _ _ (fun s hs => by simpa using (List.mem_filter.1 hs).2)]; simp), allowP_calm]
/-- without a term there is no answer, and only then -/
theorem askR_none (tm : PTerm) (k : Int) (t : ByteArray) (ch at' : Int) (pu : ByteArray) (l : List Stm) : (askR (some tm) k t ch at' pu l).2.1 ≠ 3 := by
  unfold askR
  simp only
  split
  · simp
  · split
    · simp
    · split
      · simp
      · unfold pickR
        split
        · simp
        · split
          · simp
          · split
            · simp
            · split <;> simp
/-- a statement to be added -/
def mkS (k : Int) (t pu rg : ByteArray) (ch at' no what : Int) : Stm := ⟨no, at', k, t, if whole what = true then ⟨#[]⟩ else pu, rg, ch, what⟩
def topNo : List Stm → Int
  | [] => 0
  | [s] => s.no
  | _ :: r => topNo r
theorem topNo_top : ∀ (l : List Stm), l.Pairwise (fun a b => a.no < b.no) → (∀ s ∈ l, s.no ≤ topNo l) ∧ ((l = [] ∧ topNo l = 0) ∨ ∃ s, l[l.length - 1]? = some s ∧ s ∈ l ∧ topNo l = s.no)
  | [], _ => ⟨by simp, .inl ⟨rfl, rfl⟩⟩
  | [s], _ => ⟨by simp [topNo], .inr ⟨s, rfl, by simp, rfl⟩⟩
  | s :: u :: r, h => by
    have h' := List.pairwise_cons.1 h
    obtain ⟨h1, h2⟩ := topNo_top (u :: r) h'.2
    refine ⟨fun x hx => ?_, .inr ?_⟩
    · rcases List.mem_cons.1 hx with rfl | hx
      · have e1 := h'.1 u (by simp)
        have e2 := h1 u (by simp)
        show x.no ≤ topNo (u :: r)
        omega
      · exact h1 x hx
    · rcases h2 with ⟨e, _⟩ | ⟨x, hx, hm, e⟩
      · cases e
      · exact ⟨x, by simpa using hx, by simp [hm], e⟩
def addS (k : Int) (t pu rg : ByteArray) (ch at' : Int) (no : Int) : List Int → List Stm
  | [] => []
  | w :: r => mkS k t pu rg ch at' (no + 1) w :: addS k t pu rg ch at' (no + 1) r
theorem addS_len (k : Int) (t pu rg : ByteArray) (ch at' : Int) : ∀ (ws : List Int) (no : Int), (addS k t pu rg ch at' no ws).length = ws.length
  | [], _ => rfl
  | w :: r, no => by rw [addS, List.length_cons, addS_len, List.length_cons]
/-- what must be said -/
def whatA (o : Option PTerm) (k : Int) (t : ByteArray) (ch at' : Int) (pu : ByteArray) (l : List Stm) (want : Bool) : List Int :=
  if want = false then [3] else (if (askR o k t ch at' pu l).2.1 = 6 then [5] else []) ++ (if (askR o k t ch at' pu (l.filter calmB)).1 = false then [1] else [])
theorem whatA_ok (o : Option PTerm) (k : Int) (t : ByteArray) (ch at' : Int) (pu : ByteArray) (l : List Stm) (want : Bool) : (whatA o k t ch at' pu l want).length ≤ 2 ∧ ∀ w ∈ whatA o k t ch at' pu l want, w = 1 ∨ w = 3 ∨ w = 5 := by
  unfold whatA
  split
  · simp
  · split <;> split <;> simp
def chgAns (o : Option PTerm) (k : Int) (t pu rg : ByteArray) (ch at' : Int) (l : List Stm) (want : Bool) : List Stm × Int :=
  if (askR o k t ch at' pu l).1 = want then ([], 0)
  else if want = true ∧ o.isSome = false then ([], 16)
  else if want = true ∧ (askR o k t ch at' pu (l ++ addS k t pu rg ch at' (topNo l) (whatA o k t ch at' pu l want))).1 = false ∧ (askR o k t ch at' pu (l ++ addS k t pu rg ch at' (topNo l) (whatA o k t ch at' pu l want))).2.1 ≠ 8 then ([], 13)
  else if 1000000 < topNo l + (whatA o k t ch at' pu l want).length then ([], 12)
  else (addS k t pu rg ch at' (topNo l) (whatA o k t ch at' pu l want), 0)
theorem addS_mem {k : Int} {t pu rg : ByteArray} {ch at' : Int} : ∀ {ws : List Int} {no : Int} {s : Stm}, s ∈ addS k t pu rg ch at' no ws → ∃ w ∈ ws, ∃ m, no < m ∧ m ≤ no + ws.length ∧ s = mkS k t pu rg ch at' m w
  | [], _, _, h => by cases h
  | w :: r, no, s, h => by
    rcases List.mem_cons.1 h with rfl | h
    · exact ⟨w, by simp, no + 1, by omega, by rw [List.length_cons]; omega, rfl⟩
    · obtain ⟨w', hw, m, h1, h2, e⟩ := addS_mem h
      exact ⟨w', by simp [hw], m, by omega, by simp; omega, e⟩
theorem addS_ord (k : Int) (t pu rg : ByteArray) (ch at' : Int) : ∀ (ws : List Int) (no : Int), (addS k t pu rg ch at' no ws).Pairwise (fun a b => a.no < b.no)
  | [], _ => List.Pairwise.nil
  | w :: r, no => List.pairwise_cons.2 ⟨fun s hs => by
      obtain ⟨w', _, m, h1, _, rfl⟩ := addS_mem hs
      exact h1, addS_ord k t pu rg ch at' r (no + 1)⟩
/-- the statements with those that are added are good -/
theorem GoodL.add {p : List Purp} {l : List Stm} (h : GoodL p l) (hno : ∀ s ∈ l, s.no ≤ 1000000) {k : Int} {t : ByteArray} (hk : L.idFault k t = 0) (pu rg : ByteArray) (ch : Int) {at' : Int} (hat : 0 ≤ at' ∧ at' ≤ 4321439) {ws : List Int} (hl : ws.length ≤ 2) : GoodL p (l ++ addS k t pu rg ch at' (topNo l) ws) := by
  obtain ⟨h1, h2⟩ := topNo_top l h.no
  have hb : 0 ≤ topNo l ∧ topNo l ≤ 1000000 := by
    rcases h2 with ⟨_, e⟩ | ⟨s, _, hs, e⟩
    · omega
    · have := h.pos s hs; have := hno s hs; omega
  refine ⟨List.pairwise_append.2 ⟨h.no, addS_ord k t pu rg ch at' ws _, fun a ha b hb' => ?_⟩, fun s hs => ?_, fun s hs => ?_, fun s hs => ?_, fun s hs => ?_⟩
  · obtain ⟨w, _, m, h3, _, rfl⟩ := addS_mem hb'
    have := h1 a ha
    show a.no < m
    omega
  all_goals
    rcases List.mem_append.1 hs with hs | hs
  · exact h.at' s hs
  · obtain ⟨w, _, m, _, _, rfl⟩ := addS_mem hs
    exact hat
  · exact h.wh s hs
  · obtain ⟨w, _, m, _, _, rfl⟩ := addS_mem hs
    intro hw
    have hw' : whole w = true := hw
    show ((if whole w = true then (⟨#[]⟩ : ByteArray) else pu).toList == []) = true
    rw [if_pos hw']
    decide +kernel
  · exact h.pos s hs
  · obtain ⟨w, _, m, _, _, rfl⟩ := addS_mem hs
    show 1 ≤ m ∧ m ≤ 2000000
    omega
  · exact h.id s hs
  · obtain ⟨w, _, m, _, _, rfl⟩ := addS_mem hs
    exact hk
end Go.Proofs.YthmkphmciiiagaaGreatDoor
