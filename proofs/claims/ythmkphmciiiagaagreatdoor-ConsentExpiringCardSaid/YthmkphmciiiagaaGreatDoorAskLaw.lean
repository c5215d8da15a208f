/- The plain law of May: what the program's steps give is what the reference's give. -/
import Derived.Test.YthmkphmciiiagaaGreatDoorStmLaw
namespace Go.Proofs.YthmkphmciiiagaaGreatDoor
open Go.RowKit
def latGo (a n : Int) : List Stm → Int × Int
  | [] => (a, n)
  | s :: r => if a < s.at' ∨ (s.at' = a ∧ s.no < n) then latGo s.at' s.no r else latGo a n r
def lat (l : List Stm) : Int × Int := latGo (-1) 0 l
def IsLat (l : List Stm) (x : Int × Int) : Prop := (l = [] ∧ x = (-1, 0)) ∨ ∃ s ∈ l, x = (s.at', s.no) ∧ ∀ t ∈ l, t.at' < s.at' ∨ (t.at' = s.at' ∧ s.no ≤ t.no)
theorem latGo_spec : ∀ (l : List Stm) (s0 : Stm), IsLat (s0 :: l) (latGo s0.at' s0.no l)
  | [], s0 => .inr ⟨s0, List.mem_cons_self .., rfl, fun t ht => by rw [List.mem_singleton.1 ht]; omega⟩
  | s :: r, s0 => by
    rw [latGo]
    split
    · rename_i h
      rcases latGo_spec r s with ⟨h1, _⟩ | ⟨m, hm, e, hd⟩
      · cases h1
      · refine .inr ⟨m, List.mem_cons_of_mem _ hm, e, fun t ht => ?_⟩
        rcases List.mem_cons.1 ht with rfl | ht
        · have := hd s (List.mem_cons_self ..); omega
        · exact hd t ht
    · rename_i h
      rcases latGo_spec r s0 with ⟨h1, _⟩ | ⟨m, hm, e, hd⟩
      · cases h1
      · have h0 := hd s0 (List.mem_cons_self ..)
        refine .inr ⟨m, ?_, e, fun t ht => ?_⟩
        · rcases List.mem_cons.1 hm with rfl | hm
          · exact List.mem_cons_self ..
          · exact List.mem_cons_of_mem _ (List.mem_cons_of_mem _ hm)
        · rcases List.mem_cons.1 ht with rfl | ht
          · exact h0
          · rcases List.mem_cons.1 ht with rfl | ht
            · omega
            · exact hd t (List.mem_cons_of_mem _ ht)
theorem lat_spec {l : List Stm} (h : ∀ s ∈ l, 0 ≤ s.at') : IsLat l (lat l) := by
  cases l with
  | nil => exact .inl ⟨rfl, rfl⟩
  | cons s r =>
    have h0 := h s (List.mem_cons_self ..)
    rw [lat, latGo, if_pos (by omega)]
    exact latGo_spec r s
theorem IsLat.congr {l l' : List Stm} {x : Int × Int} (h : IsLat l x) (hm : ∀ s, s ∈ l ↔ s ∈ l') : IsLat l' x := by
  rcases h with ⟨rfl, e⟩ | ⟨s, hs, e, hd⟩
  · refine .inl ⟨?_, e⟩
    cases l' with
    | nil => rfl
    | cons a r => exact absurd ((hm a).2 (List.mem_cons_self ..)) (by simp)
  · exact .inr ⟨s, (hm s).1 hs, e, fun t ht => hd t ((hm t).2 ht)⟩
theorem IsLat.uniq {l : List Stm} {x y : Int × Int} (h : IsLat l x) (h2 : IsLat l y) : x = y := by
  rcases h with ⟨rfl, e⟩ | ⟨s, hs, e, hd⟩
  · rcases h2 with ⟨_, e2⟩ | ⟨t, ht, _⟩
    · rw [e, e2]
    · cases ht
  · rcases h2 with ⟨rfl, e2⟩ | ⟨t, ht, e2, hd2⟩
    · cases hs
    · have h1 := hd t ht
      have h3 := hd2 s hs
      rw [e, e2, Prod.mk.injEq]
      omega
theorem IsLat.none {l : List Stm} {x : Int × Int} (h : IsLat l x) (h0 : l = []) : x = (-1, 0) := by
  rcases h with ⟨_, e⟩ | ⟨s, hs, _⟩
  · exact e
  · rw [h0] at hs; cases hs
theorem IsLat.some {l : List Stm} {x : Int × Int} (h : IsLat l x) {s : Stm} (hs : s ∈ l) : s.at' < x.1 ∨ (s.at' = x.1 ∧ x.2 ≤ s.no) := by
  rcases h with ⟨rfl, _⟩ | ⟨t, _, rfl, hd⟩
  · cases hs
  · exact hd s hs
theorem IsLat.mem {l : List Stm} {x : Int × Int} (h : IsLat l x) (h0 : 0 ≤ x.1) : ∃ s ∈ l, x = (s.at', s.no) := by
  rcases h with ⟨_, rfl⟩ | ⟨t, ht, e, _⟩
  · simp at h0
  · exact ⟨t, ht, e⟩
theorem IsLat.neg {l : List Stm} {x : Int × Int} (h : IsLat l x) (hl : ∀ s ∈ l, 0 ≤ s.at') (h0 : x.1 < 0) : l = [] := by
  rcases h with ⟨e, _⟩ | ⟨t, ht, rfl, _⟩
  · exact e
  · have := hl t ht; dsimp at h0; omega
abbrev puB (pu : ByteArray) (s : Stm) : Bool := s.purpose.toList == pu.toList
/-- what an id has said through a channel -/
def ofB (k : Int) (t : ByteArray) (ch : Int) (s : Stm) : Bool := decide (s.kind = k) && (s.text.toList == t.toList) && decide (s.channel = ch)
/-- the statements that count, of one kind, for a purpose -/
def saidR (k : Int) (t : ByteArray) (ch at' what : Int) (pu : ByteArray) (l : List Stm) : List Stm :=
  l.filter (fun s => ofB k t ch s && decide (s.at' ≤ at') && decide (s.what = what) && puB pu s)
/-- the state of a grant, as the reference says it -/
def stR (tm : PTerm) (cs : List Stm) (at' : Int) (g : Stm) : Int :=
  if 0 < tm.days ∧ tm.days * 1440 ≤ at' - g.at' then 7
  else if tm.wait = 0 ∨ cs.any (fun c => decide (g.at' ≤ c.at' ∧ c.at' ≤ g.at' + tm.wait)) = true then 2
  else if at' - g.at' ≤ tm.wait then 8 else 9
def liveR (gone : Int) (gr : List Stm) : List Stm := gr.filter (fun g => !decide (g.at' ≤ gone))
/-- the answer by states -/
def pickR (st : Stm → Int) (gs : List Stm) : Bool × Int × Int :=
  if 0 ≤ (lat (gs.filter (fun g => decide (st g = 2)))).1 then (true, 2, (lat (gs.filter (fun g => decide (st g = 2)))).2)
  else if 0 ≤ (lat (gs.filter (fun g => decide (st g = 8)))).1 then (false, 8, (lat (gs.filter (fun g => decide (st g = 8)))).2)
  else if 0 ≤ (lat (gs.filter (fun g => decide (st g = 9)))).1 then (false, 9, (lat (gs.filter (fun g => decide (st g = 9)))).2)
  else if 0 ≤ (lat (gs.filter (fun g => decide (st g = 7)))).1 then (false, 7, (lat (gs.filter (fun g => decide (st g = 7)))).2)
  else (false, 4, 0)
def askR (tm : Option PTerm) (k : Int) (t : ByteArray) (ch at' : Int) (pu : ByteArray) (l : List Stm) : Bool × Int × Int :=
  match tm with
  | none => (false, 3, 0)
  | some tm =>
    if 0 ≤ (lat (saidR k t ch at' 4 ⟨#[]⟩ l)).1 ∧ (lat (saidR k t ch at' 5 ⟨#[]⟩ l)).1 ≤ (lat (saidR k t ch at' 4 ⟨#[]⟩ l)).1 then (false, 6, (lat (saidR k t ch at' 4 ⟨#[]⟩ l)).2)
    else if 0 ≤ (lat (saidR k t ch at' 3 pu l)).1 ∧ (lat (saidR k t ch at' 1 pu l)).1 ≤ (lat (saidR k t ch at' 3 pu l)).1 then (false, 5, (lat (saidR k t ch at' 3 pu l)).2)
    else if tm.free = true then (true, 1, 0)
    else pickR (stR tm (saidR k t ch at' 2 pu l) at') (liveR (lat (saidR k t ch at' 3 pu l)).1 (saidR k t ch at' 1 pu l))
/-- by moment, then by number -/
def ahead (a b : Stm) : Prop := a.at' < b.at' ∨ (a.at' = b.at' ∧ a.no < b.no)
def objGo (no last : Int) (is : Bool) : List Stm → Int × Bool
  | [] => (no, is)
  | s :: r =>
    if whole s.what = false then objGo no last is r
    else if last < s.at' then (if s.what = 4 then objGo s.no s.at' true r else objGo 0 s.at' false r)
    else if s.what = 4 ∧ is = false then objGo s.no last true r else objGo no last is r
structure ObjInv (Q : List Stm) (no last : Int) (is : Bool) : Prop where
  top : ∀ s ∈ Q, whole s.what = true → s.at' ≤ last
  has : (∃ s ∈ Q, whole s.what = true ∧ s.at' = last) ∨ (last = -1 ∧ is = false ∧ ∀ s ∈ Q, whole s.what = false)
  yes : is = true → ∃ o ∈ Q, o.what = 4 ∧ o.at' = last ∧ o.no = no ∧ ∀ q ∈ Q, q.what = 4 → q.at' = last → o.no ≤ q.no
  not : is = false → ∀ o ∈ Q, o.what = 4 → o.at' ≠ last
theorem whole_iff (n : Int) : whole n = true ↔ n = 4 ∨ n = 5 := by unfold whole; simp
theorem objGo_spec : ∀ (R Q : List Stm) (no last : Int) (is : Bool), (∀ a ∈ Q, ∀ b ∈ R, ahead a b) → R.Pairwise ahead → (∀ s ∈ R, 0 ≤ s.at') → ObjInv Q no last is →
    ∃ last', ObjInv (Q ++ R) (objGo no last is R).1 last' (objGo no last is R).2
  | [], Q, no, last, is, _, _, _, h => ⟨last, by rw [List.append_nil]; exact h⟩
  | s :: r, Q, no, last, is, hQ, hR, h0, h => by
    have hp := List.pairwise_cons.1 hR
    have hs0 := h0 s (List.mem_cons_self ..)
    have hQ2 : ∀ a ∈ Q ++ [s], ∀ b ∈ r, ahead a b := fun a ha b hb => by
      rcases List.mem_append.1 ha with ha | ha
      · exact hQ a ha b (List.mem_cons_of_mem _ hb)
      · rw [List.mem_singleton.1 ha]; exact hp.1 b hb
    have hQs : ∀ a ∈ Q, ahead a s := fun a ha => hQ a ha s (List.mem_cons_self ..)
    have go := fun no last is (hi : ObjInv (Q ++ [s]) no last is) => objGo_spec r (Q ++ [s]) no last is hQ2 hp.2 (fun x hx => h0 x (List.mem_cons_of_mem _ hx)) hi
    simp only [List.append_assoc, List.singleton_append] at go
    have mem : ∀ {x : Stm}, x ∈ Q ++ [s] → x ∈ Q ∨ x = s := fun hx => by simpa using hx
    have inS : s ∈ Q ++ [s] := by simp
    have inQ : ∀ {x : Stm}, x ∈ Q → x ∈ Q ++ [s] := fun hx => by simp [hx]
    rw [objGo]
    cases hw : whole s.what with
    | false =>
      rw [if_pos rfl]
      refine go no last is ⟨fun x hx hxw => ?_, ?_, fun hi => ?_, fun hi x hx hx4 => ?_⟩
      · rcases mem hx with hx | rfl
        · exact h.top x hx hxw
        · rw [hw] at hxw; cases hxw
      · rcases h.has with ⟨x, hx, h1, h2⟩ | ⟨h1, h2, h3⟩
        · exact .inl ⟨x, inQ hx, h1, h2⟩
        · refine .inr ⟨h1, h2, fun x hx => ?_⟩
          rcases mem hx with hx | rfl
          · exact h3 x hx
          · exact hw
      · obtain ⟨o, ho, h1, h2, h3, h4⟩ := h.yes hi
        refine ⟨o, inQ ho, h1, h2, h3, fun q hq hq4 hq5 => ?_⟩
        rcases mem hq with hq | rfl
        · exact h4 q hq hq4 hq5
        · rw [(whole_iff _).2 (.inl hq4)] at hw; cases hw
      · rcases mem hx with hx | rfl
        · exact h.not hi x hx hx4
        · rw [(whole_iff _).2 (.inl hx4)] at hw; cases hw
    | true =>
      rw [if_neg (by simp)]
      by_cases hl : last < s.at'
      · rw [if_pos hl]
        have htop : ∀ x ∈ Q ++ [s], whole x.what = true → x.at' ≤ s.at' := fun x hx hxw => by
          rcases mem hx with hx | rfl
          · have := h.top x hx hxw; omega
          · exact Int.le_refl _
        by_cases h4 : s.what = 4
        · rw [if_pos h4]
          refine go s.no s.at' true ⟨htop, .inl ⟨s, inS, hw, rfl⟩, fun _ => ⟨s, inS, h4, rfl, rfl, fun q hq hq4 hq5 => ?_⟩, fun hi => by cases hi⟩
          rcases mem hq with hq | rfl
          · have := h.top q hq ((whole_iff _).2 (.inl hq4)); omega
          · exact Int.le_refl _
        · rw [if_neg h4]
          refine go 0 s.at' false ⟨htop, .inl ⟨s, inS, hw, rfl⟩, fun hi => (by cases hi), fun _ x hx hx4 => ?_⟩
          rcases mem hx with hx | rfl
          · have := h.top x hx ((whole_iff _).2 (.inl hx4)); omega
          · exact absurd hx4 h4
      · rw [if_neg hl]
        have hsl : s.at' = last := by
          rcases h.has with ⟨x, hx, h1, h2⟩ | ⟨h1, h2, h3⟩
          · have := hQs x hx; unfold ahead at this; omega
          · omega
        have htop : ∀ x ∈ Q ++ [s], whole x.what = true → x.at' ≤ last := fun x hx hxw => by
          rcases mem hx with hx | rfl
          · exact h.top x hx hxw
          · omega
        by_cases h4 : s.what = 4 ∧ is = false
        · rw [if_pos h4]
          refine go s.no last true ⟨htop, .inl ⟨s, inS, hw, hsl⟩, fun _ => ⟨s, inS, h4.1, hsl, rfl, fun q hq hq4 hq5 => ?_⟩, fun hi => by cases hi⟩
          rcases mem hq with hq | rfl
          · exact absurd hq5 (h.not h4.2 q hq hq4)
          · exact Int.le_refl _
        · rw [if_neg h4]
          refine go no last is ⟨htop, .inl ⟨s, inS, hw, hsl⟩, fun hi => ?_, fun hi x hx hx4 => ?_⟩
          · obtain ⟨o, ho, h1, h2, h3, h5⟩ := h.yes hi
            refine ⟨o, inQ ho, h1, h2, h3, fun q hq hq4 hq5 => ?_⟩
            rcases mem hq with hq | rfl
            · exact h5 q hq hq4 hq5
            · have := hQs o ho; unfold ahead at this; omega
          · rcases mem hx with hx | rfl
            · exact h.not hi x hx hx4
            · exact absurd ⟨hx4, hi⟩ h4
/-- the objection that counts -/
theorem obj_is {U : List Stm} {ob fo : Int × Int} (hU : U.Pairwise ahead) (h0 : ∀ s ∈ U, 0 ≤ s.at') (ho : IsLat (U.filter (fun s => decide (s.what = 4))) ob) (hf : IsLat (U.filter (fun s => decide (s.what = 5))) fo) :
    ((objGo 0 (-1) false U).2 = true → 0 ≤ ob.1 ∧ fo.1 ≤ ob.1 ∧ (objGo 0 (-1) false U).1 = ob.2) ∧ ((objGo 0 (-1) false U).2 = false → ¬ (0 ≤ ob.1 ∧ fo.1 ≤ ob.1)) := by
  obtain ⟨last, h⟩ := objGo_spec U [] 0 (-1) false (fun a ha => by cases ha) hU h0 ⟨fun _ hs => (by cases hs), .inr ⟨rfl, rfl, fun _ hs => by cases hs⟩, fun h => (by cases h), fun _ _ hs => by cases hs⟩
  rw [List.nil_append] at h
  refine ⟨fun hi => ?_, fun hi hc => ?_⟩
  · obtain ⟨o, hoU, h1, h2, h3, h4⟩ := h.yes hi
    have hm : o ∈ U.filter (fun s => decide (s.what = 4)) := List.mem_filter.2 ⟨hoU, by simpa using h1⟩
    have h5 := ho.some hm
    have h6 := h0 o hoU
    have h7 : 0 ≤ ob.1 := by omega
    obtain ⟨s, hs, e⟩ := ho.mem h7
    have hs2 := List.mem_filter.1 hs
    have hs4 : s.what = 4 := by simpa using hs2.2
    have h8 := h.top s hs2.1 ((whole_iff _).2 (.inl hs4))
    have e1 : ob.1 = s.at' := by rw [e]
    have e2 : ob.2 = s.no := by rw [e]
    have h9 : s.at' = last := by omega
    have h10 := h4 s hs2.1 hs4 h9
    refine ⟨h7, ?_, by omega⟩
    rcases Int.lt_or_le fo.1 0 with hfn | hfp
    · omega
    · obtain ⟨f, hfm, ef⟩ := hf.mem hfp
      have hf2 := List.mem_filter.1 hfm
      have := h.top f hf2.1 ((whole_iff _).2 (.inr (by simpa using hf2.2)))
      have e3 : fo.1 = f.at' := by rw [ef]
      omega
  · obtain ⟨s, hs, e⟩ := ho.mem hc.1
    have hs2 := List.mem_filter.1 hs
    have hs4 : s.what = 4 := by simpa using hs2.2
    have h8 := h.top s hs2.1 ((whole_iff _).2 (.inl hs4))
    have h9 := h.not hi s hs2.1 hs4
    have e1 : ob.1 = s.at' := by rw [e]
    rcases h.has with ⟨x, hx, hxw, hxl⟩ | ⟨_, _, h3⟩
    · rcases (whole_iff _).1 hxw with h4 | h5
      · exact h.not hi x hx h4 hxl
      · have := hf.some (List.mem_filter.2 ⟨hx, by simpa using h5⟩)
        omega
    · have := h3 s hs2.1
      rw [(whole_iff _).2 (.inl hs4)] at this
      cases this
/-- the withdrawal that counts -/
def wdGo (pu : ByteArray) (w : Stm) (has : Bool) : List Stm → Stm × Bool
  | [] => (w, has)
  | s :: r => if s.what = 3 ∧ puB pu s = true ∧ (has = false ∨ w.at' < s.at') then wdGo pu s true r else wdGo pu w has r
abbrev kindB (what : Int) (pu : ByteArray) (s : Stm) : Bool := decide (s.what = what) && puB pu s
theorem wdGo_spec (pu : ByteArray) : ∀ (R Q : List Stm) (w : Stm) (has : Bool), (∀ a ∈ Q, ∀ b ∈ R, ahead a b) → R.Pairwise ahead →
    (has = true → w ∈ Q ∧ kindB 3 pu w = true ∧ ∀ t ∈ Q, kindB 3 pu t = true → t.at' < w.at' ∨ (t.at' = w.at' ∧ w.no ≤ t.no)) → (has = false → ∀ t ∈ Q, kindB 3 pu t = false) →
    ((wdGo pu w has R).2 = true → (wdGo pu w has R).1 ∈ Q ++ R ∧ kindB 3 pu (wdGo pu w has R).1 = true ∧ ∀ t ∈ Q ++ R, kindB 3 pu t = true → t.at' < (wdGo pu w has R).1.at' ∨ (t.at' = (wdGo pu w has R).1.at' ∧ (wdGo pu w has R).1.no ≤ t.no)) ∧ ((wdGo pu w has R).2 = false → ∀ t ∈ Q ++ R, kindB 3 pu t = false)
  | [], Q, w, has, _, _, h1, h2 => by rw [List.append_nil]; exact ⟨h1, h2⟩
  | s :: r, Q, w, has, hQ, hR, h1, h2 => by
    have hp := List.pairwise_cons.1 hR
    have hQ2 : ∀ a ∈ Q ++ [s], ∀ b ∈ r, ahead a b := fun a ha b hb => by
      rcases List.mem_append.1 ha with ha | ha
      · exact hQ a ha b (List.mem_cons_of_mem _ hb)
      · rw [List.mem_singleton.1 ha]; exact hp.1 b hb
    have hQs : ∀ a ∈ Q, ahead a s := fun a ha => hQ a ha s (List.mem_cons_self ..)
    have go := fun w has hi hj => wdGo_spec pu r (Q ++ [s]) w has hQ2 hp.2 hi hj
    simp only [List.append_assoc, List.singleton_append] at go
    have mem : ∀ {x : Stm}, x ∈ Q ++ [s] → x ∈ Q ∨ x = s := fun hx => by simpa using hx
    rw [wdGo]
    split
    · rename_i h
      refine go s true (fun _ => ⟨by simp, by simp [kindB, h.1, h.2.1], fun t ht hk => ?_⟩) (fun hh => by cases hh)
      rcases mem ht with ht | rfl
      · cases has with
        | false => rw [h2 rfl t ht] at hk; cases hk
        | true =>
          have h3 := (h1 rfl).2.2 t ht hk
          have h4 := h.2.2
          simp at h4
          omega
      · omega
    · rename_i h
      refine go w has (fun hh => ⟨by simp [(h1 hh).1], (h1 hh).2.1, fun t ht hk => ?_⟩) (fun hh t ht => ?_)
      · rcases mem ht with ht | rfl
        · exact (h1 hh).2.2 t ht hk
        · have h5 := hQs w (h1 hh).1
          have hk2 : t.what = 3 ∧ puB pu t = true := by simpa [kindB] using hk
          have h6 : ¬ w.at' < t.at' := fun e => h ⟨hk2.1, hk2.2, .inr e⟩
          unfold ahead at h5
          omega
      · rcases mem ht with ht | rfl
        · exact h2 hh t ht
        · cases hk : kindB 3 pu t with
          | false => rfl
          | true =>
            have hk2 : t.what = 3 ∧ puB pu t = true := by simpa [kindB] using hk
            exact absurd ⟨hk2.1, hk2.2, .inl hh⟩ h
/-- the grants behind it -/
def grP (pu : ByteArray) (w : Stm) (has : Bool) (U : List Stm) : List Stm := U.filter (fun s => kindB 1 pu s && (!has || decide (w.at' < s.at')))
def confP (pu : ByteArray) (a b : Int) (U : List Stm) : Option Stm := U.find? (fun s => kindB 2 pu s && decide (a ≤ s.at' ∧ s.at' ≤ b))
def stP (tm : PTerm) (U : List Stm) (at' : Int) (g : Stm) : Int :=
  if tm.days ≠ 0 ∧ g.at' + tm.days * 1440 ≤ at' then 7
  else if tm.wait = 0 then 2
  else if (confP g.purpose g.at' (g.at' + tm.wait) U).isSome = true then 2
  else if at' ≤ g.at' + tm.wait then 8 else 9
def rankP (n : Int) : Int := if n = 2 then 0 else if n = 8 then 1 else if n = 9 then 2 else if n = 7 then 3 else -1
def bestGo (st : Stm → Int) (b : Stm) (why : Int) : List Stm → Stm × Int
  | [] => (b, why)
  | g :: r => if why = 0 ∨ rankP (st g) < rankP why ∨ (st g = why ∧ b.at' < g.at') then bestGo st g (st g) r else bestGo st b why r
abbrev stmZ : Stm := ⟨0, 0, 0, ⟨#[]⟩, ⟨#[]⟩, ⟨#[]⟩, 0, 0⟩
def allowP (tm : PTerm) (pu : ByteArray) (at' : Int) (U : List Stm) : Bool × Int × Int :=
  if (wdGo pu stmZ false U).2 = true ∧ (grP pu (wdGo pu stmZ false U).1 (wdGo pu stmZ false U).2 U).length = 0 then (false, 5, (wdGo pu stmZ false U).1.no)
  else if tm.free = true then (true, 1, 0)
  else if (grP pu (wdGo pu stmZ false U).1 (wdGo pu stmZ false U).2 U).length = 0 then (false, 4, 0)
  else (decide ((bestGo (stP tm U at') stmZ 0 (grP pu (wdGo pu stmZ false U).1 (wdGo pu stmZ false U).2 U)).2 = 2), (bestGo (stP tm U at') stmZ 0 (grP pu (wdGo pu stmZ false U).1 (wdGo pu stmZ false U).2 U)).2, (bestGo (stP tm U at') stmZ 0 (grP pu (wdGo pu stmZ false U).1 (wdGo pu stmZ false U).2 U)).1.no)
/-- the answer on what was said up to the moment -/
def ansP (tm : Option PTerm) (pu : ByteArray) (at' : Int) (U : List Stm) : Bool × Int × Int :=
  match tm with
  | none => (false, 3, 0)
  | some tm => if (objGo 0 (-1) false U).2 = true then (false, 6, (objGo 0 (-1) false U).1) else allowP tm pu at' U
theorem stP_range (tm : PTerm) (U : List Stm) (at' : Int) (g : Stm) : stP tm U at' g = 2 ∨ stP tm U at' g = 8 ∨ stP tm U at' g = 9 ∨ stP tm U at' g = 7 := by
  unfold stP; split; · simp
  split; · simp
  split; · simp
  split <;> simp
structure IsBest (st : Stm → Int) (Q : List Stm) (b : Stm) (why : Int) : Prop where
  mem : b ∈ Q
  isSt : why = st b
  rank : ∀ g ∈ Q, rankP why ≤ rankP (st g)
  last : ∀ g ∈ Q, st g = why → g.at' < b.at' ∨ (g.at' = b.at' ∧ b.no ≤ g.no)
theorem rank_inj {a b : Int} (ha : a = 2 ∨ a = 8 ∨ a = 9 ∨ a = 7) (hb : b = 2 ∨ b = 8 ∨ b = 9 ∨ b = 7) (h : rankP a = rankP b) : a = b := by
  rcases ha with rfl | rfl | rfl | rfl <;> rcases hb with rfl | rfl | rfl | rfl <;> simp [rankP] at h ⊢
theorem bestGo_spec {st : Stm → Int} (hst : ∀ g, st g = 2 ∨ st g = 8 ∨ st g = 9 ∨ st g = 7) : ∀ (R Q : List Stm) (b : Stm) (why : Int), (∀ a ∈ Q, ∀ c ∈ R, ahead a c) → R.Pairwise ahead → (why = 0 → Q = []) → (why ≠ 0 → IsBest st Q b why) → Q ++ R ≠ [] →
    IsBest st (Q ++ R) (bestGo st b why R).1 (bestGo st b why R).2
  | [], Q, b, why, _, _, h1, h2, h3 => by
    rw [List.append_nil] at h3 ⊢
    exact h2 (fun e => h3 (h1 e))
  | g :: r, Q, b, why, hQ, hR, h1, h2, _ => by
    have hp := List.pairwise_cons.1 hR
    have hQ2 : ∀ a ∈ Q ++ [g], ∀ b ∈ r, ahead a b := fun a ha b hb => by
      rcases List.mem_append.1 ha with ha | ha
      · exact hQ a ha b (List.mem_cons_of_mem _ hb)
      · rw [List.mem_singleton.1 ha]; exact hp.1 b hb
    have hQs : ∀ a ∈ Q, ahead a g := fun a ha => hQ a ha g (List.mem_cons_self ..)
    have go := fun b why hi hj => bestGo_spec hst r (Q ++ [g]) b why hQ2 hp.2 hi hj (by simp)
    simp only [List.append_assoc, List.singleton_append] at go
    have mem : ∀ {x : Stm}, x ∈ Q ++ [g] → x ∈ Q ∨ x = g := fun hx => by simpa using hx
    have hg0 : st g ≠ 0 := by have := hst g; omega
    rw [bestGo]
    split
    · rename_i h
      refine go g (st g) (fun e => absurd e hg0) (fun _ => ⟨by simp, rfl, fun x hx => ?_, fun x hx hxs => ?_⟩)
      · rcases mem hx with hx | rfl
        · by_cases hw : why = 0
          · rw [h1 hw] at hx; cases hx
          · have h4 := (h2 hw).rank x hx
            rcases h with h | h | h
            · exact absurd h hw
            · omega
            · rw [h.1]; exact h4
        · exact Int.le_refl _
      · rcases mem hx with hx | rfl
        · by_cases hw : why = 0
          · rw [h1 hw] at hx; cases hx
          · have h4 := (h2 hw).rank x hx
            rcases h with h | h | h
            · exact absurd h hw
            · rw [hxs] at h4; omega
            · have h5 := (h2 hw).last x hx (by rw [hxs, h.1])
              omega
        · omega
    · rename_i h
      have hw : why ≠ 0 := fun e => h (.inl e)
      have hb := h2 hw
      refine go b why (fun e => absurd e hw) (fun _ => ⟨by simp [hb.mem], hb.isSt, fun x hx => ?_, fun x hx hxs => ?_⟩)
      · rcases mem hx with hx | rfl
        · exact hb.rank x hx
        · rcases Int.lt_or_le (rankP (st x)) (rankP why) with h5 | h5
          · exact absurd (.inr (.inl h5)) h
          · exact h5
      · rcases mem hx with hx | rfl
        · exact hb.last x hx hxs
        · have h5 := hQs b hb.mem
          have h6 : ¬ b.at' < x.at' := fun e => h (.inr (.inr ⟨hxs, e⟩))
          unfold ahead at h5
          omega
/-- the pick by states is the best of them -/
theorem pickR_best {st : Stm → Int} (hst : ∀ g, st g = 2 ∨ st g = 8 ∨ st g = 9 ∨ st g = 7) {gs G : List Stm} (h0 : ∀ s ∈ gs, 0 ≤ s.at') (hm : ∀ s, s ∈ gs ↔ s ∈ G) {b : Stm} {why : Int} (hb : IsBest st G b why) : pickR st gs = (decide (why = 2), why, b.no) := by
  have hl : ∀ v : Int, IsLat (gs.filter (fun g => decide (st g = v))) (lat (gs.filter (fun g => decide (st g = v)))) := fun v => lat_spec (fun s hs => h0 s (List.mem_filter.1 hs).1)
  have hno : ∀ v : Int, rankP v < rankP why → ¬ 0 ≤ (lat (gs.filter (fun g => decide (st g = v)))).1 := fun v hv hn => by
    obtain ⟨s, hs, _⟩ := (hl v).mem hn
    have hs2 := List.mem_filter.1 hs
    have e : st s = v := by simpa using hs2.2
    have := hb.rank s ((hm s).1 hs2.1)
    rw [e] at this
    omega
  have hyes : 0 ≤ (lat (gs.filter (fun g => decide (st g = why)))).1 ∧ (lat (gs.filter (fun g => decide (st g = why)))).2 = b.no := by
    have hbm := (hm b).2 hb.mem
    have hin : b ∈ gs.filter (fun g => decide (st g = why)) := List.mem_filter.2 ⟨hbm, by simpa using hb.isSt.symm⟩
    have h1 := (hl why).some hin
    have h2 := h0 b hbm
    have h3 : 0 ≤ (lat (gs.filter (fun g => decide (st g = why)))).1 := by omega
    obtain ⟨s, hs, e⟩ := (hl why).mem h3
    have hs2 := List.mem_filter.1 hs
    have h4 := hb.last s ((hm s).1 hs2.1) (by simpa using hs2.2)
    have e1 : (lat (gs.filter (fun g => decide (st g = why)))).1 = s.at' := by rw [e]
    have e2 : (lat (gs.filter (fun g => decide (st g = why)))).2 = s.no := by rw [e]
    exact ⟨h3, by omega⟩
  have hw := hst b
  rw [← hb.isSt] at hw
  unfold pickR
  rcases hw with rfl | rfl | rfl | rfl
  · rw [if_pos hyes.1, hyes.2]; rfl
  · rw [if_neg (hno 2 (by decide)), if_pos hyes.1, hyes.2]; rfl
  · rw [if_neg (hno 2 (by decide)), if_neg (hno 8 (by decide)), if_pos hyes.1, hyes.2]; rfl
  · rw [if_neg (hno 2 (by decide)), if_neg (hno 8 (by decide)), if_neg (hno 9 (by decide)), if_pos hyes.1, hyes.2]; rfl
theorem pickR_nil (st : Stm → Int) : pickR st [] = (false, 4, 0) := rfl
/-- what the id said through the channel up to the moment, in order -/
structure IsSaid (k : Int) (t : ByteArray) (ch at' : Int) (l U : List Stm) : Prop where
  ord : U.Pairwise ahead
  mem : ∀ s, s ∈ U ↔ s ∈ l ∧ ofB k t ch s = true ∧ s.at' ≤ at'
theorem mem_saidR {k : Int} {t : ByteArray} {ch at' what : Int} {pu : ByteArray} {l U : List Stm} (h : IsSaid k t ch at' l U) (s : Stm) : s ∈ saidR k t ch at' what pu l ↔ s ∈ U ∧ kindB what pu s = true := by
  rw [saidR, List.mem_filter, h.mem]
  simp [kindB, and_assoc]
theorem toList_nil {s : ByteArray} (h : (s.toList == []) = true) : s.toList = (⟨#[]⟩ : ByteArray).toList := by
  have : s.toList = [] := by simpa using h
  rw [this]; exact (by decide +kernel : ([] : List UInt8) = (⟨#[]⟩ : ByteArray).toList)
theorem ans_is {tm : Option PTerm} {k : Int} {t : ByteArray} {ch at' : Int} {pu : ByteArray} {l U : List Stm} (hU : IsSaid k t ch at' l U) (h0 : ∀ s ∈ l, 0 ≤ s.at') (hw : ∀ s ∈ l, whole s.what = true → (s.purpose.toList == []) = true) (hd : ∀ t, tm = some t → 0 ≤ t.days) :
    ansP tm pu at' U = askR tm k t ch at' pu l := by
  cases tm with
  | none => rfl
  | some tm =>
    have hU0 : ∀ s ∈ U, 0 ≤ s.at' := fun s hs => h0 s ((hU.mem s).1 hs).1
    have hl : ∀ what pu, IsLat (saidR k t ch at' what pu l) (lat (saidR k t ch at' what pu l)) := fun what pu => lat_spec (fun s hs => hU0 s ((mem_saidR hU s).1 hs).1)
    have hwh : ∀ what, whole what = true → ∀ s, s ∈ saidR k t ch at' what ⟨#[]⟩ l ↔ s ∈ U.filter (fun s => decide (s.what = what)) := fun what hww s => by
      rw [mem_saidR hU, List.mem_filter, kindB]
      constructor
      · rintro ⟨h1, h2⟩
        simp at h2
        exact ⟨h1, by simpa using h2.1⟩
      · rintro ⟨h1, h2⟩
        have e : s.what = what := by simpa using h2
        refine ⟨h1, ?_⟩
        have := toList_nil (hw s ((hU.mem s).1 h1).1 (by rw [e]; exact hww))
        simp [e, puB, this]
    have ho := obj_is hU.ord hU0 ((hl 4 ⟨#[]⟩).congr (hwh 4 rfl)) ((hl 5 ⟨#[]⟩).congr (hwh 5 rfl))
    unfold ansP askR
    dsimp only
    cases hob : (objGo 0 (-1) false U).2 with
    | true =>
      obtain ⟨h1, h2, h3⟩ := ho.1 hob
      rw [if_pos rfl, if_pos ⟨h1, h2⟩, h3]
    | false =>
      rw [if_neg (by simp), if_neg (ho.2 hob)]
      have hwd := wdGo_spec pu U [] stmZ false (fun a ha => by cases ha) hU.ord (fun h => by cases h) (fun _ _ ht => by cases ht)
      rw [List.nil_append] at hwd
      have hgr := fun what => mem_saidR (what := what) (pu := pu) hU
      have hlw := hl 3 pu
      have hlg := hl 1 pu
      unfold allowP
      generalize hW : (wdGo pu stmZ false U).1 = W at *
      generalize hH : (wdGo pu stmZ false U).2 = H at *
      have hgone : (H = true → (lat (saidR k t ch at' 3 pu l)) = (W.at', W.no)) ∧ (H = false → (lat (saidR k t ch at' 3 pu l)) = (-1, 0)) := by
        refine ⟨fun h => ?_, fun h => ?_⟩
        · obtain ⟨h1, h2, h3⟩ := hwd.1 h
          refine hlw.uniq (.inr ⟨W, (hgr 3 W).2 ⟨h1, h2⟩, rfl, fun s hs => ?_⟩)
          have := (hgr 3 s).1 hs
          exact h3 s this.1 this.2
        · refine hlw.none (List.eq_nil_iff_forall_not_mem.2 fun s hs => ?_)
          have := (hgr 3 s).1 hs
          rw [hwd.2 h s this.1] at this
          cases this.2
      have hG : ∀ s, s ∈ liveR (lat (saidR k t ch at' 3 pu l)).1 (saidR k t ch at' 1 pu l) ↔ s ∈ grP pu W H U := fun s => by
        rw [liveR, grP, List.mem_filter, List.mem_filter, hgr 1 s]
        cases H with
        | true => rw [hgone.1 rfl]; simp [and_assoc]
        | false =>
          rw [hgone.2 rfl]
          constructor
          · rintro ⟨⟨h1, h2⟩, _⟩; exact ⟨h1, by simp [h2]⟩
          · rintro ⟨h1, h2⟩
            have := hU0 s h1
            refine ⟨⟨h1, by simpa using h2⟩, ?_⟩
            simp; omega
      have hlast : (grP pu W H U).length = 0 ↔ ∀ s ∈ saidR k t ch at' 1 pu l, s.at' ≤ (lat (saidR k t ch at' 3 pu l)).1 := by
        rw [List.length_eq_zero_iff, List.eq_nil_iff_forall_not_mem]
        constructor
        · intro h s hs
          rcases Int.lt_or_le (lat (saidR k t ch at' 3 pu l)).1 s.at' with h1 | h1
          · exact absurd ((hG s).1 (List.mem_filter.2 ⟨hs, by simp; omega⟩)) (h s)
          · exact h1
        · intro h s hs
          have h1 := List.mem_filter.1 ((hG s).2 hs)
          have h2 := h s h1.1
          have h3 := h1.2
          simp at h3
          omega
      have hc1 : (H = true ∧ (grP pu W H U).length = 0) ↔ (0 ≤ (lat (saidR k t ch at' 3 pu l)).1 ∧ (lat (saidR k t ch at' 1 pu l)).1 ≤ (lat (saidR k t ch at' 3 pu l)).1) := by
        cases H with
        | false => rw [hgone.2 rfl]; simp
        | true =>
          have e := hgone.1 rfl
          have hW0 : 0 ≤ W.at' := hU0 W (hwd.1 rfl).1
          rw [hlast, e]
          constructor
          · rintro ⟨_, h⟩
            refine ⟨hW0, ?_⟩
            rcases Int.lt_or_le (lat (saidR k t ch at' 1 pu l)).1 0 with h1 | h1
            · show (lat (saidR k t ch at' 1 pu l)).1 ≤ W.at'; omega
            · obtain ⟨s, hs, es⟩ := hlg.mem h1
              rw [es]; exact h s hs
          · rintro ⟨_, h⟩
            refine ⟨rfl, fun s hs => ?_⟩
            have := hlg.some hs
            show s.at' ≤ W.at'
            have h' : (lat (saidR k t ch at' 1 pu l)).1 ≤ W.at' := h
            omega
      by_cases hc : H = true ∧ (grP pu W H U).length = 0
      · rw [if_pos hc, if_pos (hc1.1 hc), hgone.1 hc.1]
      · rw [if_neg hc, if_neg (fun h => hc (hc1.2 h))]
        by_cases hf : tm.free = true
        · rw [if_pos hf, if_pos hf]
        · rw [if_neg hf, if_neg hf]
          have hlive0 : ∀ s ∈ liveR (lat (saidR k t ch at' 3 pu l)).1 (saidR k t ch at' 1 pu l), 0 ≤ s.at' := fun s hs => hU0 s ((hgr 1 s).1 (List.mem_filter.1 hs).1).1
          have hst : ∀ s ∈ liveR (lat (saidR k t ch at' 3 pu l)).1 (saidR k t ch at' 1 pu l), stR tm (saidR k t ch at' 2 pu l) at' s = stP tm U at' s := fun s hs => by
            have hs2 := (hgr 1 s).1 (List.mem_filter.1 hs).1
            have hpu : s.purpose.toList = pu.toList := by
              have := hs2.2
              simp [kindB, puB] at this
              exact this.2
            have hd0 := hd tm rfl
            have hco : (saidR k t ch at' 2 pu l).any (fun c => decide (s.at' ≤ c.at' ∧ c.at' ≤ s.at' + tm.wait)) = (confP s.purpose s.at' (s.at' + tm.wait) U).isSome := by
              rw [Bool.eq_iff_iff, List.any_eq_true, confP, List.find?_isSome]
              constructor
              · rintro ⟨c, hc, h⟩
                have hc2 := (hgr 2 c).1 hc
                refine ⟨c, hc2.1, ?_⟩
                have := hc2.2
                simp [kindB, puB, hpu] at this ⊢
                simpa [this] using h
              · rintro ⟨c, hc, h⟩
                simp [kindB, puB, hpu] at h
                exact ⟨c, (hgr 2 c).2 ⟨hc, by simp [kindB, puB, h]⟩, by simpa using h.2⟩
            unfold stR stP
            rw [hco]
            by_cases h7 : 0 < tm.days ∧ tm.days * 1440 ≤ at' - s.at'
            · have h7' : tm.days ≠ 0 ∧ s.at' + tm.days * 1440 ≤ at' := ⟨by omega, by omega⟩
              rw [if_pos h7, if_pos h7']
            · have h7' : ¬ (tm.days ≠ 0 ∧ s.at' + tm.days * 1440 ≤ at') := fun h => h7 ⟨by omega, by omega⟩
              rw [if_neg h7, if_neg h7']
              by_cases hw0 : tm.wait = 0
              · rw [if_pos (Or.inl hw0), if_pos hw0]
              · rw [if_neg hw0]
                by_cases hcf : (confP s.purpose s.at' (s.at' + tm.wait) U).isSome = true
                · rw [if_pos (Or.inr hcf), if_pos hcf]
                · have hcf' : ¬ (tm.wait = 0 ∨ (confP s.purpose s.at' (s.at' + tm.wait) U).isSome = true) := fun h => h.elim hw0 hcf
                  rw [if_neg hcf', if_neg hcf]
                  by_cases h8 : at' - s.at' ≤ tm.wait
                  · rw [if_pos h8, if_pos (by omega)]
                  · rw [if_neg h8, if_neg (by omega)]
          have hpick : ∀ (gs : List Stm), (∀ s ∈ gs, stR tm (saidR k t ch at' 2 pu l) at' s = stP tm U at' s) → pickR (stR tm (saidR k t ch at' 2 pu l) at') gs = pickR (stP tm U at') gs := fun gs h => by
            have hfl : ∀ v : Int, gs.filter (fun g => decide (stR tm (saidR k t ch at' 2 pu l) at' g = v)) = gs.filter (fun g => decide (stP tm U at' g = v)) := fun v => List.filter_congr fun s hs => by rw [h s hs]
            unfold pickR
            rw [hfl, hfl, hfl, hfl]
          rw [hpick _ hst]
          by_cases hn : (grP pu W H U).length = 0
          · rw [if_pos hn]
            have : liveR (lat (saidR k t ch at' 3 pu l)).1 (saidR k t ch at' 1 pu l) = [] := List.eq_nil_iff_forall_not_mem.2 fun s hs => by
              have := (hG s).1 hs
              rw [List.length_eq_zero_iff.1 hn] at this
              cases this
            rw [this]
            exact (pickR_nil _).symm
          · rw [if_neg hn]
            have hne : grP pu W H U ≠ [] := fun e => hn (by rw [e]; rfl)
            have hbest := bestGo_spec (stP_range tm U at') (grP pu W H U) [] stmZ 0 (fun a ha => by cases ha) (hU.ord.filter _) (fun _ => rfl) (fun h => absurd rfl h) (by simpa using hne)
            rw [List.nil_append] at hbest
            exact (pickR_best (stP_range tm U at') hlive0 hG hbest).symm
end Go.Proofs.YthmkphmciiiagaaGreatDoor
