/- Several texts in one: PsnSml, NoUp, TopLaw, SortStr, TopLaw2, CrowdLaw. -/
import Derived.Test.YteabhkmhogmoiaaGreatDoorPackX
import Derived.Test.YteabhkmhogmoiaaGreatDoorPackT
import Derived.Test.YteabhkmhogmoiaaGreatDoorPackU
import Derived.Test.YteabhkmhogmoiaaGreatDoorPackZ
import Derived.Test.YteabhkmhogmoiaaGreatDoorPackB
import Derived.Test.YteabhkmhogmoiaaGreatDoorPackR
import Derived.Test.YteabhkmhogmoiaaGreatDoorPackN
import Derived.Test.YteabhkmhogmoiaaGreatDoorPackL
/- How long the lists of persons and of joining ids are. -/
namespace Go.Proofs.YteabhkmhogmoiaaGreatDoor
open Go Go.RowKit
theorem srtId_len (l : List IdV) : (srtId l).length ≤ l.length := sub_len ((srtId_up l).nodup) (fun x hx => (srtId_mem l x).1 hx)
end Go.Proofs.YteabhkmhogmoiaaGreatDoor

/- Touches whose numbers rise; a slice of the call's own, told from an older world. -/
namespace Go.Proofs.YteabhkmhogmoiaaGreatDoor
open Go Go.RowKit
def NoUp (ts : List Tch) : Prop := ∀ i j, i < j → j < ts.length → noAt ts i < noAt ts j
theorem NoUp.inj {ts : List Tch} (h : NoUp ts) {i j : Nat} (hi : i < ts.length) (hj : j < ts.length) (e : noAt ts i = noAt ts j) : i = j := by
  rcases Nat.lt_trichotomy i j with h1 | h1 | h1
  · have := h i j h1 hj; omega
  · exact h1
  · have := h j i h1 hi; omega
theorem tchFault_gt {t : Tch} {last : Int} (h : tchFault t last = 0) : last < t.no := by
  rcases Int.lt_or_le last t.no with h1 | h1
  · exact h1
  · exfalso
    unfold tchFault tchE at h
    rw [decide_eq_true h1] at h
    split at h
    · omega
    · rw [if_pos rfl] at h; omega
theorem tchsGo_up : ∀ {l : List Tch} {last : Int}, tchsGo last l = 0 → (∀ t ∈ l, last < t.no) ∧ l.Pairwise (fun a b => a.no < b.no)
  | [], _, _ => ⟨fun _ h => (by cases h), .nil⟩
  | t :: r, last, h => by
    rw [tchsGo] at h
    by_cases h1 : tchFault t last = 0
    · rw [if_neg (by simpa using h1)] at h
      obtain ⟨h2, h3⟩ := tchsGo_up h
      have h4 := tchFault_gt h1
      refine ⟨fun u hu => ?_, List.pairwise_cons.2 ⟨h2, h3⟩⟩
      rcases List.mem_cons.1 hu with rfl | hu
      · exact h4
      · have := h2 u hu; omega
    · rw [if_pos h1] at h
      exact absurd h h1
theorem noUp_of {ts : List Tch} (h : tchsFault ts = 0) : NoUp ts := fun i j hij hj => by
  have h1 := (tchsGo_up (tchsFault_go h)).2
  have h2 := List.pairwise_iff_getElem.1 h1 i j (by omega) hj hij
  rw [noAt_is (List.getElem?_eq_getElem (show i < ts.length by omega)), noAt_is (List.getElem?_eq_getElem hj)]
  exact h2
theorem Mem.ownBase {α : Type} {r : Rep α} {f : α → List Value} (hf : r.Flat f) {w0 w : World} {cs : List Chunk} (S : Mem w0 w cs) (i : Nat) {B B' E : Nat} {v : Value} {xs : List α} (hi : cs[i]? = some (.own r B E v xs)) (hB : B' ≤ B) : Mem w0 w (cs.set i (.own r B' E v xs)) :=
  S.upd i hi (.own r B' E v xs) ⟨Nat.le_refl _, fun _ _ _ => rfl⟩ S.b (fun _ e => .inl e) (((S.ow i hi).flatM hf).base hB)
end Go.Proofs.YteabhkmhogmoiaaGreatDoor

/- Persons of one touch more: the plain law of TopPeople. No program is in sight. -/
namespace Go.Proofs.YteabhkmhogmoiaaGreatDoor
open Go Go.RowKit
def openR : Rul := ⟨[1, 2, 3, 4], 2000, [], []⟩
def KindOk (ts : List Tch) : Prop := ∀ t ∈ ts, ∀ x ∈ t.ids, 1 ≤ x.k ∧ x.k ≤ 4
theorem idsAt_lt {ts : List Tch} {i : Nat} {x : IdV} (h : x ∈ idsAt ts i) : i < ts.length := hav_lt (mem_idsAt.1 h)
theorem joins_open {ts : List Tch} (hk : KindOk ts) (hl : ts.length ≤ 2000) {i : Nat} {x : IdV} (h : x ∈ idsAt ts i) : joinsP openR ts x = true := by
  obtain ⟨t, ht, hx⟩ := hav_mem.1 (mem_idsAt.1 h)
  have h1 := hk t (List.mem_of_getElem? ht) x hx
  have h2 := hav_len ts x
  have h3 : x.k = 1 ∨ x.k = 2 ∨ x.k = 3 ∨ x.k = 4 := by omega
  unfold joinsP openR
  rw [Bool.and_eq_true, Bool.and_eq_true, decide_eq_true_eq, decide_eq_true_eq]
  refine ⟨⟨?_, by simp⟩, by show ((hav ts x).length : Int) ≤ 2000; omega⟩
  rcases h3 with h | h | h | h <;> rw [h] <;> simp
theorem own_one {ts : List Tch} (hk : KindOk ts) (hl : ts.length ≤ 2000) {c : Nat → Nat} (hc : IsPart ts.length (Edge openR ts) c) {i j : Nat} {x : IdV} (hi : x ∈ idsAt ts i) (hj : x ∈ idsAt ts j) : c i = c j :=
  hc.edge i j (idsAt_lt hi) (idsAt_lt hj) ⟨x, joins_open hk hl hi, hi, hj⟩
theorem psn_ids {r : Rul} {ts : List Tch} {c : Nat → Nat} {h : Nat} {x : IdV} : x ∈ (psnAt r ts c h).ids ↔ ∃ i, c i = h ∧ x ∈ idsAt ts i := by
  show x ∈ srtId _ ↔ _
  rw [srtId_mem, List.mem_flatMap]
  constructor
  · rintro ⟨i, hi, hx⟩
    exact ⟨i, by simpa using (List.mem_filter.1 hi).2, hx⟩
  · rintro ⟨i, hi, hx⟩
    exact ⟨i, List.mem_filter.2 ⟨List.mem_range.2 (idsAt_lt hx), by simpa using hi⟩, hx⟩
theorem psn_tch {r : Rul} {ts : List Tch} {c : Nat → Nat} {h : Nat} {m : Int} : m ∈ (psnAt r ts c h).tch ↔ ∃ i, i < ts.length ∧ c i = h ∧ noAt ts i = m := by
  show m ∈ (partAt c ts.length h).map (noAt ts) ↔ _
  rw [List.mem_map]
  constructor
  · rintro ⟨i, hi, e⟩
    obtain ⟨h1, h2⟩ := List.mem_filter.1 hi
    exact ⟨i, List.mem_range.1 h1, by simpa using h2, e⟩
  · rintro ⟨i, h1, h2, e⟩
    exact ⟨i, List.mem_filter.2 ⟨List.mem_range.2 h1, by simpa using h2⟩, e⟩
def DisjI (P : List Psn) : Prop := P.Pairwise (fun a b => ∀ x, x ∈ a.ids → x ∉ b.ids)
theorem heads_rise (c : Nat → Nat) (n : Nat) : (heads c n).Pairwise (· < ·) := by unfold heads; exact (List.pairwise_lt_range).filter _
theorem disj_open {ts : List Tch} (hk : KindOk ts) (hl : ts.length ≤ 2000) {P : List Psn} (h : IsPsns openR ts P) : DisjI P := by
  obtain ⟨c, hc, rfl⟩ := h
  unfold DisjI psns
  rw [List.pairwise_map]
  refine (heads_rise c ts.length).imp (fun {a b} hab x hx hy => ?_)
  obtain ⟨i, hi, hxi⟩ := psn_ids.1 hx
  obtain ⟨j, hj, hxj⟩ := psn_ids.1 hy
  have := own_one hk hl hc hxi hxj
  omega
def shareB (q p : Psn) : Bool := q.tch.any (fun n => p.tch.contains n)
theorem idsAt_take {ts : List Tch} {m i : Nat} (h : i < m) : idsAt (ts.take m) i = idsAt ts i := by
  unfold idsAt
  rw [List.getElem?_take, if_pos h]
theorem noAt_take {ts : List Tch} {m i : Nat} (h : i < m) : noAt (ts.take m) i = noAt ts i := by
  unfold noAt
  rw [List.getElem?_take, if_pos h]
theorem part_mono {ts : List Tch} (hk : KindOk ts) (hl : ts.length ≤ 2000) {m : Nat} {c d : Nat → Nat} (hd : IsPart (ts.take m).length (Edge openR (ts.take m)) d) (hc : IsPart ts.length (Edge openR ts) c) {i : Nat} (hi : i < (ts.take m).length) : c i = c (d i) := by
  have hm : (ts.take m).length ≤ m := by rw [List.length_take]; omega
  have h1 : ∀ {a b : Nat}, Conn (ts.take m).length (Edge openR (ts.take m)) a b → c a = c b := by
    intro a b h
    induction h with
    | refl => rfl
    | step _ h2 h3 h4 ih =>
      obtain ⟨x, _, hx1, hx2⟩ := h4
      rw [idsAt_take (Nat.lt_of_lt_of_le h2 hm)] at hx1
      rw [idsAt_take (Nat.lt_of_lt_of_le h3 hm)] at hx2
      exact ih.trans (own_one hk hl hc hx1 hx2)
  exact h1 (hd.conn i hi)
theorem share_has {ts : List Tch} (hk : KindOk ts) (hl : ts.length ≤ 2000) (hu : NoUp ts) {m : Nat} {P Q : List Psn} (hQ : IsPsns openR (ts.take m) Q) (hP : IsPsns openR ts P) {p q : Psn} (hp : p ∈ P) (hq : q ∈ Q) (h : shareB q p = true) : ∀ x ∈ q.ids, x ∈ p.ids := by
  obtain ⟨c, hc, rfl⟩ := hP
  obtain ⟨d, hd, rfl⟩ := hQ
  obtain ⟨hp0, _, rfl⟩ := List.mem_map.1 hp
  obtain ⟨hq0, _, rfl⟩ := List.mem_map.1 hq
  unfold shareB at h
  obtain ⟨n, hn, hn2⟩ := List.any_eq_true.1 h
  rw [List.contains_iff_mem] at hn2
  obtain ⟨i, hi, hdi, hin⟩ := psn_tch.1 hn
  obtain ⟨j, hj, hcj, hjn⟩ := psn_tch.1 hn2
  have hm : (ts.take m).length ≤ m := by rw [List.length_take]; omega
  have hml : (ts.take m).length ≤ ts.length := by rw [List.length_take]; omega
  rw [noAt_take (Nat.lt_of_lt_of_le hi hm)] at hin
  have hij : i = j := hu.inj (Nat.lt_of_lt_of_le hi hml) hj (by rw [hin, hjn])
  subst hij
  intro x hx
  obtain ⟨k, hk1, hxk⟩ := psn_ids.1 hx
  have hkl := idsAt_lt hxk
  rw [idsAt_take (Nat.lt_of_lt_of_le hkl hm)] at hxk
  refine psn_ids.2 ⟨k, ?_, hxk⟩
  have h1 := part_mono hk hl hd hc hkl
  have h2 := part_mono hk hl hd hc hi
  rw [hk1] at h1
  rw [hdi] at h2
  rw [h1, ← h2, hcj]
def evsW (E : List Evt) (S : List IdV) : List ByteArray := (ofAns E S).map Evt.id
theorem evsW_same {E : List Evt} {S T : List IdV} (h : ∀ x, x ∈ S ↔ x ∈ T) : evsW E S = evsW E T := by
  unfold evsW ofAns
  congr 1
  refine List.filter_congr (fun e _ => ?_)
  rw [decide_eq_decide]
  exact h _
theorem evsW_nil (E : List Evt) : evsW E [] = [] := by
  unfold evsW ofAns
  simp
theorem evsW_app {S T : List IdV} (h : ∀ x ∈ S, x ∉ T) : ∀ E : List Evt, (evsW E S ++ evsW E T).Perm (evsW E (S ++ T))
  | [] => .refl _
  | e :: r => by
    have ih := evsW_app h r
    unfold evsW ofAns at *
    rw [List.filter_cons, List.filter_cons, List.filter_cons]
    by_cases h1 : whoE e ∈ S
    · rw [if_pos (by simpa using h1), if_neg (by simpa using h _ h1), if_pos (by simp [h1])]
      exact ih.cons _
    · by_cases h2 : whoE e ∈ T
      · rw [if_neg (by simpa using h1), if_pos (by simpa using h2), if_pos (by simp [h2])]
        exact List.perm_middle.trans (ih.cons _)
      · rw [if_neg (by simpa using h1), if_neg (by simpa using h2), if_neg (by simp [h1, h2])]
        exact ih
def covB (Q : List Psn) (p : Psn) (k : Nat) : List IdV := ((Q.take k).filter (fun q => shareB q p)).flatMap Psn.ids
theorem covB_snoc {Q : List Psn} {p q : Psn} {k : Nat} (h : Q[k]? = some q) : covB Q p (k + 1) = covB Q p k ++ (if shareB q p = true then q.ids else []) := by
  unfold covB
  rw [take_snoc h, List.filter_append, List.flatMap_append]
  congr 1
  by_cases e : shareB q p = true <;> simp [e]
theorem covB_not {Q : List Psn} {p q : Psn} {k : Nat} (hd : DisjI Q) (h : Q[k]? = some q) : ∀ x ∈ covB Q p k, x ∉ q.ids := fun x hx => by
  unfold covB at hx
  obtain ⟨q2, hq2, hx2⟩ := List.mem_flatMap.1 hx
  obtain ⟨j, hj⟩ := List.mem_iff_getElem?.1 (List.mem_filter.1 hq2).1
  rw [List.getElem?_take] at hj
  split at hj
  · rename_i hjk
    obtain ⟨h1, e1⟩ := List.getElem?_eq_some_iff.1 hj
    obtain ⟨h2, e2⟩ := List.getElem?_eq_some_iff.1 h
    have h3 := List.pairwise_iff_getElem.1 hd j k h1 h2 hjk
    rw [e1, e2] at h3
    exact h3 x hx2
  · cases hj
theorem covB_in {Q : List Psn} {p : Psn} (hs : ∀ q ∈ Q, shareB q p = true → ∀ x ∈ q.ids, x ∈ p.ids) (k : Nat) : ∀ x ∈ covB Q p k, x ∈ p.ids := fun x hx => by
  unfold covB at hx
  obtain ⟨q2, hq2, hx2⟩ := List.mem_flatMap.1 hx
  obtain ⟨h1, h2⟩ := List.mem_filter.1 hq2
  exact hs q2 (List.mem_of_mem_take h1) h2 x hx2
def frsh (p : Psn) (S : List IdV) : List IdV := p.ids.filter (fun x => !decide (x ∈ S))
theorem frsh_del (p : Psn) (S T : List IdV) : (frsh p S).filter (fun x => !decide (x ∈ T)) = frsh p (S ++ T) := by
  unfold frsh
  rw [List.filter_filter]
  refine List.filter_congr (fun x _ => ?_)
  by_cases h1 : x ∈ S <;> by_cases h2 : x ∈ T <;> simp [h1, h2]
theorem frsh_nil (p : Psn) : frsh p [] = p.ids := by
  unfold frsh
  rw [List.filter_eq_self]
  intro a _
  simp
theorem parts_whole {E : List Evt} {p : Psn} {S : List IdV} (hS : ∀ x ∈ S, x ∈ p.ids) : (evsW E S ++ evsW E (frsh p S)).Perm (evsW E p.ids) := by
  have h1 : ∀ x ∈ S, x ∉ frsh p S := fun x hx h => by
    unfold frsh at h
    have := (List.mem_filter.1 h).2
    simp [hx] at this
  refine (evsW_app h1 E).trans (.of_eq (evsW_same (fun x => ?_)))
  unfold frsh
  rw [List.mem_append, List.mem_filter]
  constructor
  · rintro (h | h)
    · exact hS x h
    · exact h.1
  · intro h
    by_cases hx : x ∈ S
    · exact .inl hx
    · exact .inr ⟨h, by simp [hx]⟩
theorem word_tri {a b : ByteArray} (h1 : ltS a b = false) (h2 : ltS b a = false) : a = b := by
  by_cases e : a.toList = b.toList
  · rw [ByteArray.toList_eq, ByteArray.toList_eq] at e
    cases a; cases b
    simp only [ByteArray.mk.injEq]
    exact Array.toList_inj.1 e
  · have h3 := bytes_tri a.toList b.toList h2 (by simpa using fun h => e h.symm)
    unfold ltS at h1
    rw [h1] at h3
    cases h3
def UpW (l : List ByteArray) : Prop := l.Pairwise (fun a b => ltS b a = false)
theorem upW_eq : ∀ {l m : List ByteArray}, l.Perm m → UpW l → UpW m → l = m
  | [], m, hp, _, _ => (List.perm_nil.1 hp.symm).symm
  | a :: r, m, hp, hl, hm => by
    cases m with
    | nil => exact absurd (List.perm_nil.1 hp) (by simp)
    | cons b s =>
      obtain ⟨hl1, hl2⟩ := List.pairwise_cons.1 hl
      obtain ⟨hm1, hm2⟩ := List.pairwise_cons.1 hm
      have e : a = b := by
        have ha : a ∈ b :: s := hp.mem_iff.1 (List.mem_cons_self ..)
        have hb : b ∈ a :: r := hp.mem_iff.2 (List.mem_cons_self ..)
        rcases List.mem_cons.1 ha with h | h
        · exact h
        · rcases List.mem_cons.1 hb with h2 | h2
          · exact h2.symm
          · have h3 := hl1 b h2
            have h4 := hm1 a h
            exact word_tri h4 h3
      subst e
      rw [upW_eq ((List.perm_cons a).1 hp) hl2 hm2]
end Go.Proofs.YteabhkmhogmoiaaGreatDoor

/- Words in a slice of the call's own: sorted. -/
namespace Go.Proofs.YteabhkmhogmoiaaGreatDoor
open Go Go.RowKit Go.Sort
theorem Own.holdsW {M : Nat → Prop} {B E g n cap : Nat} {w : World} {xs : List ByteArray} (h : Own rStr M B E w (.slice (some ⟨g, 0, none⟩) n cap) xs) (hn : n = xs.length) : Holds encStr w g 0 (xs.map fun s => s.data.toList).toArray := fun j hj => by
  have hj' : j < xs.length := by simpa using hj
  have h1 := h.strAt hn j xs[j] (List.getElem?_eq_getElem hj')
  rw [getElem!_pos _ j hj]
  simp only [Nat.zero_add, List.getElem_toArray, List.getElem_map]
  rw [show encStr xs[j].data.toList = Value.string xs[j] from by simp [encStr]]
  exact h1
abbrev wordOf (l : List UInt8) : ByteArray := ⟨l.toArray⟩
abbrev strC (s : ByteArray) : List Value := [Value.string s]
theorem putRow_str (w : World) (g : Nat) (ts : List (List UInt8)) : putRow encStr w g 0 ts.toArray = putRowK strC 1 w g 0 (ts.map wordOf).toArray := by
  unfold putRowK putRow
  congr 1
  funext cur
  unfold putCells
  congr 1
  funext k v
  rw [size_flatK, Nat.mul_one]
  by_cases h : 0 ≤ k ∧ k < 0 + ts.toArray.size
  · rw [if_pos h, if_pos (by simpa using h), get_flatK _ _ _ _ (by simpa using h.2)]
    have hk : k < ts.length := by simpa using h.2
    simp [Nat.mod_one, hk]
  · rw [if_neg h, if_neg (by simpa using h)]
theorem sortWorld_str (w : World) (g m : Nat) (ts : List (List UInt8)) (os : Array Obj) : grow (putRow encStr (Sort.ahead w m) g 0 ts.toArray) os = sortWorldK strC 1 w g 0 m (ts.map wordOf).toArray os := by
  unfold sortWorldK
  rw [putRow_str]
def srtW (xs : List ByteArray) : List ByteArray := ((xs.map fun s => s.data.toList).mergeSort fun x y => decide (x ≤ y)).map wordOf
theorem srtW_len (xs : List ByteArray) : (srtW xs).length = xs.length := by
  unfold srtW
  rw [List.length_map, List.length_mergeSort, List.length_map]
theorem srtW_perm (xs : List ByteArray) : (srtW xs).Perm xs := by
  unfold srtW
  refine ((List.mergeSort_perm _ _).map _).trans ?_
  rw [List.map_map]
  refine .of_eq ?_
  conv => rhs; rw [← List.map_id xs]
  rfl
theorem srtW_up (xs : List ByteArray) : UpW (srtW xs) := by
  unfold UpW srtW
  rw [List.pairwise_map]
  have h := List.pairwise_mergeSort (le := fun x y : List UInt8 => decide (x ≤ y)) (fun a b c h1 h2 => by simp only [decide_eq_true_eq] at *; exact List.le_trans h1 h2) (fun a b => by simp only [Bool.or_eq_true, decide_eq_true_eq]; exact List.le_total a b) (xs.map fun s => s.data.toList)
  refine h.imp (fun {a b} h => ?_)
  have h2 : a ≤ b := by simpa using h
  unfold ltS
  rw [bytesLess_eq, Lib.toList_data, Lib.toList_data]
  simpa using h2
theorem srtW_eq {xs ys : List ByteArray} (h : xs.Perm ys) : srtW xs = srtW ys := upW_eq ((srtW_perm xs).trans (h.trans (srtW_perm ys).symm)) (srtW_up xs) (srtW_up ys)
set_option maxRecDepth 100000 in
theorem Mem.sortW {w0 w : World} {cs : List Chunk} (S : Mem w0 w cs) (i : Nat) {B E g n cap : Nat} {xs : List ByteArray} (hi : cs[i]? = some (.own rStr B E (.slice (some ⟨g, 0, none⟩) n cap) xs)) (hn : n = xs.length) (hl : xs.length ≤ 1000000) :
    Calls Tryz.prog 19 #[.slice (some ⟨g, 0, none⟩) n cap] w fun e w' => e = .returned (.tuple #[]) ∧ Mem w0 w' (cs.set i (.own rStr B E (.slice (some ⟨g, 0, none⟩) n cap) (srtW xs))) := by
  subst hn
  have hH := (S.ow i hi).holdsW rfl
  have hg := S.lt (List.mem_of_getElem? hi) (k := g) rfl
  have hc := Tryz.slices_Sort_string g 0 cap (xs.map fun s => s.data.toList) w hH hg (by rw [List.length_map]; omega)
  rw [List.length_map] at hc
  refine hc.mono ?_
  rintro e w' ⟨rfl, m, os, rfl⟩
  refine ⟨rfl, ?_⟩
  rw [sortWorld_str]
  exact S.sortedK flatStr (by decide) (fun _ => rfl) i hi (srtW_len xs)
def GivesSrtW (w0 : World) (cs : List Chunk) (i B E : Nat) (v : Value) (xs : List ByteArray) (e : Ending) (w' : World) : Prop := e = .returned (.tuple #[]) ∧ Mem w0 w' (cs.set i (.own rStr B E v (srtW xs)))
set_option maxHeartbeats 4000000 in
set_option maxRecDepth 100000 in
theorem insNilW_any (w : World) : Calls Tryz.prog 160 #[.slice none 0 0, .int .i64 0, .int .i64 0] w fun e w' => e = .returned (.tuple #[]) ∧ w = w' := by
  go_enter Tryz.func160, Tryz.ntmps160
  go_wp2_with fail
  go_loopw [6] (fun i wr => i = .int .i64 1 ∧ w = wr) (fun _ _ => 0)
  case atStart => exact ⟨rfl, rfl⟩
  case round =>
    obtain ⟨rfl, rfl⟩ := hrel
    go_wp2_with fail
    go_end0
    exact ⟨rfl, rfl⟩
set_option maxHeartbeats 4000000 in
set_option maxRecDepth 100000 in
theorem pdqNilW_any (n : Int) (w : World) : Calls Tryz.prog 81 #[.slice none 0 0, .int .i64 0, .int .i64 0, .int .i64 n] w fun e w' => e = .returned (.tuple #[]) ∧ w = w' := by
  have H := Lib.hid (insNilW_any w)
  go_enter Tryz.func81, Tryz.ntmps81
  go_wp2_with fail
  go_loopw [1, 2] (fun a b wr => a = .int .i64 0 ∧ b = .int .i64 0 ∧ w = wr) (fun _ _ _ => 0)
  case atStart => exact ⟨rfl, rfl, rfl⟩
  case round =>
    obtain ⟨rfl, rfl, rfl⟩ := hrel
    go_wp2_with fail
    ((with_reducible refine (H.out).mono ?_); rintro e w3 ⟨rfl, rfl⟩)
    go_wp2_with fail
    exact bodyPost_ret (results_none rfl _ _ _) rfl ⟨rfl, rfl⟩
set_option maxHeartbeats 4000000 in
set_option maxRecDepth 100000 in
theorem sortNilW_any (w : World) : Calls Tryz.prog 19 #[.slice none 0 0] w fun e w' => e = .returned (.tuple #[]) ∧ w = w' := by
  have HL := Lib.hid (Tryz.bits_Len 0 w (by decide) (by decide))
  have HP := Lib.hid (fun n => pdqNilW_any n w)
  go_enter Tryz.func19, Tryz.ntmps19
  go_wp2_with fail
  ((with_reducible refine (HL.out).mono ?_); rintro e w3 ⟨rfl, rfl⟩)
  go_wp2_with fail
  ((with_reducible refine (HP.out _).mono ?_); rintro e w4 ⟨rfl, rfl⟩)
  go_wp2_with fail
  go_end0
  exact ⟨rfl, rfl⟩
theorem sortOwnW {w0 w : World} {cs : List Chunk} (S : Mem w0 w cs) (i : Nat) {B E : Nat} {v : Value} {xs : List ByteArray} (hi : cs[i]? = some (.own rStr B E v xs)) (hl : xs.length ≤ 1000000) :
    Calls Tryz.prog 19 #[v] w (GivesSrtW w0 cs i B E v xs) := by
  rcases (S.ow i hi).shape2 with ⟨rfl, rfl⟩ | ⟨g, cap, rfl, _⟩
  · refine (sortNilW_any w).mono ?_
    rintro e w' ⟨rfl, rfl⟩
    refine ⟨rfl, ?_⟩
    rw [show srtW [] = [] by simp [srtW], set_sameI hi]
    exact S
  · refine (S.sortW i hi rfl hl).mono ?_
    rintro e w' ⟨rfl, S'⟩
    exact ⟨rfl, S'⟩
end Go.Proofs.YteabhkmhogmoiaaGreatDoor

/- Events of persons that join: the plain law of TopPeople, second part. No program is in sight. -/
namespace Go.Proofs.YteabhkmhogmoiaaGreatDoor
open Go Go.RowKit
def idsW (E : List Evt) (S : List IdV) : List ByteArray := srtW (evsW E S)
def prtW (E : List Evt) (Q : List Psn) (p : Psn) (k : Nat) : List ByteArray := ((Q.take k).filter (fun q => shareB q p)).flatMap (fun q => idsW E q.ids)
theorem prtW_snoc {E : List Evt} {Q : List Psn} {p q : Psn} {k : Nat} (h : Q[k]? = some q) : prtW E Q p (k + 1) = prtW E Q p k ++ (if shareB q p = true then idsW E q.ids else []) := by
  unfold prtW
  rw [take_snoc h, List.filter_append, List.flatMap_append]
  congr 1
  by_cases e : shareB q p = true <;> simp [e]
theorem prtW_perm {E : List Evt} {Q : List Psn} {p : Psn} (hd : DisjI Q) : ∀ k, k ≤ Q.length → (prtW E Q p k).Perm (evsW E (covB Q p k))
  | 0, _ => by
    have : covB Q p 0 = [] := by unfold covB; simp
    rw [this, evsW_nil]
    unfold prtW
    simp
  | k + 1, hk => by
    obtain ⟨q, hq⟩ : ∃ q, Q[k]? = some q := ⟨_, List.getElem?_eq_getElem (by omega)⟩
    rw [prtW_snoc hq, covB_snoc hq]
    have ih := prtW_perm (E := E) (p := p) hd k (by omega)
    by_cases e : shareB q p = true
    · rw [if_pos e, if_pos e]
      exact (ih.append (srtW_perm _)).trans (evsW_app (covB_not hd hq) E)
    · rw [if_neg e, if_neg e, List.append_nil, List.append_nil]
      exact ih
theorem prtW_whole {E : List Evt} {Q : List Psn} {p : Psn} (hd : DisjI Q) (hs : ∀ q ∈ Q, shareB q p = true → ∀ x ∈ q.ids, x ∈ p.ids) : srtW (prtW E Q p Q.length ++ idsW E (frsh p (covB Q p Q.length))) = idsW E p.ids :=
  srtW_eq ((((prtW_perm hd _ (Nat.le_refl _)).append (srtW_perm _))).trans (parts_whole (covB_in hs _)))
def evyW (E : List Evt) (P : List Psn) (k : Nat) : List ByteArray := (P.take k).flatMap (fun p => idsW E p.ids)
theorem evyW_snoc {E : List Evt} {P : List Psn} {p : Psn} {k : Nat} (h : P[k]? = some p) : evyW E P (k + 1) = evyW E P k ++ idsW E p.ids := by
  unfold evyW
  rw [take_snoc h, List.flatMap_append]
  simp
theorem evyW_perm {E : List Evt} {P : List Psn} (hd : DisjI P) : ∀ k, k ≤ P.length → (evyW E P k).Perm (evsW E ((P.take k).flatMap Psn.ids))
  | 0, _ => by
    rw [List.take_zero, List.flatMap_nil, evsW_nil]
    unfold evyW
    simp
  | k + 1, hk => by
    obtain ⟨p, hp⟩ : ∃ p, P[k]? = some p := ⟨_, List.getElem?_eq_getElem (by omega)⟩
    rw [evyW_snoc hp, take_snoc hp, List.flatMap_append, show [p].flatMap Psn.ids = p.ids by simp]
    have ih := evyW_perm (E := E) hd k (by omega)
    have hn : ∀ x ∈ (P.take k).flatMap Psn.ids, x ∉ p.ids := fun x hx hy => by
      obtain ⟨q, hq, hxq⟩ := List.mem_flatMap.1 hx
      obtain ⟨j, hj⟩ := List.mem_iff_getElem?.1 hq
      rw [List.getElem?_take] at hj
      split at hj
      · rename_i hjk
        obtain ⟨h1, e1⟩ := List.getElem?_eq_some_iff.1 hj
        obtain ⟨h2, e2⟩ := List.getElem?_eq_some_iff.1 hp
        have h3 := List.pairwise_iff_getElem.1 hd j k h1 h2 hjk
        rw [e1, e2] at h3
        exact h3 x hxq hy
      · cases hj
    exact (ih.append (srtW_perm _)).trans (evsW_app hn E)
def knownE (E : List Evt) (P : List Psn) : List Evt := E.filter (fun e => P.any (fun p => decide (whoE e ∈ p.ids)))
theorem evyW_known {E : List Evt} {P : List Psn} (hd : DisjI P) : srtW (evyW E P P.length) = srtW ((knownE E P).map Evt.id) := by
  refine srtW_eq ((evyW_perm hd _ (Nat.le_refl _)).trans (.of_eq ?_))
  rw [List.take_of_length_le (Nat.le_refl _)]
  unfold evsW ofAns knownE
  congr 1
  refine List.filter_congr (fun e _ => ?_)
  rw [Bool.eq_iff_iff, List.any_eq_true]
  simp only [decide_eq_true_eq, List.mem_flatMap]
end Go.Proofs.YteabhkmhogmoiaaGreatDoor

/- The persons of right touches before and after one more: what the law TopPeople needs of them. No program is in sight. -/
namespace Go.Proofs.YteabhkmhogmoiaaGreatDoor
open Go Go.RowKit
theorem openR_ok : rulFault openR = 0 := by decide
theorem openR_both (ts : List Tch) : bothF openR ts = tchsFault ts := by
  unfold bothF
  rw [openR_ok]
  rfl
theorem RtQ.take {qs : List TQ} (h : RtQ qs) (m : Nat) : RtQ (qs.take m) := ⟨fun q hq => h.1 q (List.mem_of_mem_take hq), h.2.sublist (List.take_sublist _ _)⟩
theorem tchFault_ids {t : Tch} {last : Int} (h : tchFault t last = 0) : idsUp t.ids = 0 := by
  unfold tchFault tchE at h
  split at h
  · cases h
  · split at h
    · cases h
    · split at h
      · cases h
      · split at h
        · cases h
        · split at h
          · cases h
          · split at h
            · rename_i h2; exact absurd h h2
            · rename_i h2; omega
theorem rtq_ids {qs : List TQ} (h : RtQ qs) : ∀ t ∈ qs.map TQ.t, ∀ x ∈ t.ids, L.idFault x.k x.t = 0 := fun t ht x hx => by
  obtain ⟨q, hq, rfl⟩ := List.mem_map.1 ht
  exact (idsGo_ok (tchFault_ids (h.1 q hq).2)).1 x hx
theorem rtq_kind {qs : List TQ} (h : RtQ qs) : KindOk (qs.map TQ.t) := fun t ht x hx => by
  have h1 := rtq_ids h t ht x hx
  unfold L.idFault at h1
  by_cases h2 : x.k = 1
  · omega
  · rw [if_neg h2] at h1
    by_cases h3 : x.k = 2
    · omega
    · rw [if_neg h3] at h1
      by_cases h4 : x.k = 3
      · omega
      · rw [if_neg h4] at h1
        by_cases h5 : x.k = 4
        · omega
        · rw [if_neg h5] at h1
          exact absurd h1 (by decide)
theorem idsF_none : ∀ {l : List IdV}, (∀ x ∈ l, L.idFault x.k x.t = 0) → idsF l = 0
  | [], _ => rfl
  | x :: r, h => by
    rw [idsF, h x (List.mem_cons_self ..)]
    rw [if_neg (by decide)]
    exact idsF_none (fun y hy => h y (List.mem_cons_of_mem _ hy))
structure PsGood (p : Psn) : Prop where
  il : p.ids.length ≤ 1000
  tl : p.tch.length ≤ 100
  it : ∀ x ∈ p.ids, x.t.size ≤ 10000
  f : idsF p.ids = 0
theorem psn_good {qs : List TQ} (h : RtQ qs) (hl : qs.length ≤ 16) {P : List Psn} (hP : IsPsns openR (qs.map TQ.t) P) : P.length ≤ 16 ∧ ∀ p ∈ P, PsGood p := by
  obtain ⟨c, hc, rfl⟩ := hP
  have hlen : (qs.map TQ.t).length = qs.length := List.length_map _
  refine ⟨?_, fun p hp => ?_⟩
  · unfold psns
    rw [List.length_map]
    have := heads_len c (qs.map TQ.t).length
    omega
  · obtain ⟨i, _, rfl⟩ := List.mem_map.1 hp
    have h1 := part_len c (qs.map TQ.t).length i
    have hin : ∀ j, ∀ x ∈ idsAt (qs.map TQ.t) j, x.t.size ≤ 10000 ∧ L.idFault x.k x.t = 0 := fun j x hx => by
      obtain ⟨t, ht, hx2⟩ := hav_mem.1 (mem_idsAt.1 hx)
      have hm := List.mem_of_getElem? ht
      obtain ⟨q, hq, rfl⟩ := List.mem_map.1 hm
      exact ⟨(h.1 q hq).1.it x hx2, rtq_ids h _ hm x hx2⟩
    have hil : ∀ j, (idsAt (qs.map TQ.t) j).length ≤ 10 := fun j => by
      unfold idsAt
      split
      · rename_i t ht
        obtain ⟨q, hq, rfl⟩ := List.mem_map.1 (List.mem_of_getElem? ht)
        exact (h.1 q hq).1.il
      · simp
    have h2 := flat_len (m := 10) (f := idsAt (qs.map TQ.t)) (partAt c (qs.map TQ.t).length i) hil
    have h3 := srtId_len ((partAt c (qs.map TQ.t).length i).flatMap (idsAt (qs.map TQ.t)))
    have hall : ∀ x ∈ (psnAt openR (qs.map TQ.t) c i).ids, x.t.size ≤ 10000 ∧ L.idFault x.k x.t = 0 := fun x hx => by
      obtain ⟨j, _, hx2⟩ := psn_ids.1 hx
      exact hin j x hx2
    refine ⟨?_, ?_, fun x hx => (hall x hx).1, idsF_none (fun x hx => (hall x hx).2)⟩
    · show (srtId _).length ≤ _
      omega
    · show ((partAt c (qs.map TQ.t).length i).map (noAt (qs.map TQ.t))).length ≤ _
      rw [List.length_map]
      omega
theorem psns_some {r : Rul} {ts : List Tch} {P : List Psn} (hP : IsPsns r ts P) (h0 : 0 < ts.length) : 0 < P.length := by
  obtain ⟨c, hc, rfl⟩ := hP
  unfold psns
  rw [List.length_map]
  refine List.length_pos_of_mem (a := c 0) ?_
  unfold heads
  have h1 := hc.le 0 h0
  exact List.mem_filter.2 ⟨List.mem_range.2 (by omega), by rw [hc.fix h0]; simp⟩
structure CrowdOk (Q P : List Psn) : Prop where
  dq : DisjI Q
  dp : DisjI P
  sh : ∀ p ∈ P, ∀ q ∈ Q, shareB q p = true → ∀ x ∈ q.ids, x ∈ p.ids
  ql : Q.length ≤ 16
  pl : P.length ≤ 16
  qg : ∀ q ∈ Q, PsGood q
  pg : ∀ p ∈ P, PsGood p
  ne : 0 < P.length
theorem crowd_ok {qs : List TQ} (h : RtQ qs) (hl : qs.length ≤ 16) (h0 : 0 < qs.length) {m : Nat} {P Q : List Psn} (hP : IsPsns openR (qs.map TQ.t) P) (hQ : IsPsns openR ((qs.map TQ.t).take m) Q) : CrowdOk Q P := by
  have hk := rtq_kind h
  have hlen : (qs.map TQ.t).length = qs.length := List.length_map _
  have hll : (qs.map TQ.t).length ≤ 2000 := by omega
  have hu : NoUp (qs.map TQ.t) := noUp_of (h.fault (by omega))
  have hsh : ∀ p ∈ P, ∀ q ∈ Q, shareB q p = true → ∀ x ∈ q.ids, x ∈ p.ids := fun p hp q hq hs => share_has hk hll hu hQ hP hp hq hs
  have hdp := disj_open hk hll hP
  have hgp := psn_good h hl hP
  have hnp := psns_some hP (by omega)
  rw [← List.map_take] at hQ
  have ht := h.take m
  have htl : (qs.take m).length ≤ qs.length := by rw [List.length_take]; omega
  have hdq := disj_open (rtq_kind ht) (by rw [List.length_map]; omega) hQ
  have hgq := psn_good ht (by omega) hQ
  exact ⟨hdq, hdp, hsh, hgq.1, hgp.1, hgq.2, hgp.2, hnp⟩
end Go.Proofs.YteabhkmhogmoiaaGreatDoor
