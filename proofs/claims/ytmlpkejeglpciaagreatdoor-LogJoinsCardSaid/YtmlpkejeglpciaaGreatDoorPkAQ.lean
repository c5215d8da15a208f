/- Several texts in one: SortInt, MakeI, Strs, CmpI, UpW, SortStr, LogLaw3, LevLaw, Far. -/
import Derived.Test.YtmlpkejeglpciaaGreatDoorPkAG
import Derived.Test.YtmlpkejeglpciaaGreatDoorShelf
import Derived.Test.YtmlpkejeglpciaaGreatDoorPkAF
import Derived.Test.YtmlpkejeglpciaaGreatDoorPkAE
import Derived.Test.YtmlpkejeglpciaaGreatDoorPkAC
import Derived.RegionTactic
import Derived.ChangeAlike
import Derived.Lib.SlicesCompact
import Derived.Test.YtmlpkejeglpciaaGreatDoorPkAP
import Derived.Test.YtmlpkejeglpciaaGreatDoorPkAN
import Derived.Test.YtmlpkejeglpciaaGreatDoorPkAA
import Derived.Test.YtmlpkejeglpciaaGreatDoorPkAB
/- Numbers in a slice of the call's own: sorted, and made single. -/
namespace Go.Proofs.YtmlpkejeglpciaaGreatDoor
open Go Go.RowKit Go.Sort
end Go.Proofs.YtmlpkejeglpciaaGreatDoor

/- Slices of numbers that a call makes and writes. -/
namespace Go.Proofs.YtmlpkejeglpciaaGreatDoor
open Go Go.RowKit
end Go.Proofs.YtmlpkejeglpciaaGreatDoor

/- Lists of strings in memory: slices.Reverse and slices.Equal. -/
namespace Go.Proofs.YtmlpkejeglpciaaGreatDoor
open Go Go.RowKit
theorem tyStrs : STy 37 9 rStr.size 16 (.string ⟨#[]⟩) := ⟨Tryz.underlying37, by kernel_rfl, rfl, by decide⟩
theorem oneStrs (s : ByteArray) : ∀ u ∈ ([.string s] : List Value), u.oneCell' = true := fun u hu => by rw [List.mem_singleton.1 hu]; rfl
theorem Own.strAt {M : Nat → Prop} {B E g n cap : Nat} {w : World} {xs : List ByteArray} (h : Own rStr M B E w (.slice (some ⟨g, 0, none⟩) n cap) xs) (hn : n = xs.length) (k : Nat) (x : ByteArray) (hk : xs[k]? = some x) : w.cell? ⟨g, k, none⟩ = some (.string x) ∧ w.frozen? ⟨g, k, none⟩ = false := by
  have := h.cellP flatStr hn k x hk 0 _ rfl
  rw [show k * rStr.size + 0 = k by simp [rStr, Rep.flat]] at this
  exact this
theorem Sl.strs {N : Nat → Prop} {w : World} {A : Option Addr} {xs : List ByteArray} (h : Sl rStr N w A xs) (h0 : xs ≠ []) : ∃ b o, A = some ⟨b, o, none⟩ ∧ ∀ j, j < xs.length → w.cell? ⟨b, o + j, none⟩ = some (.string (xs.getD j ByteArray.empty)) := by
  cases xs with
  | nil => exact absurd rfl h0
  | cons x r =>
    obtain ⟨b, o, e, _, _⟩ := h.str 0 x rfl
    refine ⟨b, o, e, fun j hj => ?_⟩
    obtain ⟨b2, o2, e2, _, hc⟩ := h.str j (x :: r)[j] (List.getElem?_eq_getElem hj)
    rw [e] at e2
    cases e2
    rw [hc, List.getD_eq_getElem?_getD, List.getElem?_eq_getElem hj]
    rfl
theorem eqStr_any (N : Nat → Prop) (A A2 : Option Addr) (xs : List ByteArray) (c c2 : Nat) (w : World) (h1 : Sl rStr N w A xs) (h2 : Sl rStr N w A2 xs) (hl : xs.length ≤ 1000000000) :
    Calls Tryz.prog 21 #[.slice A xs.length c, .slice A2 xs.length c2] w fun e w' => e = .returned (.bool true) ∧ Below w.heap.size w w' := by
  by_cases h0 : xs = []
  · subst h0
    refine (Tryz.slices_Equal_string_empty A A2 c 0 c2 w (by decide)).mono ?_
    rintro e w' ⟨rfl, rfl⟩
    exact ⟨rfl, Below.refl _ _⟩
  · obtain ⟨b, o, rfl, hc⟩ := h1.strs h0
    obtain ⟨b2, o2, rfl, hc2⟩ := h2.strs h0
    refine (Tryz.slices_Equal_string b o xs.length c b2 o2 xs.length c2 xs xs w (Nat.le_refl _) (Nat.le_refl _) (by omega) (by omega) hc hc2).mono ?_
    rintro e w' ⟨rfl, q, rfl⟩
    exact ⟨by simp, below_drewN _ _ _⟩
end Go.Proofs.YtmlpkejeglpciaaGreatDoor

/- Numbers of the call's own: what slices.Sort and Compact make of them, nil too. -/
namespace Go.Proofs.YtmlpkejeglpciaaGreatDoor
open Go Go.RowKit Go.Sort
theorem set_sameI {α : Type} {l : List α} {i : Nat} {x : α} (h : l[i]? = some x) : l.set i x = l := by
  obtain ⟨hi, rfl⟩ := List.getElem?_eq_some_iff.1 h
  exact List.set_getElem_self hi
end Go.Proofs.YtmlpkejeglpciaaGreatDoor

/- Sorted words: two such lists of the same words are the same. No program is in sight. -/
namespace Go.Proofs.YtmlpkejeglpciaaGreatDoor
open Go Go.RowKit
theorem word_tri {a b : ByteArray} (h1 : ltS a b = false) (h2 : ltS b a = false) : a = b := by
  by_cases e : a.toList = b.toList
  · rw [ByteArray.toList_eq, ByteArray.toList_eq] at e
    cases a; cases b
    simp only [ByteArray.mk.injEq]
    exact Array.toList_inj.1 e
  · have h3 := bytes_tri a.toList b.toList h2 (by simpa using fun h => e h.symm)
    unfold ltS at h1
    rw [h1] at h3
    cases h3
def UpW (l : List ByteArray) : Prop := l.Pairwise (fun a b => ltS b a = false)
theorem upW_eq : ∀ {l m : List ByteArray}, l.Perm m → UpW l → UpW m → l = m
  | [], m, hp, _, _ => (List.perm_nil.1 hp.symm).symm
  | a :: r, m, hp, hl, hm => by
    cases m with
    | nil => exact absurd (List.perm_nil.1 hp) (by simp)
    | cons b s =>
      obtain ⟨hl1, hl2⟩ := List.pairwise_cons.1 hl
      obtain ⟨hm1, hm2⟩ := List.pairwise_cons.1 hm
      have e : a = b := by
        have ha : a ∈ b :: s := hp.mem_iff.1 (List.mem_cons_self ..)
        have hb : b ∈ a :: r := hp.mem_iff.2 (List.mem_cons_self ..)
        rcases List.mem_cons.1 ha with h | h
        · exact h
        · rcases List.mem_cons.1 hb with h2 | h2
          · exact h2.symm
          · have h3 := hl1 b h2
            have h4 := hm1 a h
            exact word_tri h4 h3
      subst e
      rw [upW_eq ((List.perm_cons a).1 hp) hl2 hm2]
end Go.Proofs.YtmlpkejeglpciaaGreatDoor

/- Words in a slice of the call's own: sorted. -/
namespace Go.Proofs.YtmlpkejeglpciaaGreatDoor
open Go Go.RowKit Go.Sort
theorem Own.holdsW {M : Nat → Prop} {B E g n cap : Nat} {w : World} {xs : List ByteArray} (h : Own rStr M B E w (.slice (some ⟨g, 0, none⟩) n cap) xs) (hn : n = xs.length) : Holds encStr w g 0 (xs.map fun s => s.data.toList).toArray := fun j hj => by
  have hj' : j < xs.length := by simpa using hj
  have h1 := h.strAt hn j xs[j] (List.getElem?_eq_getElem hj')
  rw [getElem!_pos _ j hj]
  simp only [Nat.zero_add, List.getElem_toArray, List.getElem_map]
  rw [show encStr xs[j].data.toList = Value.string xs[j] from by simp [encStr]]
  exact h1
abbrev wordOf (l : List UInt8) : ByteArray := ⟨l.toArray⟩
abbrev strC (s : ByteArray) : List Value := [Value.string s]
theorem putRow_str (w : World) (g : Nat) (ts : List (List UInt8)) : putRow encStr w g 0 ts.toArray = putRowK strC 1 w g 0 (ts.map wordOf).toArray := by
  unfold putRowK putRow
  congr 1
  funext cur
  unfold putCells
  congr 1
  funext k v
  rw [size_flatK, Nat.mul_one]
  by_cases h : 0 ≤ k ∧ k < 0 + ts.toArray.size
  · rw [if_pos h, if_pos (by simpa using h), get_flatK _ _ _ _ (by simpa using h.2)]
    have hk : k < ts.length := by simpa using h.2
    simp [Nat.mod_one, hk]
  · rw [if_neg h, if_neg (by simpa using h)]
theorem sortWorld_str (w : World) (g m : Nat) (ts : List (List UInt8)) (os : Array Obj) : grow (putRow encStr (Sort.ahead w m) g 0 ts.toArray) os = sortWorldK strC 1 w g 0 m (ts.map wordOf).toArray os := by
  unfold sortWorldK
  rw [putRow_str]
def srtW (xs : List ByteArray) : List ByteArray := ((xs.map fun s => s.data.toList).mergeSort fun x y => decide (x ≤ y)).map wordOf
theorem srtW_len (xs : List ByteArray) : (srtW xs).length = xs.length := by
  unfold srtW
  rw [List.length_map, List.length_mergeSort, List.length_map]
theorem srtW_perm (xs : List ByteArray) : (srtW xs).Perm xs := by
  unfold srtW
  refine ((List.mergeSort_perm _ _).map _).trans ?_
  rw [List.map_map]
  refine .of_eq ?_
  conv => rhs; rw [← List.map_id xs]
  rfl
theorem srtW_up (xs : List ByteArray) : UpW (srtW xs) := by
  unfold UpW srtW
  rw [List.pairwise_map]
  have h := List.pairwise_mergeSort (le := fun x y : List UInt8 => decide (x ≤ y)) (fun a b c h1 h2 => by simp only [decide_eq_true_eq] at *; exact List.le_trans h1 h2) (fun a b => by simp only [Bool.or_eq_true, decide_eq_true_eq]; exact List.le_total a b) (xs.map fun s => s.data.toList)
  refine h.imp (fun {a b} h => ?_)
  have h2 : a ≤ b := by simpa using h
  unfold ltS
  rw [bytesLess_eq, Lib.toList_data, Lib.toList_data]
  simpa using h2
theorem srtW_eq {xs ys : List ByteArray} (h : xs.Perm ys) : srtW xs = srtW ys := upW_eq ((srtW_perm xs).trans (h.trans (srtW_perm ys).symm)) (srtW_up xs) (srtW_up ys)
set_option maxRecDepth 100000 in
theorem Mem.sortW {w0 w : World} {cs : List Chunk} (S : Mem w0 w cs) (i : Nat) {B E g n cap : Nat} {xs : List ByteArray} (hi : cs[i]? = some (.own rStr B E (.slice (some ⟨g, 0, none⟩) n cap) xs)) (hn : n = xs.length) (hl : xs.length ≤ 1000000) :
    Calls Tryz.prog 70 #[.slice (some ⟨g, 0, none⟩) n cap] w fun e w' => e = .returned (.tuple #[]) ∧ Mem w0 w' (cs.set i (.own rStr B E (.slice (some ⟨g, 0, none⟩) n cap) (srtW xs))) := by
  subst hn
  have hH := (S.ow i hi).holdsW rfl
  have hg := S.lt (List.mem_of_getElem? hi) (k := g) rfl
  have hc := Tryz.slices_Sort_string g 0 cap (xs.map fun s => s.data.toList) w hH hg (by rw [List.length_map]; omega)
  rw [List.length_map] at hc
  refine hc.mono ?_
  rintro e w' ⟨rfl, m, os, rfl⟩
  refine ⟨rfl, ?_⟩
  rw [sortWorld_str]
  exact S.sortedK flatStr (by decide) (fun _ => rfl) i hi (srtW_len xs)
def GivesSrtW (w0 : World) (cs : List Chunk) (i B E : Nat) (v : Value) (xs : List ByteArray) (e : Ending) (w' : World) : Prop := e = .returned (.tuple #[]) ∧ Mem w0 w' (cs.set i (.own rStr B E v (srtW xs)))
set_option maxHeartbeats 4000000 in
set_option maxRecDepth 100000 in
theorem insNilW_any (w : World) : Calls Tryz.prog 198 #[.slice none 0 0, .int .i64 0, .int .i64 0] w fun e w' => e = .returned (.tuple #[]) ∧ w = w' := by
  go_enter Tryz.func198, Tryz.ntmps198
  go_wp2_with fail
  go_loopw [6] (fun i wr => i = .int .i64 1 ∧ w = wr) (fun _ _ => 0)
  case atStart => exact ⟨rfl, rfl⟩
  case round =>
    obtain ⟨rfl, rfl⟩ := hrel
    go_wp2_with fail
    go_end0
    exact ⟨rfl, rfl⟩
set_option maxHeartbeats 4000000 in
set_option maxRecDepth 100000 in
theorem pdqNilW_any (n : Int) (w : World) : Calls Tryz.prog 140 #[.slice none 0 0, .int .i64 0, .int .i64 0, .int .i64 n] w fun e w' => e = .returned (.tuple #[]) ∧ w = w' := by
  have H := Lib.hid (insNilW_any w)
  go_enter Tryz.func140, Tryz.ntmps140
  go_wp2_with fail
  go_loopw [1, 2] (fun a b wr => a = .int .i64 0 ∧ b = .int .i64 0 ∧ w = wr) (fun _ _ _ => 0)
  case atStart => exact ⟨rfl, rfl, rfl⟩
  case round =>
    obtain ⟨rfl, rfl, rfl⟩ := hrel
    go_wp2_with fail
    refine (H.out).mono ?_
    rintro e w3 ⟨rfl, rfl⟩
    go_wp2_with fail
    exact bodyPost_ret (results_none rfl _ _ _) rfl ⟨rfl, rfl⟩
set_option maxHeartbeats 4000000 in
set_option maxRecDepth 100000 in
theorem sortNilW_any (w : World) : Calls Tryz.prog 70 #[.slice none 0 0] w fun e w' => e = .returned (.tuple #[]) ∧ w = w' := by
  have HL := Lib.hid (Tryz.bits_Len 0 w (by decide) (by decide))
  have HP := Lib.hid (fun n => pdqNilW_any n w)
  go_enter Tryz.func70, Tryz.ntmps70
  go_wp2_with fail
  refine (HL.out).mono ?_
  rintro e w3 ⟨rfl, rfl⟩
  go_wp2_with fail
  refine (HP.out _).mono ?_
  rintro e w4 ⟨rfl, rfl⟩
  go_wp2_with fail
  go_end0
  exact ⟨rfl, rfl⟩
theorem sortOwnW {w0 w : World} {cs : List Chunk} (S : Mem w0 w cs) (i : Nat) {B E : Nat} {v : Value} {xs : List ByteArray} (hi : cs[i]? = some (.own rStr B E v xs)) (hl : xs.length ≤ 1000000) :
    Calls Tryz.prog 70 #[v] w (GivesSrtW w0 cs i B E v xs) := by
  rcases (S.ow i hi).shape2 with ⟨rfl, rfl⟩ | ⟨g, cap, rfl, _⟩
  · refine (sortNilW_any w).mono ?_
    rintro e w' ⟨rfl, rfl⟩
    refine ⟨rfl, ?_⟩
    rw [show srtW [] = [] by simp [srtW], set_sameI hi]
    exact S
  · refine (S.sortW i hi rfl hl).mono ?_
    rintro e w' ⟨rfl, S'⟩
    exact ⟨rfl, S'⟩
end Go.Proofs.YtmlpkejeglpciaaGreatDoor

/- The plain law of two logs side by side: after each call they hold the same, and so after a join. No program is in sight. -/
namespace Go.Proofs.YtmlpkejeglpciaaGreatDoor
open Go Go.RowKit
theorem evF_suf {l : List Scm} {x : Evt} (h : scmsFault l = 0) : evFault l x = sufF l x := by
  unfold evFault first3 sufF
  rw [if_neg (not_not_intro h)]
structure LogOk (qs ps : List EQ) (La Lg : List (ByteArray × Value)) (gn : List ByteArray) : Prop where
  s : LogS (qs.map EQ.e) (ps.map EQ.e) (Lg.map Prod.fst) gn
  tm : AtOk qs La
  go : GnOk Lg
  sm : ∀ q ∈ ps, EvSm q.e
theorem LogOk.start : LogOk [] [] [] [] [] := ⟨LogS.start, AtOk.nil, GnOk.nil, fun _ h => by cases h⟩
theorem LogOk.qsm {qs ps : List EQ} {La Lg : List (ByteArray × Value)} {gn : List ByteArray} (h : LogOk qs ps La Lg gn) : ∀ q ∈ qs, EvSm q.e := fun q hq => by
  have h1 := h.s.pe.mem_iff.1 (List.mem_map_of_mem hq)
  obtain ⟨p, hp, e⟩ := List.mem_map.1 h1
  rw [← e]
  exact h.sm p hp
theorem LogOk.len {qs ps : List EQ} {La Lg : List (ByteArray × Value)} {gn : List ByteArray} (h : LogOk qs ps La Lg gn) : qs.length = ps.length := by
  have := h.s.pe.length_eq
  rwa [List.length_map, List.length_map] at this
theorem LogOk.ap {qs ps : List EQ} {La Lg : List (ByteArray × Value)} {gn : List ByteArray} (h : LogOk qs ps La Lg gn) : ∀ q ∈ qs, q.e.id ∉ Lg.map Prod.fst := fun q hq => h.s.ap q.e (List.mem_map_of_mem hq)
theorem LogOk.gperm {qs ps : List EQ} {La Lg : List (ByteArray × Value)} {gn : List ByteArray} (h : LogOk qs ps La Lg gn) : (Lg.map Prod.fst).Perm gn := (List.perm_ext_iff_of_nodup h.s.nd.1 h.s.nd.2).2 h.s.gs
theorem LogOk.glen {qs ps : List EQ} {La Lg : List (ByteArray × Value)} {gn : List ByteArray} (h : LogOk qs ps La Lg gn) : Lg.length = gn.length := by
  have := h.gperm.length_eq
  rwa [List.length_map] at this
theorem AddTo.yes {l : List Evt} {g : List ByteArray} {x : Evt} {F er : Int} (a : AddTo l g x F true er) : (∀ y ∈ l, y.id ≠ x.id) ∧ x.id ∉ g := by
  rcases a with ⟨_, h, _⟩ | ⟨_, _, h, _⟩ | ⟨_, _, h, _⟩ | ⟨_, _, _, h, _⟩ | ⟨_, h1, h2, _, _⟩
  · cases h
  · cases h
  · cases h
  · cases h
  · exact ⟨h1, h2⟩
theorem LogOk.add {qs ps : List EQ} {La Lg : List (ByteArray × Value)} {gn : List ByteArray} (h : LogOk qs ps La Lg gn) {x : Evt} {q p : EQ} {i : Nat} (hx : EvSm x) (hq : q.e = x) (hpe : p.e = x) (hp : IsPlE (qs.map EQ.e) x i) (hn : ∀ y ∈ qs.map EQ.e, y.id ≠ x.id) (hg : x.id ∉ Lg.map Prod.fst) : LogOk (qs.take i ++ q :: qs.drop i) (ps ++ [p]) (updG x.id (.int .i64 x.at') La) Lg gn := by
  have h1 := h.s.add hn hg hp
  refine ⟨?_, ?_, h.go, fun y hy => ?_⟩
  · rw [List.map_append, List.map_cons, List.map_take, List.map_drop, List.map_append, List.map_singleton, hq, hpe]
    exact h1
  · have h2 := h.tm.put (x := q) (fun y hy => by rw [hq]; exact hn _ (List.mem_map_of_mem hy)) i
    rw [hq] at h2
    exact h2
  · rcases List.mem_append.1 hy with hy | hy
    · exact h.sm y hy
    · rw [List.mem_singleton.1 hy, hpe]; exact hx
theorem LogOk.ret0 {qs ps : List EQ} {La Lg : List (ByteArray × Value)} {gn : List ByteArray} (h : LogOk qs ps La Lg gn) {s : ByteArray} (hs : s ∈ gn) : LogOk qs ps La (updG s (.bool true) Lg) gn := by
  have hg : ∀ x, x ∈ (updG s (.bool true) Lg).map Prod.fst ↔ x ∈ Lg.map Prod.fst := fun x => by
    rw [mem_updG]
    constructor
    · rintro (h1 | rfl)
      · exact h1
      · exact (h.s.gs _).2 hs
    · exact .inl
  exact ⟨⟨h.s.lo, h.s.pe, fun x => (hg x).trans (h.s.gs x), ⟨updG_keys h.s.nd.1, h.s.nd.2⟩, fun x hx hm => h.s.ap x hx ((hg _).1 hm)⟩, h.tm, h.go.put s, h.sm⟩
theorem LogOk.ret1 {qs ps : List EQ} {La Lg : List (ByteArray × Value)} {gn : List ByteArray} (h : LogOk qs ps La Lg gn) {s : ByteArray} (hs : s ∉ gn) (hn : hasE s qs = none) : LogOk qs ps La (updG s (.bool true) Lg) (gn ++ [s]) :=
  ⟨h.s.goes (fun hm => hs ((h.s.gs s).1 hm)) (updG_keys h.s.nd.1) (fun _ => mem_updG) (fun x hx => by
    obtain ⟨q, hq, rfl⟩ := List.mem_map.1 hx
    exact hasE_none.1 hn q hq), h.tm, h.go.put s, h.sm⟩
theorem LogOk.ret2 {qs ps : List EQ} {La Lg : List (ByteArray × Value)} {gn : List ByteArray} (h : LogOk qs ps La Lg gn) {s : ByteArray} (hs : s ∉ gn) (hla : (La.map Prod.fst).Nodup) {i k : Nat} {q p : EQ} (hi : qs[i]? = some q) (hk : ps[k]? = some p) (hq : q.e.id = s) (hp : p.e.id = s) : LogOk (qs.take i ++ qs.drop (i + 1)) (ps.take k ++ ps.drop (k + 1)) (delG s La) (updG s (.bool true) Lg) (gn ++ [s]) := by
  have h1 := h.s.takes (fun hm => hs ((h.s.gs s).1 hm)) (updG_keys (v := .bool true) h.s.nd.1) (fun _ => mem_updG) (i := i) (k := k) (by rw [List.getElem?_map, hi]; rfl) (by rw [List.getElem?_map, hk]; rfl) hq hp
  refine ⟨?_, ?_, h.go.put s, fun y hy => h.sm y (del_mem y hy)⟩
  · rw [List.map_append, List.map_take, List.map_drop, List.map_append, List.map_take, List.map_drop]
    exact h1
  · rw [← hq]
    exact h.tm.del (logE_id h.s.lo) hla hi
def RetP (s : ByteArray) (qs : List EQ) (La Lg : List (ByteArray × Value)) (qs2 : List EQ) (La2 Lg2 : List (ByteArray × Value)) : Prop :=
  (L.isKey s = false ∧ qs2 = qs ∧ La2 = La ∧ Lg2 = Lg) ∨ (L.isKey s = true ∧ hasE s qs = none ∧ qs2 = qs ∧ La2 = La ∧ Lg2 = updG s (.bool true) Lg) ∨
  (L.isKey s = true ∧ ∃ (i : Nat) (q : EQ), qs[i]? = some q ∧ q.e.id = s ∧ qs2 = qs.take i ++ qs.drop (i + 1) ∧ La2 = delG s La ∧ Lg2 = updG s (.bool true) Lg)
def RetR (s : ByteArray) (ps : List EQ) (gn : List ByteArray) (ps2 : List EQ) (gn2 : List ByteArray) : Prop :=
  (L.isKey s = false ∧ ps2 = ps ∧ gn2 = gn) ∨ (L.isKey s = true ∧ s ∈ gn ∧ ps2 = ps ∧ gn2 = gn) ∨ (L.isKey s = true ∧ s ∉ gn ∧ (∀ p ∈ ps, p.e.id ≠ s) ∧ ps2 = ps ∧ gn2 = gn ++ [s]) ∨
  (L.isKey s = true ∧ s ∉ gn ∧ ∃ (k : Nat) (p : EQ), ps[k]? = some p ∧ p.e.id = s ∧ ps2 = ps.take k ++ ps.drop (k + 1) ∧ gn2 = gn ++ [s])
theorem LogOk.has {qs ps : List EQ} {La Lg : List (ByteArray × Value)} {gn : List ByteArray} (h : LogOk qs ps La Lg gn) {s : ByteArray} (hn : hasE s qs = none) : ∀ p ∈ ps, p.e.id ≠ s := fun p hp e => by
  obtain ⟨q, hq, he⟩ := List.mem_map.1 (h.s.pe.mem_iff.2 (List.mem_map_of_mem hp))
  exact hasE_none.1 hn q hq (by rw [he]; exact e)
theorem LogOk.retBoth {qs ps qs2 ps2 : List EQ} {La Lg La2 Lg2 : List (ByteArray × Value)} {gn gn2 : List ByteArray} (h : LogOk qs ps La Lg gn) {s : ByteArray} (hla : (La.map Prod.fst).Nodup) (hp : RetP s qs La Lg qs2 La2 Lg2) (hr : RetR s ps gn ps2 gn2) : LogOk qs2 ps2 La2 Lg2 gn2 ∧ (∀ p ∈ ps2, p ∈ ps) ∧ ps2.length ≤ ps.length ∧ gn2.length ≤ gn.length + 1 := by
  have hid : ∀ p ∈ ps, p ∈ ps := fun _ h => h
  rcases hp with ⟨k1, rfl, rfl, rfl⟩ | ⟨k1, hn, rfl, rfl, rfl⟩ | ⟨k1, i, q, hi, hq, rfl, rfl, rfl⟩ <;>
  rcases hr with ⟨k2, rfl, rfl⟩ | ⟨k2, hg, rfl, rfl⟩ | ⟨k2, hg, hno, rfl, rfl⟩ | ⟨k2, hg, k, p, hk, hpe, rfl, rfl⟩
  case inl.inl => exact ⟨h, hid, Nat.le_refl _, by omega⟩
  case inr.inl.inr.inl => exact ⟨h.ret0 hg, hid, Nat.le_refl _, by omega⟩
  case inr.inl.inr.inr.inl => exact ⟨h.ret1 hg hn, hid, Nat.le_refl _, by rw [List.length_append, List.length_singleton]; omega⟩
  case inr.inl.inr.inr.inr => exact absurd hpe (h.has hn p (List.mem_of_getElem? hk))
  case inr.inr.inr.inl => exact absurd ((h.s.gs s).2 hg) (by rw [← hq]; exact h.ap q (List.mem_of_getElem? hi))
  case inr.inr.inr.inr.inl =>
    obtain ⟨p, hpm, he⟩ := List.mem_map.1 (h.s.pe.mem_iff.1 (List.mem_map_of_mem (List.mem_of_getElem? hi)))
    exact absurd (by rw [he]; exact hq) (hno p hpm)
  case inr.inr.inr.inr.inr => exact ⟨h.ret2 hg hla hi hk hq hpe, del_mem, by rw [List.length_append, List.length_take, List.length_drop]; omega, by rw [List.length_append, List.length_singleton]; omega⟩
  all_goals (rw [k1] at k2; cases k2)
def AddP (x : Evt) (qs : List EQ) (La : List (ByteArray × Value)) (qs2 : List EQ) (La2 : List (ByteArray × Value)) (ok : Bool) : Prop :=
  (ok = false ∧ qs2 = qs ∧ La2 = La) ∨ (ok = true ∧ ∃ (i : Nat) (q : EQ), q.e = x ∧ IsPlE (qs.map EQ.e) x i ∧ qs2 = qs.take i ++ q :: qs.drop i ∧ La2 = updG x.id (.int .i64 x.at') La)
theorem LogOk.addBoth {qs ps qs2 ps2 : List EQ} {La Lg La2 : List (ByteArray × Value)} {gn : List ByteArray} (h : LogOk qs ps La Lg gn) {q : EQ} {ok : Bool} {F er : Int} (hx : EvSm q.e) (ha : AddTo (qs.map EQ.e) (Lg.map Prod.fst) q.e F ok er) (hp : AddP q.e qs La qs2 La2 ok) (hr : (ok = false ∧ ps2 = ps) ∨ (ok = true ∧ ps2 = ps ++ [q])) :
    LogOk qs2 ps2 La2 Lg gn ∧ (∀ p ∈ ps2, p ∈ ps ∨ p = q) ∧ ps2.length ≤ ps.length + 1 := by
  rcases hp with ⟨k1, rfl, rfl⟩ | ⟨k1, i, q', hq', hpl, rfl, rfl⟩ <;> rcases hr with ⟨k2, rfl⟩ | ⟨k2, rfl⟩
  · exact ⟨h, fun _ h => .inl h, by omega⟩
  · rw [k1] at k2; cases k2
  · rw [k1] at k2; cases k2
  · rw [k1] at ha
    have hy := ha.yes
    exact ⟨h.add hx hq' rfl hpl hy.1 hy.2, fun p hp => by
      rcases List.mem_append.1 hp with h | h
      · exact .inl h
      · exact .inr (List.mem_singleton.1 h), by rw [List.length_append, List.length_singleton]; omega⟩
theorem LogOk.evs {qs ps : List EQ} {La Lg : List (ByteArray × Value)} {gn : List ByteArray} (h : LogOk qs ps La Lg gn) {ys : List EQ} (hp : ys.Perm ps) (hs : (ys.map EQ.e).Pairwise (fun a b => ordE a b ≤ 0)) : ys.map EQ.e = qs.map EQ.e := h.s.sorted (hp.map _) hs
theorem LogOk.goneW {qs ps : List EQ} {La Lg : List (ByteArray × Value)} {gn : List ByteArray} (h : LogOk qs ps La Lg gn) : srtW (Lg.map Prod.fst) = srtW gn := srtW_eq h.gperm
end Go.Proofs.YtmlpkejeglpciaaGreatDoor

/- Edit distances, plainly: that the distance by rows from the front is the distance by columns from the end. No program is in sight. -/
namespace Go.Proofs.YtmlpkejeglpciaaGreatDoor.D

def levRow (f : List Int → Nat) (x : Int) (n : Nat) : List Int → Nat
  | [] => n
  | y :: b => if x = y then f b else 1 + min (min (f b) (f (y :: b))) (levRow f x n b)
def lev : List Int → List Int → Nat
  | [] => fun b => b.length
  | x :: a => levRow (lev a) x (a.length + 1)
theorem lev_nil' (a : List Int) : lev a [] = a.length := by cases a <;> rfl
theorem lev_cons (x y : Int) (a b : List Int) : lev (x :: a) (y :: b) = if x = y then lev a b else 1 + min (min (lev a b) (lev a (y :: b))) (lev (x :: a) b) := rfl

abbrev Al := List (Option Int × Option Int)
def one (p : Option Int × Option Int) : Nat := match p with | (some x, some y) => if x = y then 0 else 1 | _ => 1
def cost (t : Al) : Nat := (t.map one).sum
def lft (t : Al) : List Int := t.filterMap (·.1)
def rgt (t : Al) : List Int := t.filterMap (·.2)

theorem ex_del : ∀ a : List Int, ∃ t : Al, lft t = a ∧ rgt t = [] ∧ cost t = a.length
  | [] => ⟨[], rfl, rfl, rfl⟩
  | x :: a => by
    obtain ⟨t, h1, h2, h3⟩ := ex_del a
    exact ⟨(some x, none) :: t, by simp [lft] at *; exact h1, by simp [rgt] at *; exact h2, by simp [cost, one] at *; omega⟩
theorem ex_ins : ∀ b : List Int, ∃ t : Al, lft t = [] ∧ rgt t = b ∧ cost t = b.length
  | [] => ⟨[], rfl, rfl, rfl⟩
  | x :: a => by
    obtain ⟨t, h1, h2, h3⟩ := ex_ins a
    exact ⟨(none, some x) :: t, by simp [lft] at *; exact h1, by simp [rgt] at *; exact h2, by simp [cost, one] at *; omega⟩
theorem lft_cons (p : Option Int × Option Int) (t : Al) : lft (p :: t) = match p.1 with | some x => x :: lft t | none => lft t := by
  obtain ⟨p1, p2⟩ := p; cases p1 <;> simp [lft]
theorem rgt_cons (p : Option Int × Option Int) (t : Al) : rgt (p :: t) = match p.2 with | some x => x :: rgt t | none => rgt t := by
  obtain ⟨p1, p2⟩ := p; cases p2 <;> simp [rgt]
theorem cost_cons (p : Option Int × Option Int) (t : Al) : cost (p :: t) = one p + cost t := by simp [cost]

theorem ex : ∀ (a b : List Int), ∃ t : Al, lft t = a ∧ rgt t = b ∧ cost t = lev a b
  | [], b => by obtain ⟨t, h1, h2, h3⟩ := ex_ins b; exact ⟨t, h1, h2, h3⟩
  | x :: a, [] => by obtain ⟨t, h1, h2, h3⟩ := ex_del (x :: a); exact ⟨t, h1, h2, by rw [h3, lev_nil']⟩
  | x :: a, y :: b => by
    obtain ⟨t1, l1, r1, c1⟩ := ex a b
    obtain ⟨t2, l2, r2, c2⟩ := ex a (y :: b)
    obtain ⟨t3, l3, r3, c3⟩ := ex (x :: a) b
    rw [lev_cons]
    by_cases h : x = y
    · exact ⟨(some x, some y) :: t1, by rw [lft_cons, l1], by rw [rgt_cons, r1], by rw [cost_cons, c1, if_pos h]; simp [one, h]⟩
    · rw [if_neg h]
      rcases Nat.le_total (lev a b) (lev a (y :: b)) with h1 | h1
      · rcases Nat.le_total (lev a b) (lev (x :: a) b) with h2 | h2
        · exact ⟨(some x, some y) :: t1, by rw [lft_cons, l1], by rw [rgt_cons, r1], by rw [cost_cons, c1]; simp only [one, if_neg h]; omega⟩
        · exact ⟨(none, some y) :: t3, by rw [lft_cons, l3], by rw [rgt_cons, r3], by rw [cost_cons, c3]; simp only [one]; omega⟩
      · rcases Nat.le_total (lev a (y :: b)) (lev (x :: a) b) with h2 | h2
        · exact ⟨(some x, none) :: t2, by rw [lft_cons, l2], by rw [rgt_cons, r2], by rw [cost_cons, c2]; simp only [one]; omega⟩
        · exact ⟨(none, some y) :: t3, by rw [lft_cons, l3], by rw [rgt_cons, r3], by rw [cost_cons, c3]; simp only [one]; omega⟩

theorem one_le (p : Option Int × Option Int) : one p ≤ 1 := by
  obtain ⟨p1, p2⟩ := p; cases p1 <;> cases p2 <;> simp [one]
  split <;> omega
end Go.Proofs.YtmlpkejeglpciaaGreatDoor.D

/- What handref2.points and handref2.Far return. -/
namespace Go.Proofs.YtmlpkejeglpciaaGreatDoor
open Go.RowKit

def GivesI64 (l : List Int) (w : World) (e : Ending) (w' : World) : Prop := ∃ v, e = .returned v ∧ w'.ownsRow w.heap.size 3 1 v l.length (l.map (Value.int .i64)) ∧ Below w.heap.size w w'

set_option maxHeartbeats 1000000 in
set_option maxRecDepth 100000 in
theorem refpoints_any (s : ByteArray) (w : World) (hs : s.size ≤ 1000000) (hT : Tabs w) :
    Calls Tryz.prog 285 #[.string s] w (GivesI64 (pts s.size s) w) := by
  have HT := Lib.hid hT
  clear hT
  go_enter Tryz.func285, Tryz.ntmps285
  go_wp2_with fail
  go_loopw [0, 3] (fun r v wr => ∃ (acc : List Int) (f : Nat) (rest : ByteArray), r = .string rest ∧ rest.size ≤ f ∧ acc.length + rest.size ≤ s.size ∧ acc ++ pts f rest = pts s.size s ∧ wr.ownsRow w.heap.size 3 1 v acc.length (acc.map (Value.int .i64)) ∧ Below w.heap.size w wr) (fun r _ _ => match r with | .string t => t.size | _ => 0)
  case atStart => exact ⟨[], s.size, s, rfl, Nat.le_refl _, by simp, rfl, World.ownsRow_nil _ _ _ _, Below.refl _ _⟩
  case round =>
    obtain ⟨acc, f, rest, rfl, hf, hlen, hacc, hown, hbl⟩ := hrel
    have Hacc := Lib.hid hacc
    have Hown := Lib.hid hown
    clear hacc hown
    have hsz := hbl.size
    rcases Nat.eq_zero_or_pos rest.size with h0 | h0
    · have n1 := (str_nil h0).1
      have n2 := (str_nil h0).2
      have Hv : Hid (acc = pts s.size s) := by show _ = _; rw [← Hacc.out, pts_nil _ _ h0, List.append_nil]
      clear h0
      go_wp2_with fail
      go_ret
      exact ⟨u3, rfl, by rw [← Hv.out]; exact Hown.out, hbl⟩
    · have n1 := (str_ne h0).1
      have n2 := (str_ne h0).2
      have hd := dec_rng rest h0
      obtain ⟨g, rfl⟩ : ∃ g, f = g + 1 := ⟨f - 1, by omega⟩
      have Hp := Lib.hid (pts_cons g rest h0)
      have Hdec : Hid (∀ w', Tabs w' → Calls Tryz.prog 263 #[.string rest] w' fun e w'' => e = .returned (.tuple #[.int .i32 (Lib.decodeGo rest).1, .int .i64 (Lib.decodeGo rest).2]) ∧ Below w'.heap.size w' w'') := fun w' h => Tryz.utf8_DecodeRuneInString rest w' h
      obtain ⟨d, Hd⟩ : ∃ d, Hid (Lib.decodeGo rest = d) := ⟨_, Lib.hid rfl⟩
      rw [Hd.out] at hd Hp Hdec
      obtain ⟨r, n⟩ := d
      obtain ⟨hn1, hn2, hr⟩ : 1 ≤ n ∧ n ≤ rest.size ∧ r ≤ 1114111 := hd
      clear Hd
      have Hz : Hid ((rest.extract n rest.size).size = rest.size - n) := by show _ = _; rw [ByteArray.size_extract]; omega
      go_wp2_with fail
      refine (Hdec.out _ (Utf8Tabs_below HT.out (hbl.mono (Nat.le_refl _)))).mono ?_
      rintro e w1 ⟨rfl, hl1⟩
      have hz1 := hl1.size
      clear Hdec
      by_cases hbad : r = 65533 ∧ n = 1
      · have Hx : Hid (pts (g + 1) rest = (-1 - (rest[0].toNat : Int)) :: pts g (rest.extract n rest.size)) := by show _ = _; rw [Hp.out, if_pos hbad]
        have e1 : ((r : Int) == 65533) = true := by simp [hbad.1]
        have e2 : ((n : Int) == 1) = true := by simp [hbad.2]
        have hc := rest[0].toNat_lt
        clear hbad Hp
        go_wp2_with (at_builtin; refine app_lit (w0 := w1) tyInts rfl _ _ rfl w.heap.size _ _ _ _ _ rfl (own_keep Hown.out hl1) rfl rfl (by simp [Value.oneCell']) (by omega) (by omega) (by decide) ?_; intro v' w2 hb2 hg2 hl2 hn2'; clear hg2 hn2')
        go_roundw
        case rel => exact ⟨acc ++ [-1 - (rest[0].toNat : Int)], g, rest.extract n rest.size, rfl, by rw [Hz.out]; omega, by rw [Hz.out, List.length_append]; simp; omega, by rw [← Hacc.out, Hx.out]; simp, by simpa using hb2, (hbl.trans (hl1.mono (by omega))).trans hl2⟩
        case measure => simp [Hz.out]; omega
      · have Hx : Hid (pts (g + 1) rest = (r : Int) :: pts g (rest.extract n rest.size)) := by show _ = _; rw [Hp.out, if_neg hbad]
        clear Hp
        by_cases h1 : r = 65533
        · have e1 : ((r : Int) == 65533) = true := by simp [h1]
          have e2 : ((n : Int) == 1) = false := by simp; omega
          clear hbad h1
          go_wp2_with (at_builtin; refine app_lit (w0 := w1) tyInts rfl _ _ rfl w.heap.size _ _ _ _ _ rfl (own_keep Hown.out hl1) rfl rfl (by simp [Value.oneCell']) (by omega) (by omega) (by decide) ?_; intro v' w2 hb2 hg2 hl2 hn2'; clear hg2 hn2')
          go_roundw
          case rel => exact ⟨acc ++ [(r : Int)], g, rest.extract n rest.size, rfl, by rw [Hz.out]; omega, by rw [Hz.out, List.length_append]; simp; omega, by rw [← Hacc.out, Hx.out]; simp, by simpa using hb2, (hbl.trans (hl1.mono (by omega))).trans hl2⟩
          case measure => simp [Hz.out]; omega
        · have e1 : ((r : Int) == 65533) = false := by simp; omega
          clear hbad h1
          go_wp2_with (at_builtin; refine app_lit (w0 := w1) tyInts rfl _ _ rfl w.heap.size _ _ _ _ _ rfl (own_keep Hown.out hl1) rfl rfl (by simp [Value.oneCell']) (by omega) (by omega) (by decide) ?_; intro v' w2 hb2 hg2 hl2 hn2'; clear hg2 hn2')
          go_roundw
          case rel => exact ⟨acc ++ [(r : Int)], g, rest.extract n rest.size, rfl, by rw [Hz.out]; omega, by rw [Hz.out, List.length_append]; simp; omega, by rw [← Hacc.out, Hx.out]; simp, by simpa using hb2, (hbl.trans (hl1.mono (by omega))).trans hl2⟩
          case measure => simp [Hz.out]; omega


end Go.Proofs.YtmlpkejeglpciaaGreatDoor
