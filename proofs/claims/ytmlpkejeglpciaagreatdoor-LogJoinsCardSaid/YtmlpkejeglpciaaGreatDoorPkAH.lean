/- Several texts in one: EvOrd, CmpLaw, Wrong, Grew, SortFn, EvSrt, LogLaw. -/
import Derived.Test.YtmlpkejeglpciaaGreatDoorPkAD
import Derived.Test.YtmlpkejeglpciaaGreatDoorPkAE
import Derived.Test.YtmlpkejeglpciaaGreatDoorPkAC
import Derived.Test.YtmlpkejeglpciaaGreatDoorPkAG
import Derived.Shelf.SlSortCmp.InsertionK
import Derived.Test.YtmlpkejeglpciaaGreatDoorPkAA
import Derived.WalkLawsBesides
import Derived.Sort.Walk0
import Derived.Shelf.SlSortCmp.NoneTotal
import Derived.Test.YtmlpkejeglpciaaGreatDoorSf
import Derived.Lib.SliceRun
/- The order of events: what event.Order and handref2.before return; the faults of a list of events in plain words. -/
namespace Go.Proofs.YtmlpkejeglpciaaGreatDoor
open Go.RowKit
def ordE (a b : Evt) : Int := if Lib.compareInt a.at' b.at' ≠ 0 then Lib.compareInt a.at' b.at' else cmpS a.id b.id
def befE (a b : Evt) : Bool := decide (a.at' < b.at') || (decide (a.at' = b.at') && ltS a.id b.id)
theorem ordE_neg (a b : Evt) : ordE a b < 0 ↔ befE a b = true := by
  have h := cmpS_neg a.id b.id
  unfold ordE befE Lib.compareInt
  rcases Int.lt_trichotomy a.at' b.at' with h1 | h1 | h1
  · simp [h1]
  · simp [h1, h]
  · have h2 : ¬ a.at' < b.at' := by omega
    have h3 : ¬ a.at' = b.at' := by omega
    simp [h2, h3, h1]
def TwoEvts (X Y : Nat) (a b : Evt) (A B : Option Addr) (c d : Nat) (w : World) : Prop := LV w X (evCs a A c) 47 ∧ LV w Y (evCs b B d) 47
theorem TwoEvts.keep {X Y : Nat} {a b : Evt} {A B : Option Addr} {c d : Nat} {w w' : World} (h : TwoEvts X Y a b A B c d w) (k : Below w.heap.size w w') : TwoEvts X Y a b A B c d w' := ⟨LV.kb3 h.1 k h.1.lt, LV.kb3 h.2 k h.2.lt⟩
theorem two_evts (w : World) (a b : Evt) (A B : Option Addr) (c d : Nat) : TwoEvts w.heap.size (w.heap.size + 1) a b A B c d ((w.alloc (.cells (evCs a A c) 47)).alloc (.cells (evCs b B d) 47)) :=
  ⟨(LV.new w w.heap.size (evCs a A c) 47 rfl).alloc _, LV.new (w.alloc (.cells (evCs a A c) 47)) (w.heap.size + 1) (evCs b B d) 47 (by simp)⟩
set_option maxHeartbeats 2000000 in
set_option maxRecDepth 100000 in
theorem orderEv_any (a b : Evt) (A B : Option Addr) (c d : Nat) (w : World) :
    Calls Tryz.prog 125 #[.agg (evCs a A c), .agg (evCs b B d)] w fun e w' => e = .returned (.int .i64 (ordE a b)) ∧ Below w.heap.size w w' := by
  obtain ⟨R, HR⟩ : ∃ R, Hid (ordE a b = R) := ⟨_, Lib.hid rfl⟩
  rw [HR.out]
  have hC := two_evts w a b A B c d
  have Hb : Hid (Below w.heap.size w ((w.alloc (.cells (evCs a A c) 47)).alloc (.cells (evCs b B d) 47))) := ((Below.refl _ _).alloc (Nat.le_refl _) _).alloc (by simp) _
  go_enter Tryz.func125, Tryz.ntmps125
  go_wp2_with fail
  generalize (w.alloc (.cells (evCs a A c) 47)).alloc (.cells (evCs b B d) 47) = w1 at *
  obtain ⟨Y, hY⟩ : ∃ Y, Y = w.heap.size + 1 := ⟨_, rfl⟩
  obtain ⟨X, hX⟩ : ∃ X, X = w.heap.size := ⟨_, rfl⟩
  rw [← hY, ← hX] at hC
  rw [← hY, ← hX]
  clear hY hX
  refine wp_region_mix (TwoEvts X Y a b A B c d) [(true, 0), (true, 1), (true, 2), (true, 3), (true, 5), (true, 6), (true, 7), (true, 8), (false, 4), (false, 9), (false, 10), (false, 11), (true, 12)] (by kernel_rfl) (by kernel_rfl) (fun w' hd => hC.keep (hd.below _)) (fun KK hKK wd hd_wd => ?_)
  have hC1 := hC.keep (hd_wd.below _)
  have Hb1 : Hid (Below w.heap.size w wd) := Hb.out.trans ((hd_wd.below _).mono Hb.out.size)
  clear hC Hb hd_wd
  refine mpR ?_
  refine mix_load (.int .i64 a.at') rfl rfl rfl rfl (fun _ => rfl) (fun w' h => h.1.cell 2 _ rfl) ?_
  refine mpR ?_
  refine mix_load (.int .i64 b.at') rfl rfl rfl rfl (fun _ => rfl) (fun w' h => h.2.cell 2 _ rfl) ?_
  refine mpR ?_
  refine mix_load (.string a.id) rfl rfl rfl rfl (fun _ => rfl) (fun w' h => h.1.cell 0 _ rfl) ?_
  refine mpR ?_
  refine mix_load (.string b.id) rfl rfl rfl rfl (fun _ => rfl) (fun w' h => h.2.cell 0 _ rfl) ?_
  refine mix_l rfl (fun K hK => ?_) hC1
  go_wp2_with fail
  refine (cmpInt_any a.at' b.at' _).mono ?_
  rintro e _ ⟨rfl, rfl⟩
  go_wp2_with fail
  refine ⟨hC1, ?_⟩
  refine mix_l rfl (fun K hK => ?_) hC1
  go_wp2_with fail
  refine (compareS_any a.id b.id _).mono ?_
  rintro e _ ⟨rfl, rfl⟩
  go_wp2_with fail
  refine ⟨hC1, ?_⟩
  unfold ordE at HR
  generalize Lib.compareInt a.at' b.at' = p at *
  generalize cmpS a.id b.id = q at *
  refine mix_l rfl (fun K hK => ?_) hC1
  go_wp2_with fail
  have hb2 : Below wd.heap.size wd (wd.alloc (.cells #[.int .i64 p, .int .i64 q] 3)) := (Below.refl _ _).alloc (Nat.le_refl _) _
  have hC2 := hC1.keep hb2
  have Hb2 : Hid (Below w.heap.size w (wd.alloc (.cells #[.int .i64 p, .int .i64 q] 3))) := Hb1.out.alloc Hb1.out.size _
  have lvZ := LV.new wd wd.heap.size #[.int .i64 p, .int .i64 q] 3 rfl
  refine ⟨hC2, ?_⟩
  have Ho := Lib.hid (or_any wd.heap.size p q _ (lvZ.cell 0 _ rfl) (lvZ.cell 1 _ rfl))
  rw [HR.out] at Ho
  clear hb2 hC1 Hb1 lvZ
  refine mix_l rfl (fun K hK => ?_) hC2
  go_wp2_with fail
  refine (Ho.out).mono ?_
  rintro e _ ⟨rfl, rfl⟩
  go_wp2_with fail
  refine ⟨hC2, ?_⟩
  refine mpR ?_
  refine mix_nil ?_
  simp only [Exit.then]
  refine hKK _ _ ?_
  go_wp2_with fail
  go_ret
  exact ⟨rfl, Hb2.out⟩
structure EvsOk (l : List Evt) : Prop where
  len : l.length ≤ 1000000
  ok : ∀ e ∈ l, EvtOk e
end Go.Proofs.YtmlpkejeglpciaaGreatDoor

/- Orders by comparing: laws of a comparison, one behind another, and what they say of sorted lists. -/
namespace Go.Proofs.YtmlpkejeglpciaaGreatDoor
open Go Go.RowKit Go.Sort Go.Shelf
structure CmpOk {α : Type} (c : α → α → Int) : Prop where
  anti : ∀ a b, c a b < 0 ↔ 0 < c b a
  trans : ∀ a b d, c a b ≤ 0 → c b d ≤ 0 → c a d ≤ 0
theorem CmpOk.refl {α : Type} {c : α → α → Int} (h : CmpOk c) (a : α) : c a a = 0 := by
  have := h.anti a a
  omega
theorem CmpOk.zero {α : Type} {c : α → α → Int} (h : CmpOk c) {a b : α} (e : c a b = 0) : c b a = 0 := by
  have h1 := h.anti a b
  have h2 := h.anti b a
  omega
theorem CmpOk.lt {α : Type} {c : α → α → Int} (h : CmpOk c) {a b d : α} (h1 : c a b < 0) (h2 : c b d ≤ 0) : c a d < 0 := by
  have h3 := h.trans a b d (by omega) h2
  have h4 := h.anti a b
  have h5 := h.anti a d
  have h6 := h.anti d a
  have h7 := h.trans b d a h2
  omega
theorem CmpOk.lt' {α : Type} {c : α → α → Int} (h : CmpOk c) {a b d : α} (h1 : c a b ≤ 0) (h2 : c b d < 0) : c a d < 0 := by
  have h3 := h.trans a b d h1 (by omega)
  have h4 := h.anti b d
  have h5 := h.anti a d
  have h6 := h.anti d a
  have h7 := h.trans d a b
  omega
def lexC {α : Type} (c d : α → α → Int) (a b : α) : Int := if c a b ≠ 0 then c a b else d a b
theorem CmpOk.lex {α : Type} {c d : α → α → Int} (hc : CmpOk c) (hd : CmpOk d) : CmpOk (lexC c d) where
  anti a b := by
    have h1 := hc.anti a b
    have h2 := hc.anti b a
    have h3 := hd.anti a b
    unfold lexC
    split <;> split <;> omega
  trans a b e h1 h2 := by
    unfold lexC at h1 h2 ⊢
    by_cases e1 : c a b = 0
    · rw [if_neg (by omega)] at h1
      by_cases e2 : c b e = 0
      · rw [if_neg (by omega)] at h2
        have h3 := hc.trans a b e (by omega) (by omega)
        have h4 := hc.trans e b a (by have := hc.zero e2; omega) (by have := hc.zero e1; omega)
        have h5 := hc.anti e a
        have h6 := hc.anti a e
        rw [if_neg (by omega)]
        exact hd.trans a b e h1 h2
      · rw [if_pos e2] at h2
        have := hc.lt' (a := a) (b := b) (d := e) (by omega) (by omega)
        rw [if_pos (by omega)]; omega
    · rw [if_pos e1] at h1
      by_cases e2 : c b e = 0
      · have := hc.lt (a := a) (b := b) (d := e) (by omega) (by omega)
        rw [if_pos (by omega)]; omega
      · rw [if_pos e2] at h2
        have := hc.lt (a := a) (b := b) (d := e) (by omega) (by omega)
        rw [if_pos (by omega)]; omega
theorem CmpOk.of {α β : Type} {c : β → β → Int} (h : CmpOk c) (f : α → β) : CmpOk (fun a b => c (f a) (f b)) := ⟨fun _ _ => h.anti _ _, fun _ _ _ => h.trans _ _ _⟩
theorem cmpOkI : CmpOk Lib.compareInt where
  anti a b := by unfold Lib.compareInt; split <;> split <;> (try split) <;> (try split) <;> omega
  trans a b d h1 h2 := by unfold Lib.compareInt at *; split at h1 <;> split at h2 <;> (try split at h1) <;> (try split at h2) <;> split <;> (try split) <;> omega
theorem CmpOk.swo {α : Type} {c : α → α → Int} (h : CmpOk c) : Go.Sort.SWO (ltOf c) where
  irrefl a := by unfold ltOf; simp [h.refl a]
  trans a b d h1 h2 := by
    unfold ltOf at *
    simp only [decide_eq_true_eq] at *
    exact h.lt h1 (by omega)
  ntrans a b d h1 h2 := by
    unfold ltOf at *
    simp only [decide_eq_false_iff_not] at *
    intro h3
    have h4 := h.anti a b
    have h5 := h.anti b a
    have h6 := h.anti b d
    have h7 := h.anti d b
    have h8 := h.lt' (a := b) (b := a) (d := d) (by omega) h3
    omega
theorem strict_eq {α : Type} (lt : α → α → Prop) (irr : ∀ x, ¬ lt x x) (tr : ∀ x y z, lt x y → lt y z → lt x z) : ∀ (l m : List α), l.Pairwise lt → m.Pairwise lt → (∀ x, x ∈ l ↔ x ∈ m) → l = m
  | [], [], _, _, _ => rfl
  | [], y :: s, _, _, h => absurd ((h y).2 (by simp)) (by simp)
  | x :: r, [], _, _, h => absurd ((h x).1 (by simp)) (by simp)
  | x :: r, y :: s, hl, hm, h => by
    obtain ⟨h1, h2⟩ := List.pairwise_cons.1 hl
    obtain ⟨h3, h4⟩ := List.pairwise_cons.1 hm
    have hxy : x = y := by
      rcases List.mem_cons.1 ((h x).1 (by simp)) with e | hx
      · exact e
      · rcases List.mem_cons.1 ((h y).2 (by simp)) with e | hy
        · exact e.symm
        · exact absurd (tr x y x (h1 y hy) (h3 x hx)) (irr x)
    subst hxy
    congr 1
    refine strict_eq lt irr tr r s h2 h4 fun z => ?_
    constructor
    · intro hz
      rcases List.mem_cons.1 ((h z).1 (by simp [hz])) with rfl | e
      · exact absurd (h1 z hz) (irr z)
      · exact e
    · intro hz
      rcases List.mem_cons.1 ((h z).2 (by simp [hz])) with rfl | e
      · exact absurd (h3 z hz) (irr z)
      · exact e
theorem cmpOkS : CmpOk cmpS where
  anti a b := by rw [cmpS_neg, cmpS_pos]
  trans a b d h1 h2 := by
    have e1 := cmpS_neg a b
    have e2 := cmpS_neg b d
    have e3 := cmpS_neg a d
    have z1 := cmpS_zero a b
    have z2 := cmpS_zero b d
    by_cases h3 : cmpS a b = 0
    · rw [z1.1 h3]; exact h2
    · by_cases h4 : cmpS b d = 0
      · rw [← z2.1 h4]; exact h1
      · have := e3.2 (ltS_trans (e1.1 (by omega)) (e2.1 (by omega)))
        omega
end Go.Proofs.YtmlpkejeglpciaaGreatDoor

/- What handlaw2.wrongOr returns: the first error. -/
namespace Go.Proofs.YtmlpkejeglpciaaGreatDoor
open Go.RowKit
def firstErr : List Int → Int
  | [] => 0
  | e :: r => if e ≠ 0 then e else firstErr r
end Go.Proofs.YtmlpkejeglpciaaGreatDoor

/- Calls that only draw and make blocks; CompareIds and handref2.Order so told. -/
namespace Go.Proofs.YtmlpkejeglpciaaGreatDoor
open Go Go.RowKit Go.Sort Go.Shelf
def Grew (w w' : World) : Prop := ∃ (q : Nat) (os : Array Obj), w' = grow (w.drewN q) os
theorem Grew.refl (w : World) : Grew w w := ⟨0, #[], by rw [grow_empty]; rfl⟩
theorem Grew.alloc {w w' : World} (h : Grew w w') (o : Obj) : Grew w (w'.alloc o) := by
  obtain ⟨q, os, rfl⟩ := h
  refine ⟨q, os.push o, ?_⟩
  unfold grow World.alloc
  simp only [Array.append_push]
theorem Grew.trans {u v w : World} (h : Grew u v) (k : Grew v w) : Grew u w := by
  obtain ⟨q, os, rfl⟩ := h
  obtain ⟨p, os', rfl⟩ := k
  refine ⟨q + p, os ++ os', ?_⟩
  unfold grow World.drewN
  simp only [Array.append_assoc, Nat.add_assoc]
end Go.Proofs.YtmlpkejeglpciaaGreatDoor

/- slices.SortFunc at a slice of structs of the call's own: what was there, in order. -/
namespace Go.Proofs.YtmlpkejeglpciaaGreatDoor
open Go Go.RowKit Go.Sort Go.Shelf
theorem flatK_val {T : Type} [Inhabited T] {P : T → Prop} [Inhabited {x // P x}] (f : T → List Value) (k : Nat) (d : Array {x // P x}) : flatK (fun x : {x // P x} => f x.1) k d = flatK f k (d.map Subtype.val) := by
  unfold flatK
  rw [Array.size_map]
  refine Array.map_congr_left fun t ht => ?_
  have h1 : t < d.size * k := by simpa using ht
  have hk : 0 < k := by
    rcases Nat.eq_zero_or_pos k with h | h
    · subst h; simp at h1
    · exact h
  have h2 : t / k < d.size := Nat.div_lt_of_lt_mul (by rw [Nat.mul_comm]; exact h1)
  rw [getElem!_pos d _ h2, getElem!_pos (d.map Subtype.val) _ (by simpa using h2), Array.getElem_map]
def GivesSorted {T : Type} (r : Rep T) (c : T → T → Int) (w0 : World) (cs : List Chunk) (i B E : Nat) (v : Value) (xs : List T) (e : Ending) (w' : World) : Prop :=
  e = .returned (.tuple #[]) ∧ ∃ ys : List T, ys.Perm xs ∧ ys.Pairwise (fun a b => c a b ≤ 0) ∧ Mem w0 w' (cs.set i (.own r B E v ys))
theorem sortFn_own {T : Type} [Inhabited T] {r : Rep T} {f : T → List Value} (hf : r.Flat f) (hk0 : 0 < r.size) (hk : ∀ x, (f x).length = r.size) (h1 : ∀ x, ∀ v ∈ f x, v.oneCell' = true) {ρ : Go.Shelf.Ren} (L : SlLaysF0.n6 Tryz.prog ρ)
    (aE : ∀ w, (isAgg (ρ.t 24)).run Tryz.prog w = .ok true w) (zE : ∀ w, (Go.sizeOf (ρ.t 24)).run Tryz.prog w = .ok r.size w) (P : T → Prop) (cf c : T → T → Int) (hc : CmpOk c) (hcf : ∀ a b, cf a b < 0 ↔ c a b < 0) (g : Nat)
    (eg : ∀ args w, (callFunc g args).run Tryz.prog w = .ok (.enter g args) w)
    (hcmp : ∀ a b, P a → P b → ∀ w, Calls Tryz.prog g #[.agg (f a).toArray, .agg (f b).toArray] w fun e w' => e = .returned (.int .i64 (cf a b)) ∧ Grew w w')
    {w0 w : World} {cs : List Chunk} (S : Mem w0 w cs) (i : Nat) {B E : Nat} {v : Value} {xs : List T} (hi : cs[i]? = some (.own r B E v xs)) (hP : ∀ x ∈ xs, P x) (hl : xs.length ≤ 1000000) :
    Calls Tryz.prog (ρ.f 6) #[v, .func (.func g) #[] #[]] w (GivesSorted r c w0 cs i B E v xs) := by
  cases hxs : xs with
  | nil =>
    subst hxs
    obtain ⟨A, c1, rfl⟩ := (S.ow i hi).len
    refine (AnyF.slices_SortFunc_none L A c1 _ w).mono ?_
    rintro e w' ⟨rfl, rfl⟩
    exact ⟨rfl, [], List.Perm.refl _, List.Pairwise.nil, by
      have : cs.set i (.own r B E (.slice A ([] : List T).length c1) []) = cs := by
        obtain ⟨h2, h3⟩ := List.getElem?_eq_some_iff.1 hi
        rw [← h3]; exact List.set_getElem_self h2
      rw [this]; exact S⟩
  | cons x0 r0 =>
    rw [← hxs]
    have hx0 : P x0 := hP x0 (by rw [hxs]; simp)
    haveI : Inhabited {x // P x} := ⟨⟨x0, hx0⟩⟩
    have hne : 1 ≤ xs.length := by rw [hxs]; simp
    obtain ⟨gb, cap, rfl, hcap⟩ := (S.ow i hi).form hne
    have hg := S.lt (List.mem_of_getElem? hi) (k := gb) rfl
    have hH := Own.holdsK hf hk0 (S.ow i hi) rfl hk
    obtain ⟨d, hd⟩ : ∃ d : Array {x // P x}, d.map Subtype.val = xs.toArray := ⟨(xs.attach.map fun x => (⟨x.1, hP x.1 x.2⟩ : {x // P x})).toArray, by simp [Function.comp_def]⟩
    have hds : d.size = xs.length := by have := congrArg Array.size hd; simpa using this
    have hH2 : HoldsK (fun x : {x // P x} => f x.1) r.size w gb 0 d := by
      unfold HoldsK at hH ⊢
      rw [flatK_val, hd]; exact hH
    have hcon := AnyQ.slices_SortFunc L r.size aE zE (fun x : {x // P x} => f x.1) (fun x => hk x.1) (fun x => h1 x.1) (fun a b => cf a.1 b.1)
      (by
        have h2 : ltOf (fun a b : {x // P x} => cf a.1 b.1) = ltOf (fun a b : {x // P x} => c a.1 b.1) := by
          funext a b
          unfold ltOf
          rw [decide_eq_decide]; exact hcf a.1 b.1
        rw [h2]
        exact (hc.of (Subtype.val : {x // P x} → T)).swo)
      g #[] gb 0 cap d w eg (fun m os dk hs x y => hcmp x.1 y.1 x.2 y.2 _) hH2 hg (by omega)
    rw [hds] at hcon
    refine hcon.mono ?_
    rintro e w' ⟨rfl, d', n, os, hp, hs, rfl⟩
    obtain ⟨hp1, _, hp2⟩ := hp
    have hds' : d'.size = xs.length := hp1.trans hds
    have hpl : d'.toList.Perm d.toList := by
      have e1 : d'.extract 0 xs.length = d' := by rw [← hds']; simp
      have e2 : d.extract 0 xs.length = d := by rw [← hds]; simp
      rw [e1, e2] at hp2; exact hp2
    refine ⟨rfl, d'.toList.map Subtype.val, ?_, ?_, ?_⟩
    · have h3 := hpl.map Subtype.val
      have h4 : d.toList.map Subtype.val = xs := by
        have := congrArg Array.toList hd
        simpa using this
      rw [h4] at h3; exact h3
    · rw [List.pairwise_map, List.pairwise_iff_getElem]
      intro p q hp' hq hpq
      have hp3 : p < d'.size := by simpa using hp'
      have hq3 : q < d'.size := by simpa using hq
      have h5 := hs p q (Nat.zero_le _) hpq (by omega)
      rw [getElem!_pos d' q hq3, getElem!_pos d' p hp3] at h5
      unfold ltOf at h5
      simp only [decide_eq_false_iff_not] at h5
      rw [hcf] at h5
      have h6 := hc.anti d'[q].1 d'[p].1
      have h7 := hc.anti d'[p].1 d'[q].1
      simp only [Array.getElem_toList]
      omega
    · have h8 : sortWorldK (fun x : {x // P x} => f x.1) r.size w gb 0 n d' os = sortWorldK f r.size w gb 0 n (d'.toList.map Subtype.val).toArray os := by
        unfold sortWorldK putRowK
        rw [flatK_val]
        rw [← Array.toList_map, Array.toArray_toList]
      rw [h8]
      exact S.sortedK hf hk0 hk i hi (by rw [List.length_map, Array.length_toList, hds'])
end Go.Proofs.YtmlpkejeglpciaaGreatDoor

/- What slices.Clone, slices.SortFunc and handmake.Sorted make of events. -/
namespace Go.Proofs.YtmlpkejeglpciaaGreatDoor
open Go Go.RowKit Go.Sort Go.Shelf
def GivesOwnE (l : List EQ) (w : World) (e : Ending) (w' : World) : Prop := ∃ v, e = .returned v ∧ Mem w w' [.own rEQ w.heap.size 47 v l]
set_option maxHeartbeats 4000000 in
set_option maxRecDepth 100000 in
theorem cloneE_any (A : Option Addr) (l : List EQ) (c : Nat) (w : World) (hL : Sl rEQ (fun _ => False) w A l) (hl : l.length ≤ 1000) (hc : A = none → c = 0) :
    Calls Tryz.prog 66 #[.slice A l.length c] w (GivesOwnE l w) := by
  have he : ∀ (a : Option Addr) (n c : Nat) (w : World), (binOp .eql 36 (.slice a n c) (.slice none 0 0)).run Tryz.prog w = .ok (.bool a.isNone) w := fun a n c w => Lib.run_eql_slice_nil w _ _ a n c 0 0 tyEvt.under
  cases A with
  | none =>
    obtain rfl := Sl.nilOf hL
    obtain rfl := hc rfl
    go_enter Tryz.func66, Tryz.ntmps66
    go_wp2_with fail
    go_ret
    exact ⟨_, rfl, (Mem.start w).nil rEQ w.heap.size 47⟩
  | some ad =>
    have S := (Mem.start w).newAt #[] 47 w.heap.size rfl
    have S1 : Mem w (w.alloc (.cells #[] 47)) [.own rEQ w.heap.size 47 (.slice (some ⟨w.heap.size, 0, none⟩) 0 0) []] := S.room (r := rEQ) 0 rfl rfl (by decide) rfl
    have Hc := Lib.hid (Sl.flatCells flatEQ (fun _ => rfl) (hL.keepB S1.b))
    have hsz := S1.b.size
    have HS := Lib.hid S1
    have Hl := Lib.hid hl
    clear S S1 hL hl hc
    go_enter Tryz.func66, Tryz.ntmps66
    go_wp2_with (at_builtin; refine HS.out.appN flatEQ 0 rfl tyEvt rfl _ _ rfl l l.length c rfl rfl ad rfl Hc.out (fun y _ => oneEQ y) (fun _ => rfl) hsz (by simp only [List.length_nil]; have := Hl.out; omega) (by decide) ?_; intro v5 w5 S5)
    go_ret
    exact ⟨_, rfl, S5⟩
def cfE (a b : EQ) : Int := if befE a.e b.e = true then -1 else 1
def ordQ (a b : EQ) : Int := ordE a.e b.e
theorem ordQ_ok : CmpOk ordQ := by
  have h : ordQ = lexC (fun a b => Lib.compareInt a.e.at' b.e.at') (fun a b => cmpS a.e.id b.e.id) := rfl
  rw [h]
  exact (cmpOkI.of (fun q : EQ => q.e.at')).lex (cmpOkS.of (fun q : EQ => q.e.id))
theorem cfE_neg (a b : EQ) : cfE a b < 0 ↔ ordQ a b < 0 := by
  unfold cfE ordQ
  rw [ordE_neg]
  cases befE a.e b.e <;> simp
end Go.Proofs.YtmlpkejeglpciaaGreatDoor

/- The plain law of a log of events: what stands in order in the program's log and as it came in the reference's. No program is in sight. -/
namespace Go.Proofs.YtmlpkejeglpciaaGreatDoor
open Go Go.RowKit
structure LogE (l : List Evt) : Prop where
  so : l.Pairwise (fun a b => ordE a b < 0)
  id : (l.map Evt.id).Nodup
theorem LogE.nil : LogE [] := ⟨.nil, .nil⟩
theorem ordE_zero {a b : Evt} (h : ordE a b = 0) : a.at' = b.at' ∧ a.id = b.id := by
  unfold ordE at h
  split at h
  · rename_i h1; exact absurd h h1
  · rename_i h1
    have h2 : Lib.compareInt a.at' b.at' = 0 := Decidable.not_not.1 h1
    refine ⟨?_, (cmpS_zero _ _).1 h⟩
    unfold Lib.compareInt at h2
    split at h2
    · omega
    · split at h2 <;> omega
theorem ordE_of {a b : Evt} (h1 : a.at' = b.at') (h2 : a.id = b.id) : ordE a b = 0 := by
  unfold ordE
  rw [h1, h2]
  have : Lib.compareInt b.at' b.at' = 0 := by unfold Lib.compareInt; simp
  rw [this, if_neg (by decide)]
  exact (cmpS_zero _ _).2 rfl
theorem LogE.at_id {l : List Evt} (h : LogE l) {i j : Nat} {a b : Evt} (hi : l[i]? = some a) (hj : l[j]? = some b) (e : a.id = b.id) : i = j := by
  have h1 := List.pairwise_iff_getElem.1 h.id
  obtain ⟨hl1, e1⟩ := List.getElem?_eq_some_iff.1 hi
  obtain ⟨hl2, e2⟩ := List.getElem?_eq_some_iff.1 hj
  rcases Nat.lt_trichotomy i j with h2 | h2 | h2
  · have := h1 i j (by rw [List.length_map]; exact hl1) (by rw [List.length_map]; exact hl2) h2
    rw [List.getElem_map, List.getElem_map, e1, e2] at this
    exact absurd e this
  · exact h2
  · have := h1 j i (by rw [List.length_map]; exact hl2) (by rw [List.length_map]; exact hl1) h2
    rw [List.getElem_map, List.getElem_map, e1, e2] at this
    exact absurd e.symm this
theorem LogE.del {l : List Evt} (h : LogE l) (i : Nat) : LogE (l.take i ++ l.drop (i + 1)) := by
  rw [← List.eraseIdx_eq_take_drop_succ]
  have hs := List.eraseIdx_sublist l i
  exact ⟨h.so.sublist hs, h.id.sublist (hs.map _)⟩
def IsPlE (l : List Evt) (e : Evt) (i : Nat) : Prop := i ≤ l.length ∧ (∀ (p : Nat) s, p < i → l[p]? = some s → ordE s e < 0) ∧ (∀ (p : Nat) s, i ≤ p → l[p]? = some s → ¬ ordE s e < 0)
theorem ordE_ok : CmpOk ordE := by
  have := ordQ_ok
  exact ⟨fun a b => this.anti ⟨a, none, 0⟩ ⟨b, none, 0⟩, fun a b d => this.trans ⟨a, none, 0⟩ ⟨b, none, 0⟩ ⟨d, none, 0⟩⟩
theorem LogE.ins {l : List Evt} (h : LogE l) {e : Evt} (hn : ∀ x ∈ l, x.id ≠ e.id) {i : Nat} (hp : IsPlE l e i) : LogE (l.take i ++ e :: l.drop i) := by
  have hlo : ∀ x ∈ l.take i, ordE x e < 0 := fun x hx => by
    obtain ⟨k, hk, rfl⟩ := List.getElem_of_mem hx
    rw [List.length_take] at hk
    rw [List.getElem_take]
    exact hp.2.1 k _ (by omega) (List.getElem?_eq_getElem (by omega))
  have hhi : ∀ x ∈ l.drop i, ordE e x < 0 := fun x hx => by
    have hxm := List.mem_of_mem_drop hx
    obtain ⟨k, hk, rfl⟩ := List.getElem_of_mem hx
    rw [List.length_drop] at hk
    rw [List.getElem_drop] at hxm ⊢
    have h1 := hp.2.2 (i + k) _ (by omega) (List.getElem?_eq_getElem (by omega))
    have h2 := ordE_ok.anti e l[i + k]
    have h3 := ordE_ok.anti l[i + k] e
    have h4 : ordE l[i + k] e ≠ 0 := fun e0 => hn _ hxm (ordE_zero e0).2
    omega
  refine ⟨List.pairwise_append.2 ⟨h.so.sublist (List.take_sublist _ _), List.pairwise_cons.2 ⟨hhi, h.so.sublist (List.drop_sublist _ _)⟩, fun a ha b hb => ?_⟩, ?_⟩
  · rcases List.mem_cons.1 hb with rfl | hb
    · exact hlo a ha
    · have h1 := hlo a ha
      have h2 := hhi b hb
      have h3 := ordE_ok.trans a e b (by omega) (by omega)
      have h4 : ordE a b ≠ 0 := fun e0 => by
        have h5 := ordE_ok.anti a b
        have h6 := ordE_ok.trans b a e (by have := ordE_ok.anti b a; omega) (by omega)
        have h7 := ordE_ok.anti b e
        have h8 := ordE_ok.anti e b
        omega
      omega
  · have hperm : (l.take i ++ e :: l.drop i).Perm (e :: l) := by
      have h2 : (l.take i ++ e :: l.drop i).Perm (e :: (l.take i ++ l.drop i)) := List.perm_middle
      rwa [List.take_append_drop] at h2
    rw [(hperm.map Evt.id).nodup_iff, List.map_cons, List.nodup_cons]
    refine ⟨fun hm => ?_, h.id⟩
    obtain ⟨x, hx, e1⟩ := List.mem_map.1 hm
    exact hn x hx e1
structure LogS (l c : List Evt) (g gn : List ByteArray) : Prop where
  lo : LogE l
  pe : l.Perm c
  gs : ∀ s, s ∈ g ↔ s ∈ gn
  nd : g.Nodup ∧ gn.Nodup
  ap : ∀ x ∈ l, x.id ∉ g
theorem LogS.start : LogS [] [] [] [] := ⟨LogE.nil, .nil, fun _ => Iff.rfl, ⟨.nil, .nil⟩, fun _ h => (by cases h)⟩
theorem LogS.sorted {l c ys : List Evt} {g gn : List ByteArray} (h : LogS l c g gn) (hp : ys.Perm c) (hs : ys.Pairwise (fun a b => ordE a b ≤ 0)) : ys = l := by
  have hpp := hp.trans h.pe.symm
  have hn : (ys.map Evt.id).Nodup := by rw [(hpp.map Evt.id).nodup_iff]; exact h.lo.id
  have hst : ys.Pairwise (fun a b => ordE a b < 0) := by
    rw [List.nodup_iff_pairwise_ne, List.pairwise_map] at hn
    refine (hs.and hn).imp ?_
    rintro a b ⟨h1, h2⟩
    have : ordE a b ≠ 0 := fun e0 => h2 (ordE_zero e0).2
    omega
  refine strict_eq (fun a b : Evt => ordE a b < 0) (fun x hx => ?_) (fun x y z h1 h2 => ?_) _ _ hst h.lo.so (fun x => hpp.mem_iff)
  · have := ordE_ok.refl x
    omega
  · have h3 := ordE_ok.trans x y z (by omega) (by omega)
    have h4 : ordE x z ≠ 0 := fun e0 => by
      have h5 := ordE_ok.anti x z
      have h6 := ordE_ok.trans z x y (by have := ordE_ok.anti z x; omega) (by omega)
      have h7 := ordE_ok.anti y z
      have h8 := ordE_ok.anti z y
      omega
    omega
theorem LogS.add {l c : List Evt} {g gn : List ByteArray} (h : LogS l c g gn) {e : Evt} (hn : ∀ x ∈ l, x.id ≠ e.id) (hg : e.id ∉ g) {i : Nat} (hp : IsPlE l e i) : LogS (l.take i ++ e :: l.drop i) (c ++ [e]) g gn := by
  refine ⟨h.lo.ins hn hp, ?_, h.gs, h.nd, fun x hx => ?_⟩
  · have h2 : (l.take i ++ e :: l.drop i).Perm (e :: (l.take i ++ l.drop i)) := List.perm_middle
    rw [List.take_append_drop] at h2
    exact h2.trans ((h.pe.cons e).trans (List.perm_append_comm (l₁ := [e])))
  · rcases List.mem_append.1 hx with hx | hx
    · exact h.ap x (List.mem_of_mem_take hx)
    · rcases List.mem_cons.1 hx with rfl | hx
      · exact hg
      · exact h.ap x (List.mem_of_mem_drop hx)
theorem LogS.same {l c : List Evt} {g gn : List ByteArray} (h : LogS l c g gn) {x y : Evt} (hx : x ∈ l) (hy : y ∈ c) (e : x.id = y.id) : x = y := by
  have hy2 := h.pe.mem_iff.2 hy
  obtain ⟨i, hi⟩ := List.mem_iff_getElem?.1 hx
  obtain ⟨j, hj⟩ := List.mem_iff_getElem?.1 hy2
  have := h.lo.at_id hi hj e
  subst this
  exact Option.some.inj (hi.symm.trans hj)
theorem LogS.goes {l c : List Evt} {g gn g' : List ByteArray} {s : ByteArray} (h : LogS l c g gn) (hs : s ∉ g) (hn : g'.Nodup) (hg : ∀ x, x ∈ g' ↔ x ∈ g ∨ x = s) (hl : ∀ x ∈ l, x.id ≠ s) : LogS l c g' (gn ++ [s]) := by
  refine ⟨h.lo, h.pe, fun x => ?_, ⟨hn, ?_⟩, fun x hx hm => ?_⟩
  · rw [hg, h.gs, List.mem_append, List.mem_singleton]
  · refine List.nodup_append.2 ⟨h.nd.2, List.pairwise_singleton _ _, fun a ha b hb e => ?_⟩
    rw [List.mem_singleton.1 hb] at e
    rw [e] at ha
    exact hs ((h.gs s).2 ha)
  · rcases (hg x.id).1 hm with h1 | h1
    · exact h.ap x hx h1
    · exact hl x hx h1
theorem perm_del {α : Type} {l : List α} {i : Nat} {x : α} (h : l[i]? = some x) : (x :: (l.take i ++ l.drop (i + 1))).Perm l := by
  obtain ⟨hl, e⟩ := List.getElem?_eq_some_iff.1 h
  have h1 : l.drop i = x :: l.drop (i + 1) := by rw [List.drop_eq_getElem_cons hl, e]
  have h2 : (l.take i ++ x :: l.drop (i + 1)).Perm (x :: (l.take i ++ l.drop (i + 1))) := List.perm_middle
  rw [← h1, List.take_append_drop] at h2
  exact h2.symm
theorem LogS.takes {l c : List Evt} {g gn g' : List ByteArray} {s : ByteArray} (h : LogS l c g gn) (hs : s ∉ g) (hn : g'.Nodup) (hg : ∀ x, x ∈ g' ↔ x ∈ g ∨ x = s) {i k : Nat} {x y : Evt} (hi : l[i]? = some x) (hk : c[k]? = some y) (hx : x.id = s) (hy : y.id = s) : LogS (l.take i ++ l.drop (i + 1)) (c.take k ++ c.drop (k + 1)) g' (gn ++ [s]) := by
  have hxy : x = y := h.same (List.mem_of_getElem? hi) (List.mem_of_getElem? hk) (hx.trans hy.symm)
  subst hxy
  have p1 := perm_del hi
  have p2 := perm_del hk
  have hp : (l.take i ++ l.drop (i + 1)).Perm (c.take k ++ c.drop (k + 1)) := (p1.trans (h.pe.trans p2.symm)).cons_inv
  have hne : ∀ y ∈ l.take i ++ l.drop (i + 1), y.id ≠ s := fun y hy e => by
    have h1 : ((x :: (l.take i ++ l.drop (i + 1))).map Evt.id).Nodup := by rw [((p1).map Evt.id).nodup_iff]; exact h.lo.id
    rw [List.map_cons, List.nodup_cons] at h1
    exact h1.1 (by rw [hx, ← e]; exact List.mem_map_of_mem hy)
  have hmem : ∀ y ∈ l.take i ++ l.drop (i + 1), y ∈ l := fun y hy => by
    rcases List.mem_append.1 hy with hy | hy
    · exact List.mem_of_mem_take hy
    · exact List.mem_of_mem_drop hy
  have h2 : LogS (l.take i ++ l.drop (i + 1)) (c.take k ++ c.drop (k + 1)) g gn := ⟨h.lo.del i, hp, h.gs, h.nd, fun y hy => h.ap y (hmem y hy)⟩
  exact h2.goes hs hn hg hne
end Go.Proofs.YtmlpkejeglpciaaGreatDoor
