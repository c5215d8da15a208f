/- Several texts in one: ZoneLaw, Zone, Odd, GenZone, Clock, Local, Bytes, Happen. -/
import Derived.Test.YtbbljokemhjkhaaGreatDoorPackW
import Derived.Test.YtbbljokemhjkhaaGreatDoorPackB
import Derived.Test.YtbbljokemhjkhaaGreatDoorPackM
import Derived.WalkLawsBesides
import Derived.OneCell
import Derived.RangeFuncNested
import Derived.RangeFuncBound
import Derived.RangeFuncCalls
import Derived.RangeFuncLeaves
import Derived.RangeFuncBox
import Derived.Shelf.Abstract
import Derived.Shelf.RegionOpen
import Derived.WalkKit
import Derived.OwnWalkIn
import Derived.TacticsInMore
import Derived.LoopNIn
import Derived.LoopIn
import Derived.Test.YtbbljokemhjkhaaGreatDoorRows
import Derived.ProofKit
import Derived.OwnWalk
import Derived.Below
import Derived.Lib.Hide
import Derived.Lib.Builder
import Derived.Lib.AppendStr
import Derived.Lib.UnsafeStr
import Derived.Lib.Strings
import Derived.Lib.ConvBytes
import Derived.Laws.BytesArg
import Derived.StillTailTactics
import Derived.Deep.RegionLaw
import Derived.Handy
import Derived.Carry
/- The plain law of zones: what clocks show, and when they first show a minute. No program in sight. -/
namespace Go.Proofs.YtbbljokemhjkhaaGreatDoor
/-- from at on, clocks show off minutes more -/
structure Sft where
  at' : Int
  off : Int
def shiftsGo (prev : Option Int) : List Sft → Int
  | [] => 0
  | s :: r => if ¬ ((0 ≤ s.at' ∧ s.at' ≤ 4321439) ∧ (-720 ≤ s.off ∧ s.off ≤ 840)) then 1 else if prev = none ∧ s.at' ≠ 0 then 3 else
    if prev.any (fun p => decide (s.at' < p + 1800)) then 7 else shiftsGo (some s.at') r
theorem shiftsGo_rng (prev : Option Int) (s : Sft) (r : List Sft) (h : ¬ ((0 ≤ s.at' ∧ s.at' ≤ 4321439) ∧ (-720 ≤ s.off ∧ s.off ≤ 840))) : shiftsGo prev (s :: r) = 1 := by
  unfold shiftsGo; rw [if_pos h]
theorem shiftsGo_first (s : Sft) (r : List Sft) (h : (0 ≤ s.at' ∧ s.at' ≤ 4321439) ∧ (-720 ≤ s.off ∧ s.off ≤ 840)) (hz : s.at' ≠ 0) : shiftsGo none (s :: r) = 3 := by
  unfold shiftsGo; rw [if_neg (not_not_intro h), if_pos ⟨rfl, hz⟩]
theorem shiftsGo_zero (s : Sft) (r : List Sft) (h : (0 ≤ s.at' ∧ s.at' ≤ 4321439) ∧ (-720 ≤ s.off ∧ s.off ≤ 840)) (hz : s.at' = 0) : shiftsGo none (s :: r) = shiftsGo (some s.at') r := by
  rw [shiftsGo, if_neg (not_not_intro h), if_neg (fun h => h.2 hz)]
  rfl
theorem shiftsGo_next (p : Int) (s : Sft) (r : List Sft) (h : (0 ≤ s.at' ∧ s.at' ≤ 4321439) ∧ (-720 ≤ s.off ∧ s.off ≤ 840)) : shiftsGo (some p) (s :: r) = if s.at' < p + 1800 then 7 else shiftsGo (some s.at') r := by
  rw [shiftsGo, if_neg (not_not_intro h), if_neg (fun h => by cases h.1)]
  simp
def zoneFault (nm : ByteArray) (xs : List Sft) : Int := if L.isKey nm = false then 5 else if xs.length = 0 then 3 else if 100 < xs.length then 2 else shiftsGo none xs
/-- what clocks show at m -/
def clk (xs : List Sft) (m : Int) : Int := xs.foldl (fun a s => if s.at' ≤ m then m + s.off else a) m
theorem clk_past (xs : List Sft) (m a : Int) (h : ∀ t ∈ xs, m < t.at') : xs.foldl (fun a s => if s.at' ≤ m then m + s.off else a) a = a := by
  induction xs generalizing a with
  | nil => rfl
  | cons s r ih =>
    rw [List.foldl_cons, if_neg (by have := h s (by simp); omega)]
    exact ih a (fun t ht => h t (by simp [ht]))
theorem clk_at (xs : List Sft) (m : Int) (k : Nat) (s : Sft) (hk : xs[k]? = some s) (h1 : s.at' ≤ m) (h2 : ∀ (j : Nat) (t : Sft), k < j → xs[j]? = some t → m < t.at') : clk xs m = m + s.off := by
  have hlt : k < xs.length := (List.getElem?_eq_some_iff.1 hk).1
  have e : xs = xs.take k ++ s :: xs.drop (k + 1) := by
    have : xs[k] = s := by simpa [List.getElem?_eq_getElem hlt] using hk
    rw [← this, ← List.drop_eq_getElem_cons hlt, List.take_append_drop]
  unfold clk
  rw [e, List.foldl_append, List.foldl_cons, if_pos h1]
  refine clk_past _ _ _ fun t ht => ?_
  obtain ⟨i, hi, he⟩ := List.getElem_of_mem ht
  refine h2 (k + 1 + i) t (by omega) ?_
  rw [List.getElem_drop] at he
  rw [← he]
  exact List.getElem?_eq_getElem _
theorem clk_none (xs : List Sft) (m : Int) (h : ∀ (j : Nat) (t : Sft), xs[j]? = some t → m < t.at') : clk xs m = m := by
  refine clk_past _ _ _ fun t ht => ?_
  obtain ⟨i, hi, he⟩ := List.getElem_of_mem ht
  exact h i t (by rw [List.getElem?_eq_getElem hi, he])
theorem clk_le (xs : List Sft) (m : Int) (h : ∀ s ∈ xs, -720 ≤ s.off ∧ s.off ≤ 840) : m - 720 ≤ clk xs m ∧ clk xs m ≤ m + 840 := by
  have : ∀ (l : List Sft) (a : Int), (∀ s ∈ l, -720 ≤ s.off ∧ s.off ≤ 840) → m - 720 ≤ a → a ≤ m + 840 → m - 720 ≤ l.foldl (fun a s => if s.at' ≤ m then m + s.off else a) a ∧ l.foldl (fun a s => if s.at' ≤ m then m + s.off else a) a ≤ m + 840 := by
    intro l
    induction l with
    | nil => intro a _ h1 h2; exact ⟨h1, h2⟩
    | cons s r ih =>
      intro a hs h1 h2
      rw [List.foldl_cons]
      have := hs s (by simp)
      refine ih _ (fun t ht => hs t (by simp [ht])) ?_ ?_ <;> split <;> omega
  exact this xs m h (by omega) (by omega)
/-- a right zone's shifts -/
structure GoodZ (xs : List Sft) : Prop where
  ne : 1 ≤ xs.length
  len : xs.length ≤ 100
  rng : ∀ s ∈ xs, (0 ≤ s.at' ∧ s.at' ≤ 4321439) ∧ (-720 ≤ s.off ∧ s.off ≤ 840)
  zero : ∀ s : Sft, xs[0]? = some s → s.at' = 0
  rise : ∀ (i j : Nat) (s t : Sft), i < j → xs[i]? = some s → xs[j]? = some t → s.at' < t.at'
theorem shiftsGo_ok (xs : List Sft) (prev : Option Int) (h : shiftsGo prev xs = 0) : (∀ s ∈ xs, (0 ≤ s.at' ∧ s.at' ≤ 4321439) ∧ (-720 ≤ s.off ∧ s.off ≤ 840)) ∧ (prev = none → ∀ s : Sft, xs[0]? = some s → s.at' = 0) ∧
    (∀ p, prev = some p → ∀ s ∈ xs, p < s.at') ∧ (∀ (i j : Nat) (s t : Sft), i < j → xs[i]? = some s → xs[j]? = some t → s.at' < t.at') := by
  induction xs generalizing prev with
  | nil => exact ⟨(fun _ h => by cases h), (fun _ _ h => by simp at h), (fun _ _ _ h => by cases h), (fun _ _ _ _ _ h => by simp at h)⟩
  | cons s r ih =>
    unfold shiftsGo at h
    split at h
    · cases h
    rename_i h1
    split at h
    · cases h
    rename_i h2
    split at h
    · cases h
    rename_i h3
    obtain ⟨i1, _, i3, i4⟩ := ih _ h
    have h1 := Classical.not_not.1 h1
    have hp : ∀ p, prev = some p → p < s.at' := fun p hp => by subst hp; simp at h3; omega
    refine ⟨fun t ht => ?_, fun hn t ht => ?_, fun p hp' t ht => ?_, fun i j a b hij ha hb => ?_⟩
    · rcases List.mem_cons.1 ht with rfl | ht
      · exact h1
      · exact i1 t ht
    · have : s = t := by simpa using ht
      subst this
      exact Classical.not_not.1 fun h => h2 ⟨hn, h⟩
    · have := hp p hp'
      rcases List.mem_cons.1 ht with rfl | ht
      · exact this
      · have := i3 _ rfl t ht; omega
    · cases j with
      | zero => omega
      | succ j =>
        have hb : r[j]? = some b := by simpa using hb
        cases i with
        | zero =>
          have : s = a := by simpa using ha
          subst this
          exact i3 _ rfl b (List.mem_of_getElem? hb)
        | succ i => exact i4 i j a b (by omega) (by simpa using ha) hb
theorem zone_good {nm : ByteArray} {xs : List Sft} (h : zoneFault nm xs = 0) : GoodZ xs := by
  unfold zoneFault at h
  split at h
  · cases h
  split at h
  · cases h
  split at h
  · cases h
  obtain ⟨h1, h2, _, h4⟩ := shiftsGo_ok _ _ h
  exact ⟨by omega, by omega, h1, h2 rfl, h4⟩
/-- the least moment from lo on at which clocks show at least T -/
def FirstAt (xs : List Sft) (lo T m : Int) : Prop := lo ≤ m ∧ m < 4321440 ∧ T ≤ clk xs m ∧ ∀ k, lo ≤ k → k < m → clk xs k < T
def NoneAt (xs : List Sft) (lo T : Int) : Prop := ∀ k, lo ≤ k → k < 4321440 → clk xs k < T
theorem FirstAt.one {xs : List Sft} {lo T m n : Int} (h : FirstAt xs lo T m) (k : FirstAt xs lo T n) : m = n := by
  obtain ⟨a1, a2, a3, a4⟩ := h
  obtain ⟨b1, b2, b3, b4⟩ := k
  rcases Int.lt_trichotomy m n with h | h | h
  · have := b4 m a1 h; omega
  · exact h
  · have := a4 n b1 h; omega
theorem FirstAt.no {xs : List Sft} {lo T m : Int} (h : FirstAt xs lo T m) (k : NoneAt xs lo T) : False := by
  have := k m h.1 h.2.1
  have := h.2.2.1
  omega
/-- where a shift ends -/
def endOf : List Sft → Int
  | [] => 4321440
  | t :: _ => t.at'
/-- what Reach gives -/
def reachGo (T : Int) : List Sft → Option Int
  | [] => none
  | s :: r => if max 0 (max s.at' (T - s.off)) < endOf r then some (max 0 (max s.at' (T - s.off))) else reachGo T r
theorem clk_in {xs : List Sft} (hz : GoodZ xs) (k : Nat) (s : Sft) (hk : xs[k]? = some s) (m : Int) (h1 : s.at' ≤ m) (h2 : ∀ t : Sft, xs[k + 1]? = some t → m < t.at') : clk xs m = m + s.off := by
  refine clk_at xs m k s hk h1 fun j t hj ht => ?_
  by_cases hj' : j = k + 1
  · subst hj'; exact h2 t ht
  · have hlt : k + 1 < xs.length := by have := (List.getElem?_eq_some_iff.1 ht).1; omega
    have h3 : xs[k + 1]? = some xs[k + 1] := List.getElem?_eq_getElem hlt
    have := h2 _ h3
    have := hz.rise (k + 1) j _ t (by omega) h3 ht
    omega
/-- before the shift k, all moments having been looked at -/
theorem reach_from {xs : List Sft} (hz : GoodZ xs) (T : Int) : ∀ (l : List Sft) (k : Nat), xs.drop k = l → (∀ m, 0 ≤ m → (∀ s : Sft, xs[k]? = some s → m < s.at') → m < 4321440 → clk xs m < T) →
    (∀ m, reachGo T l = some m → FirstAt xs 0 T m) ∧ (reachGo T l = none → NoneAt xs 0 T)
  | [], k, hd, hb => ⟨(fun m h => by cases h), fun _ m h1 h2 => hb m h1 (fun s hs => by rw [List.drop_eq_nil_iff] at hd; rw [List.getElem?_eq_none hd] at hs; cases hs) h2⟩
  | s :: r, k, hd, hb => by
    have hlt : k < xs.length := by
      rcases Nat.lt_or_ge k xs.length with h | h
      · exact h
      · rw [List.drop_eq_nil_of_le h] at hd; cases hd
    have hc := List.drop_eq_getElem_cons hlt
    rw [hd] at hc
    obtain ⟨rfl, hr⟩ := List.cons.inj hc
    have hk : xs[k]? = some xs[k] := List.getElem?_eq_getElem hlt
    have hR := hz.rng _ (List.getElem_mem hlt)
    obtain ⟨e, he1, he2⟩ : ∃ e : Int, endOf r = e ∧ e ≤ 4321440 ∧ (∀ m : Int, m < e → ∀ t : Sft, xs[k + 1]? = some t → m < t.at') ∧ (∀ m : Int, m < 4321440 → (∀ t : Sft, xs[k + 1]? = some t → m < t.at') → m < e) := by
      refine ⟨_, rfl, ?_⟩
      rcases hrr : r with _ | ⟨t, r'⟩
      · rw [hrr] at hr
        refine ⟨Int.le_refl _, fun m _ t ht => ?_, fun m h _ => h⟩
        have := List.drop_eq_nil_iff.1 hr.symm
        rw [List.getElem?_eq_none this] at ht; cases ht
      · have ht : xs[k + 1]? = some t := by
          have : (xs.drop (k + 1))[0]? = some t := by rw [← hr, hrr]; rfl
          simpa using this
        have := hz.rng t (List.mem_of_getElem? ht)
        exact ⟨by show t.at' ≤ _; omega, fun m h u hu => by rw [ht] at hu; cases hu; exact h, fun m _ h => h t ht⟩
    obtain ⟨he2, he3, he4⟩ := he2
    unfold reachGo
    rw [he1]
    have below : ∀ m, 0 ≤ m → m < e → m < max 0 (max xs[k].at' (T - xs[k].off)) → clk xs m < T := fun m h0 h1 h2 => by
      by_cases hm : m < xs[k].at'
      · exact hb m h0 (fun s hs => by rw [hk] at hs; cases hs; exact hm) (by omega)
      · rw [clk_in hz k _ hk m (by omega) (he3 m h1)]; omega
    split
    · rename_i hm
      refine ⟨fun m h => ?_, fun h => by cases h⟩
      obtain rfl := Option.some.inj h
      refine ⟨by omega, by omega, ?_, fun m h0 h1 => below m h0 (by omega) h1⟩
      rw [clk_in hz k _ hk _ (by omega) (he3 _ hm)]; omega
    · rename_i hm
      refine reach_from hz T r (k + 1) hr.symm fun m h0 h1 h2 => below m h0 (he4 m h2 h1) (by have := he4 m h2 h1; omega)
theorem reach_first {xs : List Sft} (hz : GoodZ xs) (T : Int) : (∀ m, reachGo T xs = some m → FirstAt xs 0 T m) ∧ (reachGo T xs = none → NoneAt xs 0 T) :=
  reach_from hz T xs 0 rfl fun m h0 h1 _ => by
    have hlt : 0 < xs.length := hz.ne
    have hk : xs[0]? = some xs[0] := List.getElem?_eq_getElem hlt
    have := h1 _ hk
    have := hz.zero _ hk
    omega
end Go.Proofs.YtbbljokemhjkhaaGreatDoor

/- What event.within and event.CheckZone return. -/
namespace Go.Proofs.YtbbljokemhjkhaaGreatDoor
open Go.RowKit
theorem LV.kb {w w' : World} {X B : Nat} {cs : Array Value} {T : TypeId} (h : LV w X cs T) (k : Below B w w') (hb : X < B) : LV w' X cs T := (k.block X hb).trans h
def Sft.cells (s : Sft) : List Value := [.int .i64 s.at', .int .i64 s.off]
def rSft : Rep Sft := .flat 2 Sft.cells (fun _ => rfl)
/-- the cells of a shift in a slice -/
theorem Sl.sft {N : Nat → Prop} {w : World} {A : Option Addr} {xs : List Sft} (h : Sl rSft N w A xs) (k : Nat) (s : Sft) (hk : xs[k]? = some s) : ∃ blk off, A = some ⟨blk, off, none⟩ ∧ blk < w.heap.size ∧
    w.cell? ⟨blk, off + k * 2, none⟩ = some (.int .i64 s.at') ∧ w.cell? ⟨blk, off + k * 2 + 1, none⟩ = some (.int .i64 s.off) := by
  obtain ⟨blk, off, l, e, h1, _, h3, h4⟩ := h k s hk
  obtain rfl : l = Sft.cells s := h3
  exact ⟨blk, off, e, h1, h4 0 _ rfl, h4 1 _ rfl⟩
def Sft.small (s : Sft) : Prop := -10000000000000 ≤ s.at' ∧ s.at' ≤ 10000000000000
theorem ewithin_any (n a b : Int) (w : World) : Calls Tryz.prog 128 #[.int .i64 n, .int .i64 a, .int .i64 b] w fun e w' => e = .returned (.bool (decide (a ≤ n ∧ n ≤ b))) ∧ w = w' := by
  by_cases h1 : a ≤ n <;> by_cases h2 : n ≤ b
  all_goals
    simp only [h1, h2, and_true, and_false, decide_true, decide_false]
    go_enter Tryz.func128, Tryz.ntmps128
    go_wp2
    go_ret
    exact ⟨rfl, rfl⟩
set_option maxHeartbeats 4000000 in
set_option maxRecDepth 100000 in
theorem checkZone_any (N : Nat → Prop) (A : Option Addr) (nm : ByteArray) (xs : List Sft) (c : Nat) (w : World) (hS : Sl rSft N w A xs) (hnm : nm.size ≤ 1000000000) (hn : xs.length ≤ 1000000000) (hsm : ∀ s ∈ xs, s.small) :
    Calls Tryz.prog 127 #[.agg #[.string nm, .slice A xs.length c]] w fun e w' => e = .returned (.int .i64 (zoneFault nm xs)) ∧ Below w.heap.size w w' := by
  have Hkey : Hid (∀ w, Calls Tryz.prog 113 #[.string nm] w fun e w' => e = .returned (.bool (L.isKey nm)) ∧ Below w.heap.size w w') := fun w => (isKey_any nm w hnm).mono fun e w' ⟨h1, h2⟩ => ⟨h1, h2 ▸ Below.refl _ _⟩
  have HS := Lib.hid hS
  have Hsm := Lib.hid hsm
  clear hS hsm
  obtain ⟨R, HR⟩ : ∃ R, Hid (zoneFault nm xs = R) := ⟨_, Lib.hid rfl⟩
  rw [HR.out]
  have Hb0 : Hid (Below w.heap.size w (w.alloc (.cells #[.string nm, .slice A xs.length c] 114))) := (Below.refl _ _).alloc (Nat.le_refl _) _
  have lvZ := LV.new w w.heap.size #[.string nm, .slice A xs.length c] 114 rfl
  by_cases hK : L.isKey nm = true
  · rw [hK] at Hkey
    go_enter Tryz.func127, Tryz.ntmps127
    go_wp2_with fail
    ((with_reducible refine (Hkey.out _).mono ?_); rintro e w1 ⟨rfl, hl_w1⟩)
    have hz_w1 := hl_w1.size
    have lv1 := LV.kb lvZ hl_w1 (by simp)
    have Hb1 : Hid (Below w.heap.size w w1) := Hb0.out.trans (hl_w1.mono (by simp))
    have hz1 := Hb1.out.size
    have hlt1 := lv1.lt
    have z1 := lv1.cell 1 _ rfl
    clear hl_w1 hz_w1 lvZ Hb0 Hkey
    by_cases h0 : xs.length = 0
    · have h0' : ((xs.length : Int) == 0) = true := by simpa using h0
      have HR2 : Hid (3 = R) := by show _ = _; rw [← HR.out, zoneFault, hK, if_neg (by simp), if_pos h0]
      clear HR
      go_wp2_with fail
      go_ret
      exact ⟨ret_i HR2.out, Hb1.out⟩
    · have h0' : ((xs.length : Int) == 0) = false := by simpa using h0
      by_cases h100 : 100 < xs.length
      · have HR2 : Hid (2 = R) := by show _ = _; rw [← HR.out, zoneFault, hK, if_neg (by simp), if_neg h0, if_pos h100]
        clear HR
        go_wp2_with fail
        go_ret
        exact ⟨ret_i HR2.out, Hb1.out⟩
      · have HR2 : Hid (shiftsGo none xs = R) := by show _ = _; rw [← HR.out, zoneFault, hK, if_neg (by simp), if_neg h0, if_neg h100]
        clear HR hK
        go_wp2_with fail
        go_loopw [23] (fun i wr => ∃ k : Nat, k ≤ xs.length ∧ i = .int .i64 k ∧ shiftsGo (if k = 0 then none else (xs[k - 1]?).map Sft.at') (xs.drop k) = R ∧ Below w1.heap.size w1 wr) (fun i _ => xs.length - (intOf i).toNat)
        case atStart => exact ⟨0, Nat.zero_le _, rfl, HR2.out, Below.refl _ _⟩
        case round =>
          clear HR2
          obtain ⟨k, hk, rfl, hr, hbl⟩ := hrel
          have Hr := Lib.hid hr
          have Hbl := Lib.hid hbl
          have hszr := hbl.size
          have lvr := LV.kb lv1 hbl lv1.lt
          have zr := lvr.cell 1 _ rfl
          have Hbw : Hid (Below w.heap.size w wr) := Hb1.out.trans (hbl.mono Hb1.out.size)
          clear hr hbl z1 lv1
          by_cases hlt : k < xs.length
          · obtain ⟨s, hs⟩ : ∃ s, xs[k]? = some s := ⟨_, List.getElem?_eq_getElem hlt⟩
            obtain ⟨blk, off, rfl, hblk, c0, c1⟩ := HS.out.sft k s hs
            have d0 := (Hbw.out.cell (p := ⟨blk, off + k * 2, none⟩) hblk).trans c0
            have d1 := (Hbw.out.cell (p := ⟨blk, off + k * 2 + 1, none⟩) hblk).trans c1
            have hss := Hsm.out s (List.mem_of_getElem? hs)
            unfold Sft.small at hss
            have Hs := Lib.hid hs
            have Hstep : Hid (shiftsGo (if k = 0 then none else (xs[k - 1]?).map Sft.at') (s :: xs.drop (k + 1)) = R) := by
              show _ = _
              rw [← Hr.out, List.drop_eq_getElem_cons hlt]
              have : xs[k] = s := by simpa [List.getElem?_eq_getElem hlt] using Hs.out
              rw [this]
            clear Hr c0 c1 hs
            have Hb2 : Hid (Below w1.heap.size w1 (wr.alloc (.cells #[.int .i64 s.at', .int .i64 s.off] 111))) := Hbl.out.alloc Hbl.out.size _
            have Hbw2 : Hid (Below w.heap.size w (wr.alloc (.cells #[.int .i64 s.at', .int .i64 s.off] 111))) := Hbw.out.alloc Hbw.out.size _
            by_cases ha : 0 ≤ s.at' ∧ s.at' ≤ 4321439
            · have ea : decide ((0 : Int) ≤ s.at' ∧ s.at' ≤ 4321439) = true := by simpa using ha
              by_cases ho : -720 ≤ s.off ∧ s.off ≤ 840
              · have eo : decide ((-720 : Int) ≤ s.off ∧ s.off ≤ 840) = true := by simpa using ho
                go_wp2_with fail
                ((with_reducible refine (ewithin_any _ _ _ _).mono ?_); rintro e _ ⟨rfl, rfl⟩)
                rw [ea]
                go_wp2_with fail
                ((with_reducible refine (ewithin_any _ _ _ _).mono ?_); rintro e _ ⟨rfl, rfl⟩)
                rw [eo]
                clear ea eo d0 d1 zr
                have lvs := LV.new wr wr.heap.size #[.int .i64 s.at', .int .i64 s.off] 111 rfl
                have lvz2 := lvr.alloc (.cells #[.int .i64 s.at', .int .i64 s.off] 111)
                clear lvr
                generalize wr.alloc (.cells #[.int .i64 s.at', .int .i64 s.off] 111) = wq at *
                have s0 : wq.cell? ⟨wr.heap.size, 0, none⟩ = some (.int .i64 s.at') := lvs.cell 0 _ rfl
                have z1 : wq.cell? ⟨w.heap.size, 1, none⟩ = some (.slice (some ⟨blk, off, none⟩) xs.length c) := lvz2.cell 1 _ rfl
                clear lvs lvz2
                by_cases hk0 : k = 0
                · have hk1 : decide ((0 : Int) < (k : Int)) = false := by simp; omega
                  have hk2 : ((k : Int) == 0) = true := by simp; omega
                  by_cases hz : s.at' = 0
                  · have hz' : (s.at' == 0) = true := by simpa using hz
                    have Hn : Hid (shiftsGo (if k + 1 = 0 then none else (xs[k + 1 - 1]?).map Sft.at') (xs.drop (k + 1)) = R) := by
                      show _ = _
                      rw [← Hstep.out, if_pos hk0, shiftsGo_zero s _ ⟨ha, ho⟩ hz, if_neg (Nat.succ_ne_zero k), Nat.add_sub_cancel, Hs.out]
                      rfl
                    clear Hstep hz
                    go_wp2_with fail
                    go_quiet (fail)
                    go_wp2_with fail
                    go_roundw
                    case rel => exact ⟨k + 1, by omega, by go_num, Hn.out, Hb2.out.trans (below_drewN _ _ _)⟩
                    case measure => simp [intOf]; omega
                  · have hz' : (s.at' == 0) = false := by simpa using hz
                    have Hn : Hid (3 = R) := by
                      show _ = _
                      rw [← Hstep.out, if_pos hk0, shiftsGo_first s _ ⟨ha, ho⟩ hz]
                    clear Hstep hz
                    go_wp2_with fail
                    go_ret
                    exact ⟨ret_i Hn.out, Hbw2.out⟩
                · obtain ⟨j, rfl⟩ : ∃ j, k = j + 1 := ⟨k - 1, by omega⟩
                  obtain ⟨p, hp⟩ : ∃ p, xs[j]? = some p := ⟨_, List.getElem?_eq_getElem (by omega)⟩
                  obtain ⟨_, _, e, _, p0, _⟩ := HS.out.sft j p hp
                  cases e
                  have q0 : wq.cell? ⟨blk, off + j * 2, none⟩ = some (.int .i64 p.at') := (Hbw2.out.cell (p := ⟨blk, off + j * 2, none⟩) hblk).trans p0
                  have hps := Hsm.out p (List.mem_of_getElem? hp)
                  unfold Sft.small at hps
                  have Hp := Lib.hid hp
                  have hk1 : decide ((0 : Int) < (j : Int) + 1) = true := by rw [decide_eq_true_eq]; omega
                  have hk2 : ((j : Int) + 1 == 0) = false := by rw [beq_eq_false_iff_ne]; omega
                  have hk3 : (j : Int) + 1 - 1 = (j : Int) := by omega
                  have hsum : IntKind.i64.wrap (p.at' + 1800) = p.at' + 1800 := IntWalk.i64_in _ (by omega)
                  have Hn0 : Hid ((if s.at' < p.at' + 1800 then 7 else shiftsGo (some s.at') (xs.drop (j + 1 + 1))) = R) := by
                    show _ = _
                    rw [← Hstep.out, if_neg (Nat.succ_ne_zero j), Nat.add_sub_cancel, Hp.out]
                    exact (shiftsGo_next p.at' s _ ⟨ha, ho⟩).symm
                  clear Hstep hp p0 hk0
                  by_cases hlt7 : s.at' < p.at' + 1800
                  · have Hn : Hid (7 = R) := by show _ = _; rw [← Hn0.out, if_pos hlt7]
                    clear Hn0
                    go_wp2_with fail
                    go_quiet (fail)
                    go_wp2_with fail
                    go_ret
                    exact ⟨ret_i Hn.out, Hbw2.out.trans (below_drewN _ _ _)⟩
                  · have Hn : Hid (shiftsGo (if j + 1 + 1 = 0 then none else (xs[j + 1 + 1 - 1]?).map Sft.at') (xs.drop (j + 1 + 1)) = R) := by
                      show _ = _
                      rw [← Hn0.out, if_neg hlt7, if_neg (Nat.succ_ne_zero _), Nat.add_sub_cancel, Hs.out]
                      rfl
                    clear Hn0
                    go_wp2_with fail
                    go_quiet (fail)
                    go_wp2_with fail
                    go_roundw
                    case rel => exact ⟨j + 1 + 1, by omega, by go_num, Hn.out, Hb2.out.trans (below_drewN _ _ _)⟩
                    case measure => simp [intOf]; omega
              · have eo : decide ((-720 : Int) ≤ s.off ∧ s.off ≤ 840) = false := by simpa using ho
                have Hn : Hid (1 = R) := by show _ = _; rw [← Hstep.out, shiftsGo_rng _ s _ (fun h => ho h.2)]
                clear Hstep
                go_wp2_with fail
                ((with_reducible refine (ewithin_any _ _ _ _).mono ?_); rintro e _ ⟨rfl, rfl⟩)
                rw [ea]
                go_wp2_with fail
                ((with_reducible refine (ewithin_any _ _ _ _).mono ?_); rintro e _ ⟨rfl, rfl⟩)
                rw [eo]
                go_wp2_with fail
                go_ret
                exact ⟨ret_i Hn.out, Hbw2.out⟩
            · have ea : decide ((0 : Int) ≤ s.at' ∧ s.at' ≤ 4321439) = false := by simpa using ha
              have Hn : Hid (1 = R) := by show _ = _; rw [← Hstep.out, shiftsGo_rng _ s _ (fun h => ha h.1)]
              clear Hstep
              go_wp2_with fail
              ((with_reducible refine (ewithin_any _ _ _ _).mono ?_); rintro e _ ⟨rfl, rfl⟩)
              rw [ea]
              go_wp2_with fail
              go_ret
              exact ⟨ret_i Hn.out, Hbw2.out⟩
          · have Hn : Hid (0 = R) := by show _ = _; rw [← Hr.out, List.drop_eq_nil_of_le (by omega)]; rfl
            clear Hr
            go_wp2_with fail
            go_ret
            exact ⟨ret_i Hn.out, Hbw.out⟩
  · have hK : L.isKey nm = false := by simpa using hK
    rw [hK] at Hkey
    go_enter Tryz.func127, Tryz.ntmps127
    go_wp2_with fail
    ((with_reducible refine (Hkey.out _).mono ?_); rintro e w1 ⟨rfl, hl_w1⟩)
    have hz_w1 := hl_w1.size
    have Hb1 : Hid (Below w.heap.size w w1) := Hb0.out.trans (hl_w1.mono (by simp))
    clear lvZ hl_w1 hz_w1
    go_wp2_with fail
    go_ret
    exact ⟨ret_i (by rw [← HR.out, zoneFault, hK, if_pos rfl]), Hb1.out⟩
end Go.Proofs.YtbbljokemhjkhaaGreatDoor

/- What the generator odd makes. -/
namespace Go.Proofs.YtbbljokemhjkhaaGreatDoor
open Go.RowKit
set_option maxHeartbeats 1000000 in
theorem odd_any (b m : Nat) (lo hi : Int) (w : World) (hs : Strm b m w) (h : lo ≤ hi) (hlo : -1000000000000 ≤ lo) (hhi : hi ≤ 1000000000000) (hm : m ≤ 100000000000) :
    Calls Tryz.prog 69 #[.pointer (some ⟨b, 0, none⟩), .int .i64 lo, .int .i64 hi] w (DrawsIn b (m + 2) (-1099511627776) 1099511627776 w) := by
  have g0 := G.start hs
  clear hs
  go_enter Tryz.func69, Tryz.ntmps69
  go_wp2_with fail
  ((with_reducible refine (flip_any b m _ _ g0.s (by omega) (by omega) (by omega)).mono ?_); rintro e w1 ⟨r, rfl, hk_w1, hs_w1⟩)
  have g1 := g0.step hk_w1 hs_w1
  clear hk_w1 hs_w1 g0
  cases r
  · go_wp2_with fail
    ((with_reducible refine (range_any b (m + 1) _ _ _ g1.s (by omega) (by omega) (by omega) (by omega)).mono ?_); rintro e w2 ⟨n, n_lo, n_hi, rfl, hk_w2, hs_w2⟩)
    have g2 := g1.step hk_w2 hs_w2
    go_wp2_with fail
    go_ret
    exact ⟨n, by omega, by omega, rfl, g2.k, g2.s⟩
  · go_wp2_with fail
    ((with_reducible refine (pick_le b _ _ _ (-1099511627776) 1099511627776 g1.s (by simp) (by simp) (by repeat (first | exact intsIn_nil | refine intsIn_cons (by omega) ?_)) (by simp) (by simp) (by omega)).mono ?_); rintro e w2 ⟨n, n_lo, n_hi, rfl, hk_w2, hs_w2⟩)
    have g2 := g1.step hk_w2 hs_w2
    go_wp2_with fail
    go_ret
    exact ⟨n, by omega, by omega, rfl, g2.k, g2.s⟩
end Go.Proofs.YtbbljokemhjkhaaGreatDoor

/- What the generators odd, RightZone and Zone make. -/
namespace Go.Proofs.YtbbljokemhjkhaaGreatDoor
open Go.RowKit
theorem LV.grown {w w' : World} {X : Nat} {cs : Array Value} {T : TypeId} {row : Option Nat} (h : LV w X cs T) (g : w.grownBy w' row) (hne : row ≠ some X) : LV w' X cs T := (g.block X h.lt (fun e => hne e.symm)).trans h
section
variable {α : Type} {r : Rep α} {N : Nat → Prop} {B E : Nat} {w : World} {v : Value} {xs : List α}
theorem Own.ne {X : Nat} {cs : Array Value} {T : TypeId} (h : Own r N B E w v xs) (l : LV w X cs T) (hT : T ≠ E) : v.ownBlock ≠ some X := by
  obtain ⟨ls, _, _, ho⟩ := h
  intro e
  rcases ho.2 with ⟨rfl, _⟩ | ⟨g, cap, cur, rfl, _, hg, _⟩
  · cases e
  · obtain rfl : g = X := by simpa [Value.ownBlock] using e
    unfold LV at l
    rw [l] at hg
    cases hg
    exact hT rfl
theorem Own.base {B' : Nat} (h : Own r N B E w v xs) (hb : B' ≤ B) : Own r N B' E w v xs := by
  obtain ⟨ls, h1, h2, ho⟩ := h
  refine ⟨ls, h1, h2, ho.1, ?_⟩
  rcases ho.2 with h0 | ⟨g, cap, cur, e, hB, hrest⟩
  · exact .inl h0
  · exact .inr ⟨g, cap, cur, e, by omega, hrest⟩
theorem Own.setCell {f : α → List Value} {X : Nat} (h : Own r N B E w v xs) (hne : v.ownBlock ≠ some X) (hf : r.Flat f) (j : Nat) (u : Value) : Own r N B E (w.setCell ⟨X, j, none⟩ u) v xs := by
  obtain ⟨ls, h1, h2, ho⟩ := h
  exact ⟨ls, h1, fun i x l e1 e2 => (hf _ _ _ _).2 ((hf _ _ _ _).1 (h2 i x l e1 e2)), ownsRow_setCell_other ho (by simpa using hne) u⟩
/-- a slice that was just written out, of elements that ask nothing of memory -/
theorem Own.lit {f : α → List Value} (hf : r.Flat f) (w0 : World) (cs : Array Value) (n : Nat) (hb : B ≤ w0.heap.size) (hn : n = xs.length) (hm : n ≤ 1000000) (hcs : cs.toList = (xs.map f).flatten) (hs : cs.size = n * r.size) :
    Own r N B E (w0.alloc (.cells cs E)) (.slice (some ⟨w0.heap.size, 0, none⟩) n n) xs := by
  subst hn
  refine ⟨xs.map f, by simp, fun i x l h1 h2 => (hf _ _ _ _).2 ?_, ?_⟩
  · rw [List.getElem?_map, h1] at h2
    exact (Option.some.inj h2).symm
  · have := World.ownsRow_lit (base := B) (e := E) (size := r.size) w0 cs xs.length hb (by unfold maxLen; omega) hs
    rw [hcs] at this
    exact this
end
section
variable {ops : Array Oper} {rest : List Oper} {o : Oper} {a : Act} {Q : Exit → Act → World → Prop}
/-- append of one element that was just written out; the elements ask nothing of memory; no other block has turned -/
theorem app_flat2 {α : Type} {r : Rep α} {f : α → List Value} (hf : r.Flat f) {w0 : World} {cs : Array Value} {T E bytes : Nat} {z : Value} (ty : STy T E r.size bytes z) (hgd : o.guard = none) (s x : Operand) (ho : o.op = .call { callee := .builtin .append, args := #[s, x], argTypes := #[T, T] })
    (N : Nat → Prop) (B : Nat) (v : Value) (xs : List α) (y : α) (c : Nat) (hs : a.eval s = v) (hown : Own r N B E w0 v xs) (hx : a.eval x = .slice (some ⟨w0.heap.size, 0, none⟩) 1 c) (hcs : cs.toList = f y) (h1 : ∀ u ∈ f y, u.oneCell' = true)
    (hB : B ≤ w0.heap.size) (hlen : xs.length ≤ 100000000) (hby : bytes ≤ 1000)
    (h : ∀ v' w', Own r N B E w' v' (xs ++ [y]) → Below B w0 w' → w0.grownBy w' v.ownBlock → wpList Tryz.prog ops Q rest (a.put o.dst v') w') : wpList Tryz.prog ops Q (o :: rest) a (w0.alloc (.cells cs E)) := by
  obtain ⟨ls, hl, hr, ho2⟩ := hown
  have hsz : (f y).length = r.size := r.len ((hf N w0 y _).2 rfl)
  refine app_lit ty hgd s x ho B v xs.length ls.flatten 1 c hs ho2 hx (by have e : cs.size = (f y).length := by rw [← hcs]; simp
                                                                          omega) (by rw [hcs]; exact h1) hB (by omega) hby ?_
  intro v' w' g1 g2 g3 g4
  refine h v' w' ⟨ls ++ [f y], by simp [hl], fun i x l e1 e2 => (hf _ _ _ _).2 ?_, ?_⟩ g3 g2
  · rcases Nat.lt_or_ge i xs.length with hi | hi
    · rw [List.getElem?_append_left hi] at e1
      rw [List.getElem?_append_left (by omega)] at e2
      exact (hf _ _ _ _).1 (hr i x l e1 e2)
    · rw [List.getElem?_append_right hi] at e1
      rw [List.getElem?_append_right (by omega), hl] at e2
      cases hk : i - xs.length with
      | zero => rw [hk] at e1 e2; simp at e1 e2; rw [← e1, ← e2]
      | succ k => rw [hk] at e1; simp at e1
  · rw [List.length_append, List.flatten_append]
    simpa [hcs] using g1
end
theorem tySft : STy 112 111 rSft.size 16 (.agg #[.int .i64 0, .int .i64 0]) := ⟨Tryz.underlying112, by kernel_rfl, rfl, by decide⟩
theorem flatSft : rSft.Flat Sft.cells := fun _ _ _ _ => Iff.rfl
theorem oneSft (s : Sft) : ∀ u ∈ s.cells, u.oneCell' = true := fun u hu => by
  simp only [Sft.cells, List.mem_cons, List.not_mem_nil, or_false] at hu
  rcases hu with rfl | rfl <;> rfl
theorem off_ge' {b B : Nat} (h : b < B) : ∀ k, B ≤ k → ¬ Off b k := fun k hk e => by unfold Off at e; omega
theorem Own.stepB {α : Type} {r : Rep α} {b B E : Nat} {w w' : World} {v : Value} {xs : List α} (h : Own r (Off b) B E w v xs) (k : SK b w w') (hb : b < B) : Own r (Off b) B E w' v xs := h.keep k.n (off_ge' hb)
theorem Own.alloc {α : Type} {r : Rep α} {b B E : Nat} {w : World} {v : Value} {xs : List α} (h : Own r (Off b) B E w v xs) (o : Obj) (hb : b < B) : Own r (Off b) B E (w.alloc o) v xs := h.stepB ((SK.refl b w).alloc o) hb
theorem small_snoc {xs : List Sft} {s : Sft} (h : ∀ g ∈ xs, g.small) (hs : s.small) : ∀ g ∈ xs ++ [s], g.small := fun g hg => by
  rcases List.mem_append.1 hg with h' | h'
  · exact h g h'
  · rw [List.mem_singleton.1 h']; exact hs
/-- a zone is made -/
def DrawsZone (b m : Nat) (w : World) (e : Ending) (w' : World) : Prop := ∃ (nm : ByteArray) (v : Value) (xs : List Sft), e = .returned (.agg #[.string nm, v]) ∧ nm.size ≤ 1000 ∧ Own rSft (Off b) w.heap.size 111 w' v xs ∧ xs.length ≤ 5 ∧ (∀ s ∈ xs, s.small) ∧ G b m w w'
/-- the same, with a shift at least, and all of them early -/
def DrawsZone1 (b m : Nat) (w : World) (e : Ending) (w' : World) : Prop := ∃ (nm : ByteArray) (v : Value) (xs : List Sft), e = .returned (.agg #[.string nm, v]) ∧ nm.size ≤ 1000 ∧ Own rSft (Off b) w.heap.size 111 w' v xs ∧ 1 ≤ xs.length ∧ xs.length ≤ 4 ∧ (∀ s ∈ xs, 0 ≤ s.at' ∧ s.at' ≤ 1000000) ∧ G b m w w'
theorem early_snoc {xs : List Sft} {s : Sft} (h : ∀ g ∈ xs, 0 ≤ g.at' ∧ g.at' ≤ 1000000) (hs : 0 ≤ s.at' ∧ s.at' ≤ 1000000) : ∀ g ∈ xs ++ [s], 0 ≤ g.at' ∧ g.at' ≤ 1000000 := fun g hg => by
  rcases List.mem_append.1 hg with h' | h'
  · exact h g h'
  · rw [List.mem_singleton.1 h']; exact hs
end Go.Proofs.YtbbljokemhjkhaaGreatDoor

/- What slices.Backward over shifts hands out, and what handref2.Clock returns. -/
namespace Go.Proofs.YtbbljokemhjkhaaGreatDoor
open Go.RowKit Go.Shelf
attribute [local go_sem] Oper.semAt_some

/-- what has come when k rounds are over -/
def back (xs : List Sft) (k : Nat) : List (Nat × Sft) := (List.range k).map fun j => (xs.length - 1 - j, (xs[xs.length - 1 - j]?).getD ⟨0, 0⟩)
theorem back_succ (xs : List Sft) (k : Nat) : back xs (k + 1) = back xs k ++ [(xs.length - 1 - k, (xs[xs.length - 1 - k]?).getD ⟨0, 0⟩)] := by simp [back, List.range_succ]
theorem back_len (xs : List Sft) (k : Nat) : (back xs k).length = k := by simp [back]
/-- the slice at A reads as xs, below n₀ -/
def SftsIn (n₀ : Nat) (W : World) (A : Option Addr) (xs : List Sft) : Prop := ∀ (k : Nat) (s : Sft), xs[k]? = some s → ∃ blk off, A = some ⟨blk, off, none⟩ ∧ blk < n₀ ∧
  W.cell? ⟨blk, off + k * 2, none⟩ = some (.int .i64 s.at') ∧ W.cell? ⟨blk, off + k * 2 + 1, none⟩ = some (.int .i64 s.off)
theorem SftsIn.below {n₀ : Nat} {W W' : World} {A : Option Addr} {xs : List Sft} (h : SftsIn n₀ W A xs) (k : Below n₀ W W') : SftsIn n₀ W' A xs := fun i s hs => by
  obtain ⟨blk, off, e, h1, h2, h3⟩ := h i s hs
  exact ⟨blk, off, e, h1, (k.cell (p := ⟨blk, off + i * 2, none⟩) h1).trans h2, (k.cell (p := ⟨blk, off + i * 2 + 1, none⟩) h1).trans h3⟩
theorem Sl.inw {N : Nat → Prop} {w : World} {A : Option Addr} {xs : List Sft} (h : Sl rSft N w A xs) : SftsIn w.heap.size w A xs := fun i s hs => h.sft i s hs
def Past (m : Int) (pre : List (Nat × Sft)) : Prop := ∀ p ∈ pre, m < p.2.at'
theorem Past.snoc {m : Int} {pre : List (Nat × Sft)} (h : Past m pre) (i : Nat) (s : Sft) (hs : m < s.at') : Past m (pre ++ [(i, s)]) := fun p hp => by
  rcases List.mem_append.1 hp with h' | h'
  · exact h p h'
  · rw [List.mem_singleton.1 h']; exact hs
def LeftAt (m : Int) (pre : List (Nat × Sft)) (R : Nat) (W : World) : Prop := ∃ ini last, pre = ini ++ [last] ∧ (∀ p ∈ ini, m < p.2.at') ∧ last.2.at' ≤ m ∧ LV W R #[.int .i64 (wrap64 (m + last.2.off))] 3
theorem lv_kept {A B : World} {row : Option Nat} {X : Nat} {cs : Array Value} {T : TypeId} (h : LV A X cs T) (hg : A.grownBy B row) (hr : ∀ r, row = some r → ∃ o : Obj, A.heap[r]? = some o ∧ o.isCells = false) : LV B X cs T := by
  refine (hg.block X h.lt (fun e => ?_)).trans h
  obtain ⟨o, ho, hc⟩ := hr X e.symm
  unfold LV at h
  rw [h] at ho
  cases ho
  cases hc

end Go.Proofs.YtbbljokemhjkhaaGreatDoor

/- What event.LocalAt, DayAt, Local and Day, and handref2.down and DayOf return. -/
namespace Go.Proofs.YtbbljokemhjkhaaGreatDoor
open Go.RowKit
set_option maxHeartbeats 4000000 in
set_option maxRecDepth 100000 in
theorem local1_any (N : Nat → Prop) (A : Option Addr) (nm : ByteArray) (xs : List Sft) (c Zb Mb k : Nat) (m : Int) (s : Sft) (w : World) (hS : Sl rSft N w A xs) (_hn : xs.length ≤ 1000) (hZ : LV w Zb #[.string nm, .slice A xs.length c] 114) (hM : LV w Mb #[.int .i64 m] 3) (hk : xs[k]? = some s) :
    Calls Tryz.prog 240 #[.int .i64 (k : Int), .pointer (some ⟨Zb, 0, none⟩), .pointer (some ⟨Mb, 0, none⟩)] w fun e w' => e = .returned (.bool (decide (m < s.at'))) ∧ Below w.heap.size w w' := by
  obtain ⟨blk, off, rfl, hblk, c0, c1⟩ := hS.sft k s hk
  have hlt : k < xs.length := (List.getElem?_eq_some_iff.1 hk).1
  have z1 : w.cell? ⟨Zb, 1, none⟩ = some (.slice (some ⟨blk, off, none⟩) xs.length c) := hZ.cell 1 _ rfl
  have m0 : w.cell? ⟨Mb, 0, none⟩ = some (.int .i64 m) := hM.cell 0 _ rfl
  clear hS hZ hM hk c1
  go_enter Tryz.func240, Tryz.ntmps240
  go_wp2_with fail
  go_quiet (fail)
  go_wp2_with fail
  go_ret
  exact ⟨rfl, below_drewN _ _ _⟩
/-- where the shifts behind m begin -/
def GivesCut (xs : List Sft) (m : Int) (w : World) (e : Ending) (w' : World) : Prop :=
  ∃ i : Nat, e = .returned (.int .i64 (i : Int)) ∧ i ≤ xs.length ∧ (∀ (p : Nat) (s : Sft), p < i → xs[p]? = some s → s.at' ≤ m) ∧ (∀ (p : Nat) (s : Sft), i ≤ p → xs[p]? = some s → m < s.at') ∧ Below w.heap.size w w'
set_option maxHeartbeats 4000000 in
set_option maxRecDepth 100000 in
theorem search_any (N : Nat → Prop) (A : Option Addr) (nm : ByteArray) (xs : List Sft) (c Zb Mb : Nat) (m : Int) (w : World) (hS : Sl rSft N w A xs) (hz : GoodZ xs) (hZ : LV w Zb #[.string nm, .slice A xs.length c] 114) (hM : LV w Mb #[.int .i64 m] 3) :
    Calls Tryz.prog 239 #[.int .i64 (xs.length : Int), .func (.func 240) #[] #[.pointer (some ⟨Zb, 0, none⟩), .pointer (some ⟨Mb, 0, none⟩)]] w (GivesCut xs m w) := by
  have hn := hz.len
  have Hz := Lib.hid hz
  have HS := Lib.hid hS
  clear hS hz
  go_enter Tryz.func239, Tryz.ntmps239
  go_wp2_with fail
  go_loopw [5, 6] (fun a b wr => ∃ i j : Nat, i ≤ j ∧ j ≤ xs.length ∧ a = .int .i64 i ∧ b = .int .i64 j ∧ (∀ (p : Nat) (s : Sft), p < i → xs[p]? = some s → s.at' ≤ m) ∧ (∀ (p : Nat) (s : Sft), j ≤ p → xs[p]? = some s → m < s.at') ∧ Below w.heap.size w wr) (fun a b _ => (intOf b - intOf a).toNat)
  case atStart => exact ⟨0, xs.length, by omega, by omega, rfl, rfl, (fun p f h => by omega), (fun p f h hp => by rw [List.getElem?_eq_none h] at hp; cases hp), Below.refl _ _⟩
  case round =>
    obtain ⟨i, j, hij, hj, rfl, rfl, hlo, hhi, hbl⟩ := hrel
    have Hlo := Lib.hid hlo
    have Hhi := Lib.hid hhi
    have hsz := hbl.size
    have hZr := LV.kb hZ hbl hZ.lt
    have hMr := LV.kb hM hbl hM.lt
    have HSr := Lib.hid (HS.out.keepB hbl)
    clear hlo hhi hZ hM
    by_cases hlt : i < j
    · obtain ⟨h, hh⟩ : ∃ h : Nat, h = (i + j) / 2 := ⟨_, rfl⟩
      have h1 : i ≤ h := by omega
      have h2 : h < j := by omega
      have eh : ((i : Int) + (j : Int)) / 2 = (h : Int) := by omega
      clear hh
      obtain ⟨s, hs⟩ : ∃ s, xs[h]? = some s := ⟨_, List.getElem?_eq_getElem (by omega)⟩
      have Hs := Lib.hid hs
      have Hc : Hid (Calls Tryz.prog 240 #[.int .i64 (h : Int), .pointer (some ⟨Zb, 0, none⟩), .pointer (some ⟨Mb, 0, none⟩)] wr fun e w' => e = .returned (.bool (decide (m < s.at'))) ∧ Below wr.heap.size wr w') := local1_any N A nm xs c Zb Mb h m s wr HSr.out (by omega) hZr hMr hs
      clear hs HSr hZr hMr
      go_wp2_with fail
      ((with_reducible refine (Hc.out).mono ?_); rintro e w1 ⟨rfl, hl_w1⟩)
      have Hb1 : Hid (Below w.heap.size w w1) := hbl.trans (hl_w1.mono hsz)
      clear hl_w1 Hc
      by_cases hc : m < s.at'
      · have hc' : decide (m < s.at') = true := by simpa using hc
        rw [hc']
        have Hl : Hid (∀ (p : Nat) (t : Sft), h ≤ p → xs[p]? = some t → m < t.at') := fun p t hp ht => by
          by_cases hph : p = h
          · subst hph
            rw [Hs.out] at ht
            cases ht
            exact hc
          · have := Hz.out.rise h p s t (by omega) Hs.out ht
            omega
        clear hc hc'
        go_wp2_with fail
        go_roundw
        case rel => exact ⟨i, h, by omega, by omega, rfl, rfl, Hlo.out, Hl.out, Hb1.out⟩
        case measure => simp [intOf]; omega
      · have hc' : decide (m < s.at') = false := by simpa using hc
        rw [hc']
        have Hl : Hid (∀ (p : Nat) (t : Sft), p < h + 1 → xs[p]? = some t → t.at' ≤ m) := fun p t hp ht => by
          by_cases hph : p = h
          · subst hph
            rw [Hs.out] at ht
            cases ht
            omega
          · have := Hz.out.rise p h t s (by omega) ht Hs.out
            omega
        clear hc hc'
        go_wp2_with fail
        go_roundw
        case rel => exact ⟨h + 1, j, by omega, by omega, by go_num, rfl, Hl.out, Hhi.out, Hb1.out⟩
        case measure => simp [intOf]; omega
    · obtain rfl : i = j := by omega
      go_wp2_with fail
      go_ret
      exact ⟨i, rfl, by omega, Hlo.out, Hhi.out, hbl⟩
set_option maxHeartbeats 4000000 in
set_option maxRecDepth 100000 in
theorem localAt_any (N : Nat → Prop) (A : Option Addr) (nm : ByteArray) (xs : List Sft) (c : Nat) (m : Int) (w : World) (hS : Sl rSft N w A xs) (hz : GoodZ xs) (hm : 0 ≤ m ∧ m < 4321440) :
    Calls Tryz.prog 199 #[.agg #[.string nm, .slice A xs.length c], .int .i64 m] w fun e w' => e = .returned (.int .i64 (clk xs m)) ∧ Below w.heap.size w w' := by
  have hn := hz.len
  have Hz := Lib.hid hz
  have Hb0 : Hid (Below w.heap.size w ((w.alloc (.cells #[.string nm, .slice A xs.length c] 114)).alloc (.cells #[.int .i64 m] 3))) := ((Below.refl _ _).alloc (Nat.le_refl _) _).alloc (by simp) _
  have HS0 := Lib.hid (hS.keepB Hb0.out)
  have lvZ := (LV.new w w.heap.size #[.string nm, .slice A xs.length c] 114 rfl).alloc (.cells #[.int .i64 m] 3)
  have lvM := LV.new (w.alloc (.cells #[.string nm, .slice A xs.length c] 114)) (w.heap.size + 1) #[.int .i64 m] 3 (by simp)
  clear hS hz
  go_enter Tryz.func199, Tryz.ntmps199
  go_wp2_with fail
  ((with_reducible refine (search_any N A nm xs c w.heap.size (w.heap.size + 1) m _ HS0.out Hz.out lvZ lvM).mono ?_); rintro e w1 ⟨i, rfl, hi, hlo, hhi, hl1⟩)
  have HS1 := Lib.hid (HS0.out.keepB hl1)
  have Hb1 := Lib.hid (Hb0.out.trans (hl1.mono (by simp; omega)))
  have lvZ1 := LV.kb lvZ hl1 lvZ.lt
  have lvM1 := LV.kb lvM hl1 lvM.lt
  have hi0 : i ≠ 0 := by
    rintro rfl
    have hlt : 0 < xs.length := Hz.out.ne
    have hk : xs[0]? = some xs[0] := List.getElem?_eq_getElem hlt
    have h1 := hhi 0 _ (Nat.le_refl _) hk
    have h2 := Hz.out.zero _ hk
    omega
  obtain ⟨j, rfl⟩ : ∃ j, i = j + 1 := ⟨i - 1, by omega⟩
  obtain ⟨s, hs⟩ : ∃ s, xs[j]? = some s := ⟨_, List.getElem?_eq_getElem (by omega)⟩
  obtain ⟨blk, off, rfl, hblk, c0, c1⟩ := HS1.out.sft j s hs
  have z1 : w1.cell? ⟨w.heap.size, 1, none⟩ = some (.slice (some ⟨blk, off, none⟩) xs.length c) := lvZ1.cell 1 _ rfl
  have m0 : w1.cell? ⟨w.heap.size + 1, 0, none⟩ = some (.int .i64 m) := lvM1.cell 0 _ rfl
  have Hr : Hid (clk xs m = m + s.off) := clk_at xs m j s hs (hlo j s (by omega) hs) (fun p t hp ht => hhi p t (by omega) ht)
  have hoff := (Hz.out.rng s (List.mem_of_getElem? hs)).2
  have hk3 : (j : Int) + 1 - 1 = (j : Int) := by omega
  have hk4 : ((j + 1 : Nat) : Int) - 1 = (j : Int) := by omega
  have hsum : IntKind.i64.wrap (m + s.off) = m + s.off := IntWalk.i64_in _ (by omega)
  clear hlo hhi hl1 hs c0 lvZ1 lvM1 lvZ lvM HS0 HS1 Hb0 hi0
  go_wp2_with fail
  go_quiet (fail)
  go_wp2_with fail
  go_ret
  exact ⟨ret_i Hr.out.symm, Hb1.out.trans (below_drewN _ _ _)⟩
/-- the day of what clocks show -/
def dayIn (c : Int) : Int := c / 1440
set_option maxHeartbeats 4000000 in
set_option maxRecDepth 100000 in
theorem dayAt_any (N : Nat → Prop) (A : Option Addr) (nm : ByteArray) (xs : List Sft) (c : Nat) (m : Int) (w : World) (hS : Sl rSft N w A xs) (hz : GoodZ xs) (hm : 0 ≤ m ∧ m < 4321440) :
    Calls Tryz.prog 129 #[.agg #[.string nm, .slice A xs.length c], .int .i64 m] w fun e w' => e = .returned (.int .i64 (dayIn (clk xs m))) ∧ Below w.heap.size w w' := by
  have Hb0 : Hid (Below w.heap.size w (w.alloc (.cells #[.string nm, .slice A xs.length c] 114))) := (Below.refl _ _).alloc (Nat.le_refl _) _
  have Hc := Lib.hid (localAt_any N A nm xs c m _ (hS.keepB Hb0.out) hz hm)
  have hle := clk_le xs m (fun s hs => (hz.rng s hs).2)
  generalize clk xs m = cl at *
  have Hr : Hid ((cl + 1440) / 1440 - 1 = dayIn cl) := by
    show _ = _
    unfold dayIn
    omega
  clear hS hz
  go_enter Tryz.func129, Tryz.ntmps129
  go_wp2_with fail
  ((with_reducible refine (Hc.out).mono ?_); rintro e w1 ⟨rfl, hl_w1⟩)
  have hz_w1 := hl_w1.size
  have Hb1 := Lib.hid (Hb0.out.trans (hl_w1.mono (by simp)))
  clear Hc hl_w1 hz_w1
  go_wp2_with fail
  go_ret
  exact ⟨ret_i (by rw [← Hr.out]), Hb1.out⟩
/-- what a reading of a zone gives: the fault, or the value v -/
def readV (f at' v : Int) : Value := if f ≠ 0 then .tuple #[.int .i64 0, .int .i64 f] else if ¬ (0 ≤ at' ∧ at' ≤ 4321439) then .tuple #[.int .i64 0, .int .i64 1] else .tuple #[.int .i64 v, .int .i64 0]
set_option maxHeartbeats 4000000 in
set_option maxRecDepth 100000 in
theorem day_any (N : Nat → Prop) (A : Option Addr) (nm : ByteArray) (xs : List Sft) (c : Nat) (m : Int) (w : World) (hS : Sl rSft N w A xs) (hnm : nm.size ≤ 1000000000) (hn : xs.length ≤ 1000000000) (hsm : ∀ s ∈ xs, s.small) :
    Calls Tryz.prog 65 #[.agg #[.string nm, .slice A xs.length c], .int .i64 m] w fun e w' => e = .returned (readV (zoneFault nm xs) m (dayIn (clk xs m))) ∧ Below w.heap.size w w' := by
  have Hb0 : Hid (Below w.heap.size w (w.alloc (.cells #[.string nm, .slice A xs.length c] 114))) := (Below.refl _ _).alloc (Nat.le_refl _) _
  have lvZ := LV.new w w.heap.size #[.string nm, .slice A xs.length c] 114 rfl
  have HS := Lib.hid (hS.keepB Hb0.out)
  have Hc := Lib.hid (checkZone_any N A nm xs c _ HS.out hnm hn hsm)
  have Hg : Hid (zoneFault nm xs = 0 → GoodZ xs) := fun h => zone_good h
  clear hS hsm
  generalize zoneFault nm xs = f at *
  obtain ⟨R, HR⟩ : ∃ R, Hid (readV f m (dayIn (clk xs m)) = R) := ⟨_, Lib.hid rfl⟩
  rw [HR.out]
  go_enter Tryz.func65, Tryz.ntmps65
  go_wp2_with fail
  ((with_reducible refine (Hc.out).mono ?_); rintro e w1 ⟨rfl, hl_w1⟩)
  have hz_w1 := hl_w1.size
  have Hb1 := Lib.hid (Hb0.out.trans (hl_w1.mono (by simp)))
  have lv1 := LV.kb lvZ hl_w1 lvZ.lt
  have HS1 := Lib.hid (HS.out.keepB hl_w1)
  have z0 : w1.cell? ⟨w.heap.size, 0, none⟩ = some (.string nm) := lv1.cell 0 _ rfl
  have z1 : w1.cell? ⟨w.heap.size, 1, none⟩ = some (.slice A xs.length c) := lv1.cell 1 _ rfl
  clear Hc hl_w1 hz_w1 lvZ lv1 HS
  by_cases hf : f = 0
  · have Hgz := Lib.hid (Hg.out hf)
    subst hf
    clear Hg
    by_cases hm : 0 ≤ m ∧ m ≤ 4321439
    · have em : decide ((0 : Int) ≤ m ∧ m ≤ 4321439) = true := by simpa using hm
      have HR2 : Hid (.tuple #[.int .i64 (dayIn (clk xs m)), .int .i64 0] = R) := by show _ = _; rw [← HR.out, readV, if_neg (by simp), if_neg (not_not_intro hm)]
      clear HR
      have Hv : Hid (Calls Tryz.prog _ _ _ _) := Lib.hid (dayAt_any N A nm xs c m w1 HS1.out Hgz.out (by omega))
      generalize dayIn (clk xs m) = v at *
      go_wp2_with fail
      ((with_reducible refine (ewithin_any _ _ _ _).mono ?_); rintro e _ ⟨rfl, rfl⟩)
      rw [em]
      go_wp2_with fail
      ((with_reducible refine (Hv.out).mono ?_); rintro e w2 ⟨rfl, hl_w2⟩)
      have Hb2 := Lib.hid (Hb1.out.trans (hl_w2.mono Hb1.out.size))
      clear Hv hl_w2
      go_wp2_with fail
      go_ret2
      exact ⟨by rw [← HR2.out]; rfl, Hb2.out⟩
    · have em : decide ((0 : Int) ≤ m ∧ m ≤ 4321439) = false := by simpa using hm
      have HR2 : Hid (.tuple #[.int .i64 0, .int .i64 1] = R) := by show _ = _; rw [← HR.out, readV, if_neg (by simp), if_pos hm]
      clear HR
      go_wp2_with fail
      ((with_reducible refine (ewithin_any _ _ _ _).mono ?_); rintro e _ ⟨rfl, rfl⟩)
      rw [em]
      go_wp2_with fail
      go_ret2
      exact ⟨by rw [← HR2.out]; rfl, Hb1.out⟩
  · have e0 : (f != 0) = true := by simpa using hf
    have HR2 : Hid (.tuple #[.int .i64 0, .int .i64 f] = R) := by show _ = _; rw [← HR.out, readV, if_pos hf]
    clear HR hf
    go_wp2_with fail
    go_ret2
    exact ⟨by rw [← HR2.out]; rfl, Hb1.out⟩
end Go.Proofs.YtbbljokemhjkhaaGreatDoor

/- Slices of bytes that a call owns: made, appended to, turned into strings. -/
namespace Go.Proofs.YtbbljokemhjkhaaGreatDoor
open Go.RowKit

theorem u8Info : (Tryz.prog.info? 5).map (fun i => (i.zero, i.size, i.bytes)) = some (some (.int .u8 0), 1, 1) := by kernel_rfl

/-- The slice v owns the bytes l. -/
def OwnB (B : Nat) (v : Value) (l : List UInt8) (w : World) : Prop := w.ownsRow B 5 1 v l.length (Lib.byteCells l)

theorem OwnB.nil (B : Nat) (w : World) : OwnB B (.slice none 0 0) [] w := World.ownsRow_nil _ _ _ _
theorem OwnB.lit {B : Nat} {w : World} (l : List UInt8) (cs : Array Value) (hcs : cs = (Lib.byteCells l).toArray) (hB : B ≤ w.heap.size) (hl : l.length ≤ 1000000000000) :
    OwnB B (.slice (some ⟨w.heap.size, 0, none⟩) l.length l.length) l (w.alloc (.cells cs 5)) := by
  subst hcs
  have := World.ownsRow_lit (base := B) (e := 5) (size := 1) w (Lib.byteCells l).toArray l.length hB (by unfold maxLen; omega) (by simp [Lib.byteCells])
  unfold OwnB
  simpa using this
theorem OwnB.alloc {B : Nat} {v : Value} {l : List UInt8} {w : World} (h : OwnB B v l w) (o : Obj) : OwnB B v l (w.alloc o) := World.ownsRow.alloc h o
theorem OwnB.kept {B : Nat} {v : Value} {l : List UInt8} {w w' : World} (h : OwnB B v l w) (hk : Below w.heap.size w w') : OwnB B v l w' :=
  World.ownsRow.kept (row := none) h ⟨hk.os, hk.tape, hk.output, hk.size, fun k hk' _ => hk.block k hk'⟩ (by cases hv : v.ownBlock <;> simp)

theorem OwnB.drew {B : Nat} {v : Value} {l : List UInt8} {w : World} (h : OwnB B v l w) : OwnB B v l w.drew := h.kept ⟨rfl, rfl, rfl, Nat.le_refl _, fun _ _ => rfl⟩

theorem OwnB.conv {B : Nat} {v : Value} {l : List UInt8} {w : World} (h : OwnB B v l w) : (convert 185 9 v).run Tryz.prog w = .ok (.string ⟨l.toArray⟩) w := by
  rcases h.2 with ⟨rfl, h0⟩ | ⟨g, cap, cur, rfl, hb, hg, hn, hc, hs, ht⟩
  · have : l = [] := List.length_eq_zero_iff.1 h0
    subst this
    exact run_convert_bytes_nil w 185 5 Tryz.underlying185 Tryz.underlying5 0 0 9 Tryz.underlying9
  · have hc := World.ownsRow.cells h (g := g) rfl
    have := run_convert_bytes_arg w 185 5 Tryz.underlying185 Tryz.underlying5 g 0 l.length cap (l.map fun c => (c.toNat : Int)) (by simp) (fun i hi => by
      have := hc i (.int .u8 l[i].toNat) (by simp [Lib.byteCells, List.getElem?_eq_getElem hi])
      have e : (⟨g, 0, none⟩ : Addr).add i = ⟨g, 0 + i, none⟩ := by unfold Addr.add; split <;> simp_all
      rw [← e, this]
      simp [List.getD, List.getElem?_eq_getElem hi]) 9 Tryz.underlying9
    rw [this]
    simp [strOfNums, List.map_map, Function.comp_def]

section
variable {ops : Array Oper} {rest : List Oper} {o : Oper} {a : Act} {Q : Exit → Act → World → Prop}
/-- append of bytes that were just written out -/
theorem app_bytes {w0 : World} {cs : Array Value} (hgd : o.guard = none) (s x : Operand) (ho : o.op = .call { callee := .builtin .append, args := #[s, x], argTypes := #[185, 185] })
    (B : Nat) (v : Value) (l new : List UInt8) (m c : Nat) (hs : a.eval s = v) (hown : OwnB B v l w0) (hx : a.eval x = .slice (some ⟨w0.heap.size, 0, none⟩) m c) (hm : m = new.length) (hcs : cs = (Lib.byteCells new).toArray)
    (hB : B ≤ w0.heap.size) (hlen : l.length + new.length ≤ 1000000000000)
    (h : ∀ v' w', OwnB B v' (l ++ new) w' → w0.grownBy w' v.ownBlock → Below B w0 w' → wpList Tryz.prog ops Q rest (a.put o.dst v') w') : wpList Tryz.prog ops Q (o :: rest) a (w0.alloc (.cells cs 5)) := by
  subst hm hcs
  obtain ⟨i0, hi, hz0, hz1, hz2⟩ := info_parts u8Info
  refine wpList_append_own _ hgd s x 185 ho B 5 i0 (.int .u8 0) 1 1 Tryz.underlying185 hi hz0 hz1 hz2 rfl (by decide) v l.length (Lib.byteCells l) hs (OwnB.alloc hown _) ⟨w0.heap.size, 0, none⟩ new.length c (Lib.byteCells new) hx (by simp [Lib.byteCells]) ?_ ?_ ?_ ?_ ?_ ?_
  · intro j u hj
    have hjl : j < (Lib.byteCells new).length := by
      rcases Nat.lt_or_ge j (Lib.byteCells new).length with h | h
      · exact h
      · rw [List.getElem?_eq_none h] at hj; cases hj
    have e : (⟨w0.heap.size, 0, none⟩ : Addr).add j = ⟨w0.heap.size, j, none⟩ := by unfold Addr.add; split <;> simp_all
    rw [e, World.cell?_alloc_at _ _ _ _ rfl]
    simpa using hj
  · intro u hu
    simp only [Lib.byteCells, List.mem_map] at hu
    obtain ⟨c, _, rfl⟩ := hu
    rfl
  · unfold maxLen; omega
  · omega
  · simp; omega
  · intro v' w' h1 h2 _
    have hg : w0.grownBy w' v.ownBlock := ⟨h2.os, h2.tape, h2.output, by have := h2.size; simp at this; omega, fun k hk hn => by rw [h2.block k (by simp; omega) hn]; exact Below.heap_alloc _ _ _ hk⟩
    refine h v' w' ?_ hg ((Below.refl B w0).grown hg hB (fun k hk => (World.ownsRow.lt hown k hk).1))
    unfold OwnB
    simpa [Lib.byteCells] using h1
/-- the same as one step of a region that draws its order -/
theorem step_app_bytes {w0 : World} {cs : Array Value} {K : Act → World → Prop} {E : Prop} (hgd : o.guard = none) (s x : Operand) (ho : o.op = .call { callee := .builtin .append, args := #[s, x], argTypes := #[185, 185] })
    (B : Nat) (v : Value) (l new : List UInt8) (m c : Nat) (hs : a.eval s = v) (hown : OwnB B v l w0) (hx : a.eval x = .slice (some ⟨w0.heap.size, 0, none⟩) m c) (hm : m = new.length) (hcs : cs = (Lib.byteCells new).toArray)
    (hB : B ≤ w0.heap.size) (hlen : l.length + new.length ≤ 1000000000000)
    (h : ∀ v' w', OwnB B v' (l ++ new) w' → w0.grownBy w' v.ownBlock → Below B w0 w' → K (a.put o.dst v') w') :
    if Region.wanted o (yielded ops a.tmps) = true then Oper.wp Tryz.prog o a (w0.alloc (.cells cs 5)) K Q else E := by
  have hw : Region.wanted o (yielded ops a.tmps) = true := by simp [Region.wanted, hgd]
  rw [if_pos hw]
  subst hm hcs
  obtain ⟨i0, hi, hz0, hz1, hz2⟩ := info_parts u8Info
  refine wp_append_own _ s x 185 ho B 5 i0 (.int .u8 0) 1 1 Tryz.underlying185 hi hz0 hz1 hz2 rfl (by decide) v l.length (Lib.byteCells l) hs (OwnB.alloc hown _) ⟨w0.heap.size, 0, none⟩ new.length c (Lib.byteCells new) hx (by simp [Lib.byteCells]) ?_ ?_ ?_ ?_ ?_ ?_
  · intro j u hj
    have hjl : j < (Lib.byteCells new).length := by
      rcases Nat.lt_or_ge j (Lib.byteCells new).length with h | h
      · exact h
      · rw [List.getElem?_eq_none h] at hj; cases hj
    have e : (⟨w0.heap.size, 0, none⟩ : Addr).add j = ⟨w0.heap.size, j, none⟩ := by unfold Addr.add; split <;> simp_all
    rw [e, World.cell?_alloc_at _ _ _ _ rfl]
    simpa using hj
  · intro u hu
    simp only [Lib.byteCells, List.mem_map] at hu
    obtain ⟨c, _, rfl⟩ := hu
    rfl
  · unfold maxLen; omega
  · omega
  · simp; omega
  · intro v' w' h1 h2 _
    have hg : w0.grownBy w' v.ownBlock := ⟨h2.os, h2.tape, h2.output, by have := h2.size; simp at this; omega, fun k hk hn => by rw [h2.block k (by simp; omega) hn]; exact Below.heap_alloc _ _ _ hk⟩
    refine h v' w' ?_ hg ((Below.refl B w0).grown hg hB (fun k hk => (World.ownsRow.lt hown k hk).1))
    unfold OwnB
    simpa [Lib.byteCells] using h1
/-- append of a string -/
theorem app_str {w0 : World} (hgd : o.guard = none) (s x : Operand) (ho : o.op = .call { callee := .builtin .append, args := #[s, x], argTypes := #[185, 9] })
    (B : Nat) (v : Value) (l : List UInt8) (t : ByteArray) (hs : a.eval s = v) (hown : OwnB B v l w0) (hx : a.eval x = .string t)
    (hB : B ≤ w0.heap.size) (hlen : l.length + t.size ≤ 1000000000000)
    (h : ∀ v' w', OwnB B v' (l ++ t.data.toList) w' → w0.grownBy w' v.ownBlock → Below B w0 w' → wpList Tryz.prog ops Q rest (a.put o.dst v') w') : wpList Tryz.prog ops Q (o :: rest) a w0 := by
  obtain ⟨i0, hi, hz0, hz1, hz2⟩ := info_parts u8Info
  refine Lib.wpList_append_own_string _ hgd s x 185 9 ho B 5 i0 Tryz.underlying185 Tryz.underlying9 hi hz0 hz1 hz2 v l.length (Lib.byteCells l) hs hown t hx (by unfold maxLen; omega) (by omega) hB ?_
  intro v' w' h1 h2 _
  refine h v' w' ?_ h2 ((Below.refl B w0).grown h2 hB (fun k hk => (World.ownsRow.lt hown k hk).1))
  unfold OwnB
  have e : Lib.byteCells (l ++ t.data.toList) = Lib.byteCells l ++ Lib.strCells t := by simp [Lib.byteCells, Lib.strCells]
  rw [e]
  simpa using h1
end
end Go.Proofs.YtbbljokemhjkhaaGreatDoor

/- What handlaw2.happenings returns: true. -/
namespace Go.Proofs.YtbbljokemhjkhaaGreatDoor
open Go.RowKit
set_option maxHeartbeats 1000000 in
theorem checkEvents_nil (w : World) : Calls Tryz.prog 112 #[.slice none 0 0] w fun e w' => e = .returned (.int .i64 0) ∧ Below w.heap.size w w' := by
  have hmm := @run_makeMap Tryz.prog
  go_enter Tryz.func112, Tryz.ntmps112
  go_wp2_with fail
  go_loopw [13] (fun i wr => i = .int .i64 0 ∧ Below w.heap.size w wr) (fun _ _ => 0)
  case atStart => exact ⟨rfl, (Below.refl _ _).alloc (Nat.le_refl _) _⟩
  case round =>
    obtain ⟨rfl, hbl⟩ := hrel
    go_wp2_with fail
    go_ret
    exact ⟨rfl, hbl⟩
theorem OwnB.len {B : Nat} {v : Value} {l : List UInt8} {w : World} (h : OwnB B v l w) : ∃ A c, v = .slice A l.length c := by
  rcases h.2 with ⟨rfl, h0⟩ | ⟨g, cap, cur, rfl, _⟩
  · exact ⟨none, 0, by rw [h0]⟩
  · exact ⟨_, cap, rfl⟩
set_option maxHeartbeats 1000000 in
theorem varint_zero (P : Nat) (mp : Value) (w : World) (h : LV w P #[.slice none 0 0, mp] 187) : Calls Tryz.prog 130 #[.pointer (some ⟨P, 0, none⟩), .int .i64 0] w
    fun e w' => ∃ v', e = .returned (.tuple #[]) ∧ LV w' P #[v', mp] 187 ∧ OwnB w.heap.size v' [0] w' ∧ Below P w w' := by
  go_enter Tryz.func130, Tryz.ntmps130
  go_wp2_with fail
  go_loopw [1] (fun i wr => i = .int .i64 0 ∧ w = wr) (fun _ _ => 0)
  case atStart => exact ⟨rfl, rfl⟩
  case round =>
    obtain ⟨rfl, rfl⟩ := hrel
    have c0 : w.cell? ⟨P, 0, none⟩ = some (.slice none 0 0) := h.cell 0 _ rfl
    have f0 := h.free 0
    have hlt := h.lt
    go_wp2_with (at_builtin; refine app_bytes (w0 := w) rfl _ _ rfl w.heap.size _ _ [0] _ _ rfl (OwnB.nil w.heap.size w) rfl rfl rfl (Nat.le_refl _) (by simp) ?_; intro v' w2 hb2 hg2 hl2; obtain ⟨A2, k2, rfl⟩ := hb2.len; have h2 := LV.grown (row := none) h hg2 (by simp); have d0 : w2.cell? ⟨P, 0, none⟩ = some (.slice none 0 0) := h2.cell 0 _ rfl; have f2 := h2.free 0)
    have hp := h2.set 0 (.slice A2 1 k2) #[.slice A2 1 k2, mp] rfl
    have ho : OwnB w.heap.size (.slice A2 1 k2) [0] (w2.setCell ⟨P, 0, none⟩ (.slice A2 1 k2)) := ownsRow_setCell_other hb2 (by
      intro e
      have := (World.ownsRow.lt hb2 P e).1
      omega) _
    go_end0
    refine ⟨_, rfl, hp, ho, (hl2.mono (by omega)).trans ⟨rfl, rfl, rfl, by simp [World.setCell], fun k hk => Below.heap_setCell _ _ _ _ (by show k ≠ P; omega)⟩⟩
set_option maxHeartbeats 1000000 in
theorem pack_nil (w : World) : Calls Tryz.prog 66 #[.slice none 0 0] w fun e w' => e = .returned (.tuple #[.string ⟨#[0]⟩, .int .i64 0]) ∧ Below w.heap.size w w' := by
  have hmm := @run_makeMap Tryz.prog
  go_enter Tryz.func66, Tryz.ntmps66
  go_wp2_with fail
  ((with_reducible refine (checkEvents_nil w).mono ?_); rintro e w1 ⟨rfl, hl_w1⟩)
  have hz_w1 := hl_w1.size
  have Hb2 : Hid (Below w.heap.size w ((w1.alloc (.map #[] 0)).alloc (.cells #[.slice none 0 0, .map (some w1.heap.size)] 187))) := (hl_w1.alloc hz_w1 _).alloc (by simp; omega) _
  have lv2 := LV.new (w1.alloc (.map #[] 0)) (w1.heap.size + 1) #[.slice none 0 0, .map (some w1.heap.size)] 187 (by simp)
  go_wp2_with fail
  ((with_reducible refine (varint_zero _ _ _ lv2).mono ?_); rintro e w3 ⟨v3, rfl, lv3, ho3, hl3⟩)
  have Hb3 := Lib.hid (Hb2.out.trans (hl3.mono (by omega)))
  obtain ⟨A3, k3, rfl⟩ := ho3.len
  have c3 : w3.cell? ⟨w1.heap.size + 1, 0, none⟩ = some (.slice A3 1 k3) := lv3.cell 0 _ rfl
  have hcv : (convert 185 9 (.slice A3 1 k3)).run Tryz.prog w3 = .ok (.string ⟨#[0]⟩) w3 := OwnB.conv ho3
  clear lv2 lv3 ho3 hl3 hl_w1
  go_wp2_with fail
  go_loopw [25] (fun i wr => i = .int .i64 0 ∧ w3 = wr) (fun _ _ => 0)
  case atStart => exact ⟨rfl, rfl⟩
  case round =>
    obtain ⟨rfl, rfl⟩ := hrel
    go_wp2_with fail
    go_ret2
    exact ⟨rfl, Hb3.out⟩
theorem utc_ok : zoneFault ⟨#[117, 116, 99]⟩ [⟨0, 0⟩] = 0 := by decide +kernel
theorem utc_day : readV 0 3000 (dayIn (clk [⟨0, 0⟩] 3000)) = .tuple #[.int .i64 2, .int .i64 0] := by rfl
set_option maxHeartbeats 1000000 in
theorem happenings_any (w : World) : Calls Tryz.prog 23 #[] w fun e w' => e = .returned (.bool true) ∧ Below w.heap.size w w' := by
  have hb0 : Below w.heap.size w (w.alloc (.cells #[.int .i64 0, .int .i64 0] 111)) := (Below.refl _ _).alloc (Nat.le_refl _) _
  obtain ⟨A, c, e, hS⟩ := (Own.lit (N := fun _ => False) (B := w.heap.size) (E := 111) (xs := [⟨0, 0⟩]) flatSft w #[.int .i64 0, .int .i64 0] 1 (Nat.le_refl _) rfl (by omega) rfl rfl).toSl (fun _ _ h => h)
  cases e
  have Hd := Lib.hid (day_any (fun _ => False) _ ⟨#[117, 116, 99]⟩ [⟨0, 0⟩] 1 3000 _ hS (by decide) (by decide) (fun s hs => by rw [List.mem_singleton.1 hs]; exact ⟨by decide, by decide⟩))
  rw [utc_ok, utc_day, List.length_singleton] at Hd
  have Hb0 := Lib.hid hb0
  clear hS hb0
  go_enter Tryz.func23, Tryz.ntmps23
  go_wp2_with fail
  ((with_reducible refine (Hd.out).mono ?_); rintro e w1 ⟨rfl, hl_w1⟩)
  have hz_w1 := hl_w1.size
  have Hb1 := Lib.hid (Hb0.out.trans (hl_w1.mono (by simp)))
  clear Hd hl_w1 hz_w1
  go_wp2_with fail
  ((with_reducible refine (pack_nil w1).mono ?_); rintro e w2 ⟨rfl, hl_w2⟩)
  have hz_w2 := hl_w2.size
  have Hb2 := Lib.hid (Hb1.out.trans (hl_w2.mono Hb1.out.size))
  clear hl_w2 hz_w2
  go_wp2_with fail
  go_ret
  exact ⟨rfl, Hb2.out⟩
end Go.Proofs.YtbbljokemhjkhaaGreatDoor
