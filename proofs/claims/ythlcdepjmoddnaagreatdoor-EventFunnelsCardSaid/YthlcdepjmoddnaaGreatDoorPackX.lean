/- Several texts in one: FunLaw, Led, Strs, Funnel, FunRef, LawFun. -/
import Derived.Test.YthlcdepjmoddnaaGreatDoorPackO
import Derived.Test.YthlcdepjmoddnaaGreatDoorPackP
import Derived.Test.YthlcdepjmoddnaaGreatDoorPackB
import Derived.Test.YthlcdepjmoddnaaGreatDoorPackM
import Derived.Deep.DeepCutAuto
import Derived.Test.YthlcdepjmoddnaaGreatDoorPackQ
import Derived.Test.YthlcdepjmoddnaaGreatDoorPackW
import Derived.Test.YthlcdepjmoddnaaGreatDoorShelf
import Derived.RegionTactic
import Derived.ChangeAlike
import Derived.Test.YthlcdepjmoddnaaGreatDoorPackZ
import Derived.Test.YthlcdepjmoddnaaGreatDoorPackR
/- How far events go along steps, in plain words. -/
namespace Go.Proofs.YthlcdepjmoddnaaGreatDoor
open Go.RowKit
/-- the last event before the place n with a name -/
def seekE (l : List Evt) (nm : ByteArray) : Nat → Option Nat
  | 0 => none
  | n + 1 => if (l[n]?.map Evt.name) = some nm then some n else seekE l nm n
theorem seekE_lt {l : List Evt} {nm : ByteArray} : ∀ {n j : Nat}, seekE l nm n = some j → j < n ∧ ∃ e, l[j]? = some e ∧ e.name = nm
  | 0, j, h => by cases h
  | n + 1, j, h => by
    unfold seekE at h
    split at h
    · rename_i h1
      cases h
      refine ⟨Nat.lt_succ_self _, ?_⟩
      cases h2 : l[n]? with
      | none => rw [h2] at h1; cases h1
      | some e =>
        rw [h2] at h1
        exact ⟨e, rfl, by simpa using h1⟩
    · obtain ⟨h1, h2⟩ := seekE_lt h
      exact ⟨by omega, h2⟩
theorem seekE_hit {l : List Evt} {nm : ByteArray} {n : Nat} {e : Evt} (h : l[n]? = some e) (hn : e.name = nm) : seekE l nm (n + 1) = some n := by
  unfold seekE
  rw [h, if_pos (by simp [hn])]
theorem seekE_skip {l : List Evt} {nm : ByteArray} {n : Nat} {e : Evt} (h : l[n]? = some e) (hn : e.name ≠ nm) : seekE l nm (n + 1) = seekE l nm n := by
  rw [seekE, h, if_neg (by simpa using hn)]
/-- the places of the steps (the last first) before the place n, each as late as possible -/
def chainE (l : List Evt) : List ByteArray → Nat → Option (List Nat)
  | [], _ => some []
  | s :: r, n => match seekE l s n with
    | none => none
    | some j => (chainE l r j).map (j :: ·)
theorem chainE_len {l : List Evt} : ∀ {ss : List ByteArray} {n : Nat} {js : List Nat}, chainE l ss n = some js → js.length = ss.length
  | [], n, js, h => by cases h; rfl
  | s :: r, n, js, h => by
    unfold chainE at h
    split at h
    · cases h
    · rename_i j hj
      cases hr : chainE l r j with
      | none => rw [hr] at h; cases h
      | some ks =>
        rw [hr] at h
        cases h
        rw [List.length_cons, List.length_cons, chainE_len hr]
theorem chainE_lt {l : List Evt} : ∀ {ss : List ByteArray} {n : Nat} {js : List Nat}, chainE l ss n = some js → ∀ j ∈ js, j < n ∧ j < l.length
  | [], n, js, h, j, hj => by cases h; cases hj
  | s :: r, n, js, h, j, hj => by
    unfold chainE at h
    split at h
    · cases h
    · rename_i i hi
      obtain ⟨h1, e, he, _⟩ := seekE_lt hi
      have hil := (List.getElem?_eq_some_iff.1 he).1
      cases hr : chainE l r i with
      | none => rw [hr] at h; cases h
      | some ks =>
        rw [hr] at h
        cases h
        rcases List.mem_cons.1 hj with rfl | hj
        · exact ⟨h1, hil⟩
        · obtain ⟨h2, h3⟩ := chainE_lt hr j hj
          exact ⟨by omega, h3⟩
/-- the ids of the events at some places -/
def idsAt (l : List Evt) (js : List Nat) : List ByteArray := js.map fun j => (l[j]?.map Evt.id).getD ⟨#[]⟩
/-- the chain of the first k + 1 steps that ends with the event i, if it is quick enough -/
def chainAt (l : List Evt) (ss : List ByteArray) (span : Int) (k i : Nat) : Option (List ByteArray) :=
  match chainE l (ss.take (k + 1)).reverse (i + 1) with
  | none => none
  | some js => if atOfE l i - atOfE l (js.getLastD 0) ≤ span then some (idsAt l js.reverse) else none
where atOfE (l : List Evt) (k : Nat) : Int := (l[k]?.map Evt.at').getD 0
/-- the first event from i on that ends a chain -/
def funI (l : List Evt) (ss : List ByteArray) (span : Int) (k : Nat) : Nat → Nat → Option (List ByteArray)
  | _, 0 => none
  | i, m + 1 => if (l[i]?.map Evt.name) = ss[k]? then
      match chainAt l ss span k i with
      | some o => some o
      | none => funI l ss span k (i + 1) m
    else funI l ss span k (i + 1) m
/-- the longest chain: k steps are left to try -/
def funK (l : List Evt) (ss : List ByteArray) (span : Int) : Nat → List ByteArray
  | 0 => []
  | k + 1 => match funI l ss span k 0 l.length with
    | some o => o
    | none => funK l ss span k
def funAns (l : List Evt) (ss : List ByteArray) (span : Int) : List ByteArray := funK l ss span ss.length
end Go.Proofs.YthlcdepjmoddnaaGreatDoor

/- What event.led returns. -/
namespace Go.Proofs.YthlcdepjmoddnaaGreatDoor
open Go Go.RowKit
theorem take_rev {α : Type} {ss : List α} {i : Nat} {s : α} (h : ss[i]? = some s) : (ss.take (i + 1)).reverse = s :: (ss.take i).reverse := by
  rw [take_snoc h, List.reverse_append]
  rfl
theorem chain_none {l : List Evt} {s : ByteArray} {r : List ByteArray} {n : Nat} (h : seekE l s n = none) : chainE l (s :: r) n = none := by rw [chainE, h]
theorem chain_some {l : List Evt} {s : ByteArray} {r : List ByteArray} {n j : Nat} (h : seekE l s n = some j) : chainE l (s :: r) n = (chainE l r j).map (j :: ·) := by rw [chainE, h]
def nextC (xs : List Evt) (rs : List ByteArray) (pre : List Nat) : Option Nat → Option (List Nat)
  | none => none
  | some j => (chainE xs rs j).map (fun t => pre ++ j :: t)
def intsOf (js : List Nat) : List Int := js.map fun j => ((j : Nat) : Int)
/-- what led answers -/
def GivesLed (R : Option (List Nat)) (w : World) (e : Ending) (w' : World) : Prop := ∃ v, e = .returned (.tuple #[v, .bool R.isSome]) ∧ Mem w w' [.own rInt w.heap.size 3 v (intsOf (R.getD []).reverse)]
theorem led_out {pre : List Nat} {i j : Nat} : (List.replicate (i + 1) (0 : Int) ++ intsOf pre.reverse).set i j = List.replicate i 0 ++ intsOf (pre ++ [j]).reverse := by
  rw [List.replicate_succ', List.append_assoc, List.reverse_append]
  exact put_mid (List.length_replicate ..)
set_option maxHeartbeats 16000000 in
set_option maxRecDepth 100000 in
theorem led_any (N : Nat → Prop) (A As : Option Addr) (xs : List Evt) (ss : List ByteArray) (c cs : Nat) (en : Nat) (w : World) (hS : Sl rEvt N w A xs) (hT : Sl rStr N w As ss) (hl : xs.length ≤ 5000) (hs : ss.length ≤ 1000) (hen : en < xs.length) :
    Calls Tryz.prog 111 #[.slice A xs.length c, .slice As ss.length cs, .int .i64 en] w (GivesLed (chainE xs ss.reverse (en + 1)) w) := by
  have HSl := Lib.hid (fun w' (h : Below w.heap.size w w') => hS.keepB h)
  have HTl := Lib.hid (fun w' (h : Below w.heap.size w w') => hT.keepB h)
  clear hS hT
  obtain ⟨R, HR⟩ : ∃ R, Hid (chainE xs ss.reverse (en + 1) = R) := ⟨_, Lib.hid rfl⟩
  rw [HR.out]
  have HR0 : Hid ((chainE xs (ss.take ss.length).reverse (en + 1)).map (fun t => ([] : List Nat) ++ t) = R) := by
    show _ = _
    rw [List.take_of_length_le (Nat.le_refl _), HR.out]
    cases R <;> simp
  clear HR
  obtain ⟨n, hn⟩ : ∃ n, n = ss.length := ⟨_, rfl⟩
  rw [← hn] at hs HR0 ⊢
  have Hn := Lib.hid hn
  clear hn
  have hmk : (Instr.makeSlice 22 (.int .i64 (n : Int)) (.int .i64 (n : Int))).run Tryz.prog w = .ok (.slice (some ⟨w.heap.size, 0, none⟩) n n) (w.alloc (.cells (Array.replicate n (Value.int .i64 0)) 3)) := makeI n (by omega) w
  have S0 := (Mem.start w)
  go_enter Tryz.func111, Tryz.ntmps111
  go_upto_region 2 with fail
  clear hmk
  obtain ⟨Z, hZ⟩ : ∃ Z, Z = w.heap.size := ⟨_, rfl⟩
  have S := (S0.newAt (Array.replicate n (Value.int .i64 0)) 3 Z hZ).asOwn flatInt 0 rfl (List.replicate n 0) (by simp) (by simp [rInt, Rep.flat]) (by simp; omega) rfl n (by simp)
  replace S : Mem w (w.alloc (.cells (Array.replicate n (Value.int .i64 0)) 3)) [.own rInt w.heap.size 3 (.slice (some ⟨Z, 0, none⟩) n n) (List.replicate n 0)] := S
  rw [← hZ]
  clear hZ S0
  generalize w.alloc (.cells (Array.replicate n (Value.int .i64 0)) 3) = w1 at *
  go_wp2_with fail
  go_loopw [9, 10] (fun a k wr => ∃ (i p : Nat) (pre : List Nat), i ≤ n ∧ p ≤ xs.length ∧ a = .int .i64 ((p : Int) - 1) ∧ k = .int .i64 ((i : Int) - 1) ∧ Hid ((chainE xs (ss.take i).reverse p).map (fun t => pre ++ t) = R) ∧ Hid (i + pre.length = n) ∧ Mem w wr [.own rInt w.heap.size 3 (.slice (some ⟨Z, 0, none⟩) n n) (List.replicate i 0 ++ intsOf pre.reverse)]) (fun _ k _ => (intOf k + 1).toNat)
  case atStart => exact ⟨n, en + 1, [], Nat.le_refl _, by omega, by go_num, by go_num, HR0, by show _ = _; simp, by simpa [intsOf] using S⟩
  case round =>
    clear S HR0
    obtain ⟨i, p, pre, hi, hp, rfl, rfl, HR, HL, S⟩ := hrel
    by_cases hi0 : i = 0
    · subst hi0
      rw [show (.int .i64 (((0 : Nat) : Int) - 1) : Value) = .int .i64 (-1) from rfl]
      have he : R = some pre := by rw [← HR.out]; simp [chainE]
      subst he
      have HS0 : Hid (Mem w wr [.own rInt w.heap.size 3 (.slice (some ⟨Z, 0, none⟩) n n) (intsOf pre.reverse)]) := S
      clear S HR
      go_wp2_with fail
      go_ret2
      exact ⟨_, rfl, HS0.out⟩
    · obtain ⟨k, rfl⟩ : ∃ k, i = k + 1 := ⟨i - 1, by omega⟩
      rw [show (.int .i64 (((k + 1 : Nat) : Int) - 1) : Value) = .int .i64 (k : Int) by go_num]
      clear hi0
      obtain ⟨s, hs1⟩ : ∃ s, ss[k]? = some s := ⟨_, List.getElem?_eq_getElem (by have h1 := Hn.out; omega)⟩
      have Hs := Lib.hid hs1
      obtain ⟨Sk, HSk⟩ : ∃ Sk, Hid (seekE xs s p = Sk) := ⟨_, Lib.hid rfl⟩
      have HR2 : Hid (nextC xs (ss.take k).reverse pre Sk = R) := by
        show _ = _
        rw [← HR.out, take_rev hs1]
        cases Sk with
        | none => rw [chain_none HSk.out]; rfl
        | some j => rw [chain_some HSk.out, Option.map_map]; rfl
      clear hs1 HR
      have hkn : k < n := by omega
      obtain ⟨wo, hwo⟩ : ∃ wo : World, wo = wr := ⟨_, rfl⟩
      subst hwo
      go_upto_region 6 with fail
      go_loopw [9] (fun a wr => ∃ p : Nat, p ≤ xs.length ∧ a = .int .i64 ((p : Int) - 1) ∧ Hid (seekE xs s p = Sk) ∧ Mem w wr [.own rInt w.heap.size 3 (.slice (some ⟨Z, 0, none⟩) n n) (List.replicate (k + 1) 0 ++ intsOf pre.reverse)]) (fun a _ => (intOf a + 1).toNat)
      case atStart => exact ⟨p, hp, rfl, HSk, S⟩
      case round =>
        clear S HSk hp
        obtain ⟨p, hp, rfl, HSk, S⟩ := hrel
        obtain ⟨B2, O2, hAs, hbs, e0⟩ := (HTl.out wr S.b).str k s Hs.out
        subst hAs
        by_cases hp0 : p = 0
        · subst hp0
          obtain rfl : none = Sk := HSk.out
          have hRn : R = none := HR2.out.symm
          subst hRn
          rw [show (.int .i64 (((0 : Nat) : Int) - 1) : Value) = .int .i64 (-1) from rfl]
          have HS0 : Hid (Mem w (wr.drewN 1) [.own rInt w.heap.size 3 (.slice none 0 0) []]) := ((S.below (below_drewN _ wr 1)).del 0).nil rInt w.heap.size 3
          have HSb := Lib.hid (fun q => ((S.below (below_drewN _ wr q)).del 0).nil rInt w.heap.size 3)
          clear S HSk HR2 HS0
          go_wp2_with fail
          go_quiet (fail)
          go_wp2_with fail
          go_ret2
          exact ⟨_, rfl, HSb.out _⟩
        · obtain ⟨q, rfl⟩ : ∃ q, p = q + 1 := ⟨p - 1, by omega⟩
          rw [show (.int .i64 (((q + 1 : Nat) : Int) - 1) : Value) = .int .i64 (q : Int) by go_num]
          clear hp0
          have hql : q < xs.length := by omega
          obtain ⟨x, hx⟩ : ∃ x, xs[q]? = some x := ⟨_, List.getElem?_eq_getElem hql⟩
          obtain ⟨blk, off, Af, cf, rfl, hblk, _, d1, _⟩ := (HSl.out wr S.b).evt q x hx
          by_cases hnm : x.name = s
          · have hnb : (x.name.toList == s.toList) = true := beqS.2 hnm
            obtain rfl : some q = Sk := by rw [← HSk.out, seekE_hit hx hnm]
            have HR3 : Hid ((chainE xs (ss.take k).reverse q).map (fun t => (pre ++ [q]) ++ t) = R) := by
              show _ = _
              rw [← HR2.out, nextC]
              simp
            have HL3 : Hid (k + (pre ++ [q]).length = n) := by show _ = _; have h1 := HL.out; rw [List.length_append, List.length_singleton]; omega
            have hlen : n = (List.replicate (k + 1) (0 : Int) ++ intsOf pre.reverse).length := by
              have h1 := HL.out
              simp only [List.length_append, List.length_replicate, intsOf, List.length_map, List.length_reverse]
              omega
            have hgk : (List.replicate (k + 1) (0 : Int) ++ intsOf pre.reverse)[k]? = some 0 := by
              rw [List.getElem?_append_left (by simp), List.getElem?_replicate, if_pos (by omega)]
            clear hx hnm HSk HR2
            go_wp2_with fail
            go_quiet (fail)
            replace S := S.below (below_drewN _ wr nq)
            generalize wr.drewN nq = wq at *
            clear d1 e0
            obtain ⟨c0, f0⟩ := (S.ow 0 rfl).intAt hlen k 0 hgk
            have HS4 : Hid (Mem w (wq.setCell ⟨Z, k, none⟩ (.int .i64 (q : Int))) [.own rInt w.heap.size 3 (.slice (some ⟨Z, 0, none⟩) n n) (List.replicate k 0 ++ intsOf (pre ++ [q]).reverse)]) := by
              have := S.putI 0 rfl hlen k 0 (q : Int) hgk
              rw [led_out] at this
              exact this
            clear S hlen hgk
            go_wp2_with fail
            go_roundw
            case rel => exact ⟨k, q, pre ++ [q], by omega, by omega, by go_num, by go_num, HR3, HL3, HS4.out⟩
            case measure => simp [intOf]
          · have hnb : (x.name.toList == s.toList) = false := Bool.eq_false_iff.2 (fun h => hnm (beqS.1 h))
            have HSk2 : Hid (seekE xs s q = Sk) := by show _ = _; rw [← HSk.out, seekE_skip hx hnm]
            clear hx hnm HSk
            go_wp2_with fail
            go_quiet (fail)
            replace S := S.below (below_drewN _ wr nq)
            generalize wr.drewN nq = wq at *
            clear d1 e0
            go_wp2_with fail
            go_roundw
            case rel => exact ⟨q, by omega, by go_num, HSk2, S⟩
            case measure => simp [intOf]
end Go.Proofs.YthlcdepjmoddnaaGreatDoor

/- Lists of strings in memory: slices.Reverse and slices.Equal. -/
namespace Go.Proofs.YthlcdepjmoddnaaGreatDoor
open Go Go.RowKit
theorem tyStrs : STy 85 9 rStr.size 16 (.string ⟨#[]⟩) := ⟨Tryz.underlying85, by kernel_rfl, rfl, by decide⟩
theorem oneStrs (s : ByteArray) : ∀ u ∈ ([.string s] : List Value), u.oneCell' = true := fun u hu => by rw [List.mem_singleton.1 hu]; rfl
theorem Mem.putStr {w0 w : World} {cs : List Chunk} (S : Mem w0 w cs) (i : Nat) {B E g n cap : Nat} {xs : List ByteArray} (hi : cs[i]? = some (.own rStr B E (.slice (some ⟨g, 0, none⟩) n cap) xs)) (hn : n = xs.length) (k : Nat) (x x' : ByteArray) (hx : xs[k]? = some x) : Mem w0 (w.setCell ⟨g, k, none⟩ (.string x')) (cs.set i (.own rStr B E (.slice (some ⟨g, 0, none⟩) n cap) (xs.set k x'))) := by
  have := S.put flatStr i hi hn k x x' hx 0 (by decide) (.string x') rfl
  rw [show k * rStr.size + 0 = k by simp [rStr, Rep.flat]] at this
  exact this
theorem Own.strAt {M : Nat → Prop} {B E g n cap : Nat} {w : World} {xs : List ByteArray} (h : Own rStr M B E w (.slice (some ⟨g, 0, none⟩) n cap) xs) (hn : n = xs.length) (k : Nat) (x : ByteArray) (hk : xs[k]? = some x) : w.cell? ⟨g, k, none⟩ = some (.string x) ∧ w.frozen? ⟨g, k, none⟩ = false := by
  have := h.cellP flatStr hn k x hk 0 _ rfl
  rw [show k * rStr.size + 0 = k by simp [rStr, Rep.flat]] at this
  exact this
/-- the ends are swapped up to k -/
def FlipAt (xs ys : List ByteArray) (k : Nat) : Prop := ys.length = xs.length ∧ ∀ t, t < xs.length → ys[t]? = if t < k ∨ xs.length - k ≤ t then xs[xs.length - 1 - t]? else xs[t]?
theorem FlipAt.start (xs : List ByteArray) : FlipAt xs xs 0 := ⟨rfl, fun t ht => by rw [if_neg (by omega)]⟩
theorem FlipAt.next {xs ys : List ByteArray} {k q : Nat} {x y : ByteArray} (h : FlipAt xs ys k) (hkq : k < q) (hq : k + q + 1 = xs.length) (hx : ys[k]? = some x) (hy : ys[q]? = some y) : FlipAt xs ((ys.set k y).set q x) (k + 1) := by
  refine ⟨by rw [List.length_set, List.length_set]; exact h.1, fun t ht => ?_⟩
  have h1 := h.2 k (by omega)
  rw [hx, if_neg (by omega)] at h1
  have h2 := h.2 q (by omega)
  rw [hy, if_neg (by omega)] at h2
  by_cases e1 : t = q
  · subst e1
    rw [List.getElem?_set_self (by rw [List.length_set, h.1]; omega), if_pos (by omega), h1]
    congr 1
    omega
  · rw [List.getElem?_set_ne (fun e => e1 e.symm)]
    by_cases e2 : t = k
    · subst e2
      rw [List.getElem?_set_self (by rw [h.1]; omega), if_pos (by omega), h2]
      congr 1
      omega
    · rw [List.getElem?_set_ne (fun e => e2 e.symm), h.2 t ht]
      by_cases e3 : t < k ∨ xs.length - k ≤ t
      · rw [if_pos e3, if_pos (by omega)]
      · rw [if_neg e3, if_neg (by omega)]
theorem FlipAt.done {xs ys : List ByteArray} {k : Nat} (h : FlipAt xs ys k) (hk : xs.length ≤ 2 * k + 1) : ys = xs.reverse := by
  apply List.ext_getElem?
  intro t
  by_cases ht : t < xs.length
  · rw [h.2 t ht, List.getElem?_reverse ht]
    by_cases e : t < k ∨ xs.length - k ≤ t
    · rw [if_pos e]
    · rw [if_neg e]
      congr 1
      omega
  · rw [List.getElem?_eq_none (by rw [h.1]; omega), List.getElem?_eq_none (by rw [List.length_reverse]; omega)]
set_option maxHeartbeats 4000000 in
set_option maxRecDepth 100000 in
theorem revStr_any {w0 w : World} {cs : List Chunk} {B g cap : Nat} {xs : List ByteArray} (h3 : xs.length ≤ 1000000) (S : Mem w0 w (.own rStr B 9 (.slice (some ⟨g, 0, none⟩) xs.length cap) xs :: cs)) :
    Calls Tryz.prog 113 #[.slice (some ⟨g, 0, none⟩) xs.length cap] w fun e w' => e = .returned (.tuple #[]) ∧ Mem w0 w' (.own rStr B 9 (.slice (some ⟨g, 0, none⟩) xs.length cap) xs.reverse :: cs) := by
  obtain ⟨n, hn⟩ : ∃ n, n = xs.length := ⟨_, rfl⟩
  rw [← hn] at h3 S ⊢
  have Hn := Lib.hid hn
  clear hn
  go_enter Tryz.func113, Tryz.ntmps113
  go_wp2_with fail
  go_loopw [2, 3] (fun i j wr => ∃ (k : Nat) (z : Int) (ys : List ByteArray), k ≤ n ∧ i = .int .i64 k ∧ j = .int .i64 z ∧ Hid (z = (n : Int) - 1 - k) ∧ Hid (ys.length = n) ∧ Hid (FlipAt xs ys k) ∧ Mem w0 wr (.own rStr B 9 (.slice (some ⟨g, 0, none⟩) n cap) ys :: cs)) (fun i _ _ => n - (intOf i).toNat)
  case atStart => exact ⟨0, (n : Int) - 1, xs, Nat.zero_le _, rfl, by go_num, by show _ = _; omega, Hn.out.symm, FlipAt.start xs, S⟩
  case round =>
    clear S
    obtain ⟨k, z, ys, hk, rfl, rfl, HZ, HYl, HY, S⟩ := hrel
    have hz := HZ.out
    have hy := HYl.out
    by_cases hlt : (k : Int) < z
    · obtain ⟨q, hq⟩ : ∃ q : Nat, z = (q : Int) := ⟨n - 1 - k, by omega⟩
      subst hq
      obtain ⟨x, hx⟩ : ∃ x, ys[k]? = some x := ⟨_, List.getElem?_eq_getElem (by omega)⟩
      obtain ⟨y, hyq⟩ : ∃ y, ys[q]? = some y := ⟨_, List.getElem?_eq_getElem (by omega)⟩
      obtain ⟨c0, f0⟩ := (S.ow 0 rfl).strAt hy.symm k x hx
      obtain ⟨e0, g0⟩ := (S.ow 0 rfl).strAt hy.symm q y hyq
      have hlt2 : (q : Int) < n := by omega
      have hlt3 : (k : Int) < n := by omega
      clear hz hy
      have HS := Lib.hid S
      have Hx := Lib.hid hx
      have Hyq := Lib.hid hyq
      clear S hx hyq
      go_wp2_with fail
      go_region
      go_wp2_with fail
      go_roundw
      case rel =>
        have hkq : k ≠ q := by have h := HZ.out; omega
        have hyl := HYl.out
        have S2 : Mem w0 (wr.setCell ⟨g, k, none⟩ (.string y)) (.own rStr B 9 (.slice (some ⟨g, 0, none⟩) n cap) (ys.set k y) :: cs) := HS.out.putStr 0 rfl hyl.symm k x y Hx.out
        have S3 : Mem w0 ((wr.setCell ⟨g, k, none⟩ (.string y)).setCell ⟨g, q, none⟩ (.string x)) (.own rStr B 9 (.slice (some ⟨g, 0, none⟩) n cap) ((ys.set k y).set q x) :: cs) := S2.putStr 0 rfl (by rw [List.length_set]; exact hyl.symm) q y x (by rw [List.getElem?_set_ne hkq]; exact Hyq.out)
        have hd : Drewn ((wr.setCell ⟨g, k, none⟩ (.string y)).setCell ⟨g, q, none⟩ (.string x)) _ := rfl
        exact ⟨k + 1, (q : Int) - 1, (ys.set k y).set q x, by omega, by go_num, rfl, (by show _ = _; have h := HZ.out; omega), (by show _ = _; rw [List.length_set, List.length_set]; exact hyl), HY.out.next (by omega) (by have h := HZ.out; have h2 := Hn.out; omega) Hx.out Hyq.out, S3.below (hd.below _)⟩
      case measure => simp [intOf]; omega
    · have he : ys = xs.reverse := HY.out.done (by have h2 := Hn.out; omega)
      subst he
      clear hz hy
      go_wp2_with fail
      go_end0
      exact ⟨rfl, S⟩
theorem Sl.strs {N : Nat → Prop} {w : World} {A : Option Addr} {xs : List ByteArray} (h : Sl rStr N w A xs) (h0 : xs ≠ []) : ∃ b o, A = some ⟨b, o, none⟩ ∧ ∀ j, j < xs.length → w.cell? ⟨b, o + j, none⟩ = some (.string (xs.getD j ByteArray.empty)) := by
  cases xs with
  | nil => exact absurd rfl h0
  | cons x r =>
    obtain ⟨b, o, e, _, _⟩ := h.str 0 x rfl
    refine ⟨b, o, e, fun j hj => ?_⟩
    obtain ⟨b2, o2, e2, _, hc⟩ := h.str j (x :: r)[j] (List.getElem?_eq_getElem hj)
    rw [e] at e2
    cases e2
    rw [hc, List.getD_eq_getElem?_getD, List.getElem?_eq_getElem hj]
    rfl
theorem eqStr_any (N : Nat → Prop) (A A2 : Option Addr) (xs : List ByteArray) (c c2 : Nat) (w : World) (h1 : Sl rStr N w A xs) (h2 : Sl rStr N w A2 xs) (hl : xs.length ≤ 1000000000) :
    Calls Tryz.prog 51 #[.slice A xs.length c, .slice A2 xs.length c2] w fun e w' => e = .returned (.bool true) ∧ Below w.heap.size w w' := by
  by_cases h0 : xs = []
  · subst h0
    refine (Tryz.slices_Equal_string_empty A A2 c 0 c2 w (by decide)).mono ?_
    rintro e w' ⟨rfl, rfl⟩
    exact ⟨rfl, Below.refl _ _⟩
  · obtain ⟨b, o, rfl, hc⟩ := h1.strs h0
    obtain ⟨b2, o2, rfl, hc2⟩ := h2.strs h0
    refine (Tryz.slices_Equal_string b o xs.length c b2 o2 xs.length c2 xs xs w (Nat.le_refl _) (Nat.le_refl _) (by omega) (by omega) hc hc2).mono ?_
    rintro e w' ⟨rfl, q, rfl⟩
    exact ⟨by simp, below_drewN _ _ _⟩
end Go.Proofs.YthlcdepjmoddnaaGreatDoor

/- What event.Funnel returns. -/
namespace Go.Proofs.YthlcdepjmoddnaaGreatDoor
open Go Go.RowKit
def funErr (xs : List Evt) (ss : List ByteArray) (span : Int) : Int := if evsFault xs ≠ 0 then evsFault xs else if ss.length = 0 then 3 else if 20 < ss.length then 2 else if namesErr ss ≠ 0 then namesErr ss else if ¬ (0 ≤ span ∧ span ≤ 4321440) then 1 else 0
def funAll (xs : List Evt) (ss : List ByteArray) (span : Int) : List ByteArray := if funErr xs ss span = 0 then funAns xs ss span else []
def GivesStrs (l : List ByteArray) (F : Int) (w : World) (e : Ending) (w' : World) : Prop := ∃ v, e = .returned (.tuple #[v, .int .i64 F]) ∧ Mem w w' [.own rStr w.heap.size 9 v l]
theorem funK_succ (l : List Evt) (ss : List ByteArray) (span : Int) (k : Nat) : funK l ss span (k + 1) = (funI l ss span k 0 l.length).getD (funK l ss span k) := by
  rw [funK]
  cases funI l ss span k 0 l.length <;> rfl
theorem funI_skip {l : List Evt} {ss : List ByteArray} {span : Int} {k j m : Nat} {x : Evt} {s : ByteArray} (hx : l[j]? = some x) (hs : ss[k]? = some s) (hn : x.name ≠ s) : funI l ss span k j (m + 1) = funI l ss span k (j + 1) m := by
  rw [funI, hx, hs, if_neg (by simpa using hn)]
theorem funI_hit {l : List Evt} {ss : List ByteArray} {span : Int} {k j m : Nat} {x : Evt} {s : ByteArray} (hx : l[j]? = some x) (hs : ss[k]? = some s) (hn : x.name = s) : funI l ss span k j (m + 1) = match chainAt l ss span k j with | some o => some o | none => funI l ss span k (j + 1) m := by
  (rw [funI, hx, hs, if_pos (by simp [hn])]) <;> (cases chainAt l ss span k j <;> rfl)
theorem chainAt_none {l : List Evt} {ss : List ByteArray} {span : Int} {k j : Nat} (h : chainE l (ss.take (k + 1)).reverse (j + 1) = none) : chainAt l ss span k j = none := by rw [chainAt, h]
theorem chainAt_late {l : List Evt} {ss : List ByteArray} {span : Int} {k j : Nat} {js : List Nat} {x a : Evt} (h : chainE l (ss.take (k + 1)).reverse (j + 1) = some js) (hx : l[j]? = some x) (ha : l[js.getLastD 0]? = some a) (hd : ¬ x.at' - a.at' ≤ span) : chainAt l ss span k j = none := by
  rw [chainAt, h]
  show (if ((l[j]?.map Evt.at').getD 0) - ((l[js.getLastD 0]?.map Evt.at').getD 0) ≤ span then _ else none) = none
  rw [hx, ha]
  exact if_neg hd
theorem chainAt_some {l : List Evt} {ss : List ByteArray} {span : Int} {k j : Nat} {js : List Nat} {x a : Evt} (h : chainE l (ss.take (k + 1)).reverse (j + 1) = some js) (hx : l[j]? = some x) (ha : l[js.getLastD 0]? = some a) (hd : x.at' - a.at' ≤ span) : chainAt l ss span k j = some (idsAt l js.reverse) := by
  rw [chainAt, h]
  show (if ((l[j]?.map Evt.at').getD 0) - ((l[js.getLastD 0]?.map Evt.at').getD 0) ≤ span then _ else none) = _
  rw [hx, ha]
  exact if_pos hd
theorem idsAt_snoc {l : List Evt} {js : List Nat} {t j : Nat} {x : Evt} (hj : js[t]? = some j) (hx : l[j]? = some x) : idsAt l (js.take (t + 1)) = idsAt l (js.take t) ++ [x.id] := by
  unfold idsAt
  rw [take_snoc hj, List.map_append]
  simp [hx]
theorem rev_head {js : List Nat} (h : js ≠ []) : js.reverse[0]? = some (js.getLastD 0) := by
  rw [List.getElem?_reverse (List.length_pos_iff.2 h), List.getLastD_eq_getLast?, List.getLast?_eq_getElem?]
  have := List.length_pos_iff.2 h
  rw [Nat.sub_zero, List.getElem?_eq_getElem (by omega)]
  rfl
set_option maxHeartbeats 16000000 in
set_option maxRecDepth 100000 in
theorem funnel_any (N : Nat → Prop) (A As : Option Addr) (xs : List Evt) (ss : List ByteArray) (c cs : Nat) (span : Int) (w : World) (hS : Sl rEvt N w A xs) (hok : EvsOk xs) (hT : Tabs w) (hM : MaxL w) (hSt : Sl rStr N w As ss) (hss : ∀ x ∈ ss, x.size ≤ 1000000000) (hsl : ss.length ≤ 1000) (hcap : ss.length ≤ cs) :
    Calls Tryz.prog 50 #[.slice A xs.length c, .slice As ss.length cs, .int .i64 span] w (GivesStrs (funAll xs ss span) (funErr xs ss span) w) := by
  have Hch := Lib.hid (checkEvs_any N A xs c w hS hok hT hM)
  have HSl := Lib.hid (fun w' (h : Below w.heap.size w w') => hS.keepB h)
  have HTl := Lib.hid (fun w' (h : Below w.heap.size w w') => hSt.keepB h)
  have Hss := Lib.hid hss
  clear hS hok hT hM hSt hss
  obtain ⟨F, HF⟩ : ∃ F, Hid (funErr xs ss span = F) := ⟨_, Lib.hid rfl⟩
  obtain ⟨R, HR⟩ : ∃ R, Hid ((if F = 0 then funAns xs ss span else []) = R) := ⟨_, Lib.hid rfl⟩
  rw [show funAll xs ss span = R by rw [← HR.out, funAll, HF.out], HF.out]
  unfold funErr at HF
  obtain ⟨F0, HF0⟩ : ∃ F0, Hid (evsFault xs = F0) := ⟨_, Lib.hid rfl⟩
  rw [HF0.out] at Hch HF
  obtain ⟨n, hn⟩ : ∃ n, n = ss.length := ⟨_, rfl⟩
  rw [← hn] at hsl hcap HF ⊢
  have Hn := Lib.hid hn
  clear hn
  go_enter Tryz.func50, Tryz.ntmps50
  go_wp2_with fail
  ((with_reducible refine (Hch.out).mono ?_); rintro e w1 ⟨rfl, hl1⟩)
  have S := (Mem.start w).below hl1
  clear Hch hl1
  by_cases h0 : F0 = 0
  · subst h0
    have HG := Lib.hid (evs_good HF0.out)
    have hlen := HG.out.len
    rw [if_neg (not_not_intro rfl)] at HF
    by_cases hn0 : n = 0
    · rw [if_pos hn0] at HF
      subst hn0
      have hFv := HF.out
      subst hFv
      rw [if_neg (by first | decide | assumption)] at HR
      obtain rfl : [] = R := HR.out
      have HSe := Lib.hid (S.nil rStr w.heap.size 9)
      clear HF HR S
      go_wp2_with fail
      go_ret2
      exact ⟨_, rfl, HSe.out⟩
    · rw [if_neg hn0] at HF
      have hn1 : 0 < n := by omega
      have hn2 : ((n : Int) == 0) = false := by simp; omega
      by_cases hn20 : 20 < n
      · rw [if_pos hn20] at HF
        have hFv := HF.out
        subst hFv
        rw [if_neg (by first | decide | assumption)] at HR
        obtain rfl : [] = R := HR.out
        have HSe := Lib.hid (S.nil rStr w.heap.size 9)
        clear HF HR S
        go_wp2_with fail
        go_ret2
        exact ⟨_, rfl, HSe.out⟩
      · rw [if_neg hn20] at HF
        have HF1 : Hid ((if namesErr (ss.drop 0) ≠ 0 then namesErr (ss.drop 0) else if ¬ (0 ≤ span ∧ span ≤ 4321440) then 1 else 0) = F) := HF
        go_wp2_with fail
        go_loopw [34] (fun i wr => ∃ k : Nat, k ≤ n ∧ i = .int .i64 k ∧ Hid ((if namesErr (ss.drop k) ≠ 0 then namesErr (ss.drop k) else if ¬ (0 ≤ span ∧ span ≤ 4321440) then 1 else 0) = F) ∧ Mem w wr []) (fun i _ => n - (intOf i).toNat)
        case atStart => exact ⟨0, Nat.zero_le _, rfl, HF1, S⟩
        case round =>
          clear S HF HF1
          obtain ⟨k, hk, rfl, HF, S⟩ := hrel
          by_cases hlt : k < n
          · obtain ⟨s, hs⟩ : ∃ s, ss[k]? = some s := ⟨_, List.getElem?_eq_getElem (by have h1 := Hn.out; omega)⟩
            obtain ⟨B2, O2, rfl, hbs, e0⟩ := (HTl.out wr S.b).str k s hs
            have hsz := Hss.out s (List.mem_of_getElem? hs)
            have HF2 : Hid ((if (if L.isKey s = false then (5 : Int) else namesErr (ss.drop (k + 1))) ≠ 0 then (if L.isKey s = false then (5 : Int) else namesErr (ss.drop (k + 1))) else if ¬ (0 ≤ span ∧ span ≤ 4321440) then 1 else 0) = F) := by show _ = _; rw [← HF.out, namesErr_at hs]
            have Hk := Lib.hid (isKey_any s wr (by omega))
            generalize L.isKey s = K at *
            clear HF hs
            cases K with
            | false =>
              have HF : Hid (5 = F) := HF2.out
              clear HF2
              go_wp2_with fail
              ((with_reducible refine (Hk.out).mono ?_); rintro e _ ⟨rfl, rfl⟩)
              clear Hk
              have hFv := HF.out
              subst hFv
              rw [if_neg (by first | decide | assumption)] at HR
              obtain rfl : [] = R := HR.out
              have HSe := Lib.hid (S.nil rStr w.heap.size 9)
              clear HF HR S
              go_wp2_with fail
              go_ret2
              exact ⟨_, rfl, HSe.out⟩
            | true =>
              have HF3 : Hid ((if namesErr (ss.drop (k + 1)) ≠ 0 then namesErr (ss.drop (k + 1)) else if ¬ (0 ≤ span ∧ span ≤ 4321440) then 1 else 0) = F) := HF2.out
              clear HF2
              go_wp2_with fail
              ((with_reducible refine (Hk.out).mono ?_); rintro e _ ⟨rfl, rfl⟩)
              go_wp2_with fail
              go_roundw
              case rel => exact ⟨k + 1, by omega, by go_num, HF3, S⟩
              case measure => simp [intOf]; omega
          · have HF2 : Hid ((if ¬ (0 ≤ span ∧ span ≤ 4321440) then (1 : Int) else 0) = F) := by
              show _ = _
              rw [← HF.out, List.drop_eq_nil_of_le (by have h1 := Hn.out; omega)]
              rfl
            clear HF
            go_wp2_with fail
            ((with_reducible refine (ewithin_any span 0 4321440 wr).mono ?_); rintro e _ ⟨rfl, rfl⟩)
            by_cases hsp : 0 ≤ span ∧ span ≤ 4321440
            · have hd : decide (0 ≤ span ∧ span ≤ 4321440) = true := decide_eq_true hsp
              rw [if_neg (not_not_intro hsp)] at HF2
              obtain rfl : 0 = F := HF2.out
              rw [if_pos rfl] at HR
              obtain ⟨hsp1, hsp2⟩ := hsp
              have HR0 : Hid (funK xs ss span n = R) := by show _ = _; rw [← HR.out, Hn.out]; rfl
              clear HF2 HR hlt hk
              go_upto_region 17 with fail
              obtain ⟨wo, hwo⟩ : ∃ wo : World, wo = wr := ⟨_, rfl⟩
              subst hwo
              go_loopw [11] (fun a wr => ∃ i : Nat, i ≤ n ∧ a = .int .i64 i ∧ Hid (funK xs ss span i = R) ∧ Mem w wr []) (fun a _ => (intOf a).toNat)
              case atStart => exact ⟨n, Nat.le_refl _, rfl, HR0, S⟩
              case round =>
                clear S HR0
                obtain ⟨i, hi, rfl, HR, S⟩ := hrel
                by_cases hi0 : i = 0
                · subst hi0
                  obtain rfl : [] = R := HR.out
                  have HS0 := Lib.hid (S.nil rStr w.heap.size 9)
                  clear S HR
                  go_wp2_with fail
                  go_ret2
                  exact ⟨_, rfl, HS0.out⟩
                · obtain ⟨k, rfl⟩ : ∃ k, i = k + 1 := ⟨i - 1, by omega⟩
                  obtain ⟨s, hs⟩ : ∃ s, ss[k]? = some s := ⟨_, List.getElem?_eq_getElem (by have h1 := Hn.out; omega)⟩
                  have Hs := Lib.hid hs
                  have HR1 : Hid ((funI xs ss span k 0 (xs.length - 0)).getD (funK xs ss span k) = R) := by show _ = _; rw [← HR.out, funK_succ]; rfl
                  have hkn : k < n := by omega
                  have hwk : IntKind.i64.wrap ((k + 1 : Nat) : Int) = (k : Int) + 1 := IntWalk.i64_in _ (by omega)
                  clear hs HR hi0
                  go_upto_region 20 with fail
                  obtain ⟨wo, hwo⟩ : ∃ wo : World, wo = wr := ⟨_, rfl⟩
                  subst hwo
                  go_loopw [53] (fun a wr => ∃ j : Nat, j ≤ xs.length ∧ a = .int .i64 j ∧ Hid ((funI xs ss span k j (xs.length - j)).getD (funK xs ss span k) = R) ∧ Mem w wr []) (fun a _ => xs.length - (intOf a).toNat)
                  case atStart => exact ⟨0, Nat.zero_le _, rfl, HR1, S⟩
                  case round =>
                    clear S HR1
                    obtain ⟨j, hj, rfl, HR, S⟩ := hrel
                    by_cases hlt : j < xs.length
                    · obtain ⟨x, hx⟩ : ∃ x, xs[j]? = some x := ⟨_, List.getElem?_eq_getElem hlt⟩
                      have hxr := HG.out.range (List.mem_of_getElem? hx)
                      obtain ⟨B2, O2, hAs, hbs, e0⟩ := (HTl.out wr S.b).str k s Hs.out
                      subst hAs
                      obtain ⟨blk, off, Af, cf, rfl, hblk, d0, d1, d2, d3, d4, d5, _⟩ := (HSl.out wr S.b).evt j x hx
                      have hbn : Below wr.heap.size wr (wr.alloc (.cells (evCs x Af cf) 32)) := (Below.refl _ _).alloc (Nat.le_refl _) _
                      have e1 := (hbn.cell (p := ⟨B2, O2 + k, none⟩) hbs).trans e0
                      go_upto_region 22 with fail
                      clear d0 d1 d2 d3 d4 d5 e0 hbn
                      obtain ⟨Y, hY⟩ : ∃ Y, Y = wr.heap.size := ⟨_, rfl⟩
                      replace S := S.newAt (evCs x Af cf) 32 Y hY
                      replace S : Mem w (wr.alloc (.cells (evCs x Af cf) 32)) [.loc Y (evCs x Af cf) 32] := S
                      rw [← hY]
                      clear hY
                      generalize wr.alloc (.cells (evCs x Af cf) 32) = w3 at *
                      have y0 := (S.lv 0 rfl).all
                      have hm1 : xs.length - j = (xs.length - (j + 1)) + 1 := by omega
                      by_cases hnm : x.name = s
                      · have hnb : (x.name.toList == s.toList) = true := beqS.2 hnm
                        have HR2 : Hid ((match chainAt xs ss span k j with | some o => some o | none => funI xs ss span k (j + 1) (xs.length - (j + 1))).getD (funK xs ss span k) = R) := by show _ = _; rw [← HR.out, hm1, funI_hit hx Hs.out hnm]
                        have Hx := Lib.hid hx
                        clear hx hnm HR hm1
                        go_wp2_with fail
                        go_quiet (fail)
                        replace S := S.below (below_drewN _ w3 nq)
                        generalize w3.drewN nq = w4 at *
                        clear e1 y0
                        have Hled := Lib.hid (led_any N (some ⟨blk, off, none⟩) (some ⟨B2, O2, none⟩) xs (ss.take (k + 1)) c cs j w4 (HSl.out w4 S.b) ((HTl.out w4 S.b).take (k + 1)) hlen (by rw [List.length_take]; omega) hlt)
                        rw [show (ss.take (k + 1)).length = k + 1 by rw [List.length_take]; have h1 := Hn.out; omega] at Hled
                        obtain ⟨C, HC⟩ : ∃ C, Hid (chainE xs (ss.take (k + 1)).reverse (j + 1) = C) := ⟨_, Lib.hid rfl⟩
                        rw [HC.out] at Hled
                        go_wp2_with fail
                        ((with_reducible refine (Hled.out).mono ?_); rintro e w5 ⟨v, rfl, M⟩)
                        replace S := S.join M
                        clear Hled M
                        cases C with
                        | none =>
                          have HR3 : Hid ((funI xs ss span k (j + 1) (xs.length - (j + 1))).getD (funK xs ss span k) = R) := by show _ = _; rw [← HR2.out, chainAt_none HC.out]
                          obtain ⟨Av, cv, rfl⟩ := (S.ow 1 rfl).len
                          rw [show (none : Option (List Nat)).isSome = false from rfl]
                          clear HR2 HC
                          have HSb := Lib.hid (fun q => ((S.below (below_drewN _ w5 q)).del 1).del 0)
                          clear S
                          go_wp2_with fail
                          go_quiet (fail)
                          go_wp2_with fail
                          go_roundw
                          case rel => repeat (first | exact ⟨⟨j + 1, by omega, by go_num, HR3, HSb.out _⟩, rfl⟩ | apply Exists.intro)
                          case measure => simp [intOf]; omega
                        | some js =>
                          rw [show (some js).isSome = true from rfl]
                          replace S : Mem w w5 [.loc Y (evCs x Af cf) 32, .own rInt w4.heap.size 3 v (intsOf js.reverse)] := S
                          have hjl : js.length = k + 1 := by
                            rw [chainE_len HC.out, List.length_reverse, List.length_take]
                            have h1 := Hn.out
                            omega
                          have hil : (intsOf js.reverse).length = k + 1 := by rw [intsOf, List.length_map, List.length_reverse, hjl]
                          obtain ⟨g, cap, rfl, _⟩ := (S.ow 1 rfl).form (by omega)
                          have Hil := Lib.hid hil.symm
                          rw [hil] at S ⊢
                          have hjne : js ≠ [] := fun h => by rw [h] at hjl; simp at hjl
                          have HJ := Lib.hid (chainE_lt HC.out)
                          obtain ⟨a0, ha0⟩ : ∃ a0, js.getLastD 0 = a0 := ⟨_, rfl⟩
                          have hrh := rev_head hjne
                          rw [ha0] at hrh
                          have ha0l := (HJ.out a0 (List.mem_reverse.1 (List.mem_of_getElem? hrh))).2
                          obtain ⟨z, hz⟩ : ∃ z, xs[a0]? = some z := ⟨_, List.getElem?_eq_getElem ha0l⟩
                          have hzr := HG.out.range (List.mem_of_getElem? hz)
                          have hg0 : (intsOf js.reverse)[0]? = some (a0 : Int) := by rw [intsOf, List.getElem?_map, hrh]; rfl
                          obtain ⟨b3, o3, Az, cz, hq3, _, _, _, f2, _⟩ := (HSl.out w5 S.b).evt a0 z hz
                          cases hq3
                          obtain ⟨g0, _⟩ := (S.ow 1 rfl).intAt Hil.out 0 (a0 : Int) hg0
                          have y0 := (S.lv 0 rfl).all
                          have hwd : IntKind.i64.wrap (x.at' - z.at') = x.at' - z.at' := IntWalk.i64_in _ (by omega)
                          by_cases hd : x.at' - z.at' ≤ span
                          · have hdd : decide (span < x.at' - z.at') = false := decide_eq_false (by omega)
                            have HR3 : Hid (idsAt xs js.reverse = R) := by show _ = _; rw [← HR2.out, chainAt_some HC.out Hx.out (by rw [ha0]; exact hz) hd]; rfl
                            clear HR2 HC hd hg0 hrh ha0 hz hjne hil
                            have HSb := Lib.hid (fun q => S.below (below_drewN _ w5 q))
                            clear S
                            go_upto_region 24 with fail
                            go_quiet (fail)
                            have S := HSb.out nq
                            generalize w5.drewN nq = w6 at *
                            clear HSb f2 g0 y0
                            replace S := S.nil rStr w.heap.size 9
                            replace S : Mem w w6 [.loc Y (evCs x Af cf) 32, .own rInt w4.heap.size 3 (.slice (some ⟨g, 0, none⟩) (k + 1) cap) (intsOf js.reverse), .own rStr w.heap.size 9 (.slice none 0 0) []] := S
                            go_upto_region 27 with fail
                            go_loopw [16, 93] (fun v a wr => ∃ t : Nat, t ≤ k + 1 ∧ a = .int .i64 t ∧ Mem w wr [.loc Y (evCs x Af cf) 32, .own rInt w4.heap.size 3 (.slice (some ⟨g, 0, none⟩) (k + 1) cap) (intsOf js.reverse), .own rStr w.heap.size 9 v (idsAt xs (js.reverse.take t))]) (fun _ a _ => k + 1 - (intOf a).toNat)
                            case atStart => exact ⟨0, Nat.zero_le _, rfl, S⟩
                            case round =>
                              clear S
                              obtain ⟨t, ht, rfl, S⟩ := hrel
                              by_cases hlt4 : t < k + 1
                              · obtain ⟨q, hq⟩ : ∃ q, js.reverse[t]? = some q := ⟨_, List.getElem?_eq_getElem (by rw [List.length_reverse, hjl]; exact hlt4)⟩
                                have hql := (HJ.out q (List.mem_reverse.1 (List.mem_of_getElem? hq))).2
                                obtain ⟨y, hy⟩ : ∃ y, xs[q]? = some y := ⟨_, List.getElem?_eq_getElem hql⟩
                                obtain ⟨g1, _⟩ := (S.ow 1 rfl).intAt Hil.out t (q : Int) (by rw [intsOf, List.getElem?_map, hq]; rfl)
                                obtain ⟨b3, o3, Az, cz, hq3, _, f0, _⟩ := (HSl.out wr S.b).evt q y hy
                                cases hq3
                                have hsn := idsAt_snoc hq hy
                                have Hsn := Lib.hid hsn
                                have hol : Hid ((idsAt xs (js.reverse.take t)).length ≤ 1000) := by
                                  show _ ≤ _
                                  rw [idsAt, List.length_map, List.length_take]
                                  omega
                                have hsz := S.b.size
                                have HS0 := Lib.hid S
                                clear hsn hq hy S
                                generalize idsAt xs (js.reverse.take t) = out at *
                                go_wp2_with (at_builtin; refine HS0.out.app 2 rfl tyStrs rfl _ _ rfl y.id 1 rfl rfl rfl (oneStrs y.id) hsz (by have := hol.out; omega) (by decide) ?_; intro v' w6 S6)
                                go_roundw
                                case rel => exact ⟨t + 1, by omega, by go_num, by rw [Hsn.out]; exact S6⟩
                                case measure => simp [intOf]; omega
                              · have hS0 := (S.del 1).del 0
                                (rw [List.take_of_length_le (by rw [List.length_reverse, hjl]; omega), HR3.out] at hS0)
                                have HS0 := Lib.hid hS0
                                clear hS0
                                clear S
                                go_wp2_with fail
                                go_ret2
                                exact ⟨_, rfl, HS0.out⟩
                          · have hdd : decide (span < x.at' - z.at') = true := decide_eq_true (by omega)
                            have HR3 : Hid ((funI xs ss span k (j + 1) (xs.length - (j + 1))).getD (funK xs ss span k) = R) := by show _ = _; rw [← HR2.out, chainAt_late HC.out Hx.out (by rw [ha0]; exact hz) hd]
                            clear HR2 HC hd hg0 hrh ha0 hz hjne hil
                            have HSb := Lib.hid (fun q => ((S.below (below_drewN _ w5 q)).del 1).del 0)
                            clear S
                            go_wp2_with fail
                            go_quiet (fail)
                            go_wp2_with fail
                            go_roundw
                            case rel => repeat (first | exact ⟨⟨j + 1, by omega, by go_num, HR3, HSb.out _⟩, rfl⟩ | apply Exists.intro)
                            case measure => simp [intOf]; omega
                      · have hnb : (x.name.toList == s.toList) = false := Bool.eq_false_iff.2 (fun h => hnm (beqS.1 h))
                        have HR2 : Hid ((funI xs ss span k (j + 1) (xs.length - (j + 1))).getD (funK xs ss span k) = R) := by show _ = _; rw [← HR.out, hm1, funI_skip hx Hs.out hnm]
                        have HSb := Lib.hid (fun q => (S.below (below_drewN _ w3 q)).del 0)
                        clear hx hnm HR hm1 S
                        go_wp2_with fail
                        go_quiet (fail)
                        go_wp2_with fail
                        go_roundw
                        case rel => exact ⟨j + 1, by omega, by go_num, HR2, HSb.out _⟩
                        case measure => simp [intOf]; omega
                    · have HR2 : Hid (funK xs ss span k = R) := by
                        show _ = _
                        rw [← HR.out, show xs.length - j = 0 by omega]
                        rfl
                      clear HR
                      go_wp2_with fail
                      go_roundw
                      case rel => exact ⟨k, by omega, by go_num, HR2, S⟩
                      case measure => simp [intOf]
            · have hd : decide (0 ≤ span ∧ span ≤ 4321440) = false := decide_eq_false hsp
              rw [if_pos hsp] at HF2
              have HF := HF2
              clear HF2
              have hFv := HF.out
              subst hFv
              rw [if_neg (by first | decide | assumption)] at HR
              obtain rfl : [] = R := HR.out
              have HSe := Lib.hid (S.nil rStr w.heap.size 9)
              clear HF HR S
              go_wp2_with fail
              go_ret2
              exact ⟨_, rfl, HSe.out⟩
  · rw [if_pos h0] at HF
    have h1 : (F0 != 0) = true := by simpa using h0
    have hFv := HF.out
    subst hFv
    rw [if_neg (by first | decide | assumption)] at HR
    obtain rfl : [] = R := HR.out
    have HSe := Lib.hid (S.nil rStr w.heap.size 9)
    clear HF HR S
    go_wp2_with fail
    go_ret2
    exact ⟨_, rfl, HSe.out⟩
end Go.Proofs.YthlcdepjmoddnaaGreatDoor

/- What handref2.FunnelOf and its closure return. -/
namespace Go.Proofs.YthlcdepjmoddnaaGreatDoor
open Go Go.RowKit
theorem chain_hit {l : List Evt} {ss : List ByteArray} {k j : Nat} {x : Evt} {s : ByteArray} (hx : l[j]? = some x) (hs : ss[k]? = some s) (hn : x.name = s) : chainE l (ss.take (k + 1)).reverse (j + 1) = (chainE l (ss.take k).reverse j).map (j :: ·) := by
  rw [take_rev hs, chain_some (seekE_hit hx hn)]
theorem idsAt_app {l : List Evt} {pre : List Nat} {j : Nat} {x : Evt} (hx : l[j]? = some x) : idsAt l (pre ++ [j]) = idsAt l pre ++ [x.id] := by
  unfold idsAt
  rw [List.map_append]
  simp [hx]
theorem idsAt_rev (l : List Evt) (js : List Nat) : (idsAt l js).reverse = idsAt l js.reverse := by
  unfold idsAt
  rw [List.map_reverse]
def outOf (l : List Evt) : Option (List Nat) → List ByteArray
  | none => []
  | some js => idsAt l js.reverse
def okOf (l : List Evt) (a span : Int) : Option (List Nat) → Bool
  | none => false
  | some js => decide (a - (l[js.getLastD 0]?.map Evt.at').getD 0 ≤ span)
def GivesBack (l : List Evt) (a span : Int) (R : Option (List Nat)) (w : World) (e : Ending) (w' : World) : Prop := ∃ v, e = .returned (.tuple #[v, .bool (okOf l a span R)]) ∧ Mem w w' [.own rStr w.heap.size 9 v (outOf l R)]
set_option maxHeartbeats 16000000 in
set_option maxRecDepth 100000 in
theorem back_any (N : Nat → Prop) (A As : Option Addr) (xs : List Evt) (ss : List ByteArray) (c cs : Nat) (span : Int) (Lb Wb Sb i0 k0 : Nat) (x0 : Evt) (w : World) (hS : Sl rEvt N w A xs) (hT : Sl rStr N w As ss) (hG : GoodEvs xs) (hs : ss.length ≤ 1000) (hx0 : xs[i0]? = some x0) (hk0 : k0 ≤ ss.length)
    (lL : LV w Lb #[.slice A xs.length c] 40) (lW : LV w Wb #[.int .i64 span] 3) (lS : LV w Sb #[.slice As ss.length cs] 85) :
    Calls Tryz.prog 112 #[.int .i64 i0, .int .i64 k0, .pointer (some ⟨Lb, 0, none⟩), .pointer (some ⟨Wb, 0, none⟩), .pointer (some ⟨Sb, 0, none⟩)] w (GivesBack xs x0.at' span ((chainE xs (ss.take k0).reverse i0).map (i0 :: ·)) w) := by
  have HSl := Lib.hid (fun w' (h : Below w.heap.size w w') => hS.keepB h)
  have HTl := Lib.hid (fun w' (h : Below w.heap.size w w') => hT.keepB h)
  have HLl := Lib.hid (fun w' (h : Below w.heap.size w w') => LV.kb3 lL h lL.lt)
  have HWl := Lib.hid (fun w' (h : Below w.heap.size w w') => LV.kb3 lW h lW.lt)
  have HSb := Lib.hid (fun w' (h : Below w.heap.size w w') => LV.kb3 lS h lS.lt)
  have HG := Lib.hid hG
  have hlen := hG.len
  have hx0r := hG.range (List.mem_of_getElem? hx0)
  have hi0 := (List.getElem?_eq_some_iff.1 hx0).1
  obtain ⟨R, HR⟩ : ∃ R, Hid ((chainE xs (ss.take k0).reverse i0).map (fun t => ([] : List Nat) ++ i0 :: t) = R) := ⟨_, Lib.hid rfl⟩
  rw [show (chainE xs (ss.take k0).reverse i0).map (i0 :: ·) = R from HR.out]
  have S := (Mem.start w).nil rStr w.heap.size 9
  replace S : Mem w w [.own rStr w.heap.size 9 (.slice none 0 0) (idsAt xs [])] := S
  obtain ⟨blk, off, Af, cf, hA, hblk, _, _, d2, _⟩ := hS.evt i0 x0 hx0
  subst hA
  have l0 := lL.all
  clear hS hT lL lW lS hG hx0
  obtain ⟨n, hn⟩ : ∃ n, n = ss.length := ⟨_, rfl⟩
  have Hn := Lib.hid hn
  rw [← hn] at hs hk0 HSb
  clear hn
  go_enter Tryz.func112, Tryz.ntmps112
  go_upto_region 3 with fail
  clear d2 l0
  go_loopw [0, 1, 10] (fun a b v wr => ∃ (i k : Nat) (pre : List Nat), i < xs.length ∧ k ≤ n ∧ a = .int .i64 i ∧ b = .int .i64 k ∧ Hid ((chainE xs (ss.take k).reverse i).map (fun t => pre ++ i :: t) = R) ∧ Hid (pre.length + k ≤ 1000) ∧ Mem w wr [.own rStr w.heap.size 9 v (idsAt xs pre)]) (fun _ b _ _ => (intOf b).toNat)
  case atStart => exact ⟨i0, k0, [], hi0, hk0, rfl, rfl, HR, (by show _ ≤ _; simp; omega), S⟩
  case round =>
    clear S HR
    obtain ⟨i, k, pre, hi, hk, rfl, rfl, HR, HL, S⟩ := hrel
    obtain ⟨x, hx⟩ : ∃ x, xs[i]? = some x := ⟨_, List.getElem?_eq_getElem hi⟩
    have hxr := HG.out.range (List.mem_of_getElem? hx)
    obtain ⟨b2, o2, Ag, cg, hq, _, d0, _, _, _⟩ := (HSl.out wr S.b).evt i x hx
    cases hq
    have l0 := (HLl.out wr S.b).all
    have Hid' := Lib.hid (idsAt_app (pre := pre) hx)
    have Hpl : Hid ((idsAt xs pre).length ≤ 1000) := by show _ ≤ _; rw [idsAt, List.length_map]; have h1 := HL.out; omega
    have Hx := Lib.hid hx
    have hsz := S.b.size
    have HS0 := Lib.hid S
    clear hx S
    generalize hout : idsAt xs pre = out at *
    clear hout
    go_upto_region 4 with (at_builtin; refine HS0.out.app 0 rfl tyStrs rfl _ _ rfl x.id 1 rfl rfl rfl (oneStrs x.id) hsz (by have := Hpl.out; omega) (by decide) ?_; intro v' w6 S6)
    replace S6 : Mem w w6 [.own rStr w.heap.size 9 v' (out ++ [x.id])] := S6
    rw [← Hid'.out] at S6
    clear d0 l0 HS0 Hpl Hid'
    have S := S6
    clear S6
    by_cases hk0' : k = 0
    · subst hk0'
      have hRp : R = some (pre ++ [i]) := by rw [← HR.out]; simp [chainE]
      subst hRp
      have hil : 0 < (idsAt xs (pre ++ [i])).length := by rw [idsAt, List.length_map, List.length_append, List.length_singleton]; omega
      obtain ⟨g, cap, rfl, _⟩ := (S.ow 0 rfl).form (by omega)
      have Hrv := Lib.hid (revStr_any (by rw [idsAt, List.length_map, List.length_append, List.length_singleton]; have h1 := HL.out; omega) S)
      rw [idsAt_rev] at Hrv
      have hok : okOf xs x0.at' span (some (pre ++ [i])) = decide (x0.at' - x.at' ≤ span) := by
        show decide (x0.at' - (xs[(pre ++ [i]).getLastD 0]?.map Evt.at').getD 0 ≤ span) = _
        rw [List.getLastD_concat, Hx.out]
        rfl
      have Hok := Lib.hid hok
      have hwd : IntKind.i64.wrap (x0.at' - x.at') = x0.at' - x.at' := IntWalk.i64_in _ (by omega)
      clear hok S HR HL
      generalize (idsAt xs (pre ++ [i])).length = nn at *
      go_wp2_with fail
      ((with_reducible refine (Hrv.out).mono ?_); rintro e w7 ⟨rfl, S⟩)
      clear Hrv
      obtain ⟨b3, o3, Ah, ch, hq, _, _, _, d2, _⟩ := (HSl.out w7 S.b).evt i x Hx.out
      cases hq
      have l0 := (HLl.out w7 S.b).all
      have w0 := (HWl.out w7 S.b).all
      have HSq := Lib.hid (fun q => S.below (below_drewN _ w7 q))
      clear S
      go_wp2_with fail
      go_quiet (fail)
      go_wp2_with fail
      go_ret2
      exact ⟨_, by rw [Hok.out]; rfl, HSq.out _⟩
    · obtain ⟨q, rfl⟩ : ∃ q, k = q + 1 := ⟨k - 1, by omega⟩
      clear hk0'
      obtain ⟨s, hs1⟩ : ∃ s, ss[q]? = some s := ⟨_, List.getElem?_eq_getElem (by have h1 := Hn.out; omega)⟩
      have Hs := Lib.hid hs1
      obtain ⟨Sk, HSk⟩ : ∃ Sk, Hid (seekE xs s i = Sk) := ⟨_, Lib.hid rfl⟩
      have HR2 : Hid (nextC xs (ss.take q).reverse (pre ++ [i]) Sk = R) := by
        show _ = _
        rw [← HR.out, take_rev hs1]
        cases Sk with
        | none => rw [chain_none HSk.out]; rfl
        | some j => rw [chain_some HSk.out, Option.map_map, nextC]; congr 1; funext t; simp
      have HL2 : Hid ((pre ++ [i]).length + q ≤ 1000) := by show _ ≤ _; rw [List.length_append, List.length_singleton]; have h1 := HL.out; omega
      have Hil : Hid (i ≤ xs.length) := Nat.le_of_lt hi
      have hqn : q < n := by omega
      clear hs1 HR HL
      generalize pre ++ [i] = pre2 at *
      go_upto_region 9 with fail
      obtain ⟨wo, hwo⟩ : ∃ wo : World, wo = w6 := ⟨_, rfl⟩
      subst hwo
      go_loopw [0] (fun a wr => ∃ p : Nat, p ≤ xs.length ∧ a = .int .i64 ((p : Int) - 1) ∧ Hid (seekE xs s p = Sk) ∧ Mem w wr [.own rStr w.heap.size 9 v' (idsAt xs pre2)]) (fun a _ => (intOf a + 1).toNat)
      case atStart => exact ⟨i, Hil.out, rfl, HSk, S⟩
      case round =>
        clear S HSk Hil Hx hxr hi
        obtain ⟨p, hp, rfl, HSk, S⟩ := hrel
        have l0 := (HLl.out wr S.b).all
        have s0 := (HSb.out wr S.b).all
        obtain ⟨B2, O2, hAs, hbs, e0⟩ := (HTl.out wr S.b).str q s Hs.out
        subst hAs
        by_cases hp0 : p = 0
        · subst hp0
          obtain rfl : none = Sk := HSk.out
          have hRn : R = none := HR2.out.symm
          subst hRn
          rw [show (.int .i64 (((0 : Nat) : Int) - 1) : Value) = .int .i64 (-1) from rfl]
          have HSq := Lib.hid (fun q => ((S.below (below_drewN _ wr q)).del 0).nil rStr w.heap.size 9)
          clear S HSk HR2
          go_wp2_with fail
          go_quiet (fail)
          go_wp2_with fail
          go_ret2
          exact ⟨_, rfl, HSq.out _⟩
        · obtain ⟨r, rfl⟩ : ∃ r, p = r + 1 := ⟨p - 1, by omega⟩
          rw [show (.int .i64 (((r + 1 : Nat) : Int) - 1) : Value) = .int .i64 (r : Int) by go_num]
          clear hp0
          have hrl : r < xs.length := by omega
          obtain ⟨y, hy⟩ : ∃ y, xs[r]? = some y := ⟨_, List.getElem?_eq_getElem hrl⟩
          obtain ⟨b3, o3, Ah, ch, hq3, _, _, d1, _⟩ := (HSl.out wr S.b).evt r y hy
          cases hq3
          by_cases hnm : y.name = s
          · have hnb : (y.name.toList == s.toList) = true := beqS.2 hnm
            obtain rfl : some r = Sk := by rw [← HSk.out, seekE_hit hy hnm]
            have HR3 : Hid ((chainE xs (ss.take q).reverse r).map (fun t => pre2 ++ r :: t) = R) := HR2.out
            have HSq := Lib.hid (fun q => S.below (below_drewN _ wr q))
            clear hy hnm HSk HR2 S
            go_wp2_with fail
            go_quiet (fail)
            go_wp2_with fail
            go_roundw
            case rel => first | exact ⟨r, q, pre2, by omega, by omega, rfl, by go_num, HR3, HL2, HSq.out _⟩ | (repeat (first | exact ⟨⟨r, q, pre2, by omega, by omega, rfl, by go_num, HR3, HL2, HSq.out _⟩, rfl⟩ | apply Exists.intro))
            case measure => simp [intOf]
          · have hnb : (y.name.toList == s.toList) = false := Bool.eq_false_iff.2 (fun h => hnm (beqS.1 h))
            have HSk2 : Hid (seekE xs s r = Sk) := by show _ = _; rw [← HSk.out, seekE_skip hy hnm]
            have HSq := Lib.hid (fun q => S.below (below_drewN _ wr q))
            clear hy hnm HSk S
            go_wp2_with fail
            go_quiet (fail)
            go_wp2_with fail
            go_roundw
            case rel => first | exact ⟨r, by omega, by go_num, HSk2, HSq.out _⟩ | (repeat (first | exact ⟨⟨r, by omega, by go_num, HSk2, HSq.out _⟩, rfl⟩ | apply Exists.intro))
            case measure => simp [intOf]
def GivesSs (l : List ByteArray) (w : World) (e : Ending) (w' : World) : Prop := ∃ v B, e = .returned v ∧ Mem w w' [.own rStr B 9 v l]
set_option maxHeartbeats 16000000 in
set_option maxRecDepth 100000 in
theorem funnelOf_any (N : Nat → Prop) (A As : Option Addr) (xs : List Evt) (ss : List ByteArray) (c cs : Nat) (span : Int) (w : World) (hS : Sl rEvt N w A xs) (hT : Sl rStr N w As ss) (hG : GoodEvs xs) (hs : ss.length ≤ 1000) :
    Calls Tryz.prog 52 #[.slice A xs.length c, .slice As ss.length cs, .int .i64 span] w (GivesSs (funAns xs ss span) w) := by
  have HSl := Lib.hid (fun w' (h : Below w.heap.size w w') => hS.keepB h)
  have HTl := Lib.hid (fun w' (h : Below w.heap.size w w') => hT.keepB h)
  have HG := Lib.hid hG
  have hlen := hG.len
  obtain ⟨n, hn⟩ : ∃ n, n = ss.length := ⟨_, rfl⟩
  have Hn := Lib.hid hn
  have hs2 := hs
  rw [← hn] at hs2
  have S : Mem w (((w.alloc (.cells #[.slice A xs.length c] 40)).alloc (.cells #[.slice As ss.length cs] 85)).alloc (.cells #[.int .i64 span] 3)) [.loc w.heap.size #[.slice A xs.length c] 40, .loc (w.heap.size + 1) #[.slice As ss.length cs] 85, .loc (w.heap.size + 1 + 1) #[.int .i64 span] 3] := (((Mem.start w).new' _ _).newAt _ _ _ (by simp)).newAt _ _ _ (by simp)
  obtain ⟨R, HR⟩ : ∃ R, Hid (funAns xs ss span = R) := ⟨_, Lib.hid rfl⟩
  rw [HR.out]
  have HR0 : Hid (funK xs ss span n = R) := by show _ = _; rw [← HR.out, hn]; rfl
  clear hS hT hG HR
  rw [← hn] at S ⊢
  clear hn
  obtain ⟨Wb, hWb⟩ : ∃ X, X = w.heap.size + 1 + 1 := ⟨_, rfl⟩
  obtain ⟨Sb, hSb⟩ : ∃ X, X = w.heap.size + 1 := ⟨_, rfl⟩
  obtain ⟨Lb, hLb⟩ : ∃ X, X = w.heap.size := ⟨_, rfl⟩
  rw [← hWb, ← hSb, ← hLb] at S
  go_enter Tryz.func52, Tryz.ntmps52
  go_upto_region 1 with fail
  (try rw [World.size_alloc])
  (try rw [World.size_alloc])
  rw [← hWb, ← hSb, ← hLb]
  clear hWb hSb hLb
  generalize ((w.alloc (.cells #[.slice A xs.length c] 40)).alloc (.cells #[.slice As n cs] 85)).alloc (.cells #[.int .i64 span] 3) = w1 at *
  have b0 := (S.lv 1 rfl).all
  go_upto_region 3 with fail
  clear b0
  go_loopw [8] (fun a wr => ∃ i : Nat, i ≤ n ∧ a = .int .i64 ((i : Int) - 1) ∧ Hid (funK xs ss span i = R) ∧ Mem w wr [.loc Lb #[.slice A xs.length c] 40, .loc Sb #[.slice As n cs] 85, .loc Wb #[.int .i64 span] 3]) (fun a _ => (intOf a + 1).toNat)
  case atStart => exact ⟨n, Nat.le_refl _, rfl, HR0, S⟩
  case round =>
    clear S HR0
    obtain ⟨i, hi, rfl, HR, S⟩ := hrel
    by_cases hi0 : i = 0
    · subst hi0
      obtain rfl : [] = R := HR.out
      rw [show (.int .i64 (((0 : Nat) : Int) - 1) : Value) = .int .i64 (-1) from rfl]
      have HS0 := Lib.hid ((((S.del 2).del 1).del 0).nil rStr w.heap.size 9)
      clear S HR
      go_wp2_with fail
      go_ret
      exact ⟨_, _, rfl, HS0.out⟩
    · obtain ⟨k, rfl⟩ : ∃ k, i = k + 1 := ⟨i - 1, by omega⟩
      rw [show (.int .i64 (((k + 1 : Nat) : Int) - 1) : Value) = .int .i64 (k : Int) by go_num]
      obtain ⟨s, hs⟩ : ∃ s, ss[k]? = some s := ⟨_, List.getElem?_eq_getElem (by have h1 := Hn.out; omega)⟩
      have Hs := Lib.hid hs
      have HR1 : Hid ((funI xs ss span k 0 (xs.length - 0)).getD (funK xs ss span k) = R) := by show _ = _; rw [← HR.out, funK_succ]; rfl
      have hkn : k < n := by omega
      have b0 := (S.lv 0 rfl).all
      clear hs HR hi0
      go_upto_region 6 with fail
      clear b0
      obtain ⟨wo, hwo⟩ : ∃ wo : World, wo = wr := ⟨_, rfl⟩
      subst hwo
      go_loopw [23] (fun a wr => ∃ j : Nat, j ≤ xs.length ∧ a = .int .i64 j ∧ Hid ((funI xs ss span k j (xs.length - j)).getD (funK xs ss span k) = R) ∧ Mem w wr [.loc Lb #[.slice A xs.length c] 40, .loc Sb #[.slice As n cs] 85, .loc Wb #[.int .i64 span] 3]) (fun a _ => xs.length - (intOf a).toNat)
      case atStart => exact ⟨0, Nat.zero_le _, rfl, HR1, S⟩
      case round =>
        clear S HR1
        obtain ⟨j, hj, rfl, HR, S⟩ := hrel
        by_cases hlt : j < xs.length
        · obtain ⟨x, hx⟩ : ∃ x, xs[j]? = some x := ⟨_, List.getElem?_eq_getElem hlt⟩
          obtain ⟨B2, O2, hAs, hbs, e0⟩ := (HTl.out wr S.b).str k s Hs.out
          subst hAs
          obtain ⟨blk, off, Af, cf, rfl, hblk, d0, d1, d2, d3, d4, d5, _⟩ := (HSl.out wr S.b).evt j x hx
          have hbn : Below wr.heap.size wr (wr.alloc (.cells (evCs x Af cf) 32)) := (Below.refl _ _).alloc (Nat.le_refl _) _
          have e1 := (hbn.cell (p := ⟨B2, O2 + k, none⟩) hbs).trans e0
          go_upto_region 8 with fail
          clear d0 d1 d2 d3 d4 d5 e0 hbn
          obtain ⟨Y, hY⟩ : ∃ Y, Y = wr.heap.size := ⟨_, rfl⟩
          replace S := S.newAt (evCs x Af cf) 32 Y hY
          replace S : Mem w (wr.alloc (.cells (evCs x Af cf) 32)) [.loc Lb #[.slice (some ⟨blk, off, none⟩) xs.length c] 40, .loc Sb #[.slice (some ⟨B2, O2, none⟩) n cs] 85, .loc Wb #[.int .i64 span] 3, .loc Y (evCs x Af cf) 32] := S
          rw [← hY]
          clear hY
          generalize wr.alloc (.cells (evCs x Af cf) 32) = w3 at *
          have y0 := (S.lv 3 rfl).all
          have b0 := (S.lv 1 rfl).all
          have hm1 : xs.length - j = (xs.length - (j + 1)) + 1 := by omega
          by_cases hnm : x.name = s
          · have hnb : (x.name.toList == s.toList) = true := beqS.2 hnm
            obtain ⟨C, HC⟩ : ∃ C, Hid ((chainE xs (ss.take k).reverse j).map (j :: ·) = C) := ⟨_, Lib.hid rfl⟩
            have HCh : Hid (chainE xs (ss.take (k + 1)).reverse (j + 1) = C) := by show _ = _; rw [chain_hit hx Hs.out hnm, HC.out]
            have HR2 : Hid ((match chainAt xs ss span k j with | some o => some o | none => funI xs ss span k (j + 1) (xs.length - (j + 1))).getD (funK xs ss span k) = R) := by show _ = _; (rw [← HR.out, hm1, funI_hit hx Hs.out hnm]) <;> (cases chainAt xs ss span k j <;> rfl)
            have Hx := Lib.hid hx
            clear hx hnm HR hm1
            go_wp2_with fail
            go_quiet (fail)
            replace S := S.below (below_drewN _ w3 nq)
            generalize w3.drewN nq = w4 at *
            clear e1 y0 b0
            have lSb := S.lv 1 rfl
            have Hbk := Lib.hid (back_any N (some ⟨blk, off, none⟩) (some ⟨B2, O2, none⟩) xs ss c cs span Lb Wb Sb j k x w4 (HSl.out w4 S.b) (HTl.out w4 S.b) HG.out (by have h1 := Hn.out; omega) Hx.out (by have h1 := Hn.out; omega) (S.lv 0 rfl) (S.lv 2 rfl) (by rw [← Hn.out]; exact lSb))
            rw [HC.out] at Hbk
            clear lSb
            go_wp2_with fail
            ((with_reducible refine (Hbk.out).mono ?_); rintro e w5 ⟨v, rfl, M⟩)
            clear Hbk
            by_cases hok : okOf xs x.at' span C = true
            · rw [hok]
              obtain ⟨js, rfl⟩ : ∃ js, C = some js := by
                cases C with
                | none => cases hok
                | some js => exact ⟨js, rfl⟩
              have hjne : js ≠ [] := fun h => by
                have h1 := chainE_len HCh.out
                rw [h, List.length_reverse, List.length_take] at h1
                simp at h1
                have h2 := Hn.out
                omega
              obtain ⟨z, hz⟩ : ∃ z, xs[js.getLastD 0]? = some z := ⟨_, List.getElem?_eq_getElem (chainE_lt HCh.out _ (List.mem_reverse.1 (List.mem_of_getElem? (rev_head hjne)))).2⟩
              have hd : x.at' - z.at' ≤ span := by
                have h1 : decide (x.at' - (xs[js.getLastD 0]?.map Evt.at').getD 0 ≤ span) = true := hok
                rw [hz] at h1
                exact of_decide_eq_true h1
              obtain rfl : idsAt xs js.reverse = R := by rw [← HR2.out, chainAt_some HCh.out Hx.out hz hd]; rfl
              have HM := Lib.hid ((((S.join M).del 3).del 2).del 1)
              have HM2 := Lib.hid (HM.out.del 0)
              clear S M HM HR2 HC HCh hz hd hjne hok
              go_wp2_with fail
              go_ret
              exact ⟨_, _, rfl, HM2.out⟩
            · have hokf : okOf xs x.at' span C = false := by simpa using hok
              rw [hokf]
              have hcn : chainAt xs ss span k j = none := by
                cases C with
                | none => exact chainAt_none HCh.out
                | some js =>
                  have hjne : js ≠ [] := fun h => by
                    have h1 := chainE_len HCh.out
                    rw [h, List.length_reverse, List.length_take] at h1
                    simp at h1
                    have h2 := Hn.out
                    omega
                  obtain ⟨z, hz⟩ : ∃ z, xs[js.getLastD 0]? = some z := ⟨_, List.getElem?_eq_getElem (chainE_lt HCh.out _ (List.mem_reverse.1 (List.mem_of_getElem? (rev_head hjne)))).2⟩
                  refine chainAt_late HCh.out Hx.out hz ?_
                  have h1 : decide (x.at' - (xs[js.getLastD 0]?.map Evt.at').getD 0 ≤ span) = false := hokf
                  rw [hz] at h1
                  exact of_decide_eq_false h1
              have HR3 : Hid ((funI xs ss span k (j + 1) (xs.length - (j + 1))).getD (funK xs ss span k) = R) := by show _ = _; rw [← HR2.out, hcn]
              have HM := Lib.hid (((S.join M).del 4).del 3)
              clear S M HR2 HC HCh hok hokf hcn
              go_wp2_with fail
              go_roundw
              case rel => first | exact ⟨j + 1, by omega, by go_num, HR3, HM.out⟩ | (repeat (first | exact ⟨⟨j + 1, by omega, by go_num, HR3, HM.out⟩, rfl⟩ | apply Exists.intro))
              case measure => simp [intOf]; omega
          · have hnb : (x.name.toList == s.toList) = false := Bool.eq_false_iff.2 (fun h => hnm (beqS.1 h))
            have HR2 : Hid ((funI xs ss span k (j + 1) (xs.length - (j + 1))).getD (funK xs ss span k) = R) := by show _ = _; rw [← HR.out, hm1, funI_skip hx Hs.out hnm]
            have HSq := Lib.hid (fun q => (S.below (below_drewN _ w3 q)).del 3)
            clear hx hnm HR hm1 S
            go_wp2_with fail
            go_quiet (fail)
            go_wp2_with fail
            go_roundw
            case rel => first | exact ⟨j + 1, by omega, by go_num, HR2, HSq.out _⟩ | (repeat (first | exact ⟨⟨j + 1, by omega, by go_num, HR2, HSq.out _⟩, rfl⟩ | apply Exists.intro))
            case measure => simp [intOf]; omega
        · have HR2 : Hid (funK xs ss span k = R) := by
            show _ = _
            rw [← HR.out, show xs.length - j = 0 by omega]
            rfl
          clear HR
          go_wp2_with fail
          go_roundw
          case rel => exact ⟨k, by omega, by go_num, HR2, S⟩
          case measure => simp [intOf]
end Go.Proofs.YthlcdepjmoddnaaGreatDoor

/- The law EventFunnels walked: it returns true, and nothing that was there has turned. -/
namespace Go.Proofs.YthlcdepjmoddnaaGreatDoor
open Go Go.RowKit
def sliceLen : Value → Nat
  | .slice _ n _ => n
  | _ => 0
theorem namesErr_five : ∀ ns : List ByteArray, namesErr ns = 0 ∨ namesErr ns = 5
  | [] => .inl rfl
  | x :: r => by
    unfold namesErr
    split
    · exact .inr rfl
    · exact namesErr_five r
theorem funK_len (l : List Evt) (ss : List ByteArray) (span : Int) : ∀ k, (funK l ss span k).length ≤ k
  | 0 => Nat.le_refl _
  | k + 1 => by
    rw [funK_succ]
    have hI : ∀ (m i : Nat) (o : List ByteArray), funI l ss span k i m = some o → o.length ≤ k + 1 := by
      intro m
      induction m with
      | zero => intro i o h; cases h
      | succ m ih =>
        intro i o h
        rw [funI] at h
        split at h
        · cases hc : chainAt l ss span k i with
          | none => rw [hc] at h; exact ih _ _ h
          | some o2 =>
            rw [hc] at h
            cases h
            rw [chainAt] at hc
            split at hc
            · cases hc
            · rename_i js hjs
              split at hc
              · cases hc
                rw [idsAt, List.length_map, List.length_reverse, chainE_len hjs, List.length_reverse, List.length_take]
                omega
              · cases hc
        · exact ih _ _ h
    cases h : funI l ss span k 0 l.length with
    | none => exact Nat.le_trans (funK_len l ss span k) (Nat.le_succ k)
    | some o => exact hI _ _ _ h
set_option maxHeartbeats 4000000 in
set_option maxRecDepth 100000 in
theorem nameFaultS_any (N : Nat → Prop) (A : Option Addr) (ns : List ByteArray) (c : Nat) (w : World) (hS : Sl rStr N w A ns) (hnl : ns.length ≤ 1000) (hns : ∀ x ∈ ns, x.size ≤ 1000000000) :
    Calls Tryz.prog 30 #[.slice A ns.length c] w fun e w' => e = .returned (.int .i64 (namesErr ns)) ∧ Below w.heap.size w w' := by
  have HX := Lib.hid (fun w' (h : Below w.heap.size w w') => hS.keepB h)
  have Hns := Lib.hid hns
  clear hS hns
  obtain ⟨R, HR⟩ : ∃ R, Hid (namesErr ns = R) := ⟨_, Lib.hid rfl⟩
  rw [HR.out]
  go_enter Tryz.func30, Tryz.ntmps30
  go_wp2_with fail
  go_loopw [4, 7] (fun s4 i wr => ∃ k : Nat, k ≤ ns.length ∧ i = .int .i64 k ∧ Hid (namesErr (ns.drop k) = R) ∧ Below w.heap.size w wr) (fun _ i _ => ns.length - (intOf i).toNat)
  case atStart => exact ⟨0, Nat.zero_le _, rfl, HR, Below.refl _ _⟩
  case round =>
    clear HR
    obtain ⟨k, hk, rfl, HR, hbl⟩ := hrel
    by_cases hlt : k < ns.length
    · obtain ⟨x, hx⟩ : ∃ x, ns[k]? = some x := ⟨_, List.getElem?_eq_getElem hlt⟩
      have hxs := Hns.out x (List.mem_of_getElem? hx)
      obtain ⟨blk, off, rfl, _, c0⟩ := (HX.out wr hbl).str k x hx
      have HR1 : Hid ((if L.isKey x = false then (5 : Int) else namesErr (ns.drop (k + 1))) = R) := by show _ = _; rw [← HR.out, namesErr_at hx]
      have Hk := Lib.hid (Key_any x wr (by omega))
      generalize L.isKey x = K at *
      clear HR hx
      cases K with
      | false =>
        have HR2 : Hid (5 = R) := HR1.out
        go_wp2_with fail
        ((with_reducible refine (Hk.out).mono ?_); rintro e w2 ⟨rfl, hl2⟩)
        go_wp2_with fail
        go_ret
        exact ⟨ret_i HR2.out, hbl.trans (hl2.mono hbl.size)⟩
      | true =>
        have HR2 : Hid (namesErr (ns.drop (k + 1)) = R) := HR1.out
        clear HR1
        go_wp2_with fail
        ((with_reducible refine (Hk.out).mono ?_); rintro e w2 ⟨rfl, hl2⟩)
        clear c0
        go_wp2_with fail
        go_roundw
        case rel => exact ⟨k + 1, by omega, by go_num, HR2, hbl.trans (hl2.mono hbl.size)⟩
        case measure => simp [intOf]; omega
    · have HR2 : Hid (0 = R) := by
        show _ = _
        rw [← HR.out, List.drop_eq_nil_of_le (by omega)]
        rfl
      clear HR
      go_wp2_with fail
      go_ret
      exact ⟨ret_i HR2.out, hbl⟩
set_option maxHeartbeats 16000000 in
set_option maxRecDepth 100000 in
theorem eventFunnels_any (v : Value) (w : World) (hv : IntsIn v w) (hT : Tabs w) (hM : MaxL w) (hN : Names w) (hE : ENames w) (hP : Pool w) :
    Calls Tryz.prog 9 #[v] w fun e w' => e = .returned (.bool true) ∧ Below w.heap.size w w' := by
  obtain ⟨va, vn, vc, rfl⟩ : ∃ a n c, v = .slice a n c := by
    rcases hv with ⟨a, c, rfl⟩ | ⟨k, off, len, cap, rfl, _⟩
    · exact ⟨_, _, _, rfl⟩
    · exact ⟨_, _, _, rfl⟩
  have g0 := G.start (Strm.start hv)
  clear hv
  have S := St.start g0.s
  have hPn : 2 ≠ w.heap.size := Nat.ne_of_lt hP.lt
  have hNn : 1 ≠ w.heap.size := Nat.ne_of_lt hN.lt
  have hEn : 0 ≠ w.heap.size := Nat.ne_of_lt hE.lt
  have hb0 : Below w.heap.size w (w.alloc (.cells #[.slice va vn vc, .int .i64 0] 25)) := (Below.refl _ _).alloc (Nat.le_refl _) _
  have Hb0 := Lib.hid hb0
  have HTM : Hid (∀ w', Below w.heap.size w w' → Tabs w' ∧ MaxL w') := fun w' h => ⟨Utf8Tabs_below hT h, hM.below h⟩
  have HP := Lib.hid (hP.keep (b := w.heap.size) ((SK.refl _ w).alloc (.cells #[.slice va vn vc, .int .i64 0] 25)) hPn)
  have HN := Lib.hid (hN.keep (b := w.heap.size) ((SK.refl _ w).alloc (.cells #[.slice va vn vc, .int .i64 0] 25)) hNn)
  have HE := Lib.hid (hE.keep (b := w.heap.size) ((SK.refl _ w).alloc (.cells #[.slice va vn vc, .int .i64 0] 25)) hEn)
  have hw0 : w.heap.size ≤ (w.alloc (.cells #[.slice va vn vc, .int .i64 0] 25)).heap.size := by simp
  clear hP hM hN hE hT hb0
  go_enter Tryz.func9, Tryz.ntmps9
  go_wp2_with fail
  ((with_reducible refine (range_any w.heap.size _ _ _ _ S.g.s (by omega) (by omega) (by omega) (by omega)).mono ?_); rintro e w1 ⟨many, m_lo, m_hi, rfl, hk_w1, hs_w1⟩)
  replace S := S.step hk_w1 hs_w1
  clear hk_w1 hs_w1
  obtain ⟨n, rfl⟩ := Int.eq_ofNat_of_zero_le m_lo
  go_wp2_with fail
  ((with_reducible refine (some_any w.heap.size _ n _ S.g.s (by omega) (by omega) (HN.out.keep S.g.k hNn) hNn (HE.out.keep S.g.k hEn) hEn (HP.out.keep S.g.k hPn) hPn (fun w' h => HTM.out w' (Hb0.out.trans ((S.g.k.trans h).below (Nat.le_refl _) hw0)))).mono ?_); rintro e w2 ⟨A, c, xs, rfl, hxl, hxs, hc, T⟩)
  replace S := S.join T
  have Hxs := Lib.hid hxs
  have Hc0 := Lib.hid hc
  clear T hxs hc
  replace S : St w.heap.size 100000 _ w2 [.sl rEvt A xs] := S.mono (by omega)
  obtain ⟨F, HF⟩ : ∃ F, Hid (evsFault xs = F) := ⟨_, Lib.hid rfl⟩
  rw [HF.out]
  have Hxl : Hid (xs.length ≤ 16) := by show _ ≤ _; omega
  obtain ⟨nx, hnx⟩ : ∃ nx, xs.length = nx := ⟨_, rfl⟩
  have Hnx := Lib.hid hnx
  rw [hnx]
  clear hnx hxl m_lo m_hi
  generalize hw0' : w.alloc (.cells #[.slice va vn vc, .int .i64 0] 25) = w0 at *
  clear hw0'
  replace S : St w.heap.size 100000 w0 w2 [.sl rEvt A xs, .own rStr w.heap.size 9 (.slice none 0 0) []] := S.nil rStr w.heap.size 9
  go_wp2_with fail
  ((with_reducible refine (pick_le w.heap.size _ _ _ 0 4 S.g.s (by first | rfl | simp) (by first | rfl | simp) (intsIn_of (by decide)) (by simp) (by simp) (by omega)).mono ?_); rintro e w3 ⟨p, p_lo, p_hi, rfl, hk_w3, hs_w3⟩)
  replace S := S.step hk_w3 hs_w3
  clear hk_w3 hs_w3
  obtain ⟨n, rfl⟩ := Int.eq_ofNat_of_zero_le p_lo
  replace S : St w.heap.size 100001 w0 w3 [.sl rEvt A xs, .own rStr w.heap.size 9 (.slice none 0 0) []] := S
  go_wp2_with fail
  go_loopw [6, 23] (fun vv i wr => ∃ (j : Nat) (ss : List ByteArray), j ≤ n ∧ i = .int .i64 j ∧ Hid (ss.length = j) ∧ Hid (∀ y ∈ ss, y.size ≤ 1000) ∧ St w.heap.size (100001 + 2 * j) w0 wr [.sl rEvt A xs, .own rStr w.heap.size 9 vv ss]) (fun _ i _ => n - (intOf i).toNat)
  case atStart => exact ⟨0, [], Nat.zero_le _, rfl, Lib.hid rfl, (fun y hy => by cases hy), S⟩
  case round =>
    clear S
    obtain ⟨j, ss, hj, rfl, HXl, HX, S⟩ := hrel
    have hj4 : j ≤ 4 := by omega
    by_cases hlt : j < n
    · go_wp2_with fail
      ((with_reducible refine (evName_any w.heap.size _ _ S.g.s (by omega)).mono ?_); rintro e w4 ⟨s, s_le, rfl, hk_w4, hs_w4⟩)
      replace S := S.step hk_w4 hs_w4
      clear hk_w4 hs_w4
      have hsz : w.heap.size ≤ w4.heap.size := Nat.le_trans hw0 S.g.size
      have Hil : Hid (ss.length ≤ 1000) := by show _ ≤ _; have := HXl.out; omega
      have HS0 := Lib.hid S
      clear S
      go_wp2_with (at_builtin; refine HS0.out.app 1 rfl tyStrs rfl _ _ rfl s 1 rfl rfl rfl (oneStrs s) hsz (by have := Hil.out; omega) (by decide) ?_; intro v' w6 S6)
      go_roundw
      case rel => exact ⟨j + 1, ss ++ [s], by omega, by go_num, (by show _ = _; rw [List.length_append, HXl.out]; rfl), (fun y hy => by
        rcases List.mem_append.1 hy with hy | hy
        · exact HX.out y hy
        · rw [List.mem_singleton.1 hy]; omega), S6.mono (by omega)⟩
      case measure => simp [intOf]; omega
    · have Hl40 : Hid (ss.length ≤ 40) := by show _ ≤ _; have := HXl.out; omega
      replace S : St w.heap.size (100010 + ss.length) w0 wr [.sl rEvt A xs, .own rStr w.heap.size 9 _ ss] := S.mono (by omega)
      go_upto_region 8 with fail
      clear hlt hj hj4 HXl p_lo p_hi
      generalize wr = we at *
      go_loopw [6] (fun vv wr => ∃ ss : List ByteArray, Hid (ss.length ≤ 40) ∧ Hid (∀ y ∈ ss, y.size ≤ 1000) ∧ St w.heap.size (100010 + ss.length) w0 wr [.sl rEvt A xs, .own rStr w.heap.size 9 vv ss]) (fun vv _ => 41 - sliceLen vv)
      case atStart => exact ⟨ss, Hl40, HX, S⟩
      case round =>
        clear S HX Hl40
        obtain ⟨ss, Hl40, HX, S⟩ := hrel
        obtain ⟨Ao, co, rfl⟩ := (S.ow 1 rfl).len
        have h40 := Hl40.out
        obtain ⟨n0, hn0⟩ : ∃ n0, n0 = ss.length := ⟨_, rfl⟩
        rw [← hn0] at S h40 ⊢
        have Hn0 := Lib.hid hn0
        clear hn0
        go_wp2_with fail
        ((with_reducible refine (flip_any w.heap.size _ _ _ S.g.s (by omega) (by omega) (by omega)).mono ?_); rintro e w5 ⟨r5, rfl, hk_w5, hs_w5⟩)
        replace S := S.step hk_w5 hs_w5
        clear hk_w5 hs_w5
        cases r5 with
        | true =>
          by_cases hn21 : n0 < 21
          · go_upto_region 10 with fail
            have HS0 := Lib.hid S
            obtain ⟨wo, hwo⟩ : ∃ wo : World, wo = w5 := ⟨_, rfl⟩
            subst hwo
            clear S
            rw [show decide ((n0 : Int) < 21) = true from decide_eq_true (by omega)]
            go_loopw [6, 38] (fun vv i wr => ∃ (t : Nat) (s2 : List ByteArray), t ≤ 20 ∧ i = .int .i64 t ∧ Hid (s2.length = n0 + t) ∧ Hid (∀ y ∈ s2, y.size ≤ 1000) ∧ St w.heap.size (100010 + n0 + 1) w0 wr [.sl rEvt A xs, .own rStr w.heap.size 9 vv s2]) (fun _ i _ => 20 - (intOf i).toNat)
            case atStart => exact ⟨0, ss, Nat.zero_le _, rfl, Hn0.out.symm, HX, HS0.out⟩
            case round =>
              clear HS0 HX
              obtain ⟨t, s2, ht, rfl, HL2, HX, S⟩ := hrel
              by_cases hlt : t < 20
              · have hsz : w.heap.size ≤ wr.heap.size := Nat.le_trans hw0 S.g.size
                have Hil : Hid (s2.length ≤ 1000) := by show _ ≤ _; have := HL2.out; omega
                have HS0 := Lib.hid S
                clear S
                go_wp2_with (at_builtin; refine HS0.out.app 1 rfl tyStrs rfl _ _ rfl ⟨#[98, 117, 121]⟩ 1 rfl rfl rfl (oneStrs ⟨#[98, 117, 121]⟩) hsz (by have := Hil.out; omega) (by decide) ?_; intro v' w6 S6)
                have HL3 : Hid ((s2 ++ [(⟨#[98, 117, 121]⟩ : ByteArray)]).length = n0 + (t + 1)) := by show _ = _; rw [List.length_append, HL2.out]; rfl
                have HX3 : Hid (∀ y ∈ s2 ++ [(⟨#[98, 117, 121]⟩ : ByteArray)], y.size ≤ 1000) := fun y hy => by
                  rcases List.mem_append.1 hy with hy | hy
                  · exact HX.out y hy
                  · rw [List.mem_singleton.1 hy]; decide
                replace S6 : St w.heap.size (100010 + n0 + 1) w0 w6 [.sl rEvt A xs, .own rStr w.heap.size 9 v' (s2 ++ [(⟨#[98, 117, 121]⟩ : ByteArray)])] := S6
                go_roundw
                case rel => exact ⟨t + 1, s2 ++ [(⟨#[98, 117, 121]⟩ : ByteArray)], by omega, by go_num, HL3, HX3, S6⟩
                case measure => simp [intOf]; omega
              · have ht20 : t = 20 := by omega
                subst ht20
                obtain ⟨A6, c6, e6⟩ := (S.ow 1 rfl).len
                have h2 := HL2.out
                have Hm : Hid (41 - sliceLen (.slice A6 s2.length c6) < 41 - sliceLen (.slice Ao n0 co)) := by
                  show 41 - s2.length < 41 - n0
                  omega
                rw [← e6] at Hm
                have Hr : Hid (∃ ss : List ByteArray, Hid (ss.length ≤ 40) ∧ Hid (∀ y ∈ ss, y.size ≤ 1000) ∧ St w.heap.size (100010 + ss.length) w0 wr [.sl rEvt A xs, .own rStr w.heap.size 9 _ ss]) := ⟨s2, (by show _ ≤ _; omega), HX, S.mono (by omega)⟩
                clear S h2 HX HL2 e6
                go_wp2_with fail
                go_roundw
                case rel => exact Hr.out
                case measure => exact Hm.out
          · go_upto_region 13 with fail
            go_wp2_with fail
            ((with_reducible refine (pick_le w.heap.size _ _ _ (-1) 4321441 S.g.s (by first | rfl | simp) (by first | rfl | simp) (by repeat (first | exact intsIn_nil | refine intsIn_cons (by omega) ?_)) (by simp) (by simp) (by omega)).mono ?_); rintro e w6 ⟨sp, sp_lo, sp_hi, rfl, hk_w6, hs_w6⟩)
            replace S := S.step hk_w6 hs_w6
            clear hk_w6 hs_w6
            have hb6 : Below w.heap.size w w6 := Hb0.out.trans (S.g.k.below (Nat.le_refl _) hw0)
            have Hb6 := Lib.hid hb6
            have hok : EvsOk xs := evsOk_sm Hxl.out Hxs.out
            obtain ⟨hT6, hM6⟩ := HTM.out _ hb6
            have hSF := (S.slc 0 rfl).mono (M := fun _ => False) (fun _ _ h => h.elim)
            have hcap : n0 ≤ co := by
              rcases (S.ow 1 rfl).shape2 with ⟨h1, h2⟩ | ⟨g, cap, h1, h2⟩
              · simp only [Value.slice.injEq] at h1; omega
              · simp only [Value.slice.injEq] at h1
                have h3 := Hn0.out
                omega
            have hRF := (S.ow 1 rfl).slF flatStr
            have h20 := Hn0.out
            have Hc := Lib.hid (funnel_any (fun _ => False) A Ao xs ss c co sp w6 hSF hok hT6 hM6 hRF (fun y hy => by have := HX.out y hy; omega) (by omega) (by omega))
            have Hnf := Lib.hid (fun w' (h : Below w6.heap.size w6 w') => nameFaultS_any (fun _ => False) Ao ss co w' (hRF.keepB h) (by omega) (fun y hy => by have := HX.out y hy; omega))
            have Hof := Lib.hid (fun (hg : GoodEvs xs) w' (h : Below w6.heap.size w6 w') => funnelOf_any (fun _ => False) A Ao xs ss c co sp w' (hSF.keepB h) (hRF.keepB h) hg (by omega))
            obtain ⟨E, HE'⟩ : ∃ E, Hid (funErr xs ss sp = E) := ⟨_, Lib.hid rfl⟩
            obtain ⟨L, HL⟩ : ∃ L, Hid (funAll xs ss sp = L) := ⟨_, Lib.hid rfl⟩
            obtain ⟨Fn, HFn⟩ : ∃ Fn, Hid (namesErr ss = Fn) := ⟨_, Lib.hid rfl⟩
            have h05 : Fn = 0 ∨ Fn = 5 := by rw [← HFn.out]; exact namesErr_five ss
            have HE2 : Hid ((if F ≠ 0 then F else if n0 = 0 then 3 else if 20 < n0 then 2 else if Fn ≠ 0 then Fn else if ¬ (0 ≤ sp ∧ sp ≤ 4321440) then 1 else 0) = E) := by show _ = _; rw [← HE'.out, funErr, HF.out, HFn.out, h20]
            have HL2 : Hid ((if E = 0 then funAns xs ss sp else []) = L) := by show _ = _; rw [← HL.out, funAll, HE'.out]
            have HLl : Hid ((funAns xs ss sp).length ≤ 1000) := Nat.le_trans (funK_len xs ss sp ss.length) (by omega)
            rw [HE'.out, HL.out, Hnx.out, ← h20] at Hc
            rw [HFn.out, ← h20] at Hnf
            rw [Hnx.out, ← h20] at Hof
            clear S hb6 hok hT6 hM6 hSF hRF h20 HE' HL HFn hcap
            generalize funAns xs ss sp = FA at *
            go_wp2_with fail
            ((with_reducible refine (Hc.out).mono ?_); rintro e w7 ⟨v8, rfl, M⟩)
            obtain ⟨A8, c8, rfl, M8⟩ := M.frz 0 rfl
            have HM8 := Lib.hid M8
            have Hb7 : Hid (Below w.heap.size w w7) := Hb6.out.trans (M8.b.mono Hb6.out.size)
            have Hnf7 := Lib.hid (Hnf.out w7 M8.b)
            clear Hc M M8 Hnf
            by_cases f0 : F = 0
            · subst f0
              rw [if_neg (not_not_intro rfl)] at HE2
              have hgood := Lib.hid (evs_good HF.out)
              by_cases n00 : n0 = 0
              · rw [if_pos n00] at HE2
                subst n00
                have hEv : E = 3 := HE2.out.symm
                rw [if_neg (by rw [hEv]; first | decide | assumption)] at HL2
                obtain rfl : [] = L := HL2.out
                subst hEv
                rw [show ([] : List ByteArray).length = 0 from rfl]
                clear HE2 HL2 Hof HM8 HLl Hnf7
                go_wp2_with fail
                ((with_reducible refine (happenings_any w7).mono ?_); rintro e w9 ⟨rfl, hl9⟩)
                go_wp2_with fail
                go_ret
                exact ⟨rfl, Hb7.out.trans (hl9.mono Hb7.out.size)⟩
              · rw [if_neg n00] at HE2
                have n01 : ((n0 : Int) == 0) = false := by simp; omega
                have n02 : 0 < n0 := by omega
                by_cases n20 : 20 < n0
                · rw [if_pos n20] at HE2
                  have hEv : E = 2 := HE2.out.symm
                  rw [if_neg (by rw [hEv]; first | decide | assumption)] at HL2
                  obtain rfl : [] = L := HL2.out
                  subst hEv
                  rw [show ([] : List ByteArray).length = 0 from rfl]
                  clear HE2 HL2 Hof HM8 HLl Hnf7
                  go_wp2_with fail
                  ((with_reducible refine (happenings_any w7).mono ?_); rintro e w9 ⟨rfl, hl9⟩)
                  go_wp2_with fail
                  go_ret
                  exact ⟨rfl, Hb7.out.trans (hl9.mono Hb7.out.size)⟩
                · exact absurd (by omega : n0 < 21) hn21
            · rw [if_pos f0] at HE2
              have f1 : (F != 0) = true := by simpa using f0
              have hEv : E = F := HE2.out.symm
              rw [if_neg (by rw [hEv]; first | decide | assumption)] at HL2
              obtain rfl : [] = L := HL2.out
              subst hEv
              rw [show ([] : List ByteArray).length = 0 from rfl]
              clear HE2 HL2 Hof HM8 HLl Hnf7
              go_wp2_with fail
              ((with_reducible refine (happenings_any w7).mono ?_); rintro e w9 ⟨rfl, hl9⟩)
              go_wp2_with fail
              go_ret
              exact ⟨rfl, Hb7.out.trans (hl9.mono Hb7.out.size)⟩
        | false =>
          go_upto_region 13 with fail
          go_wp2_with fail
          ((with_reducible refine (pick_le w.heap.size _ _ _ (-1) 4321441 S.g.s (by first | rfl | simp) (by first | rfl | simp) (by repeat (first | exact intsIn_nil | refine intsIn_cons (by omega) ?_)) (by simp) (by simp) (by omega)).mono ?_); rintro e w6 ⟨sp, sp_lo, sp_hi, rfl, hk_w6, hs_w6⟩)
          replace S := S.step hk_w6 hs_w6
          clear hk_w6 hs_w6
          have hb6 : Below w.heap.size w w6 := Hb0.out.trans (S.g.k.below (Nat.le_refl _) hw0)
          have Hb6 := Lib.hid hb6
          have hok : EvsOk xs := evsOk_sm Hxl.out Hxs.out
          obtain ⟨hT6, hM6⟩ := HTM.out _ hb6
          have hSF := (S.slc 0 rfl).mono (M := fun _ => False) (fun _ _ h => h.elim)
          have hcap : n0 ≤ co := by
            rcases (S.ow 1 rfl).shape2 with ⟨h1, h2⟩ | ⟨g, cap, h1, h2⟩
            · simp only [Value.slice.injEq] at h1; omega
            · simp only [Value.slice.injEq] at h1
              have h3 := Hn0.out
              omega
          have hRF := (S.ow 1 rfl).slF flatStr
          have h20 := Hn0.out
          have Hc := Lib.hid (funnel_any (fun _ => False) A Ao xs ss c co sp w6 hSF hok hT6 hM6 hRF (fun y hy => by have := HX.out y hy; omega) (by omega) (by omega))
          have Hnf := Lib.hid (fun w' (h : Below w6.heap.size w6 w') => nameFaultS_any (fun _ => False) Ao ss co w' (hRF.keepB h) (by omega) (fun y hy => by have := HX.out y hy; omega))
          have Hof := Lib.hid (fun (hg : GoodEvs xs) w' (h : Below w6.heap.size w6 w') => funnelOf_any (fun _ => False) A Ao xs ss c co sp w' (hSF.keepB h) (hRF.keepB h) hg (by omega))
          obtain ⟨E, HE'⟩ : ∃ E, Hid (funErr xs ss sp = E) := ⟨_, Lib.hid rfl⟩
          obtain ⟨L, HL⟩ : ∃ L, Hid (funAll xs ss sp = L) := ⟨_, Lib.hid rfl⟩
          obtain ⟨Fn, HFn⟩ : ∃ Fn, Hid (namesErr ss = Fn) := ⟨_, Lib.hid rfl⟩
          have h05 : Fn = 0 ∨ Fn = 5 := by rw [← HFn.out]; exact namesErr_five ss
          have HE2 : Hid ((if F ≠ 0 then F else if n0 = 0 then 3 else if 20 < n0 then 2 else if Fn ≠ 0 then Fn else if ¬ (0 ≤ sp ∧ sp ≤ 4321440) then 1 else 0) = E) := by show _ = _; rw [← HE'.out, funErr, HF.out, HFn.out, h20]
          have HL2 : Hid ((if E = 0 then funAns xs ss sp else []) = L) := by show _ = _; rw [← HL.out, funAll, HE'.out]
          have HLl : Hid ((funAns xs ss sp).length ≤ 1000) := Nat.le_trans (funK_len xs ss sp ss.length) (by omega)
          rw [HE'.out, HL.out, Hnx.out, ← h20] at Hc
          rw [HFn.out, ← h20] at Hnf
          rw [Hnx.out, ← h20] at Hof
          clear S hb6 hok hT6 hM6 hSF hRF h20 HE' HL HFn hcap
          generalize funAns xs ss sp = FA at *
          go_wp2_with fail
          ((with_reducible refine (Hc.out).mono ?_); rintro e w7 ⟨v8, rfl, M⟩)
          obtain ⟨A8, c8, rfl, M8⟩ := M.frz 0 rfl
          have HM8 := Lib.hid M8
          have Hb7 : Hid (Below w.heap.size w w7) := Hb6.out.trans (M8.b.mono Hb6.out.size)
          have Hnf7 := Lib.hid (Hnf.out w7 M8.b)
          clear Hc M M8 Hnf
          by_cases f0 : F = 0
          · subst f0
            rw [if_neg (not_not_intro rfl)] at HE2
            have hgood := Lib.hid (evs_good HF.out)
            by_cases n00 : n0 = 0
            · rw [if_pos n00] at HE2
              subst n00
              have hEv : E = 3 := HE2.out.symm
              rw [if_neg (by rw [hEv]; first | decide | assumption)] at HL2
              obtain rfl : [] = L := HL2.out
              subst hEv
              rw [show ([] : List ByteArray).length = 0 from rfl]
              clear HE2 HL2 Hof HM8 HLl Hnf7
              go_wp2_with fail
              ((with_reducible refine (happenings_any w7).mono ?_); rintro e w9 ⟨rfl, hl9⟩)
              go_wp2_with fail
              go_ret
              exact ⟨rfl, Hb7.out.trans (hl9.mono Hb7.out.size)⟩
            · rw [if_neg n00] at HE2
              have n01 : ((n0 : Int) == 0) = false := by simp; omega
              have n02 : 0 < n0 := by omega
              by_cases n20 : 20 < n0
              · rw [if_pos n20] at HE2
                have hEv : E = 2 := HE2.out.symm
                rw [if_neg (by rw [hEv]; first | decide | assumption)] at HL2
                obtain rfl : [] = L := HL2.out
                subst hEv
                rw [show ([] : List ByteArray).length = 0 from rfl]
                clear HE2 HL2 Hof HM8 HLl Hnf7
                go_wp2_with fail
                ((with_reducible refine (happenings_any w7).mono ?_); rintro e w9 ⟨rfl, hl9⟩)
                go_wp2_with fail
                go_ret
                exact ⟨rfl, Hb7.out.trans (hl9.mono Hb7.out.size)⟩
              · rw [if_neg n20] at HE2
                rcases h05 with rfl | rfl
                · rw [if_neg (not_not_intro rfl)] at HE2
                  go_wp2_with fail
                  ((with_reducible refine (Hnf7.out).mono ?_); rintro e w8 ⟨rfl, hl8⟩)
                  have Hb8 : Hid (Below w.heap.size w w8) := Hb7.out.trans (hl8.mono Hb7.out.size)
                  have hm8 := HM8.out.below hl8
                  have HM9 := Lib.hid hm8
                  clear Hnf7 hl8 hm8 HM8
                  by_cases hsp : 0 ≤ sp ∧ sp ≤ 4321440
                  · rw [if_neg (not_not_intro hsp)] at HE2
                    obtain rfl : 0 = E := HE2.out
                    rw [if_pos rfl] at HL2
                    obtain rfl : FA = L := HL2.out
                    obtain ⟨hsp1, hsp2⟩ := hsp
                    have Hs1 := Lib.hid (Hof.out hgood.out w8 HM9.out.b)
                    clear HE2 HL2 Hof
                    go_wp2_with fail
                    ((with_reducible refine (Hs1.out).mono ?_); rintro e w9 ⟨v9, B9, rfl, M9⟩)
                    obtain ⟨A9, c9, rfl, M10⟩ := M9.frz 0 rfl
                    have Heq := Lib.hid (eqStr_any (fun _ => False) A8 A9 FA c8 c9 w9 (((HM9.out.slc 0 rfl).keepB M10.b).mono (fun _ _ h => h.elim)) ((M10.slc 0 rfl).mono (fun _ _ h => h.elim)) (by have := HLl.out; omega))
                    have Hb9 : Hid (Below w.heap.size w w9) := Hb8.out.trans (M10.b.mono Hb8.out.size)
                    clear Hs1 M9 M10 HM9 HLl
                    generalize FA.length = n4 at *
                    go_wp2_with fail
                    ((with_reducible refine (Heq.out).mono ?_); rintro e w10 ⟨rfl, hl10⟩)
                    have Hb10 : Hid (Below w.heap.size w w10) := Hb9.out.trans (hl10.mono Hb9.out.size)
                    clear Heq hl10
                    go_wp2_with fail
                    ((with_reducible refine (happenings_any w10).mono ?_); rintro e w9 ⟨rfl, hl9⟩)
                    go_wp2_with fail
                    go_ret
                    exact ⟨rfl, Hb10.out.trans (hl9.mono Hb10.out.size)⟩
                  · rw [if_pos hsp] at HE2
                    have hEv : E = 1 := HE2.out.symm
                    rw [if_neg (by rw [hEv]; decide)] at HL2
                    obtain rfl : [] = L := HL2.out
                    subst hEv
                    rw [show ([] : List ByteArray).length = 0 from rfl]
                    clear HE2 HL2 Hof HM9 HLl
                    by_cases s1 : sp < 0
                    · clear hsp
                      go_wp2_with fail
                      ((with_reducible refine (happenings_any w8).mono ?_); rintro e w9 ⟨rfl, hl9⟩)
                      go_wp2_with fail
                      go_ret
                      exact ⟨rfl, Hb8.out.trans (hl9.mono Hb8.out.size)⟩
                    · have s2 : 4321440 < sp := by omega
                      clear hsp
                      go_wp2_with fail
                      ((with_reducible refine (happenings_any w8).mono ?_); rintro e w9 ⟨rfl, hl9⟩)
                      go_wp2_with fail
                      go_ret
                      exact ⟨rfl, Hb8.out.trans (hl9.mono Hb8.out.size)⟩
                · rw [if_pos (by decide)] at HE2
                  have hEv : E = 5 := HE2.out.symm
                  rw [if_neg (by rw [hEv]; decide)] at HL2
                  obtain rfl : [] = L := HL2.out
                  subst hEv
                  rw [show ([] : List ByteArray).length = 0 from rfl]
                  clear HE2 HL2 Hof HM8 HLl
                  go_wp2_with fail
                  ((with_reducible refine (Hnf7.out).mono ?_); rintro e w8 ⟨rfl, hl8⟩)
                  have Hb8 : Hid (Below w.heap.size w w8) := Hb7.out.trans (hl8.mono Hb7.out.size)
                  clear Hnf7 hl8
                  go_wp2_with fail
                  ((with_reducible refine (happenings_any w8).mono ?_); rintro e w9 ⟨rfl, hl9⟩)
                  go_wp2_with fail
                  go_ret
                  exact ⟨rfl, Hb8.out.trans (hl9.mono Hb8.out.size)⟩
          · rw [if_pos f0] at HE2
            have f1 : (F != 0) = true := by simpa using f0
            have hEv : E = F := HE2.out.symm
            rw [if_neg (by rw [hEv]; first | decide | assumption)] at HL2
            obtain rfl : [] = L := HL2.out
            subst hEv
            rw [show ([] : List ByteArray).length = 0 from rfl]
            clear HE2 HL2 Hof HM8 HLl Hnf7
            go_wp2_with fail
            ((with_reducible refine (happenings_any w7).mono ?_); rintro e w9 ⟨rfl, hl9⟩)
            go_wp2_with fail
            go_ret
            exact ⟨rfl, Hb7.out.trans (hl9.mono Hb7.out.size)⟩
end Go.Proofs.YthlcdepjmoddnaaGreatDoor
