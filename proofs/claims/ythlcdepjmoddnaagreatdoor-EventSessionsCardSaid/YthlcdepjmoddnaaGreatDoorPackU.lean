/- Several texts in one: SesLaw, Ses, Sessions, LawSes. -/
import Derived.Test.YthlcdepjmoddnaaGreatDoorPackO
import Derived.Test.YthlcdepjmoddnaaGreatDoorPackQ
import Derived.Test.YthlcdepjmoddnaaGreatDoorPackB
import Derived.RegionTactic
import Derived.ChangeAlike
import Derived.Test.YthlcdepjmoddnaaGreatDoorPackZ
/- Sessions of events in plain words: cut from the front, and cut from the end. -/
namespace Go.Proofs.YthlcdepjmoddnaaGreatDoor
open Go.RowKit
structure Ses where
  frm : Int
  to' : Int
  many : Int
  first : ByteArray
def Ses.cells (s : Ses) : List Value := [.int .i64 s.frm, .int .i64 s.to', .int .i64 s.many, .string s.first]
def rSes : Rep Ses := .flat 4 Ses.cells (fun _ => rfl)
theorem flatSes : rSes.Flat Ses.cells := fun _ _ _ _ => Iff.rfl
def newS (e : Evt) : Ses := ⟨e.at', e.at' + 1, 1, e.id⟩
def growS (s : Ses) (e : Evt) : Ses := ⟨s.frm, e.at' + 1, s.many + 1, s.first⟩
def backS (e : Evt) (s : Ses) : Ses := ⟨e.at', s.to', s.many + 1, e.id⟩
/-- from the front: s is open, p was its last -/
def sesGo (gap : Int) (s : Ses) (p : Evt) : List Evt → List Ses
  | [] => [s]
  | x :: r => if gap < x.at' - p.at' then s :: sesGo gap (newS x) x r else sesGo gap (growS s x) x r
def sesOf (gap : Int) : List Evt → List Ses
  | [] => []
  | x :: r => sesGo gap (newS x) x r
def backHd (e : Evt) : List Ses → List Ses
  | [] => []
  | s :: t => backS e s :: t
/-- from the end -/
def sesR (gap : Int) : List Evt → List Ses
  | [] => []
  | x :: r => match r with
    | [] => [newS x]
    | y :: _ => if gap < y.at' - x.at' then newS x :: sesR gap r else backHd x (sesR gap r)
theorem sesGo_hd (gap a d : Int) (f : ByteArray) : ∀ (l : List Evt) (s : Ses) (p : Evt), sesGo gap ⟨a, s.to', s.many + d, f⟩ p l = match sesGo gap s p l with | [] => [] | h :: t => ⟨a, h.to', h.many + d, f⟩ :: t
  | [], s, p => rfl
  | x :: r, s, p => by
    unfold sesGo
    by_cases h : gap < x.at' - p.at'
    · rw [if_pos h, if_pos h]
    · rw [if_neg h, if_neg h]
      have := sesGo_hd gap a d f r (growS s x) x
      rw [← this]
      show sesGo gap ⟨a, x.at' + 1, s.many + d + 1, f⟩ x r = sesGo gap ⟨a, x.at' + 1, s.many + 1 + d, f⟩ x r
      rw [Int.add_right_comm]
theorem ses_eq (gap : Int) : ∀ l : List Evt, sesR gap l = sesOf gap l
  | [] => rfl
  | [x] => rfl
  | x :: y :: r => by
    have ih := ses_eq gap (y :: r)
    show (if gap < y.at' - x.at' then newS x :: sesR gap (y :: r) else backHd x (sesR gap (y :: r))) = sesGo gap (newS x) x (y :: r)
    rw [ih, sesGo]
    by_cases h : gap < y.at' - x.at'
    · rw [if_pos h, if_pos h]; rfl
    · rw [if_neg h, if_neg h]
      have := sesGo_hd gap x.at' 1 x.id r (newS y) y
      show backHd x (sesGo gap (newS y) y r) = sesGo gap ⟨x.at', (newS y).to', (newS y).many + 1, x.id⟩ y r
      rw [this]
      cases sesGo gap (newS y) y r <;> rfl
theorem sesGo_many (gap : Int) (M : Int) : ∀ (l : List Evt) (s : Ses) (p : Evt) (z : Ses), z ∈ sesGo gap s p l → 0 ≤ s.many → s.many + (l.length : Int) ≤ M → 0 ≤ z.many ∧ z.many ≤ M
  | [], s, p, z, h, h1, h2 => by
    have e : z = s := by simpa [sesGo] using h
    subst e
    exact ⟨h1, by simpa using h2⟩
  | x :: r, s, p, z, h, h1, h2 => by
    rw [List.length_cons] at h2
    unfold sesGo at h
    split at h
    · rcases List.mem_cons.1 h with e | h
      · subst e
        exact ⟨h1, by omega⟩
      · exact sesGo_many gap M r _ _ _ h (by show (0 : Int) ≤ 1; omega) (by show (1 : Int) + _ ≤ _; omega)
    · exact sesGo_many gap M r _ _ _ h (by show 0 ≤ s.many + 1; omega) (by show s.many + 1 + _ ≤ _; omega)
end Go.Proofs.YthlcdepjmoddnaaGreatDoor

/- Lists of sessions in memory: slices.Reverse and slices.Equal. -/
namespace Go.Proofs.YthlcdepjmoddnaaGreatDoor
open Go Go.RowKit
theorem tySes : STy 48 55 rSes.size 40 (.agg #[.int .i64 0, .int .i64 0, .int .i64 0, .string ⟨#[]⟩]) := ⟨Tryz.underlying48, by kernel_rfl, rfl, by decide⟩
theorem oneSes (t : Ses) : ∀ u ∈ t.cells, u.oneCell' = true := fun u hu => by
  simp only [Ses.cells, List.mem_cons, List.not_mem_nil, or_false] at hu
  rcases hu with rfl | rfl | rfl | rfl <;> rfl
theorem Sl.ses {N : Nat → Prop} {w : World} {A : Option Addr} {xs : List Ses} (h : Sl rSes N w A xs) (k : Nat) (e : Ses) (hk : xs[k]? = some e) : ∃ blk off, A = some ⟨blk, off, none⟩ ∧ blk < w.heap.size ∧
    w.cell? ⟨blk, off + k * 4, none⟩ = some (.int .i64 e.frm) ∧ w.cell? ⟨blk, off + k * 4 + 1, none⟩ = some (.int .i64 e.to') ∧ w.cell? ⟨blk, off + k * 4 + 2, none⟩ = some (.int .i64 e.many) ∧ w.cell? ⟨blk, off + k * 4 + 3, none⟩ = some (.string e.first) := by
  obtain ⟨blk, off, l, e1, h1, _, h3, h4⟩ := h k e hk
  obtain rfl : l = Ses.cells e := h3
  exact ⟨blk, off, e1, h1, h4 0 _ rfl, h4 1 _ rfl, h4 2 _ rfl, h4 3 _ rfl⟩
set_option maxHeartbeats 4000000 in
set_option maxRecDepth 100000 in
theorem eqSes_any (N : Nat → Prop) (A A2 : Option Addr) (xs : List Ses) (c c2 : Nat) (w : World) (h1 : Sl rSes N w A xs) (h2 : Sl rSes N w A2 xs) (hl : xs.length ≤ 1000000000) :
    Calls Tryz.prog 25 #[.slice A xs.length c, .slice A2 xs.length c2] w fun e w' => e = .returned (.bool true) ∧ Below w.heap.size w w' := by
  have H1 := Lib.hid h1
  have H2 := Lib.hid h2
  clear h1 h2
  go_enter Tryz.func25, Tryz.ntmps25
  go_wp2_with fail
  go_loopw [13] (fun i wr => ∃ j : Nat, j ≤ xs.length ∧ i = .int .i64 j ∧ Below w.heap.size w wr) (fun i _ => xs.length - (intOf i).toNat)
  case atStart => exact ⟨0, Nat.zero_le _, rfl, Below.refl _ _⟩
  case round =>
    obtain ⟨j, hj, rfl, hb⟩ := hrel
    by_cases hlt : j < xs.length
    · obtain ⟨e, hf⟩ : ∃ e, xs[j]? = some e := ⟨_, List.getElem?_eq_getElem hlt⟩
      obtain ⟨b1, o1, rfl, _, d0, d1, d2, d3⟩ := (H1.out.keepB hb).ses j e hf
      obtain ⟨b2, o2, rfl, _, f0, f1, f2, f3⟩ := (H2.out.keepB hb).ses j e hf
      clear hf
      go_wp2_with fail
      go_quiet (fail)
      go_wp2_with fail
      go_roundw
      case rel => exact ⟨j + 1, by omega, by go_num, hb.trans (below_drewN _ _ _)⟩
      case measure => simp [intOf]; omega
    · go_wp2_with fail
      go_ret
      exact ⟨rfl, hb⟩
theorem Mem.putSes {w0 w : World} {cs : List Chunk} {B g n cap : Nat} {ys : List Ses} (S : Mem w0 w (.own rSes B 55 (.slice (some ⟨g, 0, none⟩) n cap) ys :: cs)) (hn : n = ys.length) (k : Nat) (x y : Ses) (hx : ys[k]? = some x) :
    Mem w0 ((((w.setCell ⟨g, k * 4, none⟩ (.int .i64 y.frm)).setCell ⟨g, k * 4 + 1, none⟩ (.int .i64 y.to')).setCell ⟨g, k * 4 + 2, none⟩ (.int .i64 y.many)).setCell ⟨g, k * 4 + 3, none⟩ (.string y.first)) (.own rSes B 55 (.slice (some ⟨g, 0, none⟩) n cap) (ys.set k y) :: cs) := by
  have hk := lt_of_get hx
  have S1 : Mem w0 (w.setCell ⟨g, k * 4, none⟩ (.int .i64 y.frm)) (.own rSes B 55 (.slice (some ⟨g, 0, none⟩) n cap) (ys.set k ⟨y.frm, x.to', x.many, x.first⟩) :: cs) := S.put flatSes 0 rfl hn k x ⟨y.frm, x.to', x.many, x.first⟩ hx 0 (by decide) (.int .i64 y.frm) rfl
  have S2 := S1.put flatSes 0 rfl (by rw [List.length_set]; exact hn) k ⟨y.frm, x.to', x.many, x.first⟩ ⟨y.frm, y.to', x.many, x.first⟩ (by rw [List.getElem?_set_self hk]) 1 (by decide) (.int .i64 y.to') rfl
  rw [List.set_cons_zero, List.set_set] at S2
  have S3 := S2.put flatSes 0 rfl (by rw [List.length_set]; exact hn) k ⟨y.frm, y.to', x.many, x.first⟩ ⟨y.frm, y.to', y.many, x.first⟩ (by rw [List.getElem?_set_self hk]) 2 (by decide) (.int .i64 y.many) rfl
  rw [List.set_cons_zero, List.set_set] at S3
  have S4 := S3.put flatSes 0 rfl (by rw [List.length_set]; exact hn) k ⟨y.frm, y.to', y.many, x.first⟩ y (by rw [List.getElem?_set_self hk]) 3 (by decide) (.string y.first) rfl
  rw [List.set_cons_zero, List.set_set] at S4
  exact S4
/-- the ends are swapped up to k -/
def TurnAt (xs ys : List Ses) (k : Nat) : Prop := ys.length = xs.length ∧ ∀ t, t < xs.length → ys[t]? = if t < k ∨ xs.length - k ≤ t then xs[xs.length - 1 - t]? else xs[t]?
theorem TurnAt.start (xs : List Ses) : TurnAt xs xs 0 := ⟨rfl, fun t ht => by rw [if_neg (by omega)]⟩
theorem TurnAt.next {xs ys : List Ses} {k q : Nat} {x y : Ses} (h : TurnAt xs ys k) (hkq : k < q) (hq : k + q + 1 = xs.length) (hx : ys[k]? = some x) (hy : ys[q]? = some y) : TurnAt xs ((ys.set k y).set q x) (k + 1) := by
  refine ⟨by rw [List.length_set, List.length_set]; exact h.1, fun t ht => ?_⟩
  have h1 := h.2 k (by omega)
  rw [hx, if_neg (by omega)] at h1
  have h2 := h.2 q (by omega)
  rw [hy, if_neg (by omega)] at h2
  by_cases e1 : t = q
  · subst e1
    rw [List.getElem?_set_self (by rw [List.length_set, h.1]; omega), if_pos (by omega), h1]
    congr 1
    omega
  · rw [List.getElem?_set_ne (fun e => e1 e.symm)]
    by_cases e2 : t = k
    · subst e2
      rw [List.getElem?_set_self (by rw [h.1]; omega), if_pos (by omega), h2]
      congr 1
      omega
    · rw [List.getElem?_set_ne (fun e => e2 e.symm), h.2 t ht]
      by_cases e3 : t < k ∨ xs.length - k ≤ t
      · rw [if_pos e3, if_pos (by omega)]
      · rw [if_neg e3, if_neg (by omega)]
theorem TurnAt.done {xs ys : List Ses} {k : Nat} (h : TurnAt xs ys k) (hk : xs.length ≤ 2 * k + 1) : ys = xs.reverse := by
  apply List.ext_getElem?
  intro t
  by_cases ht : t < xs.length
  · rw [h.2 t ht, List.getElem?_reverse ht]
    by_cases e : t < k ∨ xs.length - k ≤ t
    · rw [if_pos e]
    · rw [if_neg e]
      congr 1
      omega
  · rw [List.getElem?_eq_none (by rw [h.1]; omega), List.getElem?_eq_none (by rw [List.length_reverse]; omega)]
set_option maxHeartbeats 4000000 in
set_option maxRecDepth 100000 in
theorem revSes_any {w0 w : World} {cs : List Chunk} {B g cap : Nat} {xs : List Ses} (h3 : xs.length ≤ 1000000) (S : Mem w0 w (.own rSes B 55 (.slice (some ⟨g, 0, none⟩) xs.length cap) xs :: cs)) :
    Calls Tryz.prog 86 #[.slice (some ⟨g, 0, none⟩) xs.length cap] w fun e w' => e = .returned (.tuple #[]) ∧ Mem w0 w' (.own rSes B 55 (.slice (some ⟨g, 0, none⟩) xs.length cap) xs.reverse :: cs) := by
  obtain ⟨n, hn⟩ : ∃ n, n = xs.length := ⟨_, rfl⟩
  rw [← hn] at h3 S ⊢
  have Hn := Lib.hid hn
  clear hn
  go_enter Tryz.func86, Tryz.ntmps86
  go_wp2_with fail
  go_loopw [2, 3] (fun i j wr => ∃ (k : Nat) (z : Int) (ys : List Ses), k ≤ n ∧ i = .int .i64 k ∧ j = .int .i64 z ∧ Hid (z = (n : Int) - 1 - k) ∧ Hid (ys.length = n) ∧ Hid (TurnAt xs ys k) ∧ Mem w0 wr (.own rSes B 55 (.slice (some ⟨g, 0, none⟩) n cap) ys :: cs)) (fun i _ _ => n - (intOf i).toNat)
  case atStart => exact ⟨0, (n : Int) - 1, xs, Nat.zero_le _, rfl, by go_num, by show _ = _; omega, Hn.out.symm, TurnAt.start xs, S⟩
  case round =>
    clear S
    obtain ⟨k, z, ys, hk, rfl, rfl, HZ, HYl, HY, S⟩ := hrel
    have hz := HZ.out
    have hy := HYl.out
    by_cases hlt : (k : Int) < z
    · obtain ⟨q, hq⟩ : ∃ q : Nat, z = (q : Int) := ⟨n - 1 - k, by omega⟩
      subst hq
      obtain ⟨x, hx⟩ : ∃ x, ys[k]? = some x := ⟨_, List.getElem?_eq_getElem (by omega)⟩
      obtain ⟨y, hyq⟩ : ∃ y, ys[q]? = some y := ⟨_, List.getElem?_eq_getElem (by omega)⟩
      have a0 := Own.cellP flatSes (S.ow 0 rfl) hy.symm k x hx 0 (.int .i64 x.frm) rfl
      have a1 := Own.cellP flatSes (S.ow 0 rfl) hy.symm k x hx 1 (.int .i64 x.to') rfl
      have a2 := Own.cellP flatSes (S.ow 0 rfl) hy.symm k x hx 2 (.int .i64 x.many) rfl
      have a3 := Own.cellP flatSes (S.ow 0 rfl) hy.symm k x hx 3 (.string x.first) rfl
      have b0 := Own.cellP flatSes (S.ow 0 rfl) hy.symm q y hyq 0 (.int .i64 y.frm) rfl
      have b1 := Own.cellP flatSes (S.ow 0 rfl) hy.symm q y hyq 1 (.int .i64 y.to') rfl
      have b2 := Own.cellP flatSes (S.ow 0 rfl) hy.symm q y hyq 2 (.int .i64 y.many) rfl
      have b3 := Own.cellP flatSes (S.ow 0 rfl) hy.symm q y hyq 3 (.string y.first) rfl
      have c0 : wr.cell? ⟨g, k * 4, none⟩ = some (.int .i64 x.frm) := a0.1
      have c1 : wr.cell? ⟨g, k * 4 + 1, none⟩ = some (.int .i64 x.to') := a1.1
      have c2 : wr.cell? ⟨g, k * 4 + 2, none⟩ = some (.int .i64 x.many) := a2.1
      have c3 : wr.cell? ⟨g, k * 4 + 3, none⟩ = some (.string x.first) := a3.1
      have e0 : wr.cell? ⟨g, q * 4, none⟩ = some (.int .i64 y.frm) := b0.1
      have e1 : wr.cell? ⟨g, q * 4 + 1, none⟩ = some (.int .i64 y.to') := b1.1
      have e2 : wr.cell? ⟨g, q * 4 + 2, none⟩ = some (.int .i64 y.many) := b2.1
      have e3 : wr.cell? ⟨g, q * 4 + 3, none⟩ = some (.string y.first) := b3.1
      have f0 : wr.frozen? ⟨g, k * 4, none⟩ = false := a0.2
      have f1 : wr.frozen? ⟨g, k * 4 + 1, none⟩ = false := a1.2
      have f2 : wr.frozen? ⟨g, k * 4 + 2, none⟩ = false := a2.2
      have f3 : wr.frozen? ⟨g, k * 4 + 3, none⟩ = false := a3.2
      have g0 : wr.frozen? ⟨g, q * 4, none⟩ = false := b0.2
      have g1 : wr.frozen? ⟨g, q * 4 + 1, none⟩ = false := b1.2
      have g2 : wr.frozen? ⟨g, q * 4 + 2, none⟩ = false := b2.2
      have g3 : wr.frozen? ⟨g, q * 4 + 3, none⟩ = false := b3.2
      have hlt2 : (q : Int) < n := by omega
      have hlt3 : (k : Int) < n := by omega
      clear hz hy
      have HS := Lib.hid S
      have Hx := Lib.hid hx
      have Hyq := Lib.hid hyq
      clear a0 a1 a2 a3 b0 b1 b2 b3 S hx hyq
      go_wp2_with fail
      go_region
      go_wp2_with fail
      go_roundw
      case rel =>
        have hkq : k ≠ q := by have h := HZ.out; omega
        have hyl := HYl.out
        have S2 := HS.out.putSes hyl.symm k x y Hx.out
        have S3 := S2.putSes (by rw [List.length_set]; exact hyl.symm) q y x (by rw [List.getElem?_set_ne hkq]; exact Hyq.out)
        have hd : Drewn ((((((((wr.setCell ⟨g, k * 4, none⟩ (.int .i64 y.frm)).setCell ⟨g, k * 4 + 1, none⟩ (.int .i64 y.to')).setCell ⟨g, k * 4 + 2, none⟩ (.int .i64 y.many)).setCell ⟨g, k * 4 + 3, none⟩ (.string y.first)).setCell ⟨g, q * 4, none⟩ (.int .i64 x.frm)).setCell ⟨g, q * 4 + 1, none⟩ (.int .i64 x.to')).setCell ⟨g, q * 4 + 2, none⟩ (.int .i64 x.many)).setCell ⟨g, q * 4 + 3, none⟩ (.string x.first)) _ := rfl
        exact ⟨k + 1, (q : Int) - 1, (ys.set k y).set q x, by omega, by go_num, rfl, (by show _ = _; have h := HZ.out; omega), (by show _ = _; rw [List.length_set, List.length_set]; exact hyl), HY.out.next (by omega) (by have h := HZ.out; have h2 := Hn.out; omega) Hx.out Hyq.out, S3.below (hd.below _)⟩
      case measure => simp [intOf]; omega
    · have he : ys = xs.reverse := HY.out.done (by have h2 := Hn.out; omega)
      subst he
      clear hz hy
      go_wp2_with fail
      go_end0
      exact ⟨rfl, S⟩
set_option maxHeartbeats 1000000 in
theorem revSes_nil (w : World) : Calls Tryz.prog 86 #[.slice none 0 0] w fun e w' => e = .returned (.tuple #[]) ∧ w = w' := by
  go_enter Tryz.func86, Tryz.ntmps86
  go_wp2_with fail
  go_loopw [2, 3] (fun i j wr => i = .int .i64 0 ∧ j = .int .i64 (-1) ∧ w = wr) (fun _ _ _ => 0)
  case atStart => exact ⟨rfl, rfl, rfl⟩
  case round =>
    obtain ⟨rfl, rfl, rfl⟩ := hrel
    go_wp2_with fail
    go_end0
    exact ⟨rfl, rfl⟩
end Go.Proofs.YthlcdepjmoddnaaGreatDoor

/- What event.Sessions and handref2.SessionsOf return. -/
namespace Go.Proofs.YthlcdepjmoddnaaGreatDoor
open Go Go.RowKit
def sesErr (l : List Evt) (gap : Int) : Int := if evsFault l ≠ 0 then evsFault l else if ¬ (1 ≤ gap ∧ gap ≤ 1440) then 1 else 0
def sesAns (l : List Evt) (gap : Int) : List Ses := if sesErr l gap = 0 then sesOf gap l else []
def GivesSes (xs : List Ses) (F : Int) (w : World) (e : Ending) (w' : World) : Prop := ∃ v, e = .returned (.tuple #[v, .int .i64 F]) ∧ Mem w w' [.own rSes w.heap.size 55 v xs]
theorem sesGo_at {gap : Int} {s : Ses} {p : Evt} {l : List Evt} {k : Nat} {x : Evt} (h : l[k]? = some x) : sesGo gap s p (l.drop k) = if gap < x.at' - p.at' then s :: sesGo gap (newS x) x (l.drop (k + 1)) else sesGo gap (growS s x) x (l.drop (k + 1)) := by rw [drop_at3 h, sesGo]
/-- what the list of sessions is when k events are done -/
def SesAt (gap : Int) (l : List Evt) (R : List Ses) (k : Nat) (out : List Ses) : Prop := (k = 0 ∧ out = [] ∧ sesOf gap l = R) ∨ ∃ p D s, l[k - 1]? = some p ∧ 0 < k ∧ out = D ++ [s] ∧ D ++ sesGo gap s p (l.drop k) = R ∧ 0 ≤ s.many ∧ s.many ≤ k
theorem SesAt.new {gap : Int} {l : List Evt} {R : List Ses} {k : Nat} {out : List Ses} (h : SesAt gap l R k out) {x : Evt} (hx : l[k]? = some x) (hc : k = 0 ∨ ∃ p, l[k - 1]? = some p ∧ gap < x.at' - p.at') : out ++ sesGo gap (growS ⟨x.at', 0, 0, x.id⟩ x) x (l.drop (k + 1)) = R := by
  rcases h with ⟨rfl, rfl, h⟩ | ⟨p, D, s, hp, hk, rfl, h, _, _⟩
  · cases l with
    | nil => simp at hx
    | cons y r =>
      obtain rfl : y = x := by simpa using hx
      exact h
  · rcases hc with hc | ⟨p', hp', hc⟩
    · omega
    · rw [hp] at hp'
      cases hp'
      rw [sesGo_at hx, if_pos hc] at h
      rw [List.append_assoc]
      exact h
theorem SesAt.old {gap : Int} {l : List Evt} {R : List Ses} {k : Nat} {out : List Ses} (h : SesAt gap l R k out) {x : Evt} (hx : l[k]? = some x) (hk0 : k ≠ 0) {p : Evt} (hp : l[k - 1]? = some p) (hc : ¬ gap < x.at' - p.at') : ∃ D s, out = D ++ [s] ∧ D ++ sesGo gap (growS s x) x (l.drop (k + 1)) = R ∧ 0 ≤ s.many ∧ s.many ≤ k := by
  rcases h with ⟨rfl, _, _⟩ | ⟨p', D, s, hp', hk, rfl, h, h1, h2⟩
  · exact absurd rfl hk0
  · rw [hp] at hp'
    cases hp'
    rw [sesGo_at hx, if_neg hc] at h
    exact ⟨D, s, rfl, h, h1, h2⟩
theorem SesAt.len {gap : Int} {l : List Evt} {R : List Ses} {k : Nat} {out : List Ses} (h : SesAt gap l R k out) (hR : R.length ≤ 5000) : out.length ≤ 5000 := by
  rcases h with ⟨_, rfl, _⟩ | ⟨p, D, s, _, _, rfl, h, _, _⟩
  · simp
  · rw [← h, List.length_append] at hR
    rw [List.length_append, List.length_singleton]
    have : 0 < (sesGo gap s p (l.drop k)).length := by
      generalize l.drop k = r
      clear h hR
      rename_i h0 _ h1 h2
      clear h0 h1 h2
      induction r generalizing s p with
      | nil => exact Nat.one_pos
      | cons y r ih =>
        unfold sesGo
        split
        · exact Nat.succ_pos _
        · exact ih _ _
    omega
theorem sesGo_len (gap : Int) : ∀ (l : List Evt) (s : Ses) (p : Evt), (sesGo gap s p l).length ≤ l.length + 1
  | [], _, _ => Nat.le_refl _
  | x :: r, s, p => by
    unfold sesGo
    split
    · have := sesGo_len gap r (newS x) x
      simp only [List.length_cons]
      omega
    · have := sesGo_len gap r (growS s x) x
      simp only [List.length_cons]
      omega
theorem sesOf_len (gap : Int) (l : List Evt) : (sesOf gap l).length ≤ l.length := by
  cases l with
  | nil => exact Nat.le_refl _
  | cons x r => exact sesGo_len gap r (newS x) x
theorem SesAt.next {gap : Int} {l : List Evt} {R : List Ses} {k : Nat} {D : List Ses} {s : Ses} {x : Evt} (hx : l[k]? = some x) (h : D ++ sesGo gap (growS s x) x (l.drop (k + 1)) = R) (h1 : 0 ≤ s.many) (h2 : s.many ≤ k) : SesAt gap l R (k + 1) (D ++ [growS s x]) :=
  .inr ⟨x, D, growS s x, hx, by omega, rfl, h, by show 0 ≤ s.many + 1; omega, by show s.many + 1 ≤ _; omega⟩
theorem SesAt.end' {gap : Int} {l : List Evt} {R : List Ses} {out : List Ses} (h : SesAt gap l R l.length out) : out = R := by
  rcases h with ⟨h0, rfl, h⟩ | ⟨p, D, s, _, _, rfl, h, _, _⟩
  · rw [List.length_eq_zero_iff.1 h0.symm.symm] at h
    exact h
  · rw [List.drop_eq_nil_of_le (Nat.le_refl _)] at h
    exact h
def isNew (gap : Int) (l : List Evt) (k : Nat) (x : Evt) : Bool := decide (k = 0) || (l[k - 1]?.any (fun p => decide (gap < x.at' - p.at')))
theorem isNew_succ {gap : Int} {l : List Evt} {q : Nat} {x p : Evt} (hp : l[q]? = some p) : isNew gap l (q + 1) x = decide (gap < x.at' - p.at') := by
  unfold isNew
  rw [Nat.add_sub_cancel, hp]
  simp
theorem isNew_yes {gap : Int} {l : List Evt} {k : Nat} {x : Evt} (h : isNew gap l k x = true) : k = 0 ∨ ∃ p, l[k - 1]? = some p ∧ gap < x.at' - p.at' := by
  unfold isNew at h
  simp only [Bool.or_eq_true, decide_eq_true_eq, Option.any_eq_true] at h
  exact h
theorem isNew_no {gap : Int} {l : List Evt} {k : Nat} {x : Evt} (hk : k < l.length) (h : isNew gap l k x = false) : k ≠ 0 ∧ ∃ p, l[k - 1]? = some p ∧ ¬ gap < x.at' - p.at' := by
  unfold isNew at h
  obtain ⟨h1, h2⟩ := Bool.or_eq_false_iff.1 h
  refine ⟨of_decide_eq_false h1, l[k - 1], List.getElem?_eq_getElem (by omega), ?_⟩
  rw [List.getElem?_eq_getElem (by omega)] at h2
  exact of_decide_eq_false h2
set_option maxHeartbeats 16000000 in
set_option maxRecDepth 100000 in
theorem sessions_any (N : Nat → Prop) (A : Option Addr) (xs : List Evt) (c : Nat) (gap : Int) (w : World) (hS : Sl rEvt N w A xs) (hok : EvsOk xs) (hT : Tabs w) (hM : MaxL w) :
    Calls Tryz.prog 24 #[.slice A xs.length c, .int .i64 gap] w (GivesSes (sesAns xs gap) (sesErr xs gap) w) := by
  have Hch := Lib.hid (checkEvs_any N A xs c w hS hok hT hM)
  have HSl := Lib.hid (fun w' (h : Below w.heap.size w w') => hS.keepB h)
  clear hS hok hT hM
  obtain ⟨R, HR⟩ : ∃ R, Hid (sesAns xs gap = R) := ⟨_, Lib.hid rfl⟩
  obtain ⟨F, HF⟩ : ∃ F, Hid (sesErr xs gap = F) := ⟨_, Lib.hid rfl⟩
  rw [HR.out, HF.out]
  unfold sesAns at HR
  rw [HF.out] at HR
  unfold sesErr at HF
  by_cases hF : evsFault xs = 0
  · have HG := Lib.hid (evs_good hF)
    rw [hF] at Hch
    rw [if_neg (not_not_intro hF)] at HF
    clear hF
    have hlen := HG.out.len
    go_enter Tryz.func24, Tryz.ntmps24
    go_wp2_with fail
    ((with_reducible refine (Hch.out).mono ?_); rintro e w1 ⟨rfl, hl1⟩)
    clear Hch
    go_wp2_with fail
    ((with_reducible refine (ewithin_any gap 1 1440 w1).mono ?_); rintro e _ ⟨rfl, rfl⟩)
    by_cases hg : 1 ≤ gap ∧ gap ≤ 1440
    · have hd : decide (1 ≤ gap ∧ gap ≤ 1440) = true := decide_eq_true hg
      rw [if_neg (not_not_intro hg)] at HF
      obtain rfl : 0 = F := HF.out
      rw [if_pos rfl] at HR
      obtain ⟨hg1, hg2⟩ := hg
      have HRl : Hid (R.length ≤ 5000) := by show _ ≤ _; rw [← HR.out]; exact Nat.le_trans (sesOf_len gap xs) hlen
      have S : Mem w w1 [.own rSes w.heap.size 55 (.slice none 0 0) []] := ((Mem.start w).below hl1).nil rSes w.heap.size 55
      have HA0 : Hid (SesAt gap xs R 0 []) := .inl ⟨rfl, rfl, HR.out⟩
      clear HF HR hl1
      go_wp2_with fail
      go_loopw [7, 8, 21] (fun v s8 i wr => ∃ (k : Nat) (out : List Ses), k ≤ xs.length ∧ i = .int .i64 k ∧ Hid (SesAt gap xs R k out) ∧ Mem w wr [.own rSes w.heap.size 55 v out]) (fun _ _ i _ => xs.length - (intOf i).toNat)
      case atStart => exact ⟨0, [], Nat.zero_le _, rfl, HA0, S⟩
      case round =>
        clear S HA0
        obtain ⟨k, out, hk, rfl, HA, S⟩ := hrel
        by_cases hlt : k < xs.length
        · obtain ⟨x, hx⟩ : ∃ x, xs[k]? = some x := ⟨_, List.getElem?_eq_getElem hlt⟩
          have hxr := HG.out.range (List.mem_of_getElem? hx)
          obtain ⟨blk, off, Af, cf, rfl, hblk, d0, d1, d2, d3, d4, d5, hst⟩ := (HSl.out wr S.b).evt k x hx
          have Hx := Lib.hid hx
          have Hol : Hid (out.length ≤ 5000) := HA.out.len HRl.out
          clear hst hx
          go_upto_region 10 with fail
          clear d0 d1 d2 d3 d4 d5
          obtain ⟨Y, hY⟩ : ∃ Y, Y = wr.heap.size := ⟨_, rfl⟩
          replace S : Mem w (wr.alloc (.cells (evCs x Af cf) 32)) [.own rSes w.heap.size 55 _ out, .loc Y (evCs x Af cf) 32] := S.newAt (evCs x Af cf) 32 Y hY
          rw [← hY]
          clear hY
          generalize wr.alloc (.cells (evCs x Af cf) 32) = w2 at *
          have y0 := (S.lv 1 rfl).all
          have HSl2 := Lib.hid (HSl.out w2 S.b)
          obtain ⟨B, HB⟩ : ∃ B, Hid (isNew gap xs k x = B) := ⟨_, Lib.hid rfl⟩
          go_cut [40] (fun s40 wx => s40 = .bool B ∧ Below w2.heap.size w2 wx)
          case first =>
            by_cases hk0 : k = 0
            · subst hk0
              obtain rfl : true = B := HB.out
              go_wp2_with fail
              go_quiet (fail)
              first | go_meet | (go_wp2_with fail; go_meet)
              exact ⟨rfl, below_drewN _ _ _⟩
            · obtain ⟨q, rfl⟩ : ∃ q, k = q + 1 := ⟨k - 1, by omega⟩
              obtain ⟨p, hp⟩ : ∃ p, xs[q]? = some p := ⟨_, List.getElem?_eq_getElem (by omega)⟩
              have hpr := HG.out.range (List.mem_of_getElem? hp)
              obtain ⟨blk2, off2, Ap, cp, hq, _, _, _, e2, _⟩ := HSl2.out.evt q p hp
              cases hq
              have HB2 : Hid (decide (gap < x.at' - p.at') = B) := by show _ = _; rw [← HB.out, isNew_succ hp]
              have hw : IntKind.i64.wrap (x.at' - p.at') = x.at' - p.at' := IntWalk.i64_in _ (by omega)
              have hz : (((q + 1 : Nat) : Int) == 0) = false := by simp; omega
              have hq2 : q < xs.length := by omega
              have hwq : IntKind.i64.wrap (q : Int) = q := IntWalk.i64_in _ (by omega)
              clear hp
              go_wp2_with fail
              go_quiet (fail)
              first | go_meet | (go_wp2_with fail; go_meet)
              exact ⟨by rw [← HB2.out, show ((q : Int) + 1 == 0) = false from hz, Bool.false_or], below_drewN _ _ _⟩
          case rest =>
          obtain ⟨rfl, hbc⟩ := hcut
          replace S := S.below hbc
          clear hbc y0 HSl2
          generalize wc = w7 at *
          have y0 := (S.lv 1 rfl).all
          go_upto_if 40 with fail
          go_cut [7] (fun v wx => ∃ D s, Hid (D ++ sesGo gap (growS s x) x (xs.drop (k + 1)) = R) ∧ 0 ≤ s.many ∧ s.many ≤ k ∧ D.length ≤ 5000 ∧ Mem w wx [.own rSes w.heap.size 55 v (D ++ [s]), .loc Y (evCs x Af cf) 32])
          case first =>
            cases B with
            | true =>
              have HN := Lib.hid (HA.out.new Hx.out (isNew_yes HB.out))
              have hsz := S.b.size
              have HS0 := Lib.hid S
              clear S HA HB
              go_wp2_with (at_builtin; refine HS0.out.app 0 rfl tySes rfl _ _ rfl (⟨x.at', 0, 0, x.id⟩ : Ses) 1 rfl rfl rfl (oneSes ⟨x.at', 0, 0, x.id⟩) hsz (by have := Hol.out; omega) (by decide) ?_; intro v' w6 S6)
              first | go_meet | (go_wp2_with fail; go_meet)
              exact ⟨out, ⟨x.at', 0, 0, x.id⟩, HN, Int.le_refl _, Int.natCast_nonneg _, Hol.out, S6⟩
            | false =>
              obtain ⟨hk0, p, hp, hgp⟩ := isNew_no hlt HB.out
              have HO := Lib.hid (HA.out.old Hx.out hk0 hp hgp)
              clear HA HB hk0 hp hgp
              go_wp2_with fail
              first | go_meet | (go_wp2_with fail; go_meet)
              obtain ⟨D, s, rfl, h1, h2, h3⟩ := HO.out
              refine ⟨D, s, h1, h2, h3, ?_, S⟩
              have := Hol.out
              rw [List.length_append, List.length_singleton] at this
              omega
          case rest =>
            obtain ⟨D, s, HN, hs1, hs2, hDl, S⟩ := hcut
            clear y0 HA HB Hol
            have hlD : (D ++ [s]).length = D.length + 1 := by rw [List.length_append, List.length_singleton]
            obtain ⟨g, cap, rfl, _⟩ := (S.ow 0 rfl).form (by omega)
            have Hl := Lib.hid hlD.symm
            rw [hlD] at S ⊢
            clear hlD
            have HgD : Hid ((D ++ [s])[D.length]? = some s) := by show _ = _; simp
            obtain ⟨c1, f1⟩ := (S.ow 0 rfl).cellP flatSes Hl.out D.length s HgD.out 1 (.int .i64 s.to') rfl
            obtain ⟨c2, f2⟩ := (S.ow 0 rfl).cellP flatSes Hl.out D.length s HgD.out 2 (.int .i64 s.many) rfl
            replace c1 : wc.cell? ⟨g, D.length * 4 + 1, none⟩ = some (.int .i64 s.to') := c1
            replace f1 : wc.frozen? ⟨g, D.length * 4 + 1, none⟩ = false := f1
            replace c2 : wc.cell? ⟨g, D.length * 4 + 2, none⟩ = some (.int .i64 s.many) := c2
            replace f2 : wc.frozen? ⟨g, D.length * 4 + 2, none⟩ = false := f2
            have y0 := (S.lv 1 rfl).all
            have hw1 : IntKind.i64.wrap (x.at' + 1) = x.at' + 1 := IntWalk.i64_in _ (by omega)
            have hw2 : IntKind.i64.wrap (s.many + 1) = s.many + 1 := IntWalk.i64_in _ (by omega)
            have S1 : Mem w (wc.setCell ⟨g, D.length * 4 + 1, none⟩ (.int .i64 (x.at' + 1))) [.own rSes w.heap.size 55 (.slice (some ⟨g, 0, none⟩) (D.length + 1) cap) ((D ++ [s]).set D.length ⟨s.frm, x.at' + 1, s.many, s.first⟩), .loc Y (evCs x Af cf) 32] := S.put flatSes 0 rfl Hl.out D.length s ⟨s.frm, x.at' + 1, s.many, s.first⟩ HgD.out 1 (by decide) (.int .i64 (x.at' + 1)) rfl
            have S2 : Mem w ((wc.setCell ⟨g, D.length * 4 + 1, none⟩ (.int .i64 (x.at' + 1))).setCell ⟨g, D.length * 4 + 2, none⟩ (.int .i64 (s.many + 1))) [.own rSes w.heap.size 55 (.slice (some ⟨g, 0, none⟩) (D.length + 1) cap) (D ++ [growS s x]), .loc Y (evCs x Af cf) 32] := by
              have := S1.put flatSes 0 rfl (by rw [List.length_set]; exact Hl.out) D.length ⟨s.frm, x.at' + 1, s.many, s.first⟩ (growS s x) (by rw [List.getElem?_set_self (by rw [← Hl.out]; omega)]) 2 (by decide) (.int .i64 (s.many + 1)) rfl
              rw [List.set_cons_zero, List.set_set, List.set_append_right _ _ (Nat.le_refl _), Nat.sub_self] at this
              exact this
            have Hnext : Hid (SesAt gap xs R (k + 1) (D ++ [growS s x])) := SesAt.next Hx.out HN.out hs1 hs2
            have HS2 := Lib.hid S2
            clear S S1 S2 HN HgD Hl
            go_wp2_with fail
            go_roundw
            case rel => exact ⟨k + 1, D ++ [growS s x], by omega, by go_num, Hnext, HS2.out.del 1⟩
            case measure => simp [intOf]; omega
        · have he : k = xs.length := by omega
          subst he
          obtain rfl : out = R := HA.out.end'
          have Hfin : Hid (GivesSes out 0 w (.returned (.tuple #[_, .int .i64 0])) wr) := ⟨_, rfl, S⟩
          clear S HA
          go_wp2_with fail
          go_ret2
          exact Hfin.out
    · have hd : decide (1 ≤ gap ∧ gap ≤ 1440) = false := decide_eq_false hg
      rw [if_pos hg] at HF
      obtain rfl : 1 = F := HF.out
      rw [if_neg (by decide)] at HR
      obtain rfl : [] = R := HR.out
      have Hfin : Hid (GivesSes [] 1 w (.returned (.tuple #[.slice none 0 0, .int .i64 1])) w1) := ⟨_, rfl, ((Mem.start w).below hl1).nil rSes w.heap.size 55⟩
      go_wp2_with fail
      go_ret2
      exact Hfin.out
  · rw [if_pos hF] at HF
    rw [HF.out] at Hch
    have hF0 : F ≠ 0 := by rw [← HF.out]; exact hF
    rw [if_neg hF0] at HR
    obtain rfl : [] = R := HR.out
    have hF' : (F != 0) = true := by simpa using hF0
    clear HF hF hF0
    go_enter Tryz.func24, Tryz.ntmps24
    go_wp2_with fail
    ((with_reducible refine (Hch.out).mono ?_); rintro e w1 ⟨rfl, hl1⟩)
    have Hfin : Hid (GivesSes [] F w (.returned (.tuple #[.slice none 0 0, .int .i64 F])) w1) := ⟨_, rfl, ((Mem.start w).below hl1).nil rSes w.heap.size 55⟩
    go_wp2_with fail
    go_ret2
    exact Hfin.out
/-- what the reference has when the events from k on are done -/
def SesBk (gap : Int) (l : List Evt) (k : Nat) (out : List Ses) : Prop := (sesR gap (l.drop k)).reverse = out
theorem sesR_ne {gap : Int} : ∀ {l : List Evt}, l ≠ [] → sesR gap l ≠ []
  | [], h => absurd rfl h
  | [x], _ => by simp [sesR]
  | x :: y :: r, _ => by
    have ih := sesR_ne (gap := gap) (l := y :: r) (by simp)
    show (if gap < y.at' - x.at' then newS x :: sesR gap (y :: r) else backHd x (sesR gap (y :: r))) ≠ []
    split
    · simp
    · cases h : sesR gap (y :: r) with
      | nil => exact absurd h ih
      | cons s t => simp [backHd]
theorem SesBk.new {gap : Int} {l : List Evt} {k : Nat} {out : List Ses} (h : SesBk gap l (k + 1) out) {x : Evt} (hx : l[k]? = some x) (hc : l[k + 1]? = none ∨ ∃ y, l[k + 1]? = some y ∧ gap < y.at' - x.at') : SesBk gap l k (out ++ [backS x ⟨0, x.at' + 1, 0, ⟨#[]⟩⟩]) := by
  unfold SesBk at *
  rw [drop_at3 hx]
  rcases hc with hc | ⟨y, hy, hc⟩
  · rw [List.drop_eq_nil_of_le (by rw [List.getElem?_eq_none_iff] at hc; exact hc)] at h ⊢
    rw [← h]
    rfl
  · rw [drop_at3 hy] at h ⊢
    rw [← h]
    show (if gap < y.at' - x.at' then newS x :: sesR gap (y :: _) else backHd x (sesR gap (y :: _))).reverse = _
    rw [if_pos hc, List.reverse_cons]
    rfl
theorem SesBk.old {gap : Int} {l : List Evt} {k : Nat} {out : List Ses} (h : SesBk gap l (k + 1) out) {x y : Evt} (hx : l[k]? = some x) (hy : l[k + 1]? = some y) (hc : ¬ gap < y.at' - x.at') : ∃ D s, out = D ++ [s] ∧ SesBk gap l k (D ++ [backS x s]) := by
  unfold SesBk at *
  rw [drop_at3 hx, drop_at3 hy]
  rw [drop_at3 hy] at h
  have hne := sesR_ne (gap := gap) (l := y :: l.drop (k + 1 + 1)) (by simp)
  show ∃ D s, out = D ++ [s] ∧ (if gap < y.at' - x.at' then newS x :: sesR gap (y :: _) else backHd x (sesR gap (y :: _))).reverse = _
  rw [if_neg hc]
  cases h2 : sesR gap (y :: l.drop (k + 1 + 1)) with
  | nil => exact absurd h2 hne
  | cons s t =>
    rw [h2, List.reverse_cons] at h
    exact ⟨t.reverse, s, h.symm, by show (backS x s :: t).reverse = _; rw [List.reverse_cons]⟩
theorem sesR_len (gap : Int) (l : List Evt) : (sesR gap l).length ≤ l.length := by rw [ses_eq]; exact sesOf_len gap l
theorem SesBk.len {gap : Int} {l : List Evt} {k : Nat} {out : List Ses} (h : SesBk gap l k out) (hl : l.length ≤ 5000) : out.length ≤ 5000 := by
  unfold SesBk at h
  have := sesR_len gap (l.drop k)
  rw [← h, List.length_reverse]
  rw [List.length_drop] at this
  omega
abbrev backW (w : World) (g k : Nat) (x : Evt) : World := (w.setCell ⟨g, k * 4, none⟩ (.int .i64 x.at')).setCell ⟨g, k * 4 + 3, none⟩ (.string x.id)
theorem sesR_many {gap : Int} {l : List Evt} (hl : l.length ≤ 5000) {z : Ses} (h : z ∈ sesR gap l) : 0 ≤ z.many ∧ z.many ≤ 100000 := by
  rw [ses_eq] at h
  cases l with
  | nil => cases h
  | cons x r =>
    rw [List.length_cons] at hl
    exact sesGo_many gap 100000 r _ _ _ h (by show (0 : Int) ≤ 1; omega) (by show (1 : Int) + _ ≤ _; omega)
theorem SesBk.many {gap : Int} {l : List Evt} {k : Nat} {out : List Ses} (h : SesBk gap l k out) (hl : l.length ≤ 5000) : ∀ z ∈ out, 0 ≤ z.many ∧ z.many ≤ 100000 := fun z hz => by
  unfold SesBk at h
  rw [← h, List.mem_reverse] at hz
  exact sesR_many (by rw [List.length_drop]; omega) hz
def isNewR (gap : Int) (l : List Evt) (q : Nat) (x : Evt) : Bool := l[q + 1]?.all (fun y => decide (gap < y.at' - x.at'))
theorem isNewR_yes {gap : Int} {l : List Evt} {q : Nat} {x : Evt} (h : isNewR gap l q x = true) : l[q + 1]? = none ∨ ∃ y, l[q + 1]? = some y ∧ gap < y.at' - x.at' := by
  unfold isNewR at h
  cases hy : l[q + 1]? with
  | none => exact .inl rfl
  | some y =>
    rw [hy] at h
    exact .inr ⟨y, rfl, of_decide_eq_true h⟩
theorem isNewR_no {gap : Int} {l : List Evt} {q : Nat} {x : Evt} (h : isNewR gap l q x = false) : ∃ y, l[q + 1]? = some y ∧ ¬ gap < y.at' - x.at' := by
  unfold isNewR at h
  cases hy : l[q + 1]? with
  | none => rw [hy] at h; cases h
  | some y =>
    rw [hy] at h
    exact ⟨y, rfl, of_decide_eq_false h⟩
def GivesSl (xs : List Ses) (w : World) (e : Ending) (w' : World) : Prop := ∃ v, e = .returned v ∧ Mem w w' [.own rSes w.heap.size 55 v xs]
set_option maxHeartbeats 16000000 in
set_option maxRecDepth 100000 in
theorem sessionsOf_any (N : Nat → Prop) (A : Option Addr) (xs : List Evt) (c : Nat) (gap : Int) (w : World) (hS : Sl rEvt N w A xs) (hG : GoodEvs xs) :
    Calls Tryz.prog 26 #[.slice A xs.length c, .int .i64 gap] w (GivesSl (sesOf gap xs) w) := by
  have HSl := Lib.hid (fun w' (h : Below w.heap.size w w') => hS.keepB h)
  have HG := Lib.hid hG
  have hlen := hG.len
  clear hS hG
  obtain ⟨R, HR⟩ : ∃ R, Hid (sesR gap xs = R) := ⟨_, Lib.hid rfl⟩
  rw [← ses_eq, HR.out]
  have S : Mem w w [.own rSes w.heap.size 55 (.slice none 0 0) []] := (Mem.start w).nil rSes w.heap.size 55
  go_enter Tryz.func26, Tryz.ntmps26
  go_wp2_with fail
  go_loopw [5, 6, 7] (fun v i s7 wr => ∃ (k : Nat) (out : List Ses), k ≤ xs.length ∧ i = .int .i64 ((k : Int) - 1) ∧ Hid (SesBk gap xs k out) ∧ Mem w wr [.own rSes w.heap.size 55 v out]) (fun _ i _ _ => (intOf i + 1).toNat)
  case atStart => exact ⟨xs.length, [], Nat.le_refl _, by go_num, by show _ = _; rw [List.drop_eq_nil_of_le (Nat.le_refl _)]; rfl, S⟩
  case round =>
    clear S
    obtain ⟨k, out, hk, rfl, HA, S⟩ := hrel
    have Hol : Hid (out.length ≤ 5000) := HA.out.len hlen
    by_cases hk0 : k = 0
    · subst hk0
      have he : out = R.reverse := by rw [← HR.out]; exact HA.out.symm
      subst he
      rw [show (.int .i64 (((0 : Nat) : Int) - 1) : Value) = .int .i64 (-1) from rfl]
      have hRl : R.reverse.length ≤ 1000000 := by have := Hol.out; omega
      rcases (S.ow 0 rfl).shape2 with ⟨rfl, h0⟩ | ⟨g, cap, rfl, _⟩
      · have hR0 : R = [] := by simpa using h0
        subst hR0
        clear h0 Hol HA
        go_wp2_with fail
        ((with_reducible refine (revSes_nil wr).mono ?_); rintro e _ ⟨rfl, rfl⟩)
        go_wp2_with fail
        go_ret
        exact ⟨_, rfl, S⟩
      · have Hr := Lib.hid (revSes_any hRl S)
        rw [List.reverse_reverse] at Hr
        clear HA Hol S hRl
        generalize R.reverse.length = n at *
        go_wp2_with fail
        ((with_reducible refine (Hr.out).mono ?_); rintro e w2 ⟨rfl, S⟩)
        go_wp2_with fail
        go_ret
        exact ⟨_, rfl, S⟩
    · obtain ⟨q, rfl⟩ : ∃ q, k = q + 1 := ⟨k - 1, by omega⟩
      rw [show (.int .i64 (((q + 1 : Nat) : Int) - 1) : Value) = .int .i64 (q : Int) by go_num]
      obtain ⟨x, hx⟩ : ∃ x, xs[q]? = some x := ⟨_, List.getElem?_eq_getElem (by omega)⟩
      have hxr := HG.out.range (List.mem_of_getElem? hx)
      obtain ⟨blk, off, Af, cf, rfl, hblk, d0, _, d2, _⟩ := (HSl.out wr S.b).evt q x hx
      have Hx := Lib.hid hx
      have HSl2 := Lib.hid (HSl.out wr S.b)
      have hw1 : IntKind.i64.wrap (x.at' + 1) = x.at' + 1 := IntWalk.i64_in _ (by omega)
      clear hx hk0
      go_upto_region 5 with fail
      obtain ⟨B, HB⟩ : ∃ B, Hid (isNewR gap xs q x = B) := ⟨_, Lib.hid rfl⟩
      have hsz0 := S.b.size
      have hbw : Below wr.heap.size wr wr := Below.refl _ _
      go_cut [35] (fun s35 wx => s35 = .bool B ∧ Below wr.heap.size wr wx)
      case first =>
        by_cases hql : q + 1 = xs.length
        · obtain rfl : true = B := by rw [← HB.out, isNewR, List.getElem?_eq_none (by omega)]; rfl
          have hd : decide ((q : Int) = (xs.length : Int) - 1) = true := decide_eq_true (by omega)
          have hwl : IntKind.i64.wrap ((xs.length : Int) - 1) = (xs.length : Int) - 1 := IntWalk.i64_in _ (by omega)
          have hbq : ((q : Int) == (xs.length : Int) - 1) = true := by simp; omega
          go_wp2_with fail
          go_quiet (fail)
          first | go_meet | (go_wp2_with fail; go_meet)
          exact ⟨rfl, below_drewN _ _ _⟩
        · obtain ⟨y, hy⟩ : ∃ y, xs[q + 1]? = some y := ⟨_, List.getElem?_eq_getElem (by omega)⟩
          have hyr := HG.out.range (List.mem_of_getElem? hy)
          obtain ⟨blk2, off2, Ay, cy, hq, _, _, _, e2, _⟩ := HSl2.out.evt (q + 1) y hy
          cases hq
          have hw : IntKind.i64.wrap (y.at' - x.at') = y.at' - x.at' := IntWalk.i64_in _ (by omega)
          have hd : decide ((q : Int) = (xs.length : Int) - 1) = false := decide_eq_false (by omega)
          have hwl : IntKind.i64.wrap ((xs.length : Int) - 1) = (xs.length : Int) - 1 := IntWalk.i64_in _ (by omega)
          have hbq : ((q : Int) == (xs.length : Int) - 1) = false := by simp; omega
          have hq1 : q + 1 < xs.length := by omega
          have hwq : IntKind.i64.wrap ((q : Int) + 1) = ((q + 1 : Nat) : Int) := by rw [IntWalk.i64_in _ (by omega)]; rfl
          have HB2 : Hid (decide (gap < y.at' - x.at') = B) := by show _ = _; rw [← HB.out, isNewR, hy]; rfl
          clear hy
          go_wp2_with fail
          go_quiet (fail)
          first | go_meet | (go_wp2_with fail; go_meet)
          exact ⟨by rw [← HB2.out], below_drewN _ _ _⟩
      case rest =>
      obtain ⟨rfl, hbc⟩ := hcut
      replace S := S.below hbc
      clear hbc d0 d2 HSl2 hbw hsz0
      generalize wc = w7 at *
      obtain ⟨blk3, off3, Az, cz, hq3, _, d0, _, d2, _⟩ := (HSl.out w7 S.b).evt q x Hx.out
      cases hq3
      go_upto_if 35 with fail
      go_cut [5] (fun v wx => ∃ D s, Hid (SesBk gap xs q (D ++ [backS x s])) ∧ 0 ≤ s.many ∧ s.many ≤ 100000 ∧ D.length ≤ 5000 ∧ Mem w wx [.own rSes w.heap.size 55 v (D ++ [s])])
      case first =>
        cases B with
        | true =>
          have HN := Lib.hid (HA.out.new Hx.out (isNewR_yes HB.out))
          have hsz := S.b.size
          have HS0 := Lib.hid S
          clear S HA HB
          go_wp2_with (at_builtin; refine HS0.out.app 0 rfl tySes rfl _ _ rfl (⟨0, x.at' + 1, 0, ⟨#[]⟩⟩ : Ses) 1 rfl rfl rfl (oneSes ⟨0, x.at' + 1, 0, ⟨#[]⟩⟩) hsz (by have := Hol.out; omega) (by decide) ?_; intro v' w6 S6)
          first | go_meet | (go_wp2_with fail; go_meet)
          exact ⟨out, ⟨0, x.at' + 1, 0, ⟨#[]⟩⟩, HN, Int.le_refl _, by show (0 : Int) ≤ 100000; omega, Hol.out, S6⟩
        | false =>
          obtain ⟨y, hy, hgp⟩ := isNewR_no HB.out
          have HO := Lib.hid (HA.out.old Hx.out hy hgp)
          have HMn := Lib.hid (HA.out.many hlen)
          clear HA HB hy hgp
          go_wp2_with fail
          first | go_meet | (go_wp2_with fail; go_meet)
          obtain ⟨D, s, rfl, h1⟩ := HO.out
          have h2 := HMn.out s (by simp)
          refine ⟨D, s, h1, h2.1, h2.2, ?_, S⟩
          have := Hol.out
          rw [List.length_append, List.length_singleton] at this
          omega
      case rest =>
        obtain ⟨D, s, HN, hs1, hs2, hDl, S⟩ := hcut
        clear d0 d2 HA HB Hol
        have hlD : (D ++ [s]).length = D.length + 1 := by rw [List.length_append, List.length_singleton]
        obtain ⟨g, cap, rfl, _⟩ := (S.ow 0 rfl).form (by omega)
        have Hl := Lib.hid hlD.symm
        rw [hlD] at S ⊢
        clear hlD
        have HgD : Hid ((D ++ [s])[D.length]? = some s) := by show _ = _; simp
        obtain ⟨c0, f0⟩ := (S.ow 0 rfl).cellP flatSes Hl.out D.length s HgD.out 0 (.int .i64 s.frm) rfl
        obtain ⟨c3, f3⟩ := (S.ow 0 rfl).cellP flatSes Hl.out D.length s HgD.out 3 (.string s.first) rfl
        replace c0 : wc.cell? ⟨g, D.length * 4, none⟩ = some (.int .i64 s.frm) := c0
        replace f0 : wc.frozen? ⟨g, D.length * 4, none⟩ = false := f0
        replace c3 : wc.cell? ⟨g, D.length * 4 + 3, none⟩ = some (.string s.first) := c3
        replace f3 : wc.frozen? ⟨g, D.length * 4 + 3, none⟩ = false := f3
        obtain ⟨blk2, off2, Ay, cy, hq, _, d0, _, d2, _⟩ := (HSl.out wc S.b).evt q x Hx.out
        cases hq
        have hw2 : IntKind.i64.wrap (s.many + 1) = s.many + 1 := IntWalk.i64_in _ (by omega)
        have S1 : Mem w (wc.setCell ⟨g, D.length * 4, none⟩ (.int .i64 x.at')) [.own rSes w.heap.size 55 (.slice (some ⟨g, 0, none⟩) (D.length + 1) cap) ((D ++ [s]).set D.length ⟨x.at', s.to', s.many, s.first⟩)] := S.put flatSes 0 rfl Hl.out D.length s ⟨x.at', s.to', s.many, s.first⟩ HgD.out 0 (by decide) (.int .i64 x.at') rfl
        have S2 : Mem w (backW wc g D.length x) [.own rSes w.heap.size 55 (.slice (some ⟨g, 0, none⟩) (D.length + 1) cap) (D ++ [⟨x.at', s.to', s.many, x.id⟩])] := by
          have := S1.put flatSes 0 rfl (by rw [List.length_set]; exact Hl.out) D.length ⟨x.at', s.to', s.many, s.first⟩ ⟨x.at', s.to', s.many, x.id⟩ (by rw [List.getElem?_set_self (by rw [← Hl.out]; omega)]) 3 (by decide) (.string x.id) rfl
          rw [List.set_cons_zero, List.set_set, List.set_append_right _ _ (Nat.le_refl _), Nat.sub_self] at this
          exact this
        have HS3 : Hid (Mem w (backW wc g D.length x).drew [.own rSes w.heap.size 55 (.slice (some ⟨g, 0, none⟩) (D.length + 1) cap) (D ++ [⟨x.at', s.to', s.many, x.id⟩])]) := S2.below ((show Drewn (backW wc g D.length x) (backW wc g D.length x).drew from rfl).below _)
        clear S S1 S2 HgD Hl
        go_upto_region 8 with fail
        go_region
        clear c0 c3 f0 f3 d0 d2
        have S := HS3.out
        clear HS3
        generalize (backW wc g D.length x).drew = wd at S ⊢
        have Hl2 : Hid (D.length + 1 = (D ++ [(⟨x.at', s.to', s.many, x.id⟩ : Ses)]).length) := by show _ = _; rw [List.length_append, List.length_singleton]
        have HgD : Hid ((D ++ [(⟨x.at', s.to', s.many, x.id⟩ : Ses)])[D.length]? = some ⟨x.at', s.to', s.many, x.id⟩) := by show _ = _; simp
        obtain ⟨c2, f2⟩ := (S.ow 0 rfl).cellP flatSes Hl2.out D.length _ HgD.out 2 (.int .i64 s.many) rfl
        replace c2 : wd.cell? ⟨g, D.length * 4 + 2, none⟩ = some (.int .i64 s.many) := c2
        replace f2 : wd.frozen? ⟨g, D.length * 4 + 2, none⟩ = false := f2
        have HS4 : Hid (Mem w (wd.setCell ⟨g, D.length * 4 + 2, none⟩ (.int .i64 (s.many + 1))) [.own rSes w.heap.size 55 (.slice (some ⟨g, 0, none⟩) (D.length + 1) cap) (D ++ [backS x s])]) := by
          have := S.put flatSes 0 rfl Hl2.out D.length ⟨x.at', s.to', s.many, x.id⟩ (backS x s) HgD.out 2 (by decide) (.int .i64 (s.many + 1)) rfl
          rw [List.set_cons_zero, List.set_append_right _ _ (Nat.le_refl _), Nat.sub_self] at this
          exact this
        clear S Hl2 HgD
        go_wp2_with fail
        go_roundw
        case rel => exact ⟨q, D ++ [backS x s], by omega, by go_num, HN, HS4.out⟩
        case measure => simp [intOf] <;> omega
end Go.Proofs.YthlcdepjmoddnaaGreatDoor

/- The law EventSessions walked: it returns true, and nothing that was there has turned. -/
namespace Go.Proofs.YthlcdepjmoddnaaGreatDoor
open Go Go.RowKit
set_option maxHeartbeats 8000000 in
set_option maxRecDepth 100000 in
theorem eventSessions_any (v : Value) (w : World) (hv : IntsIn v w) (hT : Tabs w) (hM : MaxL w) (hN : Names w) (hE : ENames w) (hP : Pool w) :
    Calls Tryz.prog 5 #[v] w fun e w' => e = .returned (.bool true) ∧ Below w.heap.size w w' := by
  obtain ⟨va, vn, vc, rfl⟩ : ∃ a n c, v = .slice a n c := by
    rcases hv with ⟨a, c, rfl⟩ | ⟨k, off, len, cap, rfl, _⟩
    · exact ⟨_, _, _, rfl⟩
    · exact ⟨_, _, _, rfl⟩
  have g0 := G.start (Strm.start hv)
  clear hv
  have S := St.start g0.s
  have hPn : 2 ≠ w.heap.size := Nat.ne_of_lt hP.lt
  have hNn : 1 ≠ w.heap.size := Nat.ne_of_lt hN.lt
  have hEn : 0 ≠ w.heap.size := Nat.ne_of_lt hE.lt
  have hb0 : Below w.heap.size w (w.alloc (.cells #[.slice va vn vc, .int .i64 0] 25)) := (Below.refl _ _).alloc (Nat.le_refl _) _
  have Hb0 := Lib.hid hb0
  have HTM : Hid (∀ w', Below w.heap.size w w' → Tabs w' ∧ MaxL w') := fun w' h => ⟨Utf8Tabs_below hT h, hM.below h⟩
  have HP := Lib.hid (hP.keep (b := w.heap.size) ((SK.refl _ w).alloc (.cells #[.slice va vn vc, .int .i64 0] 25)) hPn)
  have HN := Lib.hid (hN.keep (b := w.heap.size) ((SK.refl _ w).alloc (.cells #[.slice va vn vc, .int .i64 0] 25)) hNn)
  have HE := Lib.hid (hE.keep (b := w.heap.size) ((SK.refl _ w).alloc (.cells #[.slice va vn vc, .int .i64 0] 25)) hEn)
  have hw0 : w.heap.size ≤ (w.alloc (.cells #[.slice va vn vc, .int .i64 0] 25)).heap.size := by simp
  clear hP hM hN hE hT hb0
  go_enter Tryz.func5, Tryz.ntmps5
  go_wp2_with fail
  ((with_reducible refine (range_any w.heap.size _ _ _ _ S.g.s (by omega) (by omega) (by omega) (by omega)).mono ?_); rintro e w1 ⟨many, m_lo, m_hi, rfl, hk_w1, hs_w1⟩)
  replace S := S.step hk_w1 hs_w1
  clear hk_w1 hs_w1
  obtain ⟨n, rfl⟩ := Int.eq_ofNat_of_zero_le m_lo
  go_wp2_with fail
  ((with_reducible refine (some_any w.heap.size _ n _ S.g.s (by omega) (by omega) (HN.out.keep S.g.k hNn) hNn (HE.out.keep S.g.k hEn) hEn (HP.out.keep S.g.k hPn) hPn (fun w' h => HTM.out w' (Hb0.out.trans ((S.g.k.trans h).below (Nat.le_refl _) hw0)))).mono ?_); rintro e w2 ⟨A, c, xs, rfl, hxl, hxs, hc, T⟩)
  replace S := S.join T
  have Hxs := Lib.hid hxs
  have Hc0 := Lib.hid hc
  clear T hxs hc
  go_wp2_with fail
  ((with_reducible refine (pick_le w.heap.size _ _ _ 0 1441 S.g.s (by first | rfl | simp) (by first | rfl | simp) (intsIn_of (by decide)) (by simp) (by simp) (by omega)).mono ?_); rintro e w3 ⟨t, t_lo, t_hi, rfl, hk_w3, hs_w3⟩)
  replace S := S.step hk_w3 hs_w3
  clear hk_w3 hs_w3
  have Hb3 : Hid (Below w.heap.size w w3) := Hb0.out.trans (S.g.k.below (Nat.le_refl _) hw0)
  have hS3 := (S.slc 0 rfl)
  have hok : EvsOk xs := evsOk_sm (by omega) Hxs.out
  obtain ⟨hT3, hM3⟩ := HTM.out _ Hb3.out
  clear S
  have Hc := Lib.hid (sessions_any _ A xs c t w3 hS3 hok hT3 hM3)
  obtain ⟨F, hF⟩ : ∃ F, evsFault xs = F := ⟨_, rfl⟩
  by_cases hF0 : F = 0
  · subst hF0
    have HG := Lib.hid (evs_good hF)
    by_cases ht : 1 ≤ t ∧ t ≤ 1440
    · have he : sesErr xs t = 0 := by unfold sesErr; rw [if_neg (not_not_intro hF), if_neg (not_not_intro ht)]
      have hb : sesAns xs t = sesOf t xs := by unfold sesAns; rw [if_pos he]
      rw [he, hb] at Hc
      rw [hF]
      have Hr := Lib.hid (fun w' (h : Below w3.heap.size w3 w') => sessionsOf_any _ A xs c t w' (hS3.keepB h) HG.out)
      have Hsl : Hid ((sesOf t xs).length ≤ 1000000000) := by show _ ≤ _; exact Nat.le_trans (sesOf_len t xs) (by have := HG.out.len; omega)
      obtain ⟨ht1, ht2⟩ := ht
      clear hb hF he hS3
      generalize sesOf t xs = ys at *
      generalize xs.length = n3 at *
      go_wp2_with fail
      ((with_reducible refine (Hc.out).mono ?_); rintro e w4 ⟨v4, rfl, M4⟩)
      obtain ⟨A4, c4, rfl, M4⟩ := M4.frz 0 rfl
      have Hr4 := Lib.hid (Hr.out w4 M4.b)
      have HM4 := Lib.hid M4
      clear Hc Hr M4
      go_wp2_with fail
      ((with_reducible refine (Hr4.out).mono ?_); rintro e w5 ⟨v5, rfl, M5⟩)
      obtain ⟨A5, c5, rfl, M5⟩ := M5.frz 0 rfl
      have Heq := Lib.hid (eqSes_any (fun _ => False) A4 A5 ys c4 c5 w5 (((HM4.out.slc 0 rfl).keepB M5.b).mono (fun _ _ h => h.elim)) ((M5.slc 0 rfl).mono (fun _ _ h => h.elim)) Hsl.out)
      have Hb5 : Hid (Below w.heap.size w w5) := (Hb3.out.trans (HM4.out.b.mono Hb3.out.size)).trans (M5.b.mono (Nat.le_trans Hb3.out.size HM4.out.b.size))
      clear Hr4 HM4 M5
      generalize ys.length = n4 at *
      go_wp2_with fail
      ((with_reducible refine (Heq.out).mono ?_); rintro e w6 ⟨rfl, hl6⟩)
      have Hb6 : Hid (Below w.heap.size w w6) := Hb5.out.trans (hl6.mono Hb5.out.size)
      clear Heq hl6
      go_wp2_with fail
      ((with_reducible refine (happenings_any w6).mono ?_); rintro e w9 ⟨rfl, hl9⟩)
      go_wp2_with fail
      go_ret
      exact ⟨rfl, Hb6.out.trans (hl9.mono Hb6.out.size)⟩
    · have he : sesErr xs t = 1 := by unfold sesErr; rw [if_neg (not_not_intro hF), if_pos ht]
      have hb : sesAns xs t = [] := by unfold sesAns; rw [he]; rfl
      rw [he, hb] at Hc
      rw [hF]
      clear hS3 hb hF he
      generalize xs.length = n3 at *
      by_cases h1 : t < 1
      · clear ht
        go_wp2_with fail
        ((with_reducible refine (Hc.out).mono ?_); rintro e w4 ⟨v4, rfl, M4⟩)
        have Hb4 : Hid (Below w.heap.size w w4) := Hb3.out.trans (M4.b.mono Hb3.out.size)
        obtain ⟨A4, c4, rfl, M4⟩ := M4.frz 0 rfl
        clear Hc M4
        rw [show ([] : List Ses).length = 0 from rfl]
        go_wp2_with fail
        ((with_reducible refine (happenings_any w4).mono ?_); rintro e w9 ⟨rfl, hl9⟩)
        go_wp2_with fail
        go_ret
        exact ⟨rfl, Hb4.out.trans (hl9.mono Hb4.out.size)⟩
      · have h2 : 1440 < t := by omega
        clear ht
        go_wp2_with fail
        ((with_reducible refine (Hc.out).mono ?_); rintro e w4 ⟨v4, rfl, M4⟩)
        have Hb4 : Hid (Below w.heap.size w w4) := Hb3.out.trans (M4.b.mono Hb3.out.size)
        obtain ⟨A4, c4, rfl, M4⟩ := M4.frz 0 rfl
        clear Hc M4
        rw [show ([] : List Ses).length = 0 from rfl]
        go_wp2_with fail
        ((with_reducible refine (happenings_any w4).mono ?_); rintro e w9 ⟨rfl, hl9⟩)
        go_wp2_with fail
        go_ret
        exact ⟨rfl, Hb4.out.trans (hl9.mono Hb4.out.size)⟩
  · have he : sesErr xs t = F := by unfold sesErr; rw [hF, if_pos hF0]
    have hb : sesAns xs t = [] := by unfold sesAns; rw [he, if_neg hF0]
    rw [he, hb] at Hc
    rw [hF]
    have hF' : (F == 0) = false := by simpa using hF0
    have hF2 : (F != 0) = true := by simpa using hF0
    clear hS3 hb hF hF0 he
    generalize xs.length = n3 at *
    go_wp2_with fail
    ((with_reducible refine (Hc.out).mono ?_); rintro e w4 ⟨v4, rfl, M4⟩)
    have Hb4 : Hid (Below w.heap.size w w4) := Hb3.out.trans (M4.b.mono Hb3.out.size)
    obtain ⟨A4, c4, rfl, M4⟩ := M4.frz 0 rfl
    clear Hc M4
    rw [show ([] : List Ses).length = 0 from rfl]
    go_wp2_with fail
    ((with_reducible refine (happenings_any w4).mono ?_); rintro e w9 ⟨rfl, hl9⟩)
    go_wp2_with fail
    go_ret
    exact ⟨rfl, Hb4.out.trans (hl9.mono Hb4.out.size)⟩
end Go.Proofs.YthlcdepjmoddnaaGreatDoor
