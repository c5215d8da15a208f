/- Several texts in one: QuoteLaw, Quote, Points, Value, Rep, RefKey. -/
import Derived.Lib.Strings
import Derived.Lib.ConvBytes
import Derived.Lib.Bytealg
import Derived.Test.YtmlpkejeglpciaaGreatDoorPkAA
import Derived.Test.YtmlpkejeglpciaaGreatDoorShelf
import Derived.Lib.TrimU
import Derived.Shelf.Unicode.DecodeLastEight
/- Quoted strings, plainly: what a byte is written as, a quoted string, and how one is read again. No program is in sight. -/
namespace Go.Proofs.YtmlpkejeglpciaaGreatDoor.Q

def hexs : List UInt8 := [48, 49, 50, 51, 52, 53, 54, 55, 56, 57, 97, 98, 99, 100, 101, 102]
def hv (c : UInt8) : Int := Lib.indexByte hexs c
def hidI (n : Int) : Prop := (n < 33 ∧ n ≠ 10) ∨ 127 ≤ n
instance (n : Int) : Decidable (hidI n) := by unfold hidI; infer_instance
def run (step : List UInt8 → Option (UInt8 × Nat)) (l : List UInt8) : Nat → Nat → List UInt8 → Option (List UInt8 × Nat)
  | 0, _, _ => none
  | f + 1, i, acc =>
    match l.drop i with
    | [] => none
    | c :: r => if c.toNat = 34 then some (acc, i + 1) else match step (c :: r) with
      | none => none
      | some (x, n) => run step l f (i + n) (acc ++ [x])
end Go.Proofs.YtmlpkejeglpciaaGreatDoor.Q

/- What person.hidden and person.Quote return. -/
namespace Go.Proofs.YtmlpkejeglpciaaGreatDoor
open Go.RowKit

end Go.Proofs.YtmlpkejeglpciaaGreatDoor

/- What person.points, person.Distance and handlaw2.people return. -/
namespace Go.Proofs.YtmlpkejeglpciaaGreatDoor
open Go.RowKit

def pts : Nat → ByteArray → List Int
  | 0, _ => []
  | f + 1, s => if s.size = 0 then [] else
    (if (Lib.decodeGo s).1 = 65533 ∧ (Lib.decodeGo s).2 = 1 then -1 - ((s[0]?.map UInt8.toNat).getD 0 : Int) else (Lib.decodeGo s).1) :: pts f (s.extract (Lib.decodeGo s).2 s.size)

theorem pts_nil (f : Nat) (s : ByteArray) (h : s.size = 0) : pts f s = [] := by cases f <;> simp [pts, h]
theorem pts_cons (f : Nat) (s : ByteArray) (h : 0 < s.size) : pts (f + 1) s = (if (Lib.decodeGo s).1 = 65533 ∧ (Lib.decodeGo s).2 = 1 then -1 - (s[0].toNat : Int) else (Lib.decodeGo s).1) :: pts f (s.extract (Lib.decodeGo s).2 s.size) := by
  have e : s[0]? = some s[0] := getElem?_pos s 0 h
  rw [pts, if_neg (by omega), e]
  rfl
theorem dec_rng (s : ByteArray) (h : 0 < s.size) : 1 ≤ (Lib.decodeGo s).2 ∧ (Lib.decodeGo s).2 ≤ s.size ∧ (Lib.decodeGo s).1 ≤ 1114111 := by
  refine ⟨?_, Lib.decodeGo_le_size s, ?_⟩
  · unfold Lib.decodeGo; rw [if_neg (by omega)]; exact Lib.width_pos s 0
  · unfold Lib.decodeGo; rw [if_neg (by omega)]; exact Lib.rune_le s 0
theorem pts_len : ∀ (f : Nat) (s : ByteArray), s.size ≤ f → (pts f s).length ≤ s.size
  | 0, s, _ => by simp [pts]
  | f + 1, s, h => by
    by_cases h0 : s.size = 0
    · rw [pts_nil _ _ h0]; simp
    · have hr := dec_rng s (by omega)
      have hz : (s.extract (Lib.decodeGo s).2 s.size).size = s.size - (Lib.decodeGo s).2 := by rw [ByteArray.size_extract]; omega
      have := pts_len f (s.extract (Lib.decodeGo s).2 s.size) (by omega)
      rw [pts_cons _ _ (by omega), List.length_cons]
      omega

abbrev Tabs (w : World) : Prop := Lib.Utf8Tabs 7 8 w

end Go.Proofs.YtmlpkejeglpciaaGreatDoor

/- What person.checkText and CheckValue return. -/
namespace Go.Proofs.YtmlpkejeglpciaaGreatDoor
open Go.RowKit
def textOk (s : ByteArray) : Bool := Lib.validD s.data.toList && s.data.toList.all L.textByte
def textFault (s : ByteArray) : Int := if 200 < s.size then 2 else if textOk s then 0 else 3
theorem checkText_any (s : ByteArray) (w : World) (hs : s.size ≤ 1000000000) (hT : Tabs w) :
    Calls Tryz.prog 282 #[.string s] w fun e w' => e = .returned (.int .i64 (textFault s)) ∧ Below w.heap.size w w' := by
  have HT := Lib.hid hT
  clear hT
  have Hv : Hid (∀ w, Tabs w → Calls Tryz.prog 306 #[.string s] w fun e w' => e = .returned (.bool (Lib.validD s.data.toList)) ∧ Below w.heap.size w w') := fun w h => Tryz.utf8_ValidString s w (by omega) h
  obtain ⟨R, HR⟩ : ∃ R, Hid (textFault s = R) := ⟨_, Lib.hid rfl⟩
  rw [HR.out]
  by_cases h1 : 200 < s.size
  · go_enter Tryz.func282, Tryz.ntmps282
    go_wp2_with fail
    go_ret
    exact ⟨ret_i (by rw [← HR.out]; simp [textFault, h1]), Below.refl _ _⟩
  · by_cases h2 : Lib.validD s.data.toList = true
    · rw [h2] at Hv
      by_cases h3 : s.data.toList.all L.textByte = true
      · go_enter Tryz.func282, Tryz.ntmps282
        go_wp2_with fail
        refine (Hv.out _ HT.out).mono ?_
        rintro e w1 ⟨rfl, hl_w1⟩
        have hz_w1 := hl_w1.size
        go_wp2_with fail
        refine (all_any _ _ checkText1_pb s _ hs (fun _ _ => by kernel_rfl)).mono ?_
        rintro e _ ⟨rfl, rfl⟩
        rw [h3]
        go_wp2_with fail
        go_ret
        exact ⟨ret_i (by rw [← HR.out, textFault, textOk, if_neg h1, h2, h3]; rfl), hl_w1⟩
      · have h3 : s.data.toList.all L.textByte = false := by simpa using h3
        go_enter Tryz.func282, Tryz.ntmps282
        go_wp2_with fail
        refine (Hv.out _ HT.out).mono ?_
        rintro e w1 ⟨rfl, hl_w1⟩
        have hz_w1 := hl_w1.size
        go_wp2_with fail
        refine (all_any _ _ checkText1_pb s _ hs (fun _ _ => by kernel_rfl)).mono ?_
        rintro e _ ⟨rfl, rfl⟩
        rw [h3]
        go_wp2_with fail
        go_ret
        exact ⟨ret_i (by rw [← HR.out, textFault, textOk, if_neg h1, h2, h3]; rfl), hl_w1⟩
    · have h2 : Lib.validD s.data.toList = false := by simpa using h2
      rw [h2] at Hv
      go_enter Tryz.func282, Tryz.ntmps282
      go_wp2_with fail
      refine (Hv.out _ HT.out).mono ?_
      rintro e w1 ⟨rfl, hl_w1⟩
      have hz_w1 := hl_w1.size
      go_wp2_with fail
      go_ret
      exact ⟨ret_i (by rw [← HR.out, textFault, textOk, if_neg h1, h2]; rfl), hl_w1⟩
def valueFault (k : Int) (t : ByteArray) (n : Int) : Int :=
  if k = 1 then (if n ≠ 0 then 3 else textFault t)
  else if k = 2 then (if ¬ t.toList = [] then 3 else if -1000000000000 ≤ n ∧ n ≤ 1000000000000 then 0 else 1)
  else if k = 3 then (if ¬ t.toList = [] then 3 else if 0 ≤ n ∧ n ≤ 1 then 0 else 1)
  else if k = 4 then (if ¬ t.toList = [] then 3 else if 0 ≤ n ∧ n ≤ 4321439 then 0 else 1)
  else 4
theorem checkValue_any (k n : Int) (t : ByteArray) (w : World) (hs : t.size ≤ 1000000000) (hT : Tabs w) :
    Calls Tryz.prog 238 #[.agg #[.int .i64 k, .string t, .int .i64 n]] w fun e w' => e = .returned (.int .i64 (valueFault k t n)) ∧ Below w.heap.size w w' := by
  have HT := Lib.hid hT
  clear hT
  obtain ⟨R, HR⟩ : ∃ R, Hid (valueFault k t n = R) := ⟨_, Lib.hid rfl⟩
  rw [HR.out]
  have Hc : Hid (∀ w', Below w.heap.size w w' → Calls Tryz.prog 282 #[.string t] w' fun e w'' => e = .returned (.int .i64 (textFault t)) ∧ Below w'.heap.size w' w'') := fun w' h => checkText_any t w' hs (Utf8Tabs_below HT.out h)
  have Hb : Hid (Below w.heap.size w (w.alloc (.cells #[.int .i64 k, .string t, .int .i64 n] 121))) := (Below.refl _ _).alloc (Nat.le_refl _) _
  go_enter Tryz.func238, Tryz.ntmps238
  go_wp2_with (first | (go_at_call 159; refine (within_any _ _ _ _).mono ?_; rintro e _ ⟨rfl, rfl⟩) | (go_at_call 282; refine (Hc.out _ Hb.out).mono ?_; rintro e w1 ⟨rfl, hl_w1⟩))
  all_goals
    go_ret
    first
      | refine ⟨ret_i ?_, Hb.out⟩
      | refine ⟨ret_i ?_, Hb.out.trans (hl_w1.mono (by simp))⟩
    rw [← HR.out]
    unfold valueFault
    clear HR Hb Hc HT
    simp_all
  all_goals omega
end Go.Proofs.YtmlpkejeglpciaaGreatDoor

/- How data lie in memory: structs as rows of cells, slices as rows of those, to any depth. -/
namespace Go.Proofs.YtmlpkejeglpciaaGreatDoor
open Go.RowKit

structure SKN (N : Nat → Prop) (w w' : World) : Prop where
  size : w.heap.size ≤ w'.heap.size
  block : ∀ k, k < w.heap.size → ¬ N k → w'.heap[k]? = w.heap[k]?
theorem SKN.mono {N M : Nat → Prop} {w w' : World} (h : SKN N w w') (hm : ∀ k, N k → M k) : SKN M w w' := ⟨h.size, fun k hk hn => h.block k hk (fun e => hn (hm k e))⟩
theorem SKN.ofBelow {N : Nat → Prop} {w w' : World} (h : Below w.heap.size w w') : SKN N w w' := ⟨h.size, fun k hk _ => h.block k hk⟩
def Off (b : Nat) (k : Nat) : Prop := k = b
theorem SK.n {b : Nat} {w w' : World} (h : SK b w w') : SKN (Off b) w w' := ⟨h.size, fun k hk hn => h.block k hk hn⟩
structure Rep (α : Type) where
  size : Nat
  rel : (Nat → Prop) → World → α → List Value → Prop
  len : ∀ {N : Nat → Prop} {w : World} {x : α} {l : List Value}, rel N w x l → l.length = size
  keep : ∀ {N : Nat → Prop} {w w' : World} {x : α} {l : List Value}, SKN N w w' → rel N w x l → rel N w' x l
  mono : ∀ {N M : Nat → Prop} {w : World} {x : α} {l : List Value}, (∀ k, k < w.heap.size → M k → N k) → rel N w x l → rel M w x l

def Rep.flat {α : Type} (n : Nat) (f : α → List Value) (h : ∀ x, (f x).length = n) : Rep α :=
  ⟨n, fun _ _ x l => l = f x, fun e => by rw [e]; exact h _, fun _ h => h, fun _ h => h⟩

def Sl {α : Type} (r : Rep α) (N : Nat → Prop) (w : World) (A : Option Addr) (xs : List α) : Prop :=
  ∀ (i : Nat) (x : α), xs[i]? = some x → ∃ (blk off : Nat) (l : List Value), A = some ⟨blk, off, none⟩ ∧ blk < w.heap.size ∧ ¬ N blk ∧ r.rel N w x l ∧ ∀ (j : Nat) (u : Value), l[j]? = some u → w.cell? ⟨blk, off + i * r.size + j, none⟩ = some u

section
variable {α : Type} {r : Rep α} {N M : Nat → Prop} {w w' : World} {A : Option Addr} {xs : List α}
theorem Sl.nil : Sl r N w A [] := fun i x h => by simp at h
theorem Sl.keep (h : Sl r N w A xs) (k : SKN N w w') : Sl r N w' A xs := fun i x hx => by
  obtain ⟨blk, off, l, e, h1, h2, h3, h4⟩ := h i x hx
  exact ⟨blk, off, l, e, Nat.lt_of_lt_of_le h1 k.size, h2, r.keep k h3, fun j u hu => by
    rw [World.cell?_of_block (w := w) (a := ⟨blk, off + i * r.size + j, none⟩) (k.block blk h1 h2)]; exact h4 j u hu⟩
theorem Sl.mono (h : Sl r N w A xs) (k : ∀ k, k < w.heap.size → M k → N k) : Sl r M w A xs := fun i x hx => by
  obtain ⟨blk, off, l, e, h1, h2, h3, h4⟩ := h i x hx
  exact ⟨blk, off, l, e, h1, fun hm => h2 (k _ h1 hm), r.mono k h3, h4⟩
theorem Sl.keepB (h : Sl r N w A xs) (k : Below w.heap.size w w') : Sl r N w' A xs := h.keep (SKN.ofBelow k)
end

def Rep.list {α : Type} (r : Rep α) : Rep (List α) :=
  ⟨1, fun N w xs l => ∃ A c, l = [.slice A xs.length c] ∧ Sl r N w A xs, fun ⟨_, _, e, _⟩ => by rw [e]; rfl, fun k ⟨A, c, e, h⟩ => ⟨A, c, e, h.keep k⟩, fun k ⟨A, c, e, h⟩ => ⟨A, c, e, h.mono k⟩⟩
def Rep.app {α β : Type} (r : Rep α) (s : Rep β) : Rep (α × β) :=
  ⟨r.size + s.size, fun N w x l => ∃ l1 l2, l = l1 ++ l2 ∧ r.rel N w x.1 l1 ∧ s.rel N w x.2 l2, fun ⟨_, _, e, h1, h2⟩ => by rw [e, List.length_append, r.len h1, s.len h2], fun k ⟨l1, l2, e, h1, h2⟩ => ⟨l1, l2, e, r.keep k h1, s.keep k h2⟩, fun k ⟨l1, l2, e, h1, h2⟩ => ⟨l1, l2, e, r.mono k h1, s.mono k h2⟩⟩
def Rep.via {α β : Type} (r : Rep α) (f : β → α) : Rep β := ⟨r.size, fun N w x l => r.rel N w (f x) l, fun h => r.len h, fun k h => r.keep k h, fun k h => r.mono k h⟩
def rStr : Rep ByteArray := .flat 1 (fun s => [.string s]) (fun _ => rfl)
theorem flatten_at {ls : List (List Value)} {n : Nat} (h : ∀ l ∈ ls, l.length = n) (i j : Nat) (l : List Value) (u : Value) (hl : ls[i]? = some l) (hu : l[j]? = some u) : ls.flatten[i * n + j]? = some u := by
  induction ls generalizing i with
  | nil => simp at hl
  | cons a t ih =>
    have ha := h a (by simp)
    cases i with
    | zero =>
      simp at hl
      subst hl
      have : j < a.length := by
        rcases Nat.lt_or_ge j a.length with h | h
        · exact h
        · rw [List.getElem?_eq_none h] at hu; cases hu
      rw [List.flatten_cons, Nat.zero_mul, Nat.zero_add, List.getElem?_append_left this]; exact hu
    | succ i =>
      rw [List.flatten_cons, List.getElem?_append_right (by rw [ha, Nat.succ_mul]; omega), ha, show (i + 1) * n + j - n = i * n + j by rw [Nat.succ_mul]; omega]
      exact ih (fun l hl' => h l (by simp [hl'])) i (by simpa using hl)

def NOr (N : Nat → Prop) (v : Value) (k : Nat) : Prop := N k ∨ v.ownBlock = some k
def Own {α : Type} (r : Rep α) (N : Nat → Prop) (B E : Nat) (w : World) (v : Value) (xs : List α) : Prop :=
  ∃ ls : List (List Value), ls.length = xs.length ∧ (∀ (i : Nat) (x : α) (l : List Value), xs[i]? = some x → ls[i]? = some l → r.rel (NOr N v) w x l) ∧ w.ownsRow B E r.size v xs.length ls.flatten
section
variable {α : Type} {r : Rep α} {N : Nat → Prop} {B E : Nat} {w w' : World} {v : Value} {xs : List α}
theorem Own.nil (r : Rep α) (N : Nat → Prop) (B E : Nat) (w : World) : Own r N B E w (.slice none 0 0) [] := ⟨[], rfl, fun _ _ _ h => by simp at h, World.ownsRow_nil _ _ _ _⟩
theorem lt_of_get {α : Type} {xs : List α} {i : Nat} {x : α} (h : xs[i]? = some x) : i < xs.length := by
  rcases Nat.lt_or_ge i xs.length with h' | h'
  · exact h'
  · rw [List.getElem?_eq_none h'] at h; cases h
theorem Own.toSl (h : Own r N B E w v xs) (hb : ∀ k, B ≤ k → ¬ N k) : ∃ A c, v = .slice A xs.length c ∧ Sl r N w A xs := by
  obtain ⟨ls, hl, hr, ho⟩ := h
  have hlen : ∀ l ∈ ls, l.length = r.size := fun l hm => by
    obtain ⟨i, hi, e⟩ := List.getElem_of_mem hm
    exact r.len (hr i (xs[i]'(by omega)) l (by simp) (by rw [List.getElem?_eq_getElem hi, e]))
  rcases ho.2 with ⟨rfl, h0⟩ | ⟨g, cap, cur, rfl, hB, hg, _, _, _, _⟩
  · refine ⟨none, 0, by rw [h0], ?_⟩
    rw [List.length_eq_zero_iff.1 h0]
    exact Sl.nil
  · refine ⟨_, cap, rfl, fun i x hx => ?_⟩
    have hi : i < ls.length := by rw [hl]; exact lt_of_get hx
    refine ⟨g, 0, ls[i], rfl, (ho.lt g rfl).2, hb g hB, r.mono (fun _ _ h => .inl h) (hr i x _ hx (List.getElem?_eq_getElem hi)), fun j u hu => ?_⟩
    have := ho.cells (g := g) rfl _ u (flatten_at hlen i j _ u (List.getElem?_eq_getElem hi) hu)
    rw [add_at] at this
    rw [Nat.add_assoc]
    exact this
theorem Own.keep (h : Own r N B E w v xs) (k : SKN N w w') (hb : ∀ k, B ≤ k → ¬ N k) : Own r N B E w' v xs := by
  obtain ⟨ls, hl, hr, ho⟩ := h
  refine ⟨ls, hl, fun i x l h1 h2 => r.keep (k.mono fun _ h => .inl h) (hr i x l h1 h2), ho.1, ?_⟩
  rcases ho.2 with h0 | ⟨g, cap, cur, rfl, hB, hg, h5, h6, h7, h8⟩
  · exact .inl h0
  · exact .inr ⟨g, cap, cur, rfl, hB, by rw [k.block g (ho.lt g rfl).2 (hb g hB)]; exact hg, h5, h6, h7, h8⟩
theorem Own.len (h : Own r N B E w v xs) : ∃ A c, v = .slice A xs.length c := by
  obtain ⟨ls, hl, hr, ho⟩ := h
  rcases ho.2 with ⟨rfl, h0⟩ | ⟨g, cap, cur, rfl, hB, hg, _, _, _, _⟩
  · exact ⟨none, 0, by rw [h0]⟩
  · exact ⟨_, cap, rfl⟩
end

def Rep.Flat {α : Type} (r : Rep α) (f : α → List Value) : Prop := ∀ N w x l, r.rel N w x l ↔ l = f x

section
variable {ops : Array Oper} {rest : List Oper} {o : Oper} {a : Act} {Q : Exit → Act → World → Prop}
theorem app_flat {α : Type} {r : Rep α} {f : α → List Value} (hf : r.Flat f) {w0 : World} {cs : Array Value} {T E bytes : Nat} {z : Value} (ty : STy T E r.size bytes z) (hgd : o.guard = none) (s x : Operand) (ho : o.op = .call { callee := .builtin .append, args := #[s, x], argTypes := #[T, T] })
    (N : Nat → Prop) (B : Nat) (v : Value) (xs : List α) (y : α) (c : Nat) (hs : a.eval s = v) (hown : Own r N B E w0 v xs) (hx : a.eval x = .slice (some ⟨w0.heap.size, 0, none⟩) 1 c) (hcs : cs.toList = f y) (h1 : ∀ u ∈ f y, u.oneCell' = true)
    (hB : B ≤ w0.heap.size) (hlen : xs.length ≤ 100000000) (hby : bytes ≤ 1000)
    (h : ∀ v' w', Own r N B E w' v' (xs ++ [y]) → Below B w0 w' → wpList Tryz.prog ops Q rest (a.put o.dst v') w') : wpList Tryz.prog ops Q (o :: rest) a (w0.alloc (.cells cs E)) := by
  obtain ⟨ls, hl, hr, ho2⟩ := hown
  have hsz : (f y).length = r.size := r.len ((hf N w0 y _).2 rfl)
  refine app_lit ty hgd s x ho B v xs.length ls.flatten 1 c hs ho2 hx (by have e : cs.size = (f y).length := by rw [← hcs]; simp
                                                                          omega) (by rw [hcs]; exact h1) hB (by omega) hby ?_
  intro v' w' g1 g2 g3 g4
  refine h v' w' ⟨ls ++ [f y], by simp [hl], fun i x l e1 e2 => (hf _ _ _ _).2 ?_, ?_⟩ g3
  · rcases Nat.lt_or_ge i xs.length with hi | hi
    · rw [List.getElem?_append_left hi] at e1
      rw [List.getElem?_append_left (by omega)] at e2
      exact (hf _ _ _ _).1 (hr i x l e1 e2)
    · rw [List.getElem?_append_right hi] at e1
      rw [List.getElem?_append_right (by omega), hl] at e2
      cases hk : i - xs.length with
      | zero => rw [hk] at e1 e2; simp at e1 e2; rw [← e1, ← e2]
      | succ k => rw [hk] at e1; simp at e1
  · rw [List.length_append, List.flatten_append]
    simpa [hcs] using g1
end
end Go.Proofs.YtmlpkejeglpciaaGreatDoor

/- What handref2.in, only and Key return. -/
namespace Go.Proofs.YtmlpkejeglpciaaGreatDoor
open Go.RowKit

theorem in_any (n a b : Int) (w : World) : Calls Tryz.prog 43 #[.int .i64 n, .int .i64 a, .int .i64 b] w fun e w' => e = .returned (.bool (decide (a ≤ n ∧ n ≤ b))) ∧ w = w' := by
  by_cases h1 : a ≤ n <;> by_cases h2 : n ≤ b
  all_goals
    simp only [h1, h2, and_true, and_false, decide_true, decide_false]
    go_enter Tryz.func43, Tryz.ntmps43
    go_wp2
    go_ret
    exact ⟨rfl, rfl⟩
theorem only_any (s cs : ByteArray) (w : World) (hs : s.size ≤ 1000000000) (hc : cs.size ≤ 1000) (ha : cs.data.toList.all (fun b => decide (b.toNat < 128)) = true) :
    Calls Tryz.prog 109 #[.string s, .string cs] w fun e w' => e = .returned (.bool (s.data.toList.all (cs.data.toList.contains ·))) ∧ Below w.heap.size w w' := by
  have Ha : Hid (∀ (j : Nat) b, cs.data.toList[j]? = some b → b.toNat < 128) := fun j b h => by
    have := List.all_eq_true.1 ha b (List.mem_of_getElem? h)
    simpa using this
  clear ha
  rw [← L.trimS_isEmpty]
  have Hc : Hid (∀ w, Calls Tryz.prog 164 #[.string s, .string cs] w fun e w' => e = .returned (.string ⟨(Lib.trimS s.data.toList cs.data.toList).toArray⟩) ∧ Below w.heap.size w w') := fun w => Tryz.strings_Trim_ascii s cs w (by omega) (by omega) Ha.out
  generalize Lib.trimS s.data.toList cs.data.toList = t at *
  go_enter Tryz.func109, Tryz.ntmps109
  go_wp2_with fail
  refine (Hc.out _).mono ?_
  rintro e w1 ⟨rfl, hl_w1⟩
  have hz_w1 := hl_w1.size
  go_wp2_with fail
  go_ret
  exact ⟨rfl, hl_w1⟩
theorem Key_any (s : ByteArray) (w : World) (hs : s.size ≤ 1000000000) :
    Calls Tryz.prog 42 #[.string s] w fun e w' => e = .returned (.bool (L.isKey s)) ∧ Below w.heap.size w w' := by
  have Ho : Hid (∀ w t, t.size ≤ 1000000000 → Calls Tryz.prog 109 #[.string t, .string ⟨#[97, 98, 99, 100, 101, 102, 103, 104, 105, 106, 107, 108, 109, 110, 111, 112, 113, 114, 115, 116, 117, 118, 119, 120, 121, 122]⟩] w fun e w' => e = .returned (.bool (t.data.toList.all L.isSmall)) ∧ Below w.heap.size w w') := fun w t h =>
    (only_any t ⟨#[97, 98, 99, 100, 101, 102, 103, 104, 105, 106, 107, 108, 109, 110, 111, 112, 113, 114, 115, 116, 117, 118, 119, 120, 121, 122]⟩ w h (by decide) (by decide)).mono fun e w' ⟨h1, h2⟩ => ⟨by rw [h1]; congr 3; exact funext L.smalls_has, h2⟩
  have Hk : Hid (∀ w, Calls Tryz.prog 109 #[.string s, .string ⟨#[97, 98, 99, 100, 101, 102, 103, 104, 105, 106, 107, 108, 109, 110, 111, 112, 113, 114, 115, 116, 117, 118, 119, 120, 121, 122, 48, 49, 50, 51, 52, 53, 54, 55, 56, 57, 45, 95]⟩] w fun e w' => e = .returned (.bool (s.data.toList.all L.keyByte)) ∧ Below w.heap.size w w') := fun w =>
    (only_any s ⟨#[97, 98, 99, 100, 101, 102, 103, 104, 105, 106, 107, 108, 109, 110, 111, 112, 113, 114, 115, 116, 117, 118, 119, 120, 121, 122, 48, 49, 50, 51, 52, 53, 54, 55, 56, 57, 45, 95]⟩ w hs (by decide) (by decide)).mono fun e w' ⟨h1, h2⟩ => ⟨by rw [h1]; congr 3; exact funext L.keys_has, h2⟩
  obtain ⟨R, HR⟩ : ∃ R, Hid (L.isKey s = R) := ⟨_, Lib.hid rfl⟩
  rw [HR.out]
  by_cases h1 : 1 ≤ s.size ∧ s.size ≤ 40
  · have e1 : decide ((1 : Int) ≤ s.size ∧ (s.size : Int) ≤ 40) = true := by simp; omega
    have hs0 : 1 ≤ s.size := h1.1
    have E2 : Hid ((decide (1 ≤ s.size) && decide (s.size ≤ 40)) = true) := by show _ = _; simp [h1]
    have Ht : Hid ((s.extract 0 1).data.toList.all L.isSmall = L.isSmall (s.data.toList.headD 0)) := by
      show _ = _
      obtain ⟨⟨l⟩⟩ := s
      cases l with
      | nil => simp [ByteArray.size] at hs0
      | cons a t => rw [Lib.extract_data]; simp
    have Hx : Hid ((s.extract 0 1).size ≤ 1000000000) := by show _ ≤ _; rw [ByteArray.size_extract]; omega
    have Ho1 : Hid (∀ w, Calls Tryz.prog 109 #[.string (s.extract 0 1), .string ⟨#[97, 98, 99, 100, 101, 102, 103, 104, 105, 106, 107, 108, 109, 110, 111, 112, 113, 114, 115, 116, 117, 118, 119, 120, 121, 122]⟩] w fun e w' => e = .returned (.bool (L.isSmall (s.data.toList.headD 0))) ∧ Below w.heap.size w w') := fun w => (Ho.out w _ Hx.out).mono fun e w' ⟨h1, h2⟩ => ⟨by rw [h1, Ht.out], h2⟩
    clear Ho
    by_cases h2 : L.isSmall (s.data.toList.headD 0) = true
    · rw [h2] at Ho1
      go_enter Tryz.func42, Tryz.ntmps42
      go_wp2_with fail
      refine (in_any _ _ _ _).mono ?_
      rintro e _ ⟨rfl, rfl⟩
      rw [e1]
      go_wp2_with fail
      refine (Ho1.out _).mono ?_
      rintro e w1 ⟨rfl, hl_w1⟩
      have hz_w1 := hl_w1.size
      go_wp2_with fail
      refine (Hk.out _).mono ?_
      rintro e w2 ⟨rfl, hl_w2⟩
      have hz_w2 := hl_w2.size
      go_wp2_with fail
      go_ret
      exact ⟨ret_b (by rw [← HR.out, L.isKey, E2.out, h2, Bool.true_and, Bool.true_and]; simp), hl_w1.trans (hl_w2.mono (by omega))⟩
    · have h2 : L.isSmall (s.data.toList.headD 0) = false := by simpa using h2
      rw [h2] at Ho1
      go_enter Tryz.func42, Tryz.ntmps42
      go_wp2_with fail
      refine (in_any _ _ _ _).mono ?_
      rintro e _ ⟨rfl, rfl⟩
      rw [e1]
      go_wp2_with fail
      refine (Ho1.out _).mono ?_
      rintro e w1 ⟨rfl, hl_w1⟩
      have hz_w1 := hl_w1.size
      go_wp2_with fail
      go_ret
      exact ⟨ret_b (by rw [← HR.out, L.isKey, E2.out, h2, Bool.true_and, Bool.false_and]), hl_w1⟩
  · have e1 : decide ((1 : Int) ≤ s.size ∧ (s.size : Int) ≤ 40) = false := by simp; omega
    go_enter Tryz.func42, Tryz.ntmps42
    go_wp2_with fail
    refine (in_any _ _ _ _).mono ?_
    rintro e _ ⟨rfl, rfl⟩
    rw [e1]
    go_wp2_with fail
    go_ret
    refine ⟨ret_b ?_, Below.refl _ _⟩
    rw [← HR.out]
    have e2 : (decide (1 ≤ s.size) && decide (s.size ≤ 40)) = false := by simp; omega
    simp [L.isKey, e2]
end Go.Proofs.YtmlpkejeglpciaaGreatDoor
