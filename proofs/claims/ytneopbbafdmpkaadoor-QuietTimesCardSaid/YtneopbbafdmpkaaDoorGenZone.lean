/- What the generators odd, RightZone and Zone make. -/
import Derived.Test.YtneopbbafdmpkaaDoorZone
import Derived.Test.YtneopbbafdmpkaaDoorMixL
import Derived.OneCell
namespace Go.Proofs.YtneopbbafdmpkaaDoor
open Go.RowKit
set_option maxHeartbeats 1000000 in
theorem odd_any (b m : Nat) (lo hi : Int) (w : World) (hs : Strm b m w) (h : lo ≤ hi) (hlo : -1000000000000 ≤ lo) (hhi : hi ≤ 1000000000000) (hm : m ≤ 100000000000) :
    Calls Tryd.prog 24 #[.pointer (some ⟨b, 0, none⟩), .int .i64 lo, .int .i64 hi] w (DrawsIn b (m + 2) (-1099511627776) 1099511627776 w) := by
  have g0 := G.start hs
  clear hs
  go_enter Tryd.func24, Tryd.ntmps24
  go_wp2_with fail
  ((with_reducible refine (flip_any b m _ _ g0.s (by omega) (by omega) (by omega)).mono ?_); rintro e w1 ⟨r, rfl, hk_w1, hs_w1⟩)
  have g1 := g0.step hk_w1 hs_w1
  clear hk_w1 hs_w1 g0
  cases r
  · go_wp2_with fail
    ((with_reducible refine (range_any b (m + 1) _ _ _ g1.s (by omega) (by omega) (by omega) (by omega)).mono ?_); rintro e w2 ⟨n, n_lo, n_hi, rfl, hk_w2, hs_w2⟩)
    have g2 := g1.step hk_w2 hs_w2
    go_wp2_with fail
    go_ret
    exact ⟨n, by omega, by omega, rfl, g2.k, g2.s⟩
  · go_wp2_with fail
    ((with_reducible refine (pick_le b _ _ _ (-1099511627776) 1099511627776 g1.s (by simp) (by simp) (by repeat (first | exact intsIn_nil | refine intsIn_cons (by omega) ?_)) (by simp) (by simp) (by omega)).mono ?_); rintro e w2 ⟨n, n_lo, n_hi, rfl, hk_w2, hs_w2⟩)
    have g2 := g1.step hk_w2 hs_w2
    go_wp2_with fail
    go_ret
    exact ⟨n, by omega, by omega, rfl, g2.k, g2.s⟩
theorem LV.grown {w w' : World} {X : Nat} {cs : Array Value} {T : TypeId} {row : Option Nat} (h : LV w X cs T) (g : w.grownBy w' row) (hne : row ≠ some X) : LV w' X cs T := (g.block X h.lt (fun e => hne e.symm)).trans h
section
variable {α : Type} {r : Rep α} {N : Nat → Prop} {B E : Nat} {w : World} {v : Value} {xs : List α}
theorem Own.ne {X : Nat} {cs : Array Value} {T : TypeId} (h : Own r N B E w v xs) (l : LV w X cs T) (hT : T ≠ E) : v.ownBlock ≠ some X := by
  obtain ⟨ls, _, _, ho⟩ := h
  intro e
  rcases ho.2 with ⟨rfl, _⟩ | ⟨g, cap, cur, rfl, _, hg, _⟩
  · cases e
  · obtain rfl : g = X := by simpa [Value.ownBlock] using e
    unfold LV at l
    rw [l] at hg
    cases hg
    exact hT rfl
theorem Own.base {B' : Nat} (h : Own r N B E w v xs) (hb : B' ≤ B) : Own r N B' E w v xs := by
  obtain ⟨ls, h1, h2, ho⟩ := h
  refine ⟨ls, h1, h2, ho.1, ?_⟩
  rcases ho.2 with h0 | ⟨g, cap, cur, e, hB, hrest⟩
  · exact .inl h0
  · exact .inr ⟨g, cap, cur, e, by omega, hrest⟩
theorem Own.setCell {f : α → List Value} {X : Nat} (h : Own r N B E w v xs) (hne : v.ownBlock ≠ some X) (hf : r.Flat f) (j : Nat) (u : Value) : Own r N B E (w.setCell ⟨X, j, none⟩ u) v xs := by
  obtain ⟨ls, h1, h2, ho⟩ := h
  exact ⟨ls, h1, fun i x l e1 e2 => (hf _ _ _ _).2 ((hf _ _ _ _).1 (h2 i x l e1 e2)), ownsRow_setCell_other ho (by simpa using hne) u⟩
/-- a slice that was just written out, of elements that ask nothing of memory -/
theorem Own.lit {f : α → List Value} (hf : r.Flat f) (w0 : World) (cs : Array Value) (n : Nat) (hb : B ≤ w0.heap.size) (hn : n = xs.length) (hm : n ≤ 1000000) (hcs : cs.toList = (xs.map f).flatten) (hs : cs.size = n * r.size) :
    Own r N B E (w0.alloc (.cells cs E)) (.slice (some ⟨w0.heap.size, 0, none⟩) n n) xs := by
  subst hn
  refine ⟨xs.map f, by simp, fun i x l h1 h2 => (hf _ _ _ _).2 ?_, ?_⟩
  · rw [List.getElem?_map, h1] at h2
    exact (Option.some.inj h2).symm
  · have := World.ownsRow_lit (base := B) (e := E) (size := r.size) w0 cs xs.length hb (by unfold maxLen; omega) hs
    rw [hcs] at this
    exact this
end
section
variable {ops : Array Oper} {rest : List Oper} {o : Oper} {a : Act} {Q : Exit → Act → World → Prop}
/-- append of one element that was just written out; the elements ask nothing of memory; no other block has turned -/
theorem app_flat2 {α : Type} {r : Rep α} {f : α → List Value} (hf : r.Flat f) {w0 : World} {cs : Array Value} {T E bytes : Nat} {z : Value} (ty : STy T E r.size bytes z) (hgd : o.guard = none) (s x : Operand) (ho : o.op = .call { callee := .builtin .append, args := #[s, x], argTypes := #[T, T] })
    (N : Nat → Prop) (B : Nat) (v : Value) (xs : List α) (y : α) (c : Nat) (hs : a.eval s = v) (hown : Own r N B E w0 v xs) (hx : a.eval x = .slice (some ⟨w0.heap.size, 0, none⟩) 1 c) (hcs : cs.toList = f y) (h1 : ∀ u ∈ f y, u.oneCell' = true)
    (hB : B ≤ w0.heap.size) (hlen : xs.length ≤ 100000000) (hby : bytes ≤ 1000)
    (h : ∀ v' w', Own r N B E w' v' (xs ++ [y]) → Below B w0 w' → w0.grownBy w' v.ownBlock → wpList Tryd.prog ops Q rest (a.put o.dst v') w') : wpList Tryd.prog ops Q (o :: rest) a (w0.alloc (.cells cs E)) := by
  obtain ⟨ls, hl, hr, ho2⟩ := hown
  have hsz : (f y).length = r.size := r.len ((hf N w0 y _).2 rfl)
  refine app_lit ty hgd s x ho B v xs.length ls.flatten 1 c hs ho2 hx (by have e : cs.size = (f y).length := by rw [← hcs]; simp
                                                                          omega) (by rw [hcs]; exact h1) hB (by omega) hby ?_
  intro v' w' g1 g2 g3 g4
  refine h v' w' ⟨ls ++ [f y], by simp [hl], fun i x l e1 e2 => (hf _ _ _ _).2 ?_, ?_⟩ g3 g2
  · rcases Nat.lt_or_ge i xs.length with hi | hi
    · rw [List.getElem?_append_left hi] at e1
      rw [List.getElem?_append_left (by omega)] at e2
      exact (hf _ _ _ _).1 (hr i x l e1 e2)
    · rw [List.getElem?_append_right hi] at e1
      rw [List.getElem?_append_right (by omega), hl] at e2
      cases hk : i - xs.length with
      | zero => rw [hk] at e1 e2; simp at e1 e2; rw [← e1, ← e2]
      | succ k => rw [hk] at e1; simp at e1
  · rw [List.length_append, List.flatten_append]
    simpa [hcs] using g1
end
theorem tySft : STy 49 69 rSft.size 16 (.agg #[.int .i64 0, .int .i64 0]) := ⟨Tryd.underlying49, by kernel_rfl, rfl, by decide⟩
theorem flatSft : rSft.Flat Sft.cells := fun _ _ _ _ => Iff.rfl
theorem oneSft (s : Sft) : ∀ u ∈ s.cells, u.oneCell' = true := fun u hu => by
  simp only [Sft.cells, List.mem_cons, List.not_mem_nil, or_false] at hu
  rcases hu with rfl | rfl <;> rfl
theorem off_ge' {b B : Nat} (h : b < B) : ∀ k, B ≤ k → ¬ Off b k := fun k hk e => by unfold Off at e; omega
theorem Own.stepB {α : Type} {r : Rep α} {b B E : Nat} {w w' : World} {v : Value} {xs : List α} (h : Own r (Off b) B E w v xs) (k : SK b w w') (hb : b < B) : Own r (Off b) B E w' v xs := h.keep k.n (off_ge' hb)
theorem Own.alloc {α : Type} {r : Rep α} {b B E : Nat} {w : World} {v : Value} {xs : List α} (h : Own r (Off b) B E w v xs) (o : Obj) (hb : b < B) : Own r (Off b) B E (w.alloc o) v xs := h.stepB ((SK.refl b w).alloc o) hb
theorem small_snoc {xs : List Sft} {s : Sft} (h : ∀ g ∈ xs, g.small) (hs : s.small) : ∀ g ∈ xs ++ [s], g.small := fun g hg => by
  rcases List.mem_append.1 hg with h' | h'
  · exact h g h'
  · rw [List.mem_singleton.1 h']; exact hs
/-- a zone is made -/
def DrawsZone (b m : Nat) (w : World) (e : Ending) (w' : World) : Prop := ∃ (nm : ByteArray) (v : Value) (xs : List Sft), e = .returned (.agg #[.string nm, v]) ∧ nm.size ≤ 1000 ∧ Own rSft (Off b) w.heap.size 69 w' v xs ∧ xs.length ≤ 5 ∧ (∀ s ∈ xs, s.small) ∧ G b m w w'
/-- the same, with a shift at least, and all of them early -/
def DrawsZone1 (b m : Nat) (w : World) (e : Ending) (w' : World) : Prop := ∃ (nm : ByteArray) (v : Value) (xs : List Sft), e = .returned (.agg #[.string nm, v]) ∧ nm.size ≤ 1000 ∧ Own rSft (Off b) w.heap.size 69 w' v xs ∧ 1 ≤ xs.length ∧ xs.length ≤ 4 ∧ (∀ s ∈ xs, 0 ≤ s.at' ∧ s.at' ≤ 1000000) ∧ G b m w w'
theorem early_snoc {xs : List Sft} {s : Sft} (h : ∀ g ∈ xs, 0 ≤ g.at' ∧ g.at' ≤ 1000000) (hs : 0 ≤ s.at' ∧ s.at' ≤ 1000000) : ∀ g ∈ xs ++ [s], 0 ≤ g.at' ∧ g.at' ≤ 1000000 := fun g hg => by
  rcases List.mem_append.1 hg with h' | h'
  · exact h g h'
  · rw [List.mem_singleton.1 h']; exact hs
set_option maxHeartbeats 4000000 in
set_option maxRecDepth 100000 in
theorem rightZone_any (b m : Nat) (w : World) (hs : Strm b m w) (hm : m ≤ 10000000000) :
    Calls Tryd.prog 36 #[.pointer (some ⟨b, 0, none⟩)] w (DrawsZone1 b (m + 20) w) := by
  have hlt := hs.lt
  have g0 := (G.start hs).alloc (.cells #[.string ⟨#[]⟩, .slice none 0 0] 51)
  have bR0 := LV.new w w.heap.size #[.string ⟨#[]⟩, .slice none 0 0] 51 rfl
  clear hs
  go_enter Tryd.func36, Tryd.ntmps36
  go_wp2_with fail
  ((with_reducible refine (one_le b _ _ _ 100 g0.s (by simp) (by simp) (strsLe_of (by decide)) (by simp) (by simp) (by omega)).mono ?_); rintro e w1 ⟨nm, nm_le, rfl, hk_w1, hs_w1⟩)
  have g1 := g0.step hk_w1 hs_w1
  have bR1 := LV.keep bR0 hk_w1 (by omega)
  clear hk_w1 hs_w1 g0 bR0
  go_wp2_with fail
  ((with_reducible refine (pick_le b _ _ _ (-720) 840 g1.s (by simp) (by simp) (intsIn_of (by decide)) (by simp) (by simp) (by omega)).mono ?_); rintro e w2 ⟨o2, o2_lo, o2_hi, rfl, hk_w2, hs_w2⟩)
  have g2 := g1.step hk_w2 hs_w2
  have bR2 := LV.keep bR1 hk_w2 (by omega)
  have hz2 := g2.size
  clear hk_w2 hs_w2 g1 bR1
  have ho3 : Own rSft (Off b) w.heap.size 69 ((w2.alloc (.cells #[.int .i64 0, .int .i64 o2] 69)).alloc (.cells #[.string nm, .slice (some ⟨w2.heap.size, 0, none⟩) 1 1] 51)) (.slice (some ⟨w2.heap.size, 0, none⟩) 1 1) [⟨0, o2⟩] :=
    (Own.lit flatSft w2 #[.int .i64 0, .int .i64 o2] 1 (by omega) rfl (by omega) rfl rfl).alloc _ hlt
  have g3 := (g2.alloc (.cells #[.int .i64 0, .int .i64 o2] 69)).alloc (.cells #[.string nm, .slice (some ⟨w2.heap.size, 0, none⟩) 1 1] 51)
  have bR3 := (bR2.alloc (.cells #[.int .i64 0, .int .i64 o2] 69)).alloc (.cells #[.string nm, .slice (some ⟨w2.heap.size, 0, none⟩) 1 1] 51)
  have bZ3 := LV.new (w2.alloc (.cells #[.int .i64 0, .int .i64 o2] 69)) (w2.heap.size + 1) #[.string nm, .slice (some ⟨w2.heap.size, 0, none⟩) 1 1] 51 (by simp)
  have Ho3 := Lib.hid ho3
  clear ho3 bR2 g2
  go_wp2_with fail
  generalize hv0 : Value.slice (some ⟨w2.heap.size, 0, none⟩) 1 1 = v0 at Ho3 bZ3
  rw [hv0] at g3 bR3
  generalize hZ : w2.heap.size + 1 = Z at bZ3 ⊢
  have hZw : w.heap.size < Z := by omega
  generalize hw3 : (w2.alloc (.cells #[.int .i64 0, .int .i64 o2] 69)).alloc (.cells #[.string nm, v0] 51) = w3 at *
  have hw3z : Z + 1 = w3.heap.size := by rw [← hw3, ← hZ]; simp
  rw [hv0] at *
  simp only [hw3] at *
  clear hw3
  ((with_reducible refine (pick_le b _ _ _ 0 3 g3.s hw3z (by first | rfl | simp) (intsIn_of (by decide)) (by simp) (by simp) (by omega)).mono ?_); rintro e w4 ⟨n4, n4_lo, n4_hi, rfl, hk_w4, hs_w4⟩)
  have g4 := g3.step hk_w4 hs_w4
  have bR4 := LV.keep bR3 hk_w4 (by omega)
  have bZ4 := LV.keep bZ3 hk_w4 (by omega)
  have Ho4 := Lib.hid (Ho3.out.stepB hk_w4 hlt)
  clear hk_w4 hs_w4 g3 bR3 bZ3 Ho3
  obtain ⟨n, rfl⟩ := Int.eq_ofNat_of_zero_le n4_lo
  go_wp2_with fail
  go_loopw [4, 17] (fun a i wr => ∃ (k : Nat) (at' : Int) (v : Value) (xs : List Sft), k ≤ n ∧ i = .int .i64 k ∧ a = .int .i64 at' ∧ 0 ≤ at' ∧ at' ≤ 40000 * k ∧ LV wr Z #[.string nm, v] 51 ∧ LV wr w.heap.size #[.string ⟨#[]⟩, .slice none 0 0] 51 ∧ Own rSft (Off b) w.heap.size 69 wr v xs ∧ xs.length = k + 1 ∧ (∀ s ∈ xs, 0 ≤ s.at' ∧ s.at' ≤ 1000000) ∧ G b (m + 3 + 2 * k) w wr) (fun _ i _ => n - (intOf i).toNat)
  case atStart => exact ⟨0, 0, v0, [⟨0, o2⟩], by omega, rfl, rfl, by omega, by omega, bZ4, bR4, Ho4.out, rfl, (fun s hs => by rw [List.mem_singleton.1 hs]; exact ⟨Int.le_refl _, by show (0 : Int) ≤ _; omega⟩), g4.mono (by omega)⟩
  case round =>
    obtain ⟨k, at', v, xs, hk, rfl, rfl, ha0, ha1, bZ, bR, ho, hxl, hsm, hg⟩ := hrel
    have Ho := Lib.hid ho
    have Hsm := Lib.hid hsm
    have hgz := hg.size
    have Hxl := Lib.hid hxl
    have hxl4 : xs.length ≤ 4 := by omega
    clear ho hsm bR4 bZ4 Ho4 g4 hxl
    by_cases hkn : k < n
    · go_wp2_with fail
      ((with_reducible refine (pick_le b _ _ _ 1800 40000 hg.s (by simp) (by simp) (intsIn_of (by decide)) (by simp) (by simp) (by omega)).mono ?_); rintro e w5 ⟨d5, d5_lo, d5_hi, rfl, hk_w5, hs_w5⟩)
      have g5 := hg.step hk_w5 hs_w5
      have bR5 := LV.keep bR hk_w5 (by omega)
      have bZ5 := LV.keep bZ hk_w5 (by omega)
      have Ho5 := Lib.hid (Ho.out.stepB hk_w5 hlt)
      clear hk_w5 hs_w5 hg bR bZ Ho
      go_wp2_with fail
      refine wp_region_mixL 10 (fun w' => LV w' Z #[.string nm, v] 51) [(true, 0), (true, 1), (true, 2), (true, 3), (false, 4), (false, 5), (true, 6), (false, 7), (false, 8), (true, 9), (false, 10)] (by kernel_rfl) (by kernel_rfl) (fun w' hd => LV.kb bZ5 (hd.below _) bZ5.lt) (fun KK hKK wd hd => ?_)
      have g6 := g5.below (hd.below _)
      have bR6 := LV.kb bR5 (hd.below _) bR5.lt
      have bZ6 := LV.kb bZ5 (hd.below _) bZ5.lt
      have Ho6 := Lib.hid (Ho5.out.stepB (SK.ofBelow (hd.below _)) hlt)
      clear hd g5 bR5 bZ5 Ho5
      repeat (refine mixL_p rfl (fun K hK => ?_); go_simp; (try go_bits); (try simp (disch := omega) only [if_pos]); (try simp (disch := omega) only [if_neg]); (try simp (disch := omega) only [dif_pos]); (try simp (disch := omega) only [dif_neg]); (try go_simp); (refine hK _ ?_; clear hK K))
      refine mixL_load v rfl rfl rfl rfl (fun _ => rfl) (fun w' h => h.cell 1 _ rfl) ?_
      repeat (refine mixL_p rfl (fun K hK => ?_); go_simp; (try go_bits); (try simp (disch := omega) only [if_pos]); (try simp (disch := omega) only [if_neg]); (try simp (disch := omega) only [dif_pos]); (try simp (disch := omega) only [dif_neg]); (try go_simp); (refine hK _ ?_; clear hK K))
      refine mixL_l rfl (fun K hK => ?_) bZ6
      go_wp2_with fail
      refine ⟨fun _ => bZ6.alloc _, ?_⟩
      refine mixL_l rfl (fun K2 hK2 => ?_) (bZ6.alloc _)
      go_wp2_with fail
      ((with_reducible refine (pick_le b _ _ _ (-720) 840 g6.s (by first | rfl | simp) (by first | rfl | simp) (intsIn_of (by decide)) (by simp) (by simp) (by omega)).mono ?_); rintro e w7 ⟨o7, o7_lo, o7_hi, rfl, hk_w7, hs_w7⟩)
      have g7 := g6.step hk_w7 hs_w7
      have bR7 := LV.keep bR6 hk_w7 (by omega)
      have bZ7 := LV.keep bZ6 hk_w7 (by omega)
      have Ho7 := Lib.hid (Ho6.out.stepB hk_w7 hlt)
      have hz7 := g7.size
      clear hk_w7 hs_w7 g6 bR6 bZ6 Ho6
      go_wp2_with fail
      refine ⟨fun _ => bZ7, ?_⟩
      repeat (refine mixL_p rfl (fun K hK => ?_); go_simp; (try go_bits); (try simp (disch := omega) only [if_pos]); (try simp (disch := omega) only [if_neg]); (try simp (disch := omega) only [dif_pos]); (try simp (disch := omega) only [dif_neg]); (try go_simp); (refine hK _ ?_; clear hK K))
      refine mixL_l rfl (fun K3 hK3 => ?_) bZ7
      go_wp2_with fail
      refine ⟨fun _ => bZ7.alloc _, ?_⟩
      refine mixL_l rfl (fun K4 hK4 => ?_) (bZ7.alloc _)
      refine app_flat2 (w0 := w7) flatSft tySft rfl _ _ rfl (Off b) w.heap.size _ xs ⟨at' + d5, o7⟩ _ rfl Ho7.out rfl rfl (oneSft _) (by omega) (by omega) (by decide) ?_
      intro v' w8 ho8 hl8 hg8
      go_wp2_with fail
      have bZ8 := bZ7.grown hg8 (Ho7.out.ne bZ7 (by decide))
      have bR8 := bR7.grown hg8 (Ho7.out.ne bR7 (by decide))
      have g8 := g7.belowB hl8 hlt
      have Ho8 := Lib.hid ho8
      clear ho8 hl8 hg8 bZ7 bR7 g7 Ho7
      refine ⟨fun _ => bZ8, ?_⟩
      repeat (refine mixL_p rfl (fun K hK => ?_); go_simp; (try go_bits); (try simp (disch := omega) only [if_pos]); (try simp (disch := omega) only [if_neg]); (try simp (disch := omega) only [dif_pos]); (try simp (disch := omega) only [dif_neg]); (try go_simp); (refine hK _ ?_; clear hK K))
      refine mixL_l rfl (fun K5 hK5 => ?_) bZ8
      have z8 := bZ8.free 1
      have z8c : w8.cell? ⟨Z, 1, none⟩ = some v := bZ8.cell 1 _ rfl
      have bZ9 := bZ8.set 1 v' #[.string nm, v'] rfl
      have bR9 := bR8.other (Y := Z) (by omega) 1 v'
      have g9 := g8.set (X := Z) (by omega) (by omega) 1 v'
      have Ho9 : Hid (Own rSft (Off b) w.heap.size 69 (w8.setCell ⟨Z, 1, none⟩ v') v' (xs ++ [⟨at' + d5, o7⟩])) := Ho8.out.setCell (Ho8.out.ne bZ8 (by decide)) flatSft 1 v'
      obtain ⟨A8, c8, e8⟩ := Ho8.out.len
      obtain rfl : v' = .slice A8 (xs.length + 1) c8 := by rw [e8]; simp
      clear e8
      clear Ho8 bZ8 bR8 g8
      go_wp2_with fail
      refine ⟨fun h => absurd rfl h, ?_⟩
      refine mixL_nil ?_
      simp only [Exit.then]
      refine hKK _ _ ?_
      go_wp2_with fail
      go_roundw
      case rel => exact ⟨k + 1, at' + d5, _, xs ++ [⟨at' + d5, o7⟩], by omega, by go_num, rfl, by omega, by omega, bZ9, bR9, Ho9.out, by rw [List.length_append, Hxl.out]; rfl, early_snoc Hsm.out ⟨by show (0 : Int) ≤ at' + d5; omega, by show at' + d5 ≤ 1000000; omega⟩, g9.mono (by omega)⟩
      case measure => simp [intOf]; omega
    · obtain ⟨A8, c8, rfl⟩ := Ho.out.len
      have z0 : wr.cell? ⟨Z, 0, none⟩ = some (.string nm) := bZ.cell 0 _ rfl
      have z1 : wr.cell? ⟨Z, 1, none⟩ = some (.slice A8 xs.length c8) := bZ.cell 1 _ rfl
      have r0 : wr.cell? ⟨w.heap.size, 0, none⟩ = some (.string ⟨#[]⟩) := bR.cell 0 _ rfl
      have r1 : wr.cell? ⟨w.heap.size, 1, none⟩ = some (.slice none 0 0) := bR.cell 1 _ rfl
      have f0 := bR.free 0
      have f1 := bR.free 1
      have gf := (hg.set (X := w.heap.size) hlt (Nat.le_refl _) 0 (.string nm)).set (X := w.heap.size) hlt (Nat.le_refl _) 1 (.slice A8 xs.length c8)
      have Hof : Hid (Own rSft (Off b) w.heap.size 69 ((wr.setCell ⟨w.heap.size, 0, none⟩ (.string nm)).setCell ⟨w.heap.size, 1, none⟩ (.slice A8 xs.length c8)) (.slice A8 xs.length c8) xs) := (Ho.out.setCell (Ho.out.ne bR (by decide)) flatSft 0 _).setCell (Ho.out.ne bR (by decide)) flatSft 1 _
      clear bZ bR hg Ho
      go_wp2_with fail
      exact bodyPost_ret (v := .agg #[.string nm, .slice A8 xs.length c8]) (by simp [results, Tryd.results36, go_sem, r0, r1]) rfl ⟨nm, _, xs, rfl, by omega, Hof.out, by rw [Hxl.out]; omega, hxl4, Hsm.out, gf.mono (by omega)⟩
end Go.Proofs.YtneopbbafdmpkaaDoor
