/- Several texts in one: AppN, Concat, AskAdd. -/
import Derived.Test.YthmkphmciiiagaaGreatDoorPackM
import Derived.Test.YthmkphmciiiagaaGreatDoorAskRef
import Derived.Lib.AppendZerosOnto
import Derived.Test.YthmkphmciiiagaaGreatDoorChgLaw
/- append of several elements to a slice of the call's own: a row that lies anywhere is put behind. -/
namespace Go.Proofs.YthmkphmciiiagaaGreatDoor
open Go Go.RowKit
section
variable {α : Type} {r : Rep α} {f : α → List Value}
theorem map_flat_len (hl : ∀ x, (f x).length = r.size) : ∀ ys : List α, (ys.map f).flatten.length = ys.length * r.size
  | [] => by simp
  | y :: t => by rw [List.map_cons, List.flatten_cons, List.length_append, hl, map_flat_len hl t, List.length_cons, Nat.succ_mul]; omega
theorem Own.appN (hf : r.Flat f) {M : Nat → Prop} {w : World} {B E : Nat} {v : Value} {xs ys : List α} (h : Own r M B E w v xs) {T ty bytes : Nat} {z : Value} (sty : STy T E r.size bytes z) (hB : B ≤ w.heap.size) (hlen : xs.length + ys.length ≤ 100000000) (hby : bytes ≤ 1000)
    (ad : Addr) (c : Nat) (hc : ∀ j u, (ys.map f).flatten[j]? = some u → w.cell? (ad.add j) = some u) (h1 : ∀ y ∈ ys, ∀ u ∈ f y, u.oneCell' = true) (hfl : ∀ x, (f x).length = r.size) :
    ∃ v' w', (Builtin.append_ #[T, T] ty #[v, .slice (some ad) ys.length c]).run Tryz.prog w = .ok v' w' ∧ (∀ M', Own r M' B E w' v' (xs ++ ys)) ∧ w.grownBy w' v.ownBlock ∧ ∀ k, v'.ownBlock = some k → v.ownBlock = some k ∨ w.heap.size ≤ k := by
  obtain ⟨ls, hl, hr, ho2⟩ := h
  obtain ⟨i0, hi0, hz0, hz1, hz2⟩ := info_parts sty.info
  have hb3 : (xs.length + ys.length) * bytes ≤ 140737488355328 := by
    have := Nat.mul_le_mul (show xs.length + ys.length ≤ 100000001 by omega) hby
    omega
  have h63 : xs.length + ys.length ≤ maxLen := by unfold maxLen; omega
  have h1' : ∀ u ∈ (ys.map f).flatten, u.oneCell' = true := fun u hu => by
    obtain ⟨l, hl, hu⟩ := List.mem_flatten.1 hu
    obtain ⟨y, hy, rfl⟩ := List.mem_map.1 hl
    exact h1 y hy u hu
  obtain ⟨v', w', hrun, g1, g2, _⟩ := run_append_own (P := Tryz.prog) w B T ty E i0 z r.size bytes sty.under hi0 hz0 hz1 hz2 sty.zsize sty.pos _ xs.length _ ho2 ad ys.length c (ys.map f).flatten (map_flat_len hfl ys) hc h1' h63 hb3 hB
  have hwh := run_append_where (P := Tryz.prog) w B T ty E i0 z r.size bytes sty.under hi0 hz0 hz1 hz2 sty.zsize sty.pos _ xs.length _ ho2 ad ys.length c (ys.map f).flatten (map_flat_len hfl ys) hc h1' h63 hb3 hrun
  refine ⟨v', w', hrun, fun M' => ⟨ls ++ ys.map f, by simp [hl], fun j x l e1 e2 => (hf _ _ _ _).2 ?_, ?_⟩, g2, hwh⟩
  · rcases Nat.lt_or_ge j xs.length with hj | hj
    · rw [List.getElem?_append_left hj] at e1
      rw [List.getElem?_append_left (by omega)] at e2
      exact (hf _ _ _ _).1 (hr j x l e1 e2)
    · rw [List.getElem?_append_right hj] at e1
      rw [List.getElem?_append_right (by omega), hl, List.getElem?_map, e1] at e2
      exact (Option.some.inj e2).symm
  · rw [List.length_append, List.flatten_append]
    exact g1
end
section
variable {ops : Array Oper} {rest : List Oper} {o : Oper} {a : Act} {Q : Exit → Act → World → Prop}
theorem St.appN {α : Type} {r : Rep α} {f : α → List Value} (hf : r.Flat f) {b m : Nat} {w0 w : World} {cs : List Chunk} (S : St b m w0 w cs) (i : Nat) {B E : Nat} {v : Value} {xs : List α} (hi : cs[i]? = some (.own r B E v xs)) {T bytes : Nat} {z : Value} (ty : STy T E r.size bytes z)
    (hgd : o.guard = none) (s x : Operand) (ho : o.op = .call { callee := .builtin .append, args := #[s, x], argTypes := #[T, T] }) (ys : List α) (k c : Nat) (hk : k = ys.length) (hs : a.eval s = v) (ad : Addr) (hx : a.eval x = .slice (some ad) k c)
    (hc : ∀ j u, (ys.map f).flatten[j]? = some u → w.cell? (ad.add j) = some u) (h1 : ∀ y ∈ ys, ∀ u ∈ f y, u.oneCell' = true) (hfl : ∀ x, (f x).length = r.size) (hB : B ≤ w.heap.size) (hlen : xs.length + ys.length ≤ 100000000) (hby : bytes ≤ 1000)
    (h : ∀ v' w', St b m w0 w' (cs.set i (.own r B E v' (xs ++ ys))) → wpList Tryz.prog ops Q rest (a.put o.dst v') w') : wpList Tryz.prog ops Q (o :: rest) a w := by
  subst hk
  obtain ⟨v', w', hrun, ho', hg, hwh⟩ := Own.appN (ty := o.type) hf (S.ow i hi) ty hB hlen hby ad c hc h1 hfl
  have hbl : Below w0.heap.size w w' := (Below.refl _ w).grown hg S.g.size (fun k hk => S.new _ (List.mem_of_getElem? hi) k hk)
  have hskn : SKN (fun k => v.ownBlock = some k) w w' := ⟨hg.size, fun k hk hn => hg.block k hk (fun e => hn e.symm)⟩
  refine wpList_plain hgd fun _ hK => ?_
  unfold Oper.wp execOp
  simp only [ho, resolve, invoke, builtin, Sem.run_bind, Sem.run_pure, Result.andThen_ok, List.map_toArray, List.map_cons, List.map_nil, hs, hx, hrun]
  exact hK _ _ (h v' w' (S.upd i hi _ hskn (S.g.belowB hbl S.b0) (fun k e => hwh k e) (ho' _)))
theorem Mem.appN {α : Type} {r : Rep α} {f : α → List Value} (hf : r.Flat f) {w0 w : World} {cs : List Chunk} (S : Mem w0 w cs) (i : Nat) {B E : Nat} {v : Value} {xs : List α} (hi : cs[i]? = some (.own r B E v xs)) {T bytes : Nat} {z : Value} (ty : STy T E r.size bytes z)
    (hgd : o.guard = none) (s x : Operand) (ho : o.op = .call { callee := .builtin .append, args := #[s, x], argTypes := #[T, T] }) (ys : List α) (k c : Nat) (hk : k = ys.length) (hs : a.eval s = v) (ad : Addr) (hx : a.eval x = .slice (some ad) k c)
    (hc : ∀ j u, (ys.map f).flatten[j]? = some u → w.cell? (ad.add j) = some u) (h1 : ∀ y ∈ ys, ∀ u ∈ f y, u.oneCell' = true) (hfl : ∀ x, (f x).length = r.size) (hB : B ≤ w.heap.size) (hlen : xs.length + ys.length ≤ 100000000) (hby : bytes ≤ 1000)
    (h : ∀ v' w', Mem w0 w' (cs.set i (.own r B E v' (xs ++ ys))) → wpList Tryz.prog ops Q rest (a.put o.dst v') w') : wpList Tryz.prog ops Q (o :: rest) a w := by
  subst hk
  obtain ⟨v', w', hrun, ho', hg, hwh⟩ := Own.appN (ty := o.type) hf (S.ow i hi) ty hB hlen hby ad c hc h1 hfl
  have hbl : Below w0.heap.size w w' := (Below.refl _ w).grown hg S.b.size (fun k hk => S.new _ (List.mem_of_getElem? hi) k hk)
  have hskn : SKN (fun k => v.ownBlock = some k) w w' := ⟨hg.size, fun k hk hn => hg.block k hk (fun e => hn e.symm)⟩
  refine wpList_plain hgd fun _ hK => ?_
  unfold Oper.wp execOp
  simp only [ho, resolve, invoke, builtin, Sem.run_bind, Sem.run_pure, Result.andThen_ok, List.map_toArray, List.map_cons, List.map_nil, hs, hx, hrun]
  exact hK _ _ (h v' w' (S.upd i hi _ hskn (S.b.trans hbl) (fun k e => hwh k e) (ho' _)))
/-- the cells of a row that was just written out -/
theorem new_cells {w : World} {cells : Array Value} {T : TypeId} {L : List Value} (h : cells.toList = L) (j : Nat) (u : Value) (hj : L[j]? = some u) : (w.alloc (.cells cells T)).cell? ((⟨w.heap.size, 0, none⟩ : Addr).add j) = some u := by
  subst h
  rw [add_at, World.cell?_alloc_at _ _ _ _ rfl]
  simpa using hj
theorem alloc_size (w : World) (o : Obj) : (w.alloc o).heap.size = w.heap.size + 1 := by simp
end
end Go.Proofs.YthmkphmciiiagaaGreatDoor

/- slices.Grow of nil and slices.Concat of two lists of statements. -/
namespace Go.Proofs.YthmkphmciiiagaaGreatDoor
open Go Go.RowKit
/-- a new block of which nothing is in use is a slice of the call's own -/
theorem Mem.room {α : Type} {r : Rep α} {w0 w : World} {cs : List Chunk} (S : Mem w0 w cs) (i : Nat) {X E B cap : Nat} {cells : Array Value} (hi : cs[i]? = some (.loc X cells E)) (hB : B = w0.heap.size) (hc : cap ≤ maxLen) (hs : cells.size = cap * r.size) : Mem w0 w (cs.set i (.own r B E (.slice (some ⟨X, 0, none⟩) 0 cap) [])) := by
  subst hB
  exact S.upd i hi _ ⟨Nat.le_refl _, fun _ _ _ => rfl⟩ S.b (fun k e => .inl e) ⟨[], rfl, fun _ _ _ h => by simp at h, by simp, .inr ⟨X, cap, cells, rfl, (S.ge i hi).1, S.lv i hi, Nat.zero_le _, hc, hs, by simp⟩⟩
set_option maxHeartbeats 4000000 in
set_option maxRecDepth 100000 in
theorem growS_any (n : Nat) (hn : n ≤ 100000) (w : World) :
    Calls Tryz.prog 139 #[.slice none 0 0, .int .i64 n] w fun e w' => ∃ v, e = .returned v ∧ Mem w w' [.own rStm w.heap.size 38 v []] := by
  obtain ⟨i0, hi0, hz0, hz1, hz2⟩ := info_parts tyStmS.info
  have hsz : i0.size = 8 := hz1
  have hby : i0.bytes = 88 := hz2
  by_cases h0 : 0 < n
  · have hwr : IntKind.i64.wrap ((n : Int) - 0) = n := IntWalk.i64_in _ (by omega)
    have hwr2 : IntKind.i64.wrap (n : Int) = n := IntWalk.i64_in _ (by omega)
    have hgt : decide ((n : Int) > 0) = true := decide_eq_true (by omega)
    have hnl : decide ((n : Int) < 0) = false := decide_eq_false (by omega)
    have hold : (Builtin.firstCells i0.size 0 (.slice none 0 0)).run Tryz.prog w.drew = .ok ([] : List Value).toArray w.drew := run_firstCells_none w.drew i0.size 0 0 0
    have hr : ∀ ty, (Builtin.append_ #[27, 3] ty #[.slice none 0 0, .int .i64 n]).run Tryz.prog w = _ := fun ty => by
      have h := Lib.run_append_grow_zeros (P := Tryz.prog) w 27 3 ty 38 i0 _ .i64 .i64 tyStmS.under (by kernel_rfl) hi0 hz0 none 0 0 [] hold n h0 (by omega) (by omega) (by omega) (by rw [hby]; omega) (growslice_fits (by omega) (by rw [hby]; omega))
      exact h
    obtain ⟨G, hG⟩ : ∃ G, G = grownCap w (0 + n) 0 38 := ⟨_, rfl⟩
    have hGn : n ≤ G := by have := grownCap_ge w (0 + n) 0 38; omega
    have hGm : G ≤ maxLen := by rw [hG]; exact grownCap_le_maxLen w (0 + n) 0 38 (by unfold maxLen; omega)
    rw [← hG] at hr
    obtain ⟨cells, hcs⟩ : ∃ cells, cells = (([] : List Value).toArray ++ Builtin.zeroCells (Value.agg #[.int .i64 0, .int .i64 0, .int .i64 0, .string ⟨#[]⟩, .string ⟨#[]⟩, .string ⟨#[]⟩, .int .i64 0, .int .i64 0]).cells n ++ Builtin.zeroCells (Value.agg #[.int .i64 0, .int .i64 0, .int .i64 0, .string ⟨#[]⟩, .string ⟨#[]⟩, .string ⟨#[]⟩, .int .i64 0, .int .i64 0]).cells (G - (0 + n))) := ⟨_, rfl⟩
    have hsc : cells.size = G * rStm.size := by
      rw [hcs, Array.size_append, Array.size_append, size_zeroCells, size_zeroCells, tyStmS.zsize]
      show 0 + n * 8 + (G - (0 + n)) * 8 = G * 8
      omega
    have hr2 : ∀ ty, (Builtin.append_ #[27, 3] ty #[.slice none 0 0, .int .i64 n]).run Tryz.prog w = .ok (.slice (some ⟨w.heap.size, 0, none⟩) (0 + n) G) (w.drew.alloc (.cells cells 38)) := fun ty => by rw [hr ty, hcs]
    have S := (Mem.start w).newAt cells 38 w.heap.size rfl
    have S2 := S.room (r := rStm) 0 rfl rfl hGm hsc
    have HS := Lib.hid (S2.below (RowKit.Below.refl _ _).drew)
    clear hr hcs S S2 hold hG hsc
    go_enter Tryz.func139, Tryz.ntmps139
    go_wp2_with (at_builtin; refine Lib.wpList_append_run _ rfl _ _ _ _ rfl _ _ rfl rfl _ _ (hr2 _) ?_)
    all_goals (go_ret; exact ⟨_, rfl, HS.out⟩)
  · obtain rfl : n = 0 := by omega
    go_enter Tryz.func139, Tryz.ntmps139
    go_wp2_with fail
    go_ret
    exact ⟨_, rfl, (Mem.start w).nil rStm w.heap.size 38⟩
def sum2 (a s : Nat) : Nat → Nat
  | 0 => 0
  | 1 => a
  | _ => s
def app2 (l1 l2 : List Stm) : Nat → List Stm
  | 0 => []
  | 1 => l1
  | _ => l1 ++ l2
theorem flat_at {α : Type} {f : α → List Value} {n : Nat} (hf : ∀ x, (f x).length = n) : ∀ (xs : List α) (j : Nat) (u : Value), (xs.map f).flatten[j]? = some u → ∃ k x r, xs[k]? = some x ∧ (f x)[r]? = some u ∧ j = k * n + r
  | [], j, u, h => by simp at h
  | x :: t, j, u, h => by
    rw [List.map_cons, List.flatten_cons] at h
    by_cases hj : j < n
    · rw [List.getElem?_append_left (by rw [hf]; exact hj)] at h
      exact ⟨0, x, j, rfl, h, by simp⟩
    · rw [List.getElem?_append_right (by rw [hf]; omega), hf] at h
      obtain ⟨k, y, r, h1, h2, h3⟩ := flat_at hf t (j - n) u h
      exact ⟨k + 1, y, r, by simpa using h1, h2, by rw [Nat.succ_mul]; omega⟩
theorem cells_sl {N : Nat → Prop} {w : World} {a : Addr} {xs : List Stm} (h : Sl rStm N w (some a) xs) : ∀ j u, (xs.map Stm.cells).flatten[j]? = some u → w.cell? (a.add j) = some u := fun j u hu => by
  obtain ⟨k, x, r, h1, h2, rfl⟩ := flat_at (n := 8) (fun _ => rfl) xs j u hu
  obtain ⟨blk, off, l, e, _, _, hr, hc⟩ := h k x h1
  obtain rfl : a = ⟨blk, off, none⟩ := Option.some.inj e
  obtain rfl : l = Stm.cells x := hr
  have := hc r u h2
  rw [show rStm.size = 8 from rfl, Nat.add_assoc] at this
  rw [Addr.add_lit]
  exact this
theorem Own.shape2 {α : Type} {r : Rep α} {N : Nat → Prop} {B E : Nat} {w : World} {v : Value} {xs : List α} (h : Own r N B E w v xs) : (v = .slice none 0 0 ∧ xs = []) ∨ ∃ g cap, v = .slice (some ⟨g, 0, none⟩) xs.length cap ∧ xs.length ≤ cap := by
  obtain ⟨ls, hl, hr, ho⟩ := h
  rcases ho.2 with ⟨e, hn⟩ | ⟨g, cap, cur, e, _, _, hc, _⟩
  · exact .inl ⟨e, List.length_eq_zero_iff.1 hn⟩
  · exact .inr ⟨g, cap, e, hc⟩
theorem sl_none {N : Nat → Prop} {w : World} {xs : List Stm} (h : Sl rStm N w none xs) : xs = [] := by
  cases xs with
  | nil => rfl
  | cons x r =>
    obtain ⟨blk, off, l, e, _⟩ := h 0 x rfl
    cases e
set_option maxHeartbeats 4000000 in
set_option maxRecDepth 100000 in
theorem concat_any (X : Nat) (A1 A2 : Option Addr) (l1 l2 : List Stm) (c1 c2 : Nat) (w : World) (hX : LV w X #[.slice A1 l1.length c1, .slice A2 l2.length c2] 27) (h1 : Sl rStm (fun _ => False) w A1 l1) (h2 : Sl rStm (fun _ => False) w A2 l2) (hl1 : l1.length ≤ 1000) (hl2 : l2.length ≤ 1000) :
    Calls Tryz.prog 62 #[.slice (some ⟨X, 0, none⟩) 2 2] w (GivesSl (l1 ++ l2) w) := by
  obtain ⟨n1, hn1⟩ : ∃ n1, l1.length = n1 := ⟨_, rfl⟩
  obtain ⟨n2, hn2⟩ : ∃ n2, l2.length = n2 := ⟨_, rfl⟩
  rw [hn1] at hX hl1
  rw [hn2] at hX hl2
  have HX : Hid (∀ w', Below w.heap.size w w' → LV w' X #[.slice A1 n1 c1, .slice A2 n2 c2] 27) := fun w' h => (h.block X hX.lt).trans hX
  have H1 := Lib.hid (fun w' (h : Below w.heap.size w w') => h1.keepB h)
  have H2 := Lib.hid (fun w' (h : Below w.heap.size w w') => h2.keepB h)
  have c0 := hX.all
  clear hX h1 h2
  obtain ⟨n3, hn3⟩ : ∃ n3 : Nat, n3 = n1 + n2 := ⟨_, rfl⟩
  have Hn1 := Lib.hid hn1
  have Hn2 := Lib.hid hn2
  have hn31 : n3 ≤ 2000 := by omega
  have HG := Lib.hid (growS_any n3 (by omega) w)
  have hw1 : IntKind.i64.wrap (n1 : Int) = n1 := IntWalk.i64_in _ (by omega)
  have hw2 : IntKind.i64.wrap ((n1 : Int) + n2) = n3 := by rw [hn3]; exact IntWalk.i64_in _ (by omega)
  have hd1 : decide ((n1 : Int) < 0) = false := decide_eq_false (by omega)
  have hd3 : decide ((n3 : Int) < 0) = false := decide_eq_false (by omega)
  clear hn1 hn2 hn3
  go_enter Tryz.func62, Tryz.ntmps62
  go_wp2_with fail
  go_loopw [3, 11] (fun a i wr => ∃ j : Nat, j ≤ 2 ∧ i = .int .i64 j ∧ a = .int .i64 (sum2 n1 n3 j) ∧ w = wr) (fun _ i _ => 2 - (intOf i).toNat)
  case atStart => exact ⟨0, by omega, rfl, rfl, rfl⟩
  case round =>
    obtain ⟨j, hj, rfl, rfl, rfl⟩ := hrel
    rcases (by omega : j = 0 ∨ j = 1 ∨ j = 2) with rfl | rfl | rfl
    · simp only [sum2]
      go_wp2_with fail
      go_roundw
      case rel => exact ⟨1, by omega, by go_num, rfl, trivial⟩
      case measure => simp [intOf]
    · simp only [sum2]
      go_wp2_with fail
      go_roundw
      case rel => exact ⟨2, by omega, by go_num, rfl, trivial⟩
      case measure => simp [intOf]
    · simp only [sum2]
      clear c0
      go_wp2_with fail
      ((with_reducible refine (HG.out).mono ?_); rintro e w2 ⟨v, rfl, S⟩)
      clear HG
      go_wp2_with fail
      go_loopw [6, 27] (fun v i wr => ∃ j : Nat, j ≤ 2 ∧ i = .int .i64 j ∧ Mem w wr [.own rStm w.heap.size 38 v (app2 l1 l2 j)]) (fun _ i _ => 2 - (intOf i).toNat)
      case atStart => exact ⟨0, by omega, rfl, S⟩
      case round =>
        clear S
        obtain ⟨j, hj, rfl, S⟩ := hrel
        have c0 := (HX.out wr S.b).all
        have hsz := S.b.size
        rcases (by omega : j = 0 ∨ j = 1 ∨ j = 2) with rfl | rfl | rfl
        · have HS := Lib.hid S
          clear S
          cases A1 with
          | none =>
            obtain rfl := sl_none (H1.out wr HS.out.b)
            obtain rfl : n1 = 0 := Hn1.out.symm
            rcases (HS.out.ow 0 rfl).shape2 with ⟨rfl, _⟩ | ⟨g, cap, rfl, _⟩
            · go_wp2_with fail
              go_roundw
              case rel => exact ⟨1, by omega, by go_num, HS.out⟩
              case measure => simp [intOf]
            · simp only [app2, List.length_nil]
              go_wp2_with fail
              go_roundw
              case rel => exact ⟨1, by omega, by go_num, HS.out⟩
              case measure => simp [intOf]
          | some ad =>
            have Hc := Lib.hid (cells_sl (H1.out wr HS.out.b))
            go_wp2_with (at_builtin; refine HS.out.appN flatStm 0 rfl tyStmS rfl _ _ rfl l1 n1 c1 Hn1.out.symm rfl ad rfl Hc.out (fun y _ => oneStmS y) (fun _ => rfl) hsz (by simp only [app2, List.length_nil]; rw [Hn1.out]; omega) (by decide) ?_; intro v5 w5 S5)
            go_roundw
            case rel => exact ⟨1, by omega, by go_num, S5⟩
            case measure => simp [intOf]
        · have HS := Lib.hid S
          clear S
          cases A2 with
          | none =>
            obtain rfl := sl_none (H2.out wr HS.out.b)
            obtain rfl : n2 = 0 := Hn2.out.symm
            have HS1 : Hid (∀ {v : Value}, Mem w wr [.own rStm w.heap.size 38 v (app2 l1 [] 1)] → Mem w wr [.own rStm w.heap.size 38 v (app2 l1 [] 2)]) := fun {v} h => by rw [show app2 l1 [] 2 = app2 l1 [] 1 by simp [app2]]; exact h
            rcases (HS.out.ow 0 rfl).shape2 with ⟨hv, _⟩ | ⟨g, cap, hv, hc⟩
            · subst hv
              go_wp2_with fail
              go_roundw
              case rel => exact ⟨2, by omega, by go_num, HS1.out HS.out⟩
              case measure => simp [intOf]
            · rw [show (app2 l1 [] 1).length = n1 from Hn1.out] at hv hc
              subst hv
              go_wp2_with fail
              go_roundw
              case rel => exact ⟨2, by omega, by go_num, HS1.out HS.out⟩
              case measure => simp [intOf]
          | some ad =>
            have Hc := Lib.hid (cells_sl (H2.out wr HS.out.b))
            go_wp2_with (at_builtin; refine HS.out.appN flatStm 0 rfl tyStmS rfl _ _ rfl l2 n2 c2 Hn2.out.symm rfl ad rfl Hc.out (fun y _ => oneStmS y) (fun _ => rfl) hsz (by simp only [app2]; rw [Hn1.out, Hn2.out]; omega) (by decide) ?_; intro v5 w5 S5)
            go_roundw
            case rel => exact ⟨2, by omega, by go_num, S5⟩
            case measure => simp [intOf]
        · obtain ⟨A3, c3, e3, hS⟩ := ((S.ow 0 rfl).flatM flatStm (M' := Lt w.heap.size)).toSlC (fun k h1 h2 => by unfold Lt at h2; omega)
          have He := Lib.hid e3
          have HS2 := Lib.hid hS.2
          clear hS e3
          go_wp2_with fail
          go_ret
          exact ⟨A3, c3, congrArg Ending.returned He.out, HS2.out, S.b⟩
end Go.Proofs.YthmkphmciiiagaaGreatDoor

/- What handref2.AskOf's closure does: one statement more. -/
namespace Go.Proofs.YthmkphmciiiagaaGreatDoor
open Go Go.RowKit
def GivesChg (xs : List Stm) (F : Int) (w : World) (e : Ending) (w' : World) : Prop := ∃ A c, e = .returned (.tuple #[.slice A xs.length c, .int .i64 F]) ∧ Sl rStm (Lt w.heap.size) w' A xs ∧ Below w.heap.size w w'
def Adds (w0 : World) (N O Q B : Nat) (no : Int) (out : List Stm) (k : Int) (t pq rg : ByteArray) (ch at' : Int) (cs : List Chunk) (e : Ending) (w' : World) : Prop :=
  e = .returned (.tuple #[]) ∧ ∃ v', Mem w0 w' (.loc N #[.int .i64 no] 3 :: .loc O #[v'] 27 :: .own rStm B 38 v' out :: .loc Q (qqCs k t pq rg ch at') 31 :: cs)
end Go.Proofs.YthmkphmciiiagaaGreatDoor
