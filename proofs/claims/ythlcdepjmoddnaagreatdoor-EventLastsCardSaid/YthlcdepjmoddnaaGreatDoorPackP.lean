/- Several texts in one: NamedChk, AppKeep, GenZone2, RefZone, MakeI, SortInt, EqInt, Series, GenName, LawSer. -/
import Derived.Test.YthlcdepjmoddnaaGreatDoorPackO
import Derived.Test.YthlcdepjmoddnaaGreatDoorPackZ
import Derived.Laws.OwnMore
import Derived.Test.YthlcdepjmoddnaaGreatDoorPackW
import Derived.Test.YthlcdepjmoddnaaGreatDoorPackM
import Derived.Test.YthlcdepjmoddnaaGreatDoorShelf
import Derived.Test.YthlcdepjmoddnaaGreatDoorPackB
import Derived.Test.YthlcdepjmoddnaaGreatDoorPackE
import Derived.Test.YthlcdepjmoddnaaGreatDoorPackQ
/- What event.checkNamed returns. -/
namespace Go.Proofs.YthlcdepjmoddnaaGreatDoor
open Go Go.RowKit
def namesErr : List ByteArray → Int
  | [] => 0
  | x :: r => if L.isKey x = false then 5 else namesErr r
def winErr (f t : Int) : Int := if f < 0 then 1 else if t < f then 1 else if 4321440 < t then 1 else 0
def namedErr (l : List Evt) (ns : List ByteArray) (f t : Int) : Int := if evsFault l ≠ 0 then evsFault l else if namesErr ns ≠ 0 then namesErr ns else winErr f t
theorem namesErr_at {l : List ByteArray} {k : Nat} {x : ByteArray} (h : l[k]? = some x) : namesErr (l.drop k) = if L.isKey x = false then 5 else namesErr (l.drop (k + 1)) := by rw [drop_at3 h, namesErr]
theorem namedErr_zero {l : List Evt} {ns : List ByteArray} {f t : Int} (h : namedErr l ns f t = 0) : evsFault l = 0 ∧ namesErr ns = 0 ∧ winErr f t = 0 := by
  unfold namedErr at h
  split at h
  · rename_i h1; exact absurd h h1
  · rename_i h1
    split at h
    · rename_i h2; exact absurd h h2
    · rename_i h2; exact ⟨Decidable.not_not.1 h1, Decidable.not_not.1 h2, h⟩
set_option maxHeartbeats 2000000 in
set_option maxRecDepth 100000 in
theorem checkWindow_any (f t : Int) (w : World) : Calls Tryz.prog 160 #[.agg #[.int .i64 f, .int .i64 t]] w fun e w' => e = .returned (.int .i64 (winErr f t)) ∧ Below w.heap.size w w' := by
  obtain ⟨R, HR⟩ : ∃ R, Hid (winErr f t = R) := ⟨_, Lib.hid rfl⟩
  rw [HR.out]
  have hb : Below w.heap.size w (w.alloc (.cells #[.int .i64 f, .int .i64 t] 53)) := (Below.refl _ _).alloc (Nat.le_refl _) _
  have lvX := LV.new w w.heap.size #[.int .i64 f, .int .i64 t] 53 rfl
  unfold winErr at HR
  go_enter Tryz.func160, Tryz.ntmps160
  go_upto_region 1 with fail
  obtain ⟨X, hX⟩ : ∃ X, X = w.heap.size := ⟨_, rfl⟩
  rw [← hX] at lvX ⊢
  clear hX
  generalize w.alloc (.cells #[.int .i64 f, .int .i64 t] 53) = w1 at *
  have c0 := lvX.all
  by_cases h1 : f < 0
  · rw [if_pos h1] at HR
    go_wp2_with fail
    go_ret
    exact ⟨ret_i HR.out, hb⟩
  · rw [if_neg h1] at HR
    by_cases h2 : t < f
    · rw [if_pos h2] at HR
      go_wp2_with fail
      go_ret
      exact ⟨ret_i HR.out, hb⟩
    · rw [if_neg h2] at HR
      by_cases h3 : 4321440 < t
      · rw [if_pos h3] at HR
        go_wp2_with fail
        go_ret
        exact ⟨ret_i HR.out, hb⟩
      · rw [if_neg h3] at HR
        go_wp2_with fail
        go_ret
        exact ⟨ret_i HR.out, hb⟩
set_option maxHeartbeats 8000000 in
set_option maxRecDepth 100000 in
theorem checkNamed_any (N : Nat → Prop) (A : Option Addr) (xs : List Evt) (c : Nat) (f t : Int) (ns : List ByteArray) (X n : Nat) (w : World) (hS : Sl rEvt N w A xs) (hok : EvsOk xs) (hT : Tabs w) (hM : MaxL w) (hn : n = ns.length) (hX : LV w X (ns.map Value.string).toArray 9) (hnl : ns.length ≤ 100) (hns : ∀ x ∈ ns, x.size ≤ 1000000000) :
    Calls Tryz.prog 87 #[.slice A xs.length c, .agg #[.int .i64 f, .int .i64 t], .slice (some ⟨X, 0, none⟩) n n] w fun e w' => e = .returned (.int .i64 (namedErr xs ns f t)) ∧ Below w.heap.size w w' := by
  subst hn
  have hb0 : Below w.heap.size w (w.alloc (.cells #[.int .i64 f, .int .i64 t] 53)) := (Below.refl _ _).alloc (Nat.le_refl _) _
  have lvW := LV.new w w.heap.size #[.int .i64 f, .int .i64 t] 53 rfl
  have Hch := Lib.hid (checkEvs_any N A xs c _ (hS.keepB hb0) hok (Utf8Tabs_below hT hb0) (hM.below hb0))
  have HX := Lib.hid hX
  have Hns := Lib.hid hns
  clear hS hok hT hM hX hns
  obtain ⟨R, HR⟩ : ∃ R, Hid (namedErr xs ns f t = R) := ⟨_, Lib.hid rfl⟩
  rw [HR.out]
  unfold namedErr at HR
  generalize evsFault xs = F at *
  go_enter Tryz.func87, Tryz.ntmps87
  go_upto_region 1 with fail
  obtain ⟨Wb, hWb⟩ : ∃ Wb, Wb = w.heap.size := ⟨_, rfl⟩
  rw [← hWb] at lvW ⊢
  clear hWb
  generalize w.alloc (.cells #[.int .i64 f, .int .i64 t] 53) = w0 at *
  have Hb0 := Lib.hid hb0
  clear hb0
  go_wp2_with fail
  ((with_reducible refine (Hch.out).mono ?_); rintro e w1 ⟨rfl, hl1⟩)
  have hb1 := Hb0.out.trans (hl1.mono Hb0.out.size)
  have lvW1 := LV.kb3 lvW hl1 lvW.lt
  clear Hch lvW hl1
  by_cases hF : F = 0
  · subst hF
    rw [if_neg (not_not_intro rfl)] at HR
    go_wp2_with fail
    go_loopw [9, 17] (fun s9 i wr => ∃ k : Nat, k ≤ ns.length ∧ i = .int .i64 k ∧ Hid ((if namesErr (ns.drop k) ≠ 0 then namesErr (ns.drop k) else winErr f t) = R) ∧ Below w.heap.size w wr ∧ LV wr Wb #[.int .i64 f, .int .i64 t] 53) (fun _ i _ => ns.length - (intOf i).toNat)
    case atStart => exact ⟨0, Nat.zero_le _, rfl, HR, hb1, lvW1⟩
    case round =>
      clear HR hb1 lvW1
      obtain ⟨k, hk, rfl, HR, hbl, lvW⟩ := hrel
      by_cases hlt : k < ns.length
      · obtain ⟨x, hx⟩ : ∃ x, ns[k]? = some x := ⟨_, List.getElem?_eq_getElem hlt⟩
        have hxs := Hns.out x (List.mem_of_getElem? hx)
        have c0 : wr.cell? ⟨X, k, none⟩ = some (.string x) := (LV.kb3 HX.out hbl HX.out.lt).cell k _ (by simp [hx])
        have HR1 : Hid ((if (if L.isKey x = false then (5 : Int) else namesErr (ns.drop (k + 1))) ≠ 0 then (if L.isKey x = false then (5 : Int) else namesErr (ns.drop (k + 1))) else winErr f t) = R) := by show _ = _; rw [← HR.out, namesErr_at hx]
        have Hk := Lib.hid (isKey_any x wr (by omega))
        generalize L.isKey x = K at *
        clear HR hx
        cases K with
        | false =>
          have HR2 : Hid (5 = R) := HR1.out
          go_wp2_with fail
          ((with_reducible refine (Hk.out).mono ?_); rintro e _ ⟨rfl, rfl⟩)
          go_wp2_with fail
          go_ret
          exact ⟨ret_i HR2.out, hbl⟩
        | true =>
          have HR2 : Hid ((if namesErr (ns.drop (k + 1)) ≠ 0 then namesErr (ns.drop (k + 1)) else winErr f t) = R) := HR1.out
          clear HR1
          go_wp2_with fail
          ((with_reducible refine (Hk.out).mono ?_); rintro e _ ⟨rfl, rfl⟩)
          go_wp2_with fail
          go_roundw
          case rel => exact ⟨k + 1, by omega, by go_num, HR2, hbl, lvW⟩
          case measure => simp [intOf]; omega
      · have HR2 : Hid (winErr f t = R) := by
          show _ = _
          rw [← HR.out, List.drop_eq_nil_of_le (by omega)]
          rfl
        have c0 := lvW.all
        clear HR
        go_wp2_with fail
        ((with_reducible refine (checkWindow_any f t wr).mono ?_); rintro e w2 ⟨rfl, hl2⟩)
        rw [HR2.out]
        go_wp2_with fail
        go_ret
        exact ⟨rfl, hbl.trans (hl2.mono hbl.size)⟩
  · rw [if_pos hF] at HR
    have hF' : (F != 0) = true := by simpa using hF
    go_wp2_with fail
    go_ret
    exact ⟨ret_i HR.out, hb1⟩
set_option maxHeartbeats 4000000 in
set_option maxRecDepth 100000 in
theorem nameFault_any (ns : List ByteArray) (X n : Nat) (w : World) (hn : n = ns.length) (hX : LV w X (ns.map Value.string).toArray 9) (hnl : ns.length ≤ 100) (hns : ∀ x ∈ ns, x.size ≤ 1000000000) :
    Calls Tryz.prog 30 #[.slice (some ⟨X, 0, none⟩) n n] w fun e w' => e = .returned (.int .i64 (namesErr ns)) ∧ Below w.heap.size w w' := by
  subst hn
  have HX := Lib.hid hX
  have Hns := Lib.hid hns
  clear hX hns
  obtain ⟨R, HR⟩ : ∃ R, Hid (namesErr ns = R) := ⟨_, Lib.hid rfl⟩
  rw [HR.out]
  go_enter Tryz.func30, Tryz.ntmps30
  go_wp2_with fail
  go_loopw [4, 7] (fun s4 i wr => ∃ k : Nat, k ≤ ns.length ∧ i = .int .i64 k ∧ Hid (namesErr (ns.drop k) = R) ∧ Below w.heap.size w wr) (fun _ i _ => ns.length - (intOf i).toNat)
  case atStart => exact ⟨0, Nat.zero_le _, rfl, HR, Below.refl _ _⟩
  case round =>
    clear HR
    obtain ⟨k, hk, rfl, HR, hbl⟩ := hrel
    by_cases hlt : k < ns.length
    · obtain ⟨x, hx⟩ : ∃ x, ns[k]? = some x := ⟨_, List.getElem?_eq_getElem hlt⟩
      have hxs := Hns.out x (List.mem_of_getElem? hx)
      have c0 : wr.cell? ⟨X, k, none⟩ = some (.string x) := (LV.kb3 HX.out hbl HX.out.lt).cell k _ (by simp [hx])
      have HR1 : Hid ((if L.isKey x = false then (5 : Int) else namesErr (ns.drop (k + 1))) = R) := by show _ = _; rw [← HR.out, namesErr_at hx]
      have Hk := Lib.hid (Key_any x wr (by omega))
      generalize L.isKey x = K at *
      clear HR hx
      cases K with
      | false =>
        have HR2 : Hid (5 = R) := HR1.out
        go_wp2_with fail
        ((with_reducible refine (Hk.out).mono ?_); rintro e w2 ⟨rfl, hl2⟩)
        go_wp2_with fail
        go_ret
        exact ⟨ret_i HR2.out, hbl.trans (hl2.mono hbl.size)⟩
      | true =>
        have HR2 : Hid (namesErr (ns.drop (k + 1)) = R) := HR1.out
        clear HR1
        go_wp2_with fail
        ((with_reducible refine (Hk.out).mono ?_); rintro e w2 ⟨rfl, hl2⟩)
        clear c0
        go_wp2_with fail
        go_roundw
        case rel => exact ⟨k + 1, by omega, by go_num, HR2, hbl.trans (hl2.mono hbl.size)⟩
        case measure => simp [intOf]; omega
    · have HR2 : Hid (0 = R) := by
        show _ = _
        rw [← HR.out, List.drop_eq_nil_of_le (by omega)]
        rfl
      clear HR
      go_wp2_with fail
      go_ret
      exact ⟨ret_i HR2.out, hbl⟩
end Go.Proofs.YthlcdepjmoddnaaGreatDoor

/- append to a slice of the call's own leaves the cells of the old elements as they were. -/
namespace Go.Proofs.YthlcdepjmoddnaaGreatDoor
open Go Go.RowKit
section
variable {P : Program} (w : World)
theorem run_append_cells (base : Nat) (t ty e : TypeId) (i : TypeInfo) (z : Value) (size bytes : Nat) (ht : P.underlying t = some (.slice e)) (hi : P.info? e = some i) (hz : i.zero = some z)
    (hsize : i.size = size) (hby : i.bytes = bytes)
    (g n cap : Nat) (xs : List Value) (hown : w.ownsRow base e size (.slice (some ⟨g, 0, none⟩) n cap) n xs)
    (a : Addr) (m c : Nat) (news : List Value) (hl : news.length = m * size) (hnews : ∀ j u, news[j]? = some u → w.cell? (a.add j) = some u) (h1 : ∀ u ∈ news, u.oneCell' = true)
    (h63 : n + m ≤ maxLen) (hbytes : (n + m) * bytes ≤ 140737488355328) {v' : Value} {w' : World}
    (hr : (Builtin.append_ #[t, t] ty #[.slice (some ⟨g, 0, none⟩) n cap, .slice (some a) m c]).run P w = .ok v' w') : ∀ j u, xs[j]? = some u → w'.cell? ⟨g, j, none⟩ = some u := by
  subst hsize hby
  intro j u hj
  have hold : w.cell? ⟨g, j, none⟩ = some u := by
    have := hown.cells (g := g) rfl j u hj
    rwa [add_at, Nat.zero_add] at this
  by_cases hroom : n + m ≤ cap
  · obtain ⟨w2, hr2, ho2, _⟩ := run_append_fits (P := P) w base t ty e i i.size ht hi rfl g n cap xs hown a m c news hl hnews h1 hroom
    rw [hr] at hr2
    injection hr2 with e1 e2
    subst e2
    have := ho2.cells (g := g) rfl j u (by rw [List.getElem?_append_left (List.getElem?_eq_some_iff.1 hj).1]; exact hj)
    rwa [add_at, Nat.zero_add] at this
  · have hr2 := run_append_grow (P := P) w t ty e i z ht hi hz ⟨g, 0, none⟩ n cap xs hown.1 (hown.cells (g := g) rfl) a m c news hl hnews (by omega) (by simp only [maxLen] at h63; omega) (growslice_fits (by omega) hbytes)
    rw [hr] at hr2
    injection hr2 with e1 e2
    subst e2
    exact (World.cell?_of_block (w := w) (a := ⟨g, j, none⟩) (Below.heap_alloc w.drew _ g (World.block_lt_of_cell? w _ hold))).trans hold
end
section
variable {ops : Array Oper} {rest : List Oper} {o : Oper} {a : Act} {Q : Exit → Act → World → Prop}
/-- append of one element that was just written out; the old elements' cells stay, and no other block has turned -/
theorem app_flat3 {α : Type} {r : Rep α} {f : α → List Value} (hf : r.Flat f) {w0 : World} {cs : Array Value} {T E bytes : Nat} {z : Value} (ty : STy T E r.size bytes z) (hgd : o.guard = none) (s x : Operand) (ho : o.op = .call { callee := .builtin .append, args := #[s, x], argTypes := #[T, T] })
    (N : Nat → Prop) (B g cap : Nat) (xs : List α) (y : α) (c : Nat) (hs : a.eval s = .slice (some ⟨g, 0, none⟩) xs.length cap) (hown : Own r N B E w0 (.slice (some ⟨g, 0, none⟩) xs.length cap) xs) (hx : a.eval x = .slice (some ⟨w0.heap.size, 0, none⟩) 1 c) (hcs : cs.toList = f y) (h1 : ∀ u ∈ f y, u.oneCell' = true)
    (hB : B ≤ w0.heap.size) (hlen : xs.length ≤ 100000000) (hby : bytes ≤ 1000)
    (h : ∀ v' w', Own r N B E w' v' (xs ++ [y]) → Below B w0 w' → w0.grownBy w' (some g) → (∀ j u, ((xs.map f).flatten)[j]? = some u → w'.cell? ⟨g, j, none⟩ = some u) → wpList Tryz.prog ops Q rest (a.put o.dst v') w') : wpList Tryz.prog ops Q (o :: rest) a (w0.alloc (.cells cs E)) := by
  obtain ⟨ls, hl, hr, ho2⟩ := hown
  have hls : ls = xs.map f := by
    apply List.ext_getElem?
    intro k
    rw [List.getElem?_map]
    rcases Nat.lt_or_ge k xs.length with hk | hk
    · have e1 : xs[k]? = some xs[k] := List.getElem?_eq_getElem hk
      have e2 : ls[k]? = some (ls[k]'(by omega)) := List.getElem?_eq_getElem (by omega)
      rw [e1, e2, (hf _ _ _ _).1 (hr k _ _ e1 e2)]
      rfl
    · rw [List.getElem?_eq_none hk, List.getElem?_eq_none (by omega)]
      rfl
  subst hls
  have hsz : (f y).length = r.size := r.len ((hf N w0 y _).2 rfl)
  have hcsz : cs.size = 1 * r.size := by
    have e : cs.size = (f y).length := by rw [← hcs]; simp
    omega
  obtain ⟨i0, hi, hz0, hz1, hz2⟩ := info_parts ty.info
  have hnews : ∀ j u, cs.toList[j]? = some u → (w0.alloc (.cells cs E)).cell? ((⟨w0.heap.size, 0, none⟩ : Addr).add j) = some u := by
    intro j u hj
    rw [add_at, World.cell?_alloc_at _ _ _ _ rfl]
    simpa using hj
  have hb3 : (xs.length + 1) * bytes ≤ 140737488355328 := by
    have := Nat.mul_le_mul (show xs.length + 1 ≤ 100000001 by omega) hby
    omega
  have h63 : xs.length + 1 ≤ maxLen := by unfold maxLen; omega
  obtain ⟨v', w', hrun, g1, g2, _⟩ := run_append_own (P := Tryz.prog) (w0.alloc (.cells cs E)) B T o.type E i0 z r.size bytes ty.under hi hz0 hz1 hz2 ty.zsize ty.pos _ xs.length _ (ho2.alloc _) ⟨w0.heap.size, 0, none⟩ 1 c cs.toList (by simpa using hcsz) hnews (by rw [hcs]; exact h1) h63 hb3 (by simp; omega)
  have hcells := run_append_cells (P := Tryz.prog) (w0.alloc (.cells cs E)) B T o.type E i0 z r.size bytes ty.under hi hz0 hz1 hz2 g xs.length cap _ (ho2.alloc _) ⟨w0.heap.size, 0, none⟩ 1 c cs.toList (by simpa using hcsz) hnews (by rw [hcs]; exact h1) h63 hb3 hrun
  have hg : w0.grownBy w' (some g) := ⟨g2.os, g2.tape, g2.output, by have := g2.size; simp at this; omega, fun k hk hn => by rw [g2.block k (by simp; omega) hn]; exact Below.heap_alloc _ _ _ hk⟩
  have hbl : Below B w0 w' := (Below.refl B w0).grown hg hB (fun k hk => (ho2.lt k (by rw [← hk]; rfl)).1)
  refine wpList_plain hgd fun _ hK => ?_
  unfold Oper.wp execOp
  simp only [ho, resolve, invoke, builtin, Sem.run_bind, Sem.run_pure, Result.andThen_ok, List.map_toArray, List.map_cons, List.map_nil, hs, hx, hrun]
  refine hK _ _ (h v' w' ⟨xs.map f ++ [f y], by simp, fun i x l e1 e2 => (hf _ _ _ _).2 ?_, ?_⟩ hbl hg hcells)
  · rw [show xs.map f ++ [f y] = (xs ++ [y]).map f by simp, List.getElem?_map, e1] at e2
    exact (Option.some.inj e2).symm
  · rw [List.length_append, List.flatten_append]
    simpa [hcs] using g1
end
end Go.Proofs.YthlcdepjmoddnaaGreatDoor

/- What the generator Zone makes. -/
namespace Go.Proofs.YthlcdepjmoddnaaGreatDoor
open Go.RowKit
theorem early_small {xs : List Sft} (h : ∀ s ∈ xs, 0 ≤ s.at' ∧ s.at' ≤ 1000000) : ∀ s ∈ xs, s.small := fun s hs => by
  have := h s hs
  unfold Sft.small
  omega
/-- the first shift's moment is written over -/
theorem Own.stored0 {N : Nat → Prop} {B E g n cap : Nat} {w : World} {s : Sft} {r : List Sft} (h : Own rSft N B E w (.slice (some ⟨g, 0, none⟩) n cap) (s :: r)) (d : Int) (hn : n = (s :: r).length) :
    Own rSft N B E (w.setCell ⟨g, 0, none⟩ (.int .i64 d)) (.slice (some ⟨g, 0, none⟩) n cap) (⟨d, s.off⟩ :: r) := by
  subst hn
  obtain ⟨ls, hl, hr, ho⟩ := h
  match ls, hl with
  | l :: ls, hl =>
    obtain rfl : l = Sft.cells s := hr 0 s l rfl rfl
    refine ⟨Sft.cells ⟨d, s.off⟩ :: ls, by simpa using hl, fun i x l e1 e2 => ?_, ?_⟩
    · cases i with
      | zero =>
        simp at e1 e2
        subst e1 e2
        exact rfl
      | succ i => exact (flatSft _ _ _ _).2 ((flatSft _ _ _ _).1 (hr (i + 1) x l (by simpa using e1) (by simpa using e2)))
    · exact (World.ownsRow.stored ho 0 (.int .i64 d)).1
theorem Own.first {N : Nat → Prop} {B E g n cap : Nat} {w : World} {s : Sft} {r : List Sft} (h : Own rSft N B E w (.slice (some ⟨g, 0, none⟩) n cap) (s :: r)) (hn : n = (s :: r).length) : w.cell? ⟨g, 0, none⟩ = some (.int .i64 s.at') ∧ w.frozen? ⟨g, 0, none⟩ = false := by
  subst hn
  obtain ⟨ls, hl, hr, ho⟩ := h
  match ls, hl with
  | l :: ls, hl =>
    obtain rfl : l = Sft.cells s := hr 0 s l rfl rfl
    exact ⟨(ho.cellAt 0 (by simp [rSft, Rep.flat])).trans rfl, ho.frozenAt 0⟩
theorem Own.form1 {α : Type} {r : Rep α} {N : Nat → Prop} {B E : Nat} {w : World} {v : Value} {xs : List α} (h : Own r N B E w v xs) (hx : 1 ≤ xs.length) : ∃ g cap, v = .slice (some ⟨g, 0, none⟩) xs.length cap ∧ B ≤ g ∧ g < w.heap.size := by
  obtain ⟨ls, hl, hr, ho⟩ := h
  have hlt := ho.lt
  rcases ho.2 with ⟨_, h0⟩ | ⟨g, cap, cur, rfl, hB, _⟩
  · omega
  · exact ⟨g, cap, rfl, hB, (hlt g rfl).2⟩
/-- the last shift's moment -/
theorem flat_last (xs : List Sft) (k : Nat) (s : Sft) (hk : xs[k]? = some s) : ((xs.map Sft.cells).flatten)[k * 2]? = some (.int .i64 s.at') :=
  flatten_at (n := 2) (fun l hl => by obtain ⟨s, _, rfl⟩ := List.mem_map.1 hl; rfl) k 0 (Sft.cells s) _ (by rw [List.getElem?_map, hk]; rfl) rfl
set_option maxHeartbeats 8000000 in
set_option maxRecDepth 100000 in
theorem zone_any (b m : Nat) (w : World) (hs : Strm b m w) (hm : m ≤ 1000000000) :
    Calls Tryz.prog 33 #[.pointer (some ⟨b, 0, none⟩)] w (DrawsZone b (m + 30) w) := by
  have hlt := hs.lt
  have g0 := (G.start hs).alloc (.cells #[.string ⟨#[]⟩, .slice none 0 0] 66)
  have bR0 := LV.new w w.heap.size #[.string ⟨#[]⟩, .slice none 0 0] 66 rfl
  clear hs
  go_enter Tryz.func33, Tryz.ntmps33
  go_wp2_with fail
  ((with_reducible refine (rightZone_any b m _ g0.s (by omega)).mono ?_); rintro e w1 ⟨nm, v, xs, rfl, hnm, ho1, hx1, hx2, hea, gg1⟩)
  have g1 := g0.step gg1.k gg1.s
  have bR1 := LV.keep bR0 gg1.k (by omega)
  have Ho1 : Hid (Own rSft (Off b) w.heap.size 131 (w1.alloc (.cells #[.string nm, v] 66)) v xs) := (ho1.base (B' := w.heap.size) (by simp)).alloc _ hlt
  have g2 := g1.alloc (.cells #[.string nm, v] 66)
  have bR2 := bR1.alloc (.cells #[.string nm, v] 66)
  have bZ2 := LV.new w1 w1.heap.size #[.string nm, v] 66 rfl
  have hzz := gg1.size
  simp only [World.size_alloc] at hzz
  have Hea := Lib.hid hea
  clear gg1 g0 bR0 g1 bR1 ho1 hea
  obtain ⟨gb, cap, rfl, hgb, hgb2⟩ := Ho1.out.form1 hx1
  go_wp2_with fail
  generalize hZ : w1.heap.size = Z at *
  generalize w1.alloc (.cells #[.string nm, .slice (some ⟨gb, 0, none⟩) xs.length cap] 66) = w2 at *
  ((with_reducible refine (flip_any b _ _ _ g2.s (by omega) (by omega) (by omega)).mono ?_); rintro e w3 ⟨r3, rfl, hk_w3, hs_w3⟩)
  have g3 := g2.step hk_w3 hs_w3
  have bR3 := LV.keep bR2 hk_w3 (by omega)
  have bZ3 := LV.keep bZ2 hk_w3 (by omega)
  have Ho3 := Lib.hid (Ho1.out.stepB hk_w3 hlt)
  clear hk_w3 hs_w3 g2 bR2 bZ2 Ho1
  cases r3
  · have hlen9 := True.intro
    have z0 : World.cell? w3 ⟨Z, 0, none⟩ = some (.string nm) := LV.cell bZ3 0 _ rfl
    have z1 : World.cell? w3 ⟨Z, 1, none⟩ = some (.slice (some ⟨gb, 0, none⟩) xs.length cap) := LV.cell bZ3 1 _ rfl
    have r0 : World.cell? w3 ⟨w.heap.size, 0, none⟩ = some (.string ⟨#[]⟩) := LV.cell bR3 0 _ rfl
    have r1 : World.cell? w3 ⟨w.heap.size, 1, none⟩ = some (.slice none 0 0) := LV.cell bR3 1 _ rfl
    have f0 := LV.free bR3 0
    have f1 := LV.free bR3 1
    have gf := (G.set g3 (X := w.heap.size) hlt (Nat.le_refl _) 0 (.string nm)).set (X := w.heap.size) hlt (Nat.le_refl _) 1 (.slice (some ⟨gb, 0, none⟩) xs.length cap)
    have Hof : Hid (Own rSft (Off b) w.heap.size 131 ((World.setCell w3 ⟨w.heap.size, 0, none⟩ (.string nm)).setCell ⟨w.heap.size, 1, none⟩ (.slice (some ⟨gb, 0, none⟩) xs.length cap)) (.slice (some ⟨gb, 0, none⟩) xs.length cap) (xs)) := (Own.setCell (Ho3.out) (Own.ne (Ho3.out) bR3 (by decide)) flatSft 0 _).setCell (Own.ne (Ho3.out) bR3 (by decide)) flatSft 1 _
    clear bZ3 bR3 g3
    go_wp2_with fail
    exact bodyPost_ret (v := .agg #[.string nm, .slice (some ⟨gb, 0, none⟩) xs.length cap]) (by simp [results, Tryz.results33, go_sem, r0, r1]) rfl ⟨nm, _, xs, rfl, by omega, Hof.out, by omega, early_small Hea.out, gf.mono (by omega)⟩
  · go_wp2_with fail
    ((with_reducible refine (next_any b _ _ _ g3.s (by omega) (by omega) (by omega)).mono ?_); rintro e w4 ⟨r4, r4_lo, r4_hi, rfl, hk_w4, hs_w4⟩)
    have g4 := g3.step hk_w4 hs_w4
    have bR4 := LV.keep bR3 hk_w4 (by omega)
    have bZ4 := LV.keep bZ3 hk_w4 (by omega)
    have Ho4 := Lib.hid (Ho3.out.stepB hk_w4 hlt)
    clear hk_w4 hs_w4 g3 bR3 bZ3 Ho3
    by_cases h40 : r4 = 0
    · subst h40
      go_wp2_with fail
      ((with_reducible refine (one_le b _ _ _ 100 g4.s (by simp) (by simp) (strsLe_of (by decide)) (by simp) (by simp) (by omega)).mono ?_); rintro e w5 ⟨nm5, nm5_le, rfl, hk_w5, hs_w5⟩)
      have g5 := g4.step hk_w5 hs_w5
      have bR5 := LV.keep bR4 hk_w5 (by omega)
      have bZ5 := LV.keep bZ4 hk_w5 (by omega)
      have Ho5 := Lib.hid (Ho4.out.stepB hk_w5 hlt)
      clear hk_w5 hs_w5 g4 bR4 bZ4 Ho4
      have c5 : w5.cell? ⟨Z, 0, none⟩ = some (.string nm) := bZ5.cell 0 _ rfl
      have f5 := bZ5.free 0
      have g6 := g5.set (X := Z) (by omega) (by omega) 0 (.string nm5)
      have bR6 := bR5.other (Y := Z) (by omega) 0 (.string nm5)
      have bZ6 := bZ5.set 0 (.string nm5) #[.string nm5, .slice (some ⟨gb, 0, none⟩) xs.length cap] rfl
      have Ho6 := Lib.hid (Ho5.out.setCell (Ho5.out.ne bZ5 (by decide)) flatSft 0 (.string nm5))
      clear g5 bR5 bZ5 Ho5
      have hlen9 := True.intro
      have z0 : World.cell? (w5.setCell ⟨Z, 0, none⟩ (.string nm5)) ⟨Z, 0, none⟩ = some (.string nm5) := LV.cell bZ6 0 _ rfl
      have z1 : World.cell? (w5.setCell ⟨Z, 0, none⟩ (.string nm5)) ⟨Z, 1, none⟩ = some (.slice (some ⟨gb, 0, none⟩) xs.length cap) := LV.cell bZ6 1 _ rfl
      have r0 : World.cell? (w5.setCell ⟨Z, 0, none⟩ (.string nm5)) ⟨w.heap.size, 0, none⟩ = some (.string ⟨#[]⟩) := LV.cell bR6 0 _ rfl
      have r1 : World.cell? (w5.setCell ⟨Z, 0, none⟩ (.string nm5)) ⟨w.heap.size, 1, none⟩ = some (.slice none 0 0) := LV.cell bR6 1 _ rfl
      have f0 := LV.free bR6 0
      have f1 := LV.free bR6 1
      have gf := (G.set g6 (X := w.heap.size) hlt (Nat.le_refl _) 0 (.string nm5)).set (X := w.heap.size) hlt (Nat.le_refl _) 1 (.slice (some ⟨gb, 0, none⟩) xs.length cap)
      have Hof : Hid (Own rSft (Off b) w.heap.size 131 ((World.setCell (w5.setCell ⟨Z, 0, none⟩ (.string nm5)) ⟨w.heap.size, 0, none⟩ (.string nm5)).setCell ⟨w.heap.size, 1, none⟩ (.slice (some ⟨gb, 0, none⟩) xs.length cap)) (.slice (some ⟨gb, 0, none⟩) xs.length cap) (xs)) := (Own.setCell (Ho6.out) (Own.ne (Ho6.out) bR6 (by decide)) flatSft 0 _).setCell (Own.ne (Ho6.out) bR6 (by decide)) flatSft 1 _
      clear bZ6 bR6 g6
      go_wp2_with fail
      exact bodyPost_ret (v := .agg #[.string nm5, .slice (some ⟨gb, 0, none⟩) xs.length cap]) (by simp [results, Tryz.results33, go_sem, r0, r1]) rfl ⟨nm5, _, xs, rfl, by omega, Hof.out, by omega, early_small Hea.out, gf.mono (by omega)⟩
    · have h40' : (r4 == 0) = false := by simpa using h40
      by_cases h41 : r4 = 1
      · subst h41
        clear h40 h40'
        have c5 : w4.cell? ⟨Z, 1, none⟩ = some (.slice (some ⟨gb, 0, none⟩) xs.length cap) := bZ4.cell 1 _ rfl
        have f5 := bZ4.free 1
        have g6 := g4.set (X := Z) (by omega) (by omega) 1 (.slice none 0 0)
        have bR6 := bR4.other (Y := Z) (by omega) 1 (.slice none 0 0)
        have bZ6 := bZ4.set 1 (.slice none 0 0) #[.string nm, .slice none 0 0] rfl
        have Ho6 := Lib.hid (Own.nil rSft (Off b) w.heap.size 131 (w4.setCell ⟨Z, 1, none⟩ (.slice none 0 0)))
        clear g4 bR4 bZ4 Ho4
        have hlen9 := True.intro
        have z0 : World.cell? (w4.setCell ⟨Z, 1, none⟩ (.slice none 0 0)) ⟨Z, 0, none⟩ = some (.string nm) := LV.cell bZ6 0 _ rfl
        have z1 : World.cell? (w4.setCell ⟨Z, 1, none⟩ (.slice none 0 0)) ⟨Z, 1, none⟩ = some (.slice none 0 0) := LV.cell bZ6 1 _ rfl
        have r0 : World.cell? (w4.setCell ⟨Z, 1, none⟩ (.slice none 0 0)) ⟨w.heap.size, 0, none⟩ = some (.string ⟨#[]⟩) := LV.cell bR6 0 _ rfl
        have r1 : World.cell? (w4.setCell ⟨Z, 1, none⟩ (.slice none 0 0)) ⟨w.heap.size, 1, none⟩ = some (.slice none 0 0) := LV.cell bR6 1 _ rfl
        have f0 := LV.free bR6 0
        have f1 := LV.free bR6 1
        have gf := (G.set g6 (X := w.heap.size) hlt (Nat.le_refl _) 0 (.string nm)).set (X := w.heap.size) hlt (Nat.le_refl _) 1 (.slice none 0 0)
        have Hof : Hid (Own rSft (Off b) w.heap.size 131 ((World.setCell (w4.setCell ⟨Z, 1, none⟩ (.slice none 0 0)) ⟨w.heap.size, 0, none⟩ (.string nm)).setCell ⟨w.heap.size, 1, none⟩ (.slice none 0 0)) (.slice none 0 0) (([] : List Sft))) := (Own.setCell (Ho6.out) (Own.ne (Ho6.out) bR6 (by decide)) flatSft 0 _).setCell (Own.ne (Ho6.out) bR6 (by decide)) flatSft 1 _
        clear bZ6 bR6 g6
        go_wp2_with fail
        exact bodyPost_ret (v := .agg #[.string nm, .slice none 0 0]) (by simp [results, Tryz.results33, go_sem, r0, r1]) rfl ⟨nm, _, ([] : List Sft), rfl, by omega, Hof.out, by simp, (fun s hs => by cases hs), gf.mono (by omega)⟩
      · have h41' : (r4 == 1) = false := by simpa using h41
        by_cases h42 : r4 = 2
        · subst h42
          clear h40 h40' h41 h41'
          go_wp2_with fail
          refine wp_region_mix (fun w' => LV w' Z #[.string nm, .slice (some ⟨gb, 0, none⟩) xs.length cap] 66) [(true, 0), (true, 1), (true, 2), (false, 3), (false, 4), (true, 5), (true, 6), (false, 7)] (by kernel_rfl) (by kernel_rfl) (fun w' hd => LV.kb bZ4 (hd.below _) bZ4.lt) (fun KK hKK wd hd => ?_)
          have g6 := g4.below (hd.below _)
          have bR6 := LV.kb bR4 (hd.below _) bR4.lt
          have bZ6 := LV.kb bZ4 (hd.below _) bZ4.lt
          have Ho6 := Lib.hid (Ho4.out.stepB (SK.ofBelow (hd.below _)) hlt)
          clear hd g4 bR4 bZ4 Ho4
          repeat (refine mix_p rfl (fun K hK => ?_); go_simp; (try go_bits); (try simp (disch := omega) only [if_pos]); (try simp (disch := omega) only [if_neg]); (try simp (disch := omega) only [dif_pos]); (try simp (disch := omega) only [dif_neg]); (try go_simp); (refine hK _ ?_; clear hK K))
          refine mix_load (.slice (some ⟨gb, 0, none⟩) xs.length cap) rfl rfl rfl rfl (fun _ => rfl) (fun w' h => h.cell 1 _ rfl) ?_
          repeat (refine mix_p rfl (fun K hK => ?_); go_simp; (try go_bits); (try simp (disch := omega) only [if_pos]); (try simp (disch := omega) only [if_neg]); (try simp (disch := omega) only [dif_pos]); (try simp (disch := omega) only [dif_neg]); (try go_simp); (refine hK _ ?_; clear hK K))
          refine mix_l rfl (fun K hK => ?_) bZ6
          go_wp2_with fail
          refine ⟨bZ6.alloc _, ?_⟩
          refine mix_l rfl (fun K2 hK2 => ?_) (bZ6.alloc _)
          go_wp2_with fail
          ((with_reducible refine (pick_le b _ _ _ (-1) 1 g6.s (by first | rfl | simp) (by first | rfl | simp) (intsIn_of (by decide)) (by simp) (by simp) (by omega)).mono ?_); rintro e w7 ⟨d7, d7_lo, d7_hi, rfl, hk_w7, hs_w7⟩)
          have g7 := g6.step hk_w7 hs_w7
          have bR7 := LV.keep bR6 hk_w7 (by omega)
          have bZ7 := LV.keep bZ6 hk_w7 (by omega)
          have Ho7 := Lib.hid (Ho6.out.stepB hk_w7 hlt)
          have hne1 := Lib.hid (Ho7.out.ne bZ7 (by decide))
          have hne2 := Lib.hid (Ho7.out.ne bR7 (by decide))
          clear hk_w7 hs_w7 g6 bR6 bZ6 Ho6
          go_wp2_with fail
          refine ⟨bZ7, ?_⟩
          have hx1' : 0 < xs.length := hx1
          repeat (refine mix_p rfl (fun K hK => ?_); go_simp; (try go_bits); (try simp (disch := omega) only [if_pos]); (try simp (disch := omega) only [if_neg]); (try simp (disch := omega) only [dif_pos]); (try simp (disch := omega) only [dif_neg]); (try go_simp); (refine hK _ ?_; clear hK K))
          refine mix_l rfl (fun K3 hK3 => ?_) bZ7
          match xs, hx1, hx2, Hea, Ho7, bZ7 with
          | s :: r, hx1, hx2, Hea, Ho7, bZ7 =>
          obtain ⟨c7, f7⟩ := Ho7.out.first rfl
          have hgZ : gb ≠ Z := fun e => hne1.out (by rw [e]; rfl)
          have hgR : gb ≠ w.heap.size := fun e => hne2.out (by rw [e]; rfl)
          have g8 := g7.set (X := gb) (by omega) (by omega) 0 (.int .i64 d7)
          have bR8 := bR7.other (Y := gb) (Ne.symm hgR) 0 (.int .i64 d7)
          have bZ8 := bZ7.other (Y := gb) (Ne.symm hgZ) 0 (.int .i64 d7)
          have Ho8 := Lib.hid (Ho7.out.stored0 d7 rfl)
          clear g7 bR7 bZ7 Ho7 hne1 hne2
          go_wp2_with fail
          refine ⟨bZ8, ?_⟩
          refine mix_nil ?_
          simp only [Exit.then]
          refine hKK _ _ ?_
          have hlen9 := True.intro
          have z0 : World.cell? (w7.setCell ⟨gb, 0, none⟩ (.int .i64 d7)) ⟨Z, 0, none⟩ = some (.string nm) := LV.cell bZ8 0 _ rfl
          have z1 : World.cell? (w7.setCell ⟨gb, 0, none⟩ (.int .i64 d7)) ⟨Z, 1, none⟩ = some (.slice (some ⟨gb, 0, none⟩) (s :: r).length cap) := LV.cell bZ8 1 _ rfl
          have r0 : World.cell? (w7.setCell ⟨gb, 0, none⟩ (.int .i64 d7)) ⟨w.heap.size, 0, none⟩ = some (.string ⟨#[]⟩) := LV.cell bR8 0 _ rfl
          have r1 : World.cell? (w7.setCell ⟨gb, 0, none⟩ (.int .i64 d7)) ⟨w.heap.size, 1, none⟩ = some (.slice none 0 0) := LV.cell bR8 1 _ rfl
          have f0 := LV.free bR8 0
          have f1 := LV.free bR8 1
          have gf := (G.set g8 (X := w.heap.size) hlt (Nat.le_refl _) 0 (.string nm)).set (X := w.heap.size) hlt (Nat.le_refl _) 1 (.slice (some ⟨gb, 0, none⟩) (s :: r).length cap)
          have Hof : Hid (Own rSft (Off b) w.heap.size 131 ((World.setCell (w7.setCell ⟨gb, 0, none⟩ (.int .i64 d7)) ⟨w.heap.size, 0, none⟩ (.string nm)).setCell ⟨w.heap.size, 1, none⟩ (.slice (some ⟨gb, 0, none⟩) (s :: r).length cap)) (.slice (some ⟨gb, 0, none⟩) (s :: r).length cap) ((⟨d7, s.off⟩ :: r))) := (Own.setCell (Ho8.out) (Own.ne (Ho8.out) bR8 (by decide)) flatSft 0 _).setCell (Own.ne (Ho8.out) bR8 (by decide)) flatSft 1 _
          clear bZ8 bR8 g8
          go_wp2_with fail
          exact bodyPost_ret (v := .agg #[.string nm, .slice (some ⟨gb, 0, none⟩) (s :: r).length cap]) (by simp [results, Tryz.results33, go_sem, r0, r1]) rfl ⟨nm, _, (⟨d7, s.off⟩ :: r), rfl, by omega, Hof.out, by simp at hx2 ⊢; omega, (fun t ht => by rcases List.mem_cons.1 ht with rfl | ht; exact ⟨by show (-10000000000000 : Int) ≤ d7; omega, by show d7 ≤ 10000000000000; omega⟩; exact early_small Hea.out t (List.mem_cons_of_mem _ ht)), gf.mono (by omega)⟩
        · have h42' : (r4 == 2) = false := by simpa using h42
          obtain ⟨n1, hn1⟩ : ∃ n1, xs.length = n1 + 1 := ⟨xs.length - 1, by omega⟩
          obtain ⟨la, hla⟩ : ∃ la, xs[n1]? = some la := ⟨_, List.getElem?_eq_getElem (by omega)⟩
          have hlb := Hea.out la (List.mem_of_getElem? hla)
          have Hla := Lib.hid (flat_last xs n1 la hla)
          clear hla
          go_wp2_with fail
          have hcell : ∀ {w' : World}, Own rSft (Off b) w.heap.size 131 w' (.slice (some ⟨gb, 0, none⟩) xs.length cap) xs → w'.cell? ⟨gb, n1 * 2, none⟩ = some (.int .i64 la.at') := fun {w'} h => by
            obtain ⟨ls, hl, hr, ho⟩ := h
            have hls : ls = xs.map Sft.cells := by
              apply List.ext_getElem?
              intro k
              rw [List.getElem?_map]
              rcases Nat.lt_or_ge k xs.length with hk | hk
              · have e1 : xs[k]? = some xs[k] := List.getElem?_eq_getElem hk
                have e2 : ls[k]? = some (ls[k]'(by omega)) := List.getElem?_eq_getElem (by omega)
                rw [e1, e2, (flatSft _ _ _ _).1 (hr k _ _ e1 e2)]
                rfl
              · rw [List.getElem?_eq_none hk, List.getElem?_eq_none (by omega)]
                rfl
            subst hls
            have := ho.cells (g := gb) rfl _ _ Hla.out
            rwa [add_at, Nat.zero_add] at this
          refine wp_region_mixL 21 (fun w' => LV w' Z #[.string nm, .slice (some ⟨gb, 0, none⟩) xs.length cap] 66 ∧ w'.cell? ⟨gb, n1 * 2, none⟩ = some (.int .i64 la.at')) [(true, 0), (true, 1), (true, 2), (true, 3), (true, 4), (true, 5), (true, 6), (true, 7), (true, 8), (true, 9), (true, 10), (true, 11), (true, 15), (false, 12), (false, 13), (true, 14), (false, 16), (true, 17), (false, 18), (false, 19), (true, 20), (false, 21)] (by kernel_rfl) (by kernel_rfl) (fun w' hd => ⟨LV.kb bZ4 (hd.below _) bZ4.lt, hcell (Ho4.out.stepB (SK.ofBelow (hd.below _)) hlt)⟩) (fun KK hKK wd hd => ?_)
          have g6 := g4.below (hd.below _)
          have bR6 := LV.kb bR4 (hd.below _) bR4.lt
          have bZ6 := LV.kb bZ4 (hd.below _) bZ4.lt
          have Ho6 := Lib.hid (Ho4.out.stepB (SK.ofBelow (hd.below _)) hlt)
          have e6 := hcell Ho6.out
          clear hd g4 bR4 bZ4 Ho4
          have hn2 : ((xs.length : Int) - 1) = (n1 : Int) := by omega
          repeat (refine mixL_p rfl (fun K hK => ?_); go_simp; (try go_bits); (try simp (disch := omega) only [if_pos]); (try simp (disch := omega) only [if_neg]); (try simp (disch := omega) only [dif_pos]); (try simp (disch := omega) only [dif_neg]); (try go_simp); (refine hK _ ?_; clear hK K))
          refine mixL_load (.slice (some ⟨gb, 0, none⟩) xs.length cap) rfl rfl rfl rfl (fun _ => rfl) (fun w' h => h.1.cell 1 _ rfl) ?_
          repeat (refine mixL_p rfl (fun K hK => ?_); go_simp; (try go_bits); (try simp (disch := omega) only [if_pos]); (try simp (disch := omega) only [if_neg]); (try simp (disch := omega) only [dif_pos]); (try simp (disch := omega) only [dif_neg]); (try go_simp); (refine hK _ ?_; clear hK K))
          refine mixL_load (.slice (some ⟨gb, 0, none⟩) xs.length cap) rfl rfl rfl rfl (fun _ => rfl) (fun w' h => h.1.cell 1 _ rfl) ?_
          repeat (refine mixL_p rfl (fun K hK => ?_); go_simp; (try go_bits); (try simp (disch := omega) only [if_pos]); (try simp (disch := omega) only [if_neg]); (try simp (disch := omega) only [dif_pos]); (try simp (disch := omega) only [dif_neg]); (try go_simp); (refine hK _ ?_; clear hK K))
          refine mixL_load (.slice (some ⟨gb, 0, none⟩) xs.length cap) rfl rfl rfl rfl (fun _ => rfl) (fun w' h => h.1.cell 1 _ rfl) ?_
          repeat (refine mixL_p rfl (fun K hK => ?_); go_simp; (try go_bits); (try simp (disch := omega) only [if_pos]); (try simp (disch := omega) only [if_neg]); (try simp (disch := omega) only [dif_pos]); (try simp (disch := omega) only [dif_neg]); (try go_simp); (refine hK _ ?_; clear hK K))
          refine mixL_load (.int .i64 la.at') rfl rfl rfl rfl (fun _ => rfl) (fun w' h => h.2) ?_
          repeat (refine mixL_p rfl (fun K hK => ?_); go_simp; (try go_bits); (try simp (disch := omega) only [if_pos]); (try simp (disch := omega) only [if_neg]); (try simp (disch := omega) only [dif_pos]); (try simp (disch := omega) only [dif_neg]); (try go_simp); (refine hK _ ?_; clear hK K))
          refine mixL_l rfl (fun K hK => ?_) ⟨bZ6, e6⟩
          go_wp2_with fail
          refine ⟨fun _ => ⟨bZ6.alloc _, hcell (Ho6.out.alloc _ hlt)⟩, ?_⟩
          refine mixL_l rfl (fun K2 hK2 => ?_) ⟨bZ6.alloc _, hcell (Ho6.out.alloc _ hlt)⟩
          go_wp2_with fail
          ((with_reducible refine (pick_le b _ _ _ 0 1800 g6.s (by first | rfl | simp) (by first | rfl | simp) (intsIn_of (by decide)) (by simp) (by simp) (by omega)).mono ?_); rintro e w7 ⟨d7, d7_lo, d7_hi, rfl, hk_w7, hs_w7⟩)
          have g7 := g6.step hk_w7 hs_w7
          have bR7 := LV.keep bR6 hk_w7 (by omega)
          have bZ7 := LV.keep bZ6 hk_w7 (by omega)
          have Ho7 := Lib.hid (Ho6.out.stepB hk_w7 hlt)
          have e7 := hcell Ho7.out
          clear hk_w7 hs_w7 g6 bR6 bZ6 Ho6 e6
          go_wp2_with fail
          refine ⟨fun _ => ⟨bZ7, e7⟩, ?_⟩
          repeat (refine mixL_p rfl (fun K hK => ?_); go_simp; (try go_bits); (try simp (disch := omega) only [if_pos]); (try simp (disch := omega) only [if_neg]); (try simp (disch := omega) only [dif_pos]); (try simp (disch := omega) only [dif_neg]); (try go_simp); (refine hK _ ?_; clear hK K))
          refine mixL_l rfl (fun K3 hK3 => ?_) ⟨bZ7, e7⟩
          go_wp2_with fail
          ((with_reducible refine (odd_any b _ _ _ _ g7.s (by omega) (by omega) (by omega) (by omega)).mono ?_); rintro e w8 ⟨o8, o8_lo, o8_hi, rfl, hk_w8, hs_w8⟩)
          have g8 := g7.step hk_w8 hs_w8
          have bR8 := LV.keep bR7 hk_w8 (by omega)
          have bZ8 := LV.keep bZ7 hk_w8 (by omega)
          have Ho8 := Lib.hid (Ho7.out.stepB hk_w8 hlt)
          have e8 := hcell Ho8.out
          have hz8 := g8.size
          clear hk_w8 hs_w8 g7 bR7 bZ7 Ho7 e7
          go_wp2_with fail
          refine ⟨fun _ => ⟨bZ8, e8⟩, ?_⟩
          repeat (refine mixL_p rfl (fun K hK => ?_); go_simp; (try go_bits); (try simp (disch := omega) only [if_pos]); (try simp (disch := omega) only [if_neg]); (try simp (disch := omega) only [dif_pos]); (try simp (disch := omega) only [dif_neg]); (try go_simp); (refine hK _ ?_; clear hK K))
          refine mixL_l rfl (fun K4 hK4 => ?_) ⟨bZ8, e8⟩
          go_wp2_with fail
          refine ⟨fun _ => ⟨bZ8.alloc _, hcell (Ho8.out.alloc _ hlt)⟩, ?_⟩
          refine mixL_l rfl (fun K5 hK5 => ?_) ⟨bZ8.alloc _, hcell (Ho8.out.alloc _ hlt)⟩
          refine app_flat3 (w0 := w8) flatSft tySft rfl _ _ rfl (Off b) w.heap.size gb cap xs ⟨la.at' + d7, o8⟩ _ (by rw [hn1]; rfl) Ho8.out rfl rfl (oneSft _) (by omega) (by omega) (by decide) ?_
          intro v' w9 ho9 hl9 hg9 hc9
          clear hn1 hn2
          have bZ9 := bZ8.grown hg9 (Ho8.out.ne bZ8 (by decide))
          have bR9 := bR8.grown hg9 (Ho8.out.ne bR8 (by decide))
          have g9 := g8.belowB hl9 hlt
          have Ho9 := Lib.hid ho9
          have e9 := hc9 _ _ Hla.out
          clear ho9 hl9 hg9 bZ8 bR8 g8 Ho8 hc9 e8
          go_wp2_with fail
          refine ⟨fun _ => ⟨bZ9, e9⟩, ?_⟩
          repeat (refine mixL_p rfl (fun K hK => ?_); go_simp; (try go_bits); (try simp (disch := omega) only [if_pos]); (try simp (disch := omega) only [if_neg]); (try simp (disch := omega) only [dif_pos]); (try simp (disch := omega) only [dif_neg]); (try go_simp); (refine hK _ ?_; clear hK K))
          refine mixL_l rfl (fun K6 hK6 => ?_) ⟨bZ9, e9⟩
          obtain ⟨A9, c9, e9'⟩ := Ho9.out.len
          obtain rfl : v' = .slice A9 (xs.length + 1) c9 := by rw [e9']; simp
          clear e9' e9
          have z9 := bZ9.free 1
          have z9c : w9.cell? ⟨Z, 1, none⟩ = some (.slice (some ⟨gb, 0, none⟩) xs.length cap) := bZ9.cell 1 _ rfl
          have bZ10 := bZ9.set 1 (.slice A9 (xs.length + 1) c9) #[.string nm, .slice A9 (xs.length + 1) c9] rfl
          have bR10 := bR9.other (Y := Z) (by omega) 1 (.slice A9 (xs.length + 1) c9)
          have g10 := g9.set (X := Z) (by omega) (by omega) 1 (.slice A9 (xs.length + 1) c9)
          have Ho10 := Lib.hid (Ho9.out.setCell (Ho9.out.ne bZ9 (by decide)) flatSft 1 (.slice A9 (xs.length + 1) c9))
          have hxl : (xs ++ [(⟨la.at' + d7, o8⟩ : Sft)]).length ≤ 5 := by simp; omega
          have Hxs := Lib.hid (small_snoc (s := ⟨la.at' + d7, o8⟩) (early_small Hea.out) ⟨by show (-10000000000000 : Int) ≤ la.at' + d7; omega, by show la.at' + d7 ≤ 10000000000000; omega⟩)
          clear g9 bR9 bZ9 Ho9
          generalize xs ++ [(⟨la.at' + d7, o8⟩ : Sft)] = ys at *
          go_wp2_with fail
          refine ⟨fun h => absurd rfl h, ?_⟩
          refine mixL_nil ?_
          simp only [Exit.then]
          refine hKK _ _ ?_
          clear z9 z9c
          generalize w9.setCell ⟨Z, 1, none⟩ (.slice A9 (xs.length + 1) c9) = w10 at *
          have hlen9 := True.intro
          have z0 : World.cell? w10 ⟨Z, 0, none⟩ = some (.string nm) := LV.cell bZ10 0 _ rfl
          have z1 : World.cell? w10 ⟨Z, 1, none⟩ = some (.slice A9 (xs.length + 1) c9) := LV.cell bZ10 1 _ rfl
          have r0 : World.cell? w10 ⟨w.heap.size, 0, none⟩ = some (.string ⟨#[]⟩) := LV.cell bR10 0 _ rfl
          have r1 : World.cell? w10 ⟨w.heap.size, 1, none⟩ = some (.slice none 0 0) := LV.cell bR10 1 _ rfl
          have f0 := LV.free bR10 0
          have f1 := LV.free bR10 1
          have gf := (G.set g10 (X := w.heap.size) hlt (Nat.le_refl _) 0 (.string nm)).set (X := w.heap.size) hlt (Nat.le_refl _) 1 (.slice A9 (xs.length + 1) c9)
          have Hof : Hid (Own rSft (Off b) w.heap.size 131 ((World.setCell w10 ⟨w.heap.size, 0, none⟩ (.string nm)).setCell ⟨w.heap.size, 1, none⟩ (.slice A9 (xs.length + 1) c9)) (.slice A9 (xs.length + 1) c9) (ys)) := (Own.setCell (Ho10.out) (Own.ne (Ho10.out) bR10 (by decide)) flatSft 0 _).setCell (Own.ne (Ho10.out) bR10 (by decide)) flatSft 1 _
          clear bZ10 bR10 g10
          go_wp2_with fail
          exact bodyPost_ret (v := .agg #[.string nm, .slice A9 (xs.length + 1) c9]) (by simp [results, Tryz.results33, go_sem, r0, r1]) rfl ⟨nm, _, ys, rfl, by omega, Hof.out, hxl, Hxs.out, gf.mono (by omega)⟩
end Go.Proofs.YthlcdepjmoddnaaGreatDoor

/- What handref2.ZoneFault returns. -/
namespace Go.Proofs.YthlcdepjmoddnaaGreatDoor
open Go.RowKit
set_option maxHeartbeats 4000000 in
set_option maxRecDepth 100000 in
theorem refZone_any (N : Nat → Prop) (A : Option Addr) (nm : ByteArray) (xs : List Sft) (c : Nat) (w : World) (hS : Sl rSft N w A xs) (hnm : nm.size ≤ 1000000000) (hn : xs.length ≤ 1000000000) (hsm : ∀ s ∈ xs, s.small) :
    Calls Tryz.prog 36 #[.agg #[.string nm, .slice A xs.length c]] w fun e w' => e = .returned (.int .i64 (zoneFault nm xs)) ∧ Below w.heap.size w w' := by
  have Hkey : Hid (∀ w, Calls Tryz.prog 75 #[.string nm] w fun e w' => e = .returned (.bool (L.isKey nm)) ∧ Below w.heap.size w w') := fun w => Key_any nm w hnm
  have HS := Lib.hid hS
  have Hsm := Lib.hid hsm
  clear hS hsm
  obtain ⟨R, HR⟩ : ∃ R, Hid (zoneFault nm xs = R) := ⟨_, Lib.hid rfl⟩
  rw [HR.out]
  have Hb0 : Hid (Below w.heap.size w (w.alloc (.cells #[.string nm, .slice A xs.length c] 66))) := (Below.refl _ _).alloc (Nat.le_refl _) _
  have lvZ := LV.new w w.heap.size #[.string nm, .slice A xs.length c] 66 rfl
  by_cases hK : L.isKey nm = true
  · rw [hK] at Hkey
    go_enter Tryz.func36, Tryz.ntmps36
    go_wp2_with fail
    ((with_reducible refine (Hkey.out _).mono ?_); rintro e w1 ⟨rfl, hl_w1⟩)
    have hz_w1 := hl_w1.size
    have lv1 := LV.kb lvZ hl_w1 (by simp)
    have Hb1 : Hid (Below w.heap.size w w1) := Hb0.out.trans (hl_w1.mono (by simp))
    have hz1 := Hb1.out.size
    have hlt1 := lv1.lt
    have z1 := lv1.cell 1 _ rfl
    clear hl_w1 hz_w1 lvZ Hb0 Hkey
    by_cases h0 : xs.length = 0
    · have h0' : ((xs.length : Int) == 0) = true := by simpa using h0
      have HR2 : Hid (3 = R) := by show _ = _; rw [← HR.out, zoneFault, hK, if_neg (by simp), if_pos h0]
      clear HR
      go_wp2_with fail
      go_ret
      exact ⟨ret_i HR2.out, Hb1.out⟩
    · have h0' : ((xs.length : Int) == 0) = false := by simpa using h0
      by_cases h100 : 100 < xs.length
      · have HR2 : Hid (2 = R) := by show _ = _; rw [← HR.out, zoneFault, hK, if_neg (by simp), if_neg h0, if_pos h100]
        clear HR
        go_wp2_with fail
        go_ret
        exact ⟨ret_i HR2.out, Hb1.out⟩
      · have HR2 : Hid (shiftsGo none xs = R) := by show _ = _; rw [← HR.out, zoneFault, hK, if_neg (by simp), if_neg h0, if_neg h100]
        clear HR hK
        go_wp2_with fail
        go_loopw [23] (fun i wr => ∃ k : Nat, k ≤ xs.length ∧ i = .int .i64 k ∧ shiftsGo (if k = 0 then none else (xs[k - 1]?).map Sft.at') (xs.drop k) = R ∧ Below w1.heap.size w1 wr) (fun i _ => xs.length - (intOf i).toNat)
        case atStart => exact ⟨0, Nat.zero_le _, rfl, HR2.out, Below.refl _ _⟩
        case round =>
          clear HR2
          obtain ⟨k, hk, rfl, hr, hbl⟩ := hrel
          have Hr := Lib.hid hr
          have Hbl := Lib.hid hbl
          have hszr := hbl.size
          have lvr := LV.kb lv1 hbl lv1.lt
          have zr := lvr.cell 1 _ rfl
          have Hbw : Hid (Below w.heap.size w wr) := Hb1.out.trans (hbl.mono Hb1.out.size)
          clear hr hbl z1 lv1
          by_cases hlt : k < xs.length
          · obtain ⟨s, hs⟩ : ∃ s, xs[k]? = some s := ⟨_, List.getElem?_eq_getElem hlt⟩
            obtain ⟨blk, off, rfl, hblk, c0, c1⟩ := HS.out.sft k s hs
            have d0 := (Hbw.out.cell (p := ⟨blk, off + k * 2, none⟩) hblk).trans c0
            have d1 := (Hbw.out.cell (p := ⟨blk, off + k * 2 + 1, none⟩) hblk).trans c1
            have hss := Hsm.out s (List.mem_of_getElem? hs)
            unfold Sft.small at hss
            have Hs := Lib.hid hs
            have Hstep : Hid (shiftsGo (if k = 0 then none else (xs[k - 1]?).map Sft.at') (s :: xs.drop (k + 1)) = R) := by
              show _ = _
              rw [← Hr.out, List.drop_eq_getElem_cons hlt]
              have : xs[k] = s := by simpa [List.getElem?_eq_getElem hlt] using Hs.out
              rw [this]
            clear Hr c0 c1 hs
            have Hb2 : Hid (Below w1.heap.size w1 (wr.alloc (.cells #[.int .i64 s.at', .int .i64 s.off] 131))) := Hbl.out.alloc Hbl.out.size _
            have Hbw2 : Hid (Below w.heap.size w (wr.alloc (.cells #[.int .i64 s.at', .int .i64 s.off] 131))) := Hbw.out.alloc Hbw.out.size _
            by_cases ha : 0 ≤ s.at' ∧ s.at' ≤ 4321439
            · have ea : decide ((0 : Int) ≤ s.at' ∧ s.at' ≤ 4321439) = true := by simpa using ha
              by_cases ho : -720 ≤ s.off ∧ s.off ≤ 840
              · have eo : decide ((-720 : Int) ≤ s.off ∧ s.off ≤ 840) = true := by simpa using ho
                go_wp2_with fail
                ((with_reducible refine (in_any _ _ _ _).mono ?_); rintro e _ ⟨rfl, rfl⟩)
                rw [ea]
                go_wp2_with fail
                ((with_reducible refine (in_any _ _ _ _).mono ?_); rintro e _ ⟨rfl, rfl⟩)
                rw [eo]
                clear ea eo d0 d1 zr
                have lvs := LV.new wr wr.heap.size #[.int .i64 s.at', .int .i64 s.off] 131 rfl
                have lvz2 := lvr.alloc (.cells #[.int .i64 s.at', .int .i64 s.off] 131)
                clear lvr
                generalize wr.alloc (.cells #[.int .i64 s.at', .int .i64 s.off] 131) = wq at *
                have s0 : wq.cell? ⟨wr.heap.size, 0, none⟩ = some (.int .i64 s.at') := lvs.cell 0 _ rfl
                have z1 : wq.cell? ⟨w.heap.size, 1, none⟩ = some (.slice (some ⟨blk, off, none⟩) xs.length c) := lvz2.cell 1 _ rfl
                clear lvs lvz2
                by_cases hk0 : k = 0
                · have hk1 : decide ((0 : Int) < (k : Int)) = false := by simp; omega
                  have hk2 : ((k : Int) == 0) = true := by simp; omega
                  by_cases hz : s.at' = 0
                  · have hz' : (s.at' == 0) = true := by simpa using hz
                    have Hn : Hid (shiftsGo (if k + 1 = 0 then none else (xs[k + 1 - 1]?).map Sft.at') (xs.drop (k + 1)) = R) := by
                      show _ = _
                      rw [← Hstep.out, if_pos hk0, shiftsGo_zero s _ ⟨ha, ho⟩ hz, if_neg (Nat.succ_ne_zero k), Nat.add_sub_cancel, Hs.out]
                      rfl
                    clear Hstep hz
                    go_wp2_with fail
                    go_quiet (fail)
                    go_wp2_with fail
                    go_roundw
                    case rel => exact ⟨k + 1, by omega, by go_num, Hn.out, Hb2.out.trans (below_drewN _ _ _)⟩
                    case measure => simp [intOf]; omega
                  · have hz' : (s.at' == 0) = false := by simpa using hz
                    have Hn : Hid (3 = R) := by
                      show _ = _
                      rw [← Hstep.out, if_pos hk0, shiftsGo_first s _ ⟨ha, ho⟩ hz]
                    clear Hstep hz
                    go_wp2_with fail
                    go_ret
                    exact ⟨ret_i Hn.out, Hbw2.out⟩
                · obtain ⟨j, rfl⟩ : ∃ j, k = j + 1 := ⟨k - 1, by omega⟩
                  obtain ⟨p, hp⟩ : ∃ p, xs[j]? = some p := ⟨_, List.getElem?_eq_getElem (by omega)⟩
                  obtain ⟨_, _, e, _, p0, _⟩ := HS.out.sft j p hp
                  cases e
                  have q0 : wq.cell? ⟨blk, off + j * 2, none⟩ = some (.int .i64 p.at') := (Hbw2.out.cell (p := ⟨blk, off + j * 2, none⟩) hblk).trans p0
                  have hps := Hsm.out p (List.mem_of_getElem? hp)
                  unfold Sft.small at hps
                  have Hp := Lib.hid hp
                  have hk1 : decide ((0 : Int) < (j : Int) + 1) = true := by rw [decide_eq_true_eq]; omega
                  have hk2 : ((j : Int) + 1 == 0) = false := by rw [beq_eq_false_iff_ne]; omega
                  have hk3 : (j : Int) + 1 - 1 = (j : Int) := by omega
                  have hsum : IntKind.i64.wrap (p.at' + 1800) = p.at' + 1800 := IntWalk.i64_in _ (by omega)
                  have Hn0 : Hid ((if s.at' < p.at' + 1800 then 7 else shiftsGo (some s.at') (xs.drop (j + 1 + 1))) = R) := by
                    show _ = _
                    rw [← Hstep.out, if_neg (Nat.succ_ne_zero j), Nat.add_sub_cancel, Hp.out]
                    exact (shiftsGo_next p.at' s _ ⟨ha, ho⟩).symm
                  clear Hstep hp p0 hk0
                  by_cases hlt7 : s.at' < p.at' + 1800
                  · have Hn : Hid (7 = R) := by show _ = _; rw [← Hn0.out, if_pos hlt7]
                    clear Hn0
                    go_wp2_with fail
                    go_quiet (fail)
                    go_wp2_with fail
                    go_ret
                    exact ⟨ret_i Hn.out, Hbw2.out.trans (below_drewN _ _ _)⟩
                  · have Hn : Hid (shiftsGo (if j + 1 + 1 = 0 then none else (xs[j + 1 + 1 - 1]?).map Sft.at') (xs.drop (j + 1 + 1)) = R) := by
                      show _ = _
                      rw [← Hn0.out, if_neg hlt7, if_neg (Nat.succ_ne_zero _), Nat.add_sub_cancel, Hs.out]
                      rfl
                    clear Hn0
                    go_wp2_with fail
                    go_quiet (fail)
                    go_wp2_with fail
                    go_roundw
                    case rel => exact ⟨j + 1 + 1, by omega, by go_num, Hn.out, Hb2.out.trans (below_drewN _ _ _)⟩
                    case measure => simp [intOf]; omega
              · have eo : decide ((-720 : Int) ≤ s.off ∧ s.off ≤ 840) = false := by simpa using ho
                have Hn : Hid (1 = R) := by show _ = _; rw [← Hstep.out, shiftsGo_rng _ s _ (fun h => ho h.2)]
                clear Hstep
                go_wp2_with fail
                ((with_reducible refine (in_any _ _ _ _).mono ?_); rintro e _ ⟨rfl, rfl⟩)
                rw [ea]
                go_wp2_with fail
                ((with_reducible refine (in_any _ _ _ _).mono ?_); rintro e _ ⟨rfl, rfl⟩)
                rw [eo]
                go_wp2_with fail
                go_ret
                exact ⟨ret_i Hn.out, Hbw2.out⟩
            · have ea : decide ((0 : Int) ≤ s.at' ∧ s.at' ≤ 4321439) = false := by simpa using ha
              have Hn : Hid (1 = R) := by show _ = _; rw [← Hstep.out, shiftsGo_rng _ s _ (fun h => ha h.1)]
              clear Hstep
              go_wp2_with fail
              ((with_reducible refine (in_any _ _ _ _).mono ?_); rintro e _ ⟨rfl, rfl⟩)
              rw [ea]
              go_wp2_with fail
              go_ret
              exact ⟨ret_i Hn.out, Hbw2.out⟩
          · have Hn : Hid (0 = R) := by show _ = _; rw [← Hr.out, List.drop_eq_nil_of_le (by omega)]; rfl
            clear Hr
            go_wp2_with fail
            go_ret
            exact ⟨ret_i Hn.out, Hbw.out⟩
  · have hK : L.isKey nm = false := by simpa using hK
    rw [hK] at Hkey
    go_enter Tryz.func36, Tryz.ntmps36
    go_wp2_with fail
    ((with_reducible refine (Hkey.out _).mono ?_); rintro e w1 ⟨rfl, hl_w1⟩)
    have hz_w1 := hl_w1.size
    have Hb1 : Hid (Below w.heap.size w w1) := Hb0.out.trans (hl_w1.mono (by simp))
    clear lvZ hl_w1 hz_w1
    go_wp2_with fail
    go_ret
    exact ⟨ret_i (by rw [← HR.out, zoneFault, hK, if_pos rfl]), Hb1.out⟩
end Go.Proofs.YthlcdepjmoddnaaGreatDoor

/- Slices of numbers that a call makes and writes. -/
namespace Go.Proofs.YthlcdepjmoddnaaGreatDoor
open Go Go.RowKit
theorem tyIntP : STy 22 3 rInt.size 8 (.int .i64 0) := ⟨Tryz.underlying22, by kernel_rfl, rfl, by decide⟩
theorem madeI (n : Nat) : madeCells (Value.int .i64 0).cells ((n : Int).toNat * rInt.size) = (List.replicate n (Value.int .i64 0)).toArray := by
  rw [Int.toNat_natCast, show n * rInt.size = n by simp [rInt, Rep.flat]]
  apply Array.ext
  · simp [madeCells]
  · intro i h1 h2
    simp [madeCells, Value.cells, Nat.mod_one]
theorem makeI (n : Nat) (hn : n ≤ 1000000) (w : World) : (Instr.makeSlice 22 (.int .i64 n) (.int .i64 n)).run Tryz.prog w = .ok (.slice (some ⟨w.heap.size, 0, none⟩) n n) (w.alloc (.cells (Array.replicate n (Value.int .i64 0)) 3)) := by
  obtain ⟨i, hi, hz0, hz1, hz2⟩ := info_parts tyIntP.info
  have h := run_makeSlice (P := Tryz.prog) w 22 3 i _ tyIntP.under hi hz0 .i64 .i64 n n (by omega) (by omega) (by rw [hz1, Int.toNat_natCast, show n * rInt.size = n by simp [rInt, Rep.flat]]; omega) (by rw [hz2]; omega) (by omega)
  rw [hz1, madeI n, Int.toNat_natCast, List.toArray_replicate] at h
  exact h
theorem put_mid {a b : List Int} {v v' : Int} {j : Nat} (h : a.length = j) : (a ++ v :: b).set j v' = a ++ v' :: b := by
  subst h
  rw [List.set_append_right _ _ (Nat.le_refl _), Nat.sub_self, List.set_cons_zero]
theorem get_mid {a b : List Int} {v : Int} {j : Nat} (h : a.length = j) : (a ++ v :: b)[j]? = some v := by
  subst h
  rw [List.getElem?_append_right (Nat.le_refl _), Nat.sub_self]; rfl
/-- a number of a slice of the call's own is written -/
theorem Mem.putI {w0 w : World} {cs : List Chunk} (S : Mem w0 w cs) (i : Nat) {B E g n cap : Nat} {xs : List Int} (hi : cs[i]? = some (.own rInt B E (.slice (some ⟨g, 0, none⟩) n cap) xs)) (hn : n = xs.length) (k : Nat) (x x' : Int) (hx : xs[k]? = some x) : Mem w0 (w.setCell ⟨g, k, none⟩ (.int .i64 x')) (cs.set i (.own rInt B E (.slice (some ⟨g, 0, none⟩) n cap) (xs.set k x'))) := by
  have := S.put flatInt i hi hn k x x' hx 0 (by decide) (.int .i64 x') rfl
  rw [show k * rInt.size + 0 = k by simp [rInt, Rep.flat]] at this
  exact this
theorem Own.intAt {M : Nat → Prop} {B E g n cap : Nat} {w : World} {xs : List Int} (h : Own rInt M B E w (.slice (some ⟨g, 0, none⟩) n cap) xs) (hn : n = xs.length) (k : Nat) (x : Int) (hk : xs[k]? = some x) : w.cell? ⟨g, k, none⟩ = some (.int .i64 x) ∧ w.frozen? ⟨g, k, none⟩ = false := by
  have := h.cellP flatInt hn k x hk 0 _ rfl
  rw [show k * rInt.size + 0 = k by simp [rInt, Rep.flat]] at this
  exact this
end Go.Proofs.YthlcdepjmoddnaaGreatDoor

/- Numbers in a slice of the call's own: sorted, and made single. -/
namespace Go.Proofs.YthlcdepjmoddnaaGreatDoor
open Go Go.RowKit Go.Sort
theorem Own.holdsI {M : Nat → Prop} {B E g n cap : Nat} {w : World} {xs : List Int} (h : Own rInt M B E w (.slice (some ⟨g, 0, none⟩) n cap) xs) (hn : n = xs.length) : Holds (Value.int .i64) w g 0 xs.toArray := fun j hj => by
  have hj' : j < xs.length := by simpa using hj
  have := Own.cellP flatInt h hn j xs[j] (List.getElem?_eq_getElem hj') 0 (.int .i64 xs[j]) rfl
  rw [show j * rInt.size + 0 = 0 + j by simp [rInt, Rep.flat]] at this
  rw [getElem!_pos xs.toArray j hj]
  exact this
theorem putRow_int (w : World) (g : Nat) (ts : List Int) : putRow (Value.int .i64) w g 0 ts.toArray = putRowK (fun n : Int => [Value.int .i64 n]) 1 w g 0 ts.toArray := by
  unfold putRowK putRow
  congr 1
  funext cur
  unfold putCells
  congr 1
  funext k v
  rw [size_flatK, Nat.mul_one]
  by_cases h : 0 ≤ k ∧ k < 0 + ts.toArray.size
  · rw [if_pos h, if_pos h, get_flatK _ _ _ _ (by simpa using h.2)]
    simp [Nat.mod_one]
  · rw [if_neg h, if_neg h]
theorem sortWorld_int (w : World) (g m : Nat) (ts : List Int) (os : Array Obj) : grow (putRow (Value.int .i64) (Sort.ahead w m) g 0 ts.toArray) os = sortWorldK (fun n : Int => [Value.int .i64 n]) 1 w g 0 m ts.toArray os := by
  unfold sortWorldK
  rw [putRow_int]
/-- in order -/
def srtI (xs : List Int) : List Int := xs.mergeSort fun x y => decide (x ≤ y)
theorem srtI_len (xs : List Int) : (srtI xs).length = xs.length := List.length_mergeSort xs
end Go.Proofs.YthlcdepjmoddnaaGreatDoor

/- slices.Equal of the same numbers. -/
namespace Go.Proofs.YthlcdepjmoddnaaGreatDoor
open Go Go.RowKit
theorem Sl.intAt {N : Nat → Prop} {w : World} {A : Option Addr} {xs : List Int} (h : Sl rInt N w A xs) (h0 : xs ≠ []) : ∃ b o, A = some ⟨b, o, none⟩ ∧ ∀ j, j < xs.length → w.cell? ⟨b, o + j, none⟩ = some (.int .i64 (xs.getD j 0)) := by
  cases xs with
  | nil => exact absurd rfl h0
  | cons x r =>
    obtain ⟨b, o, l, e, _, _, _, _⟩ := h 0 x rfl
    refine ⟨b, o, e, fun j hj => ?_⟩
    obtain ⟨b2, o2, l2, e2, _, _, hr, hc⟩ := h j (x :: r)[j] (List.getElem?_eq_getElem hj)
    rw [e] at e2
    cases e2
    obtain rfl : l2 = [.int .i64 (x :: r)[j]] := hr
    have := hc 0 _ rfl
    rw [show o + j * rInt.size + 0 = o + j by simp [rInt, Rep.flat]] at this
    rw [this, List.getD_eq_getElem?_getD, List.getElem?_eq_getElem hj]
    rfl
theorem eqInt_any (N : Nat → Prop) (A A2 : Option Addr) (xs : List Int) (c c2 : Nat) (w : World) (h1 : Sl rInt N w A xs) (h2 : Sl rInt N w A2 xs) (hl : xs.length ≤ 1000000000) :
    Calls Tryz.prog 37 #[.slice A xs.length c, .slice A2 xs.length c2] w fun e w' => e = .returned (.bool true) ∧ Below w.heap.size w w' := by
  by_cases h0 : xs = []
  · subst h0
    refine (Tryz.slices_Equal_int_empty A A2 c 0 c2 w (by decide)).mono ?_
    rintro e w' ⟨rfl, rfl⟩
    exact ⟨rfl, Below.refl _ _⟩
  · obtain ⟨b, o, rfl, hc⟩ := h1.intAt h0
    obtain ⟨b2, o2, rfl, hc2⟩ := h2.intAt h0
    refine (Tryz.slices_Equal_int b o xs.length c b2 o2 xs.length c2 xs xs w (Nat.le_refl _) (Nat.le_refl _) (by omega) (by omega) hc hc2).mono ?_
    rintro e w' ⟨rfl, q, rfl⟩
    exact ⟨by simp, below_drewN _ _ _⟩
end Go.Proofs.YthlcdepjmoddnaaGreatDoor

/- What event.Series and handref2.SeriesOf return. -/
namespace Go.Proofs.YthlcdepjmoddnaaGreatDoor
open Go Go.RowKit
def serStep (name : ByteArray) (zs : List Sft) (fr to' : Int) (out : List Int) (e : Evt) : List Int := if e.name = name ∧ fr ≤ dayIn (clk zs e.at') ∧ dayIn (clk zs e.at') ≤ to' then out.set (dayIn (clk zs e.at') - fr).toNat (out.getD (dayIn (clk zs e.at') - fr).toNat 0 + 1) else out
def serAns (l : List Evt) (name : ByteArray) (zs : List Sft) (fr to' : Int) : List Int := l.foldl (serStep name zs fr to') (List.replicate (to' - fr + 1).toNat 0)
theorem serStep_yes {name : ByteArray} {zs : List Sft} {fr to' : Int} {out : List Int} {e : Evt} {j : Nat} {v : Int} (hn : e.name = name) (hd : dayIn (clk zs e.at') = fr + j) (hj : fr + j ≤ to') (hv : out[j]? = some v) : serStep name zs fr to' out e = out.set j (v + 1) := by
  unfold serStep
  rw [hd, if_pos ⟨hn, by omega, hj⟩, show (fr + (j : Int) - fr).toNat = j by omega, List.getD_eq_getElem?_getD, hv]
  rfl
theorem serStep_no {name : ByteArray} {zs : List Sft} {fr to' : Int} {out : List Int} {e : Evt} (h : e.name ≠ name ∨ ¬ (fr ≤ dayIn (clk zs e.at') ∧ dayIn (clk zs e.at') ≤ to')) : serStep name zs fr to' out e = out := by
  unfold serStep
  rw [if_neg (fun h2 => h.elim (fun h => h h2.1) (fun h => h h2.2))]
theorem in_set {out : List Int} {j : Nat} {v k : Int} (h : ∀ z ∈ out, 0 ≤ z ∧ z ≤ k) (hv : out[j]? = some v) : ∀ z ∈ out.set j (v + 1), 0 ≤ z ∧ z ≤ k + 1 := fun z hz => by
  have h1 := h v (List.mem_of_getElem? hv)
  rcases List.mem_or_eq_of_mem_set hz with hz | rfl
  · have := h z hz; omega
  · omega
def GivesI (xs : List Int) (w : World) (e : Ending) (w' : World) : Prop := ∃ v, e = .returned v ∧ Mem w w' [.own rInt w.heap.size 3 v xs]
def GivesIE (xs : List Int) (F : Int) (w : World) (e : Ending) (w' : World) : Prop := ∃ v, e = .returned (.tuple #[v, .int .i64 F]) ∧ Mem w w' [.own rInt w.heap.size 3 v xs]
set_option maxHeartbeats 8000000 in
set_option maxRecDepth 100000 in
theorem seriesOf_any (N : Nat → Prop) (A Az : Option Addr) (xs : List Evt) (zs : List Sft) (c cz : Nat) (name nm : ByteArray) (fr to' : Int) (w : World) (hS : Sl rEvt N w A xs) (hG : GoodEvs xs) (hZ : Sl rSft N w Az zs) (hz : GoodZ zs) (_h1 : 0 ≤ fr) (h2 : fr ≤ to') (h3 : to' ≤ 3000) (h4 : to' - fr + 1 ≤ 800) :
    Calls Tryz.prog 38 #[.slice A xs.length c, .string name, .agg #[.string nm, .slice Az zs.length cz], .int .i64 fr, .int .i64 to'] w (GivesI (serAns xs name zs fr to') w) := by
  have HSl := Lib.hid (fun w' (h : Below w.heap.size w w') => hS.keepB h)
  have HG := Lib.hid hG
  have hlen := hG.len
  have Hday := Lib.hid (fun (m : Int) (hm : 0 ≤ m ∧ m ≤ 4321439) w' (h : Below w.heap.size w w') => dayOf_any N Az nm zs cz m w' (hZ.keepB h) hz (by omega))
  have Hin := Lib.hid (fun (n a b : Int) w' => in_any n a b w')
  have S : Mem w (w.alloc (.cells #[.string nm, .slice Az zs.length cz] 66)) [.loc w.heap.size #[.string nm, .slice Az zs.length cz] 66] := (Mem.start w).new' _ _
  clear hS hG hZ hz
  obtain ⟨n, hn⟩ : ∃ n : Nat, to' = fr + n := ⟨(to' - fr).toNat, by omega⟩
  subst hn
  obtain ⟨R, HR⟩ : ∃ R, Hid (xs.foldl (serStep name zs fr (fr + n)) (List.replicate (n + 1) 0) = R) := ⟨_, Lib.hid rfl⟩
  rw [show serAns xs name zs fr (fr + n) = R by rw [← HR.out, serAns, show (fr + (n : Int) - fr + 1).toNat = n + 1 by omega]]
  have hwn : IntKind.i64.wrap (fr + (n : Int) - fr) = n := by rw [show fr + (n : Int) - fr = n by omega]; exact IntWalk.i64_in _ (by omega)
  have hwn1 : IntKind.i64.wrap ((n : Int) + 1) = ((n + 1 : Nat) : Int) := by rw [IntWalk.i64_in _ (by omega)]; rfl
  obtain ⟨Zb, hZb⟩ : ∃ Zb, Zb = w.heap.size := ⟨_, rfl⟩
  rw [← hZb] at S
  go_enter Tryz.func38, Tryz.ntmps38
  go_upto_region 1 with fail
  rw [← hZb]
  clear hZb
  generalize w.alloc (.cells #[.string nm, .slice Az zs.length cz] 66) = w3 at *
  have hmk : (Instr.makeSlice 22 (.int .i64 ((n : Int) + 1)) (.int .i64 ((n : Int) + 1))).run Tryz.prog w3 = .ok (.slice (some ⟨w3.heap.size, 0, none⟩) (n + 1) (n + 1)) (w3.alloc (.cells (Array.replicate (n + 1) (Value.int .i64 0)) 3)) := makeI (n + 1) (by omega) w3
  go_upto_region 2 with fail
  clear hmk
  obtain ⟨Z, hZ⟩ : ∃ Z, Z = w3.heap.size := ⟨_, rfl⟩
  replace S := (S.newAt (Array.replicate (n + 1) (Value.int .i64 0)) 3 Z hZ).asOwn flatInt 1 rfl (List.replicate (n + 1) 0) (by simp) (by simp [rInt, Rep.flat]) (by simp; omega) rfl (n + 1) (by simp)
  replace S : Mem w (w3.alloc (.cells (Array.replicate (n + 1) (Value.int .i64 0)) 3)) [.loc Zb #[.string nm, .slice Az zs.length cz] 66, .own rInt w.heap.size 3 (.slice (some ⟨Z, 0, none⟩) (n + 1) (n + 1)) (List.replicate (n + 1) 0)] := S
  rw [← hZ]
  clear hZ
  generalize w3.alloc (.cells (Array.replicate (n + 1) (Value.int .i64 0)) 3) = w4 at *
  go_wp2_with fail
  go_loopw [14, 22] (fun _ i wr => ∃ (k : Nat) (out : List Int), k ≤ xs.length ∧ i = .int .i64 k ∧ Hid (out.length = n + 1) ∧ Hid ((xs.drop k).foldl (serStep name zs fr (fr + n)) out = R) ∧ Hid (∀ z ∈ out, 0 ≤ z ∧ z ≤ k) ∧ Mem w wr [.loc Zb #[.string nm, .slice Az zs.length cz] 66, .own rInt w.heap.size 3 (.slice (some ⟨Z, 0, none⟩) (n + 1) (n + 1)) out]) (fun _ i _ => xs.length - (intOf i).toNat)
  case atStart => exact ⟨0, List.replicate (n + 1) 0, Nat.zero_le _, rfl, List.length_replicate, HR, (fun z hz => by rw [(List.mem_replicate.1 hz).2]; exact ⟨Int.le_refl _, Int.le_refl _⟩), S⟩
  case round =>
    clear S HR
    obtain ⟨k, out, hk, rfl, HOl, HR, HO, S⟩ := hrel
    by_cases hlt : k < xs.length
    · obtain ⟨x, hx⟩ : ∃ x, xs[k]? = some x := ⟨_, List.getElem?_eq_getElem hlt⟩
      have hxr := HG.out.range (List.mem_of_getElem? hx)
      obtain ⟨blk, off, Af, cf, rfl, hblk, d0, d1, d2, d3, d4, d5, hst⟩ := (HSl.out wr S.b).evt k x hx
      have HR2 : Hid ((xs.drop (k + 1)).foldl (serStep name zs fr (fr + n)) (serStep name zs fr (fr + n) out x) = R) := by show _ = _; rw [← HR.out, drop_at3 hx]; rfl
      clear hx HR hst
      have z0 := (S.lv 0 rfl).all
      go_upto_region 5 with fail
      clear d0 d1 d2 d3 d4 d5 z0
      obtain ⟨Y, hY⟩ : ∃ Y, Y = wr.heap.size := ⟨_, rfl⟩
      replace S := S.newAt (evCs x Af cf) 32 Y hY
      replace S : Mem w (wr.alloc (.cells (evCs x Af cf) 32)) [.loc Zb #[.string nm, .slice Az zs.length cz] 66, .own rInt w.heap.size 3 (.slice (some ⟨Z, 0, none⟩) (n + 1) (n + 1)) out, .loc Y (evCs x Af cf) 32] := S
      rw [← hY]
      clear hY
      generalize wr.alloc (.cells (evCs x Af cf) 32) = w5 at *
      have z0 := (S.lv 0 rfl).all
      have y0 := (S.lv 2 rfl).all
      have Hd := Lib.hid (Hday.out x.at' ⟨hxr.1, hxr.2⟩ w5 S.b)
      obtain ⟨d, HD⟩ : ∃ d, Hid (dayIn (clk zs x.at') = d) := ⟨_, Lib.hid rfl⟩
      rw [HD.out] at Hd
      go_wp2_with fail
      ((with_reducible refine (Hd.out).mono ?_); rintro e w6 ⟨rfl, hl6⟩)
      replace S := S.below hl6
      clear Hd hl6 z0 y0
      have y0 := (S.lv 2 rfl).all
      have Hi := Lib.hid (Hin.out d fr (fr + n) w6)
      by_cases hnm2 : x.name = name
      · have hnb : (x.name.toList == name.toList) = true := by rw [hnm2]; exact beq_self_eq_true _
        by_cases hdr : fr ≤ d ∧ d ≤ fr + n
        · obtain ⟨j, hj⟩ : ∃ j : Nat, d = fr + j := ⟨(d - fr).toNat, by omega⟩
          subst hj
          obtain ⟨v, hv⟩ : ∃ v, out[j]? = some v := ⟨_, List.getElem?_eq_getElem (by rw [HOl.out]; omega)⟩
          have hvr := HO.out v (List.mem_of_getElem? hv)
          have HR3 : Hid ((xs.drop (k + 1)).foldl (serStep name zs fr (fr + n)) (out.set j (v + 1)) = R) := by show _ = _; rw [← HR2.out, serStep_yes hnm2 HD.out hdr.2 hv]
          have HO3 : Hid (∀ z ∈ out.set j (v + 1), 0 ≤ z ∧ z ≤ ((k + 1 : Nat) : Int)) := by
            show ∀ z ∈ _, _
            have := in_set HO.out hv
            exact this
          have HOl3 : Hid ((out.set j (v + 1)).length = n + 1) := by show _ = _; rw [List.length_set]; exact HOl.out
          obtain ⟨cj, fj⟩ := (S.ow 1 rfl).intAt HOl.out.symm j v hv
          have HS4 := Lib.hid (S.putI 1 rfl HOl.out.symm j v (v + 1) hv)
          have hwj : IntKind.i64.wrap (fr + (j : Int) - fr) = j := by rw [show fr + (j : Int) - fr = j by omega]; exact IntWalk.i64_in _ (by omega)
          have hwv : IntKind.i64.wrap (v + 1) = v + 1 := IntWalk.i64_in _ (by omega)
          have hjn : j < n + 1 := by omega
          rw [decide_eq_true hdr] at Hi
          clear S HR2 HO HOl hv hdr hnm2
          go_wp2_with fail
          ((with_reducible refine (Hi.out).mono ?_); rintro e _ ⟨rfl, rfl⟩)
          go_wp2_with fail
          go_roundw
          case rel => exact ⟨k + 1, out.set j (v + 1), by omega, by go_num, HOl3, HR3, HO3, HS4.out.del 2⟩
          case measure => simp [intOf]; omega
        · have HR3 : Hid ((xs.drop (k + 1)).foldl (serStep name zs fr (fr + n)) out = R) := by show _ = _; rw [← HR2.out, serStep_no (.inr (by rw [HD.out]; exact hdr))]
          rw [decide_eq_false hdr] at Hi
          clear HR2 hdr hnm2
          go_wp2_with fail
          ((with_reducible refine (Hi.out).mono ?_); rintro e _ ⟨rfl, rfl⟩)
          go_wp2_with fail
          go_roundw
          case rel => exact ⟨k + 1, out, by omega, by go_num, HOl, HR3, (fun z hz => by have := HO.out z hz; omega), S.del 2⟩
          case measure => simp [intOf]; omega
      · have hnb : (x.name.toList == name.toList) = false := Bool.eq_false_iff.2 (fun h => hnm2 (beqS.1 h))
        have HR3 : Hid ((xs.drop (k + 1)).foldl (serStep name zs fr (fr + n)) out = R) := by show _ = _; rw [← HR2.out, serStep_no (.inl hnm2)]
        clear HR2 hnm2 Hi
        go_wp2_with fail
        go_roundw
        case rel => exact ⟨k + 1, out, by omega, by go_num, HOl, HR3, (fun z hz => by have := HO.out z hz; omega), S.del 2⟩
        case measure => simp [intOf]; omega
    · have he : out = R := by rw [← HR.out, List.drop_eq_nil_of_le (by omega)]; rfl
      subst he
      clear HR
      go_wp2_with fail
      go_ret
      exact ⟨_, rfl, S.del 0⟩
def serErr (l : List Evt) (name nm : ByteArray) (zs : List Sft) (fr to' : Int) : Int := if namedErr l [name] 0 0 ≠ 0 then namedErr l [name] 0 0 else if zoneFault nm zs ≠ 0 then zoneFault nm zs else if fr < 0 then 1 else if to' < fr then 1 else if 3000 < to' then 1 else if 800 < to' - fr + 1 then 2 else 0
def serAll (l : List Evt) (name nm : ByteArray) (zs : List Sft) (fr to' : Int) : List Int := if serErr l name nm zs fr to' = 0 then serAns l name zs fr to' else []
set_option maxHeartbeats 8000000 in
set_option maxRecDepth 100000 in
theorem series_any (N : Nat → Prop) (A Az : Option Addr) (xs : List Evt) (zs : List Sft) (c cz : Nat) (name nm : ByteArray) (fr to' : Int) (w : World) (hS : Sl rEvt N w A xs) (hok : EvsOk xs) (hT : Tabs w) (hM : MaxL w) (hZ : Sl rSft N w Az zs) (hnm : nm.size ≤ 1000000000) (hname : name.size ≤ 1000000000) (hzn : zs.length ≤ 1000000000) (hsm : ∀ s ∈ zs, s.small) (hfr : -100000 ≤ fr ∧ fr ≤ 100000) (hto : -100000 ≤ to' ∧ to' ≤ 100000) :
    Calls Tryz.prog 35 #[.slice A xs.length c, .string name, .agg #[.string nm, .slice Az zs.length cz], .int .i64 fr, .int .i64 to'] w (GivesIE (serAll xs name nm zs fr to') (serErr xs name nm zs fr to') w) := by
  have HSl := Lib.hid (fun w' (h : Below w.heap.size w w') => hS.keepB h)
  have Hday := Lib.hid (fun (hz : GoodZ zs) (m : Int) (hm : 0 ≤ m ∧ m ≤ 4321439) w' (h : Below w.heap.size w w') => dayAt_any N Az nm zs cz m w' (hZ.keepB h) hz (by omega))
  have Hin := Lib.hid (fun (n a b : Int) w' => ewithin_any n a b w')
  have Hcz := Lib.hid (fun w' (h : Below w.heap.size w w') => checkZone_any N Az nm zs cz w' (hZ.keepB h) hnm hzn hsm)
  have Hcn := Lib.hid (fun X w' (h : Below w.heap.size w w') (hX : LV w' X #[.string name] 9) => checkNamed_any N A xs c 0 0 [name] X 1 w' (hS.keepB h) hok (Utf8Tabs_below hT h) (hM.below h) rfl hX (by simp) (by simpa using hname))
  have S : Mem w (w.alloc (.cells #[.string nm, .slice Az zs.length cz] 66)) [.loc w.heap.size #[.string nm, .slice Az zs.length cz] 66] := (Mem.start w).new' _ _
  clear hS hZ hok hT hM hsm
  obtain ⟨Fn, HFn⟩ : ∃ Fn, Hid (namedErr xs [name] 0 0 = Fn) := ⟨_, Lib.hid rfl⟩
  obtain ⟨Fz, HFz⟩ : ∃ Fz, Hid (zoneFault nm zs = Fz) := ⟨_, Lib.hid rfl⟩
  obtain ⟨F, HF⟩ : ∃ F, Hid (serErr xs name nm zs fr to' = F) := ⟨_, Lib.hid rfl⟩
  obtain ⟨R, HR⟩ : ∃ R, Hid (serAll xs name nm zs fr to' = R) := ⟨_, Lib.hid rfl⟩
  rw [HR.out, HF.out]
  unfold serAll at HR
  rw [HF.out] at HR
  unfold serErr at HF
  rw [HFn.out, HFz.out] at HF
  rw [HFn.out] at Hcn
  rw [HFz.out] at Hcz
  obtain ⟨Zb, hZb⟩ : ∃ Zb, Zb = w.heap.size := ⟨_, rfl⟩
  rw [← hZb] at S
  go_enter Tryz.func35, Tryz.ntmps35
  go_upto_region 1 with fail
  rw [← hZb]
  clear hZb
  generalize w.alloc (.cells #[.string nm, .slice Az zs.length cz] 66) = w1 at *
  have z0 := (S.lv 0 rfl).all
  have Hcn1 := Lib.hid (Hcn.out w1.heap.size (w1.alloc (.cells #[.string name] 9)) (S.alloc _).b (LV.new w1 w1.heap.size #[.string name] 9 rfl))
  replace S := S.alloc (.cells #[.string name] 9)
  clear Hcn z0
  go_wp2_with fail
  ((with_reducible refine (Hcn1.out).mono ?_); rintro e w2 ⟨rfl, hl2⟩)
  replace S := S.below hl2
  clear Hcn1 hl2
  by_cases hn0 : Fn = 0
  · subst hn0
    rw [if_neg (not_not_intro rfl)] at HF
    have Hz1 := Lib.hid (Hcz.out w2 S.b)
    have z0 := (S.lv 0 rfl).all
    clear Hcz
    go_wp2_with fail
    ((with_reducible refine (Hz1.out).mono ?_); rintro e w3 ⟨rfl, hl3⟩)
    replace S := S.below hl3
    clear Hz1 hl3 z0
    by_cases hz0 : Fz = 0
    · subst hz0
      rw [if_neg (not_not_intro rfl)] at HF
      have HG := Lib.hid (evs_good (namedErr_zero HFn.out).1)
      have hlen := HG.out.len
      replace Hday := Lib.hid (Hday.out (zone_good HFz.out))
      by_cases g1 : fr < 0
      · rw [if_pos g1] at HF
        have hFv := HF.out
        subst hFv
        rw [if_neg (by first | decide | assumption)] at HR
        obtain rfl : [] = R := HR.out
        have HSe := Lib.hid ((S.del 0).nil rInt w.heap.size 3)
        clear HF HR S
        go_wp2_with fail
        go_ret2
        exact ⟨_, rfl, HSe.out⟩
      · rw [if_neg g1] at HF
        by_cases g2 : to' < fr
        · rw [if_pos g2] at HF
          have hFv := HF.out
          subst hFv
          rw [if_neg (by first | decide | assumption)] at HR
          obtain rfl : [] = R := HR.out
          have HSe := Lib.hid ((S.del 0).nil rInt w.heap.size 3)
          clear HF HR S
          go_wp2_with fail
          go_ret2
          exact ⟨_, rfl, HSe.out⟩
        · rw [if_neg g2] at HF
          by_cases g3 : 3000 < to'
          · rw [if_pos g3] at HF
            have hFv := HF.out
            subst hFv
            rw [if_neg (by first | decide | assumption)] at HR
            obtain rfl : [] = R := HR.out
            have HSe := Lib.hid ((S.del 0).nil rInt w.heap.size 3)
            clear HF HR S
            go_wp2_with fail
            go_ret2
            exact ⟨_, rfl, HSe.out⟩
          · rw [if_neg g3] at HF
            obtain ⟨n, hn⟩ : ∃ n : Nat, to' = fr + n := ⟨(to' - fr).toNat, by omega⟩
            subst hn
            have hwn : IntKind.i64.wrap (fr + (n : Int) - fr) = n := by rw [show fr + (n : Int) - fr = n by omega]; exact IntWalk.i64_in _ (by omega)
            have hwn1 : IntKind.i64.wrap ((n : Int) + 1) = ((n + 1 : Nat) : Int) := by rw [IntWalk.i64_in _ (by omega)]; rfl
            by_cases g4 : 800 < fr + (n : Int) - fr + 1
            · rw [if_pos g4] at HF
              have g5 : 800 < n + 1 := by omega
              clear g4
              have hFv := HF.out
              subst hFv
              rw [if_neg (by first | decide | assumption)] at HR
              obtain rfl : [] = R := HR.out
              have HSe := Lib.hid ((S.del 0).nil rInt w.heap.size 3)
              clear HF HR S
              go_wp2_with fail
              go_ret2
              exact ⟨_, rfl, HSe.out⟩
            · rw [if_neg g4] at HF
              have g5 : ¬ 800 < n + 1 := by omega
              obtain rfl : 0 = F := HF.out
              rw [if_pos rfl] at HR
              replace HR : Hid (xs.foldl (serStep name zs fr (fr + n)) (List.replicate (n + 1) 0) = R) := by
                show _ = _
                rw [← HR.out, serAns, show (fr + (n : Int) - fr + 1).toNat = n + 1 by omega]
              clear g4 HF HFn HFz
              have hmk : (Instr.makeSlice 22 (.int .i64 ((n : Int) + 1)) (.int .i64 ((n : Int) + 1))).run Tryz.prog w3 = .ok (.slice (some ⟨w3.heap.size, 0, none⟩) (n + 1) (n + 1)) (w3.alloc (.cells (Array.replicate (n + 1) (Value.int .i64 0)) 3)) := makeI (n + 1) (by omega) w3
              go_upto_region 12 with fail
              clear hmk
              obtain ⟨Z, hZ⟩ : ∃ Z, Z = w3.heap.size := ⟨_, rfl⟩
              replace S := (S.newAt (Array.replicate (n + 1) (Value.int .i64 0)) 3 Z hZ).asOwn flatInt 1 rfl (List.replicate (n + 1) 0) (by simp) (by simp [rInt, Rep.flat]) (by simp; omega) rfl (n + 1) (by simp)
              replace S : Mem w (w3.alloc (.cells (Array.replicate (n + 1) (Value.int .i64 0)) 3)) [.loc Zb #[.string nm, .slice Az zs.length cz] 66, .own rInt w.heap.size 3 (.slice (some ⟨Z, 0, none⟩) (n + 1) (n + 1)) (List.replicate (n + 1) 0)] := S
              rw [← hZ]
              clear hZ
              generalize w3.alloc (.cells (Array.replicate (n + 1) (Value.int .i64 0)) 3) = w4 at *
              go_wp2_with fail
              go_loopw [17, 56] (fun _ i wr => ∃ (k : Nat) (out : List Int), k ≤ xs.length ∧ i = .int .i64 k ∧ Hid (out.length = n + 1) ∧ Hid ((xs.drop k).foldl (serStep name zs fr (fr + n)) out = R) ∧ Hid (∀ z ∈ out, 0 ≤ z ∧ z ≤ k) ∧ Mem w wr [.loc Zb #[.string nm, .slice Az zs.length cz] 66, .own rInt w.heap.size 3 (.slice (some ⟨Z, 0, none⟩) (n + 1) (n + 1)) out]) (fun _ i _ => xs.length - (intOf i).toNat)
              case atStart => exact ⟨0, List.replicate (n + 1) 0, Nat.zero_le _, rfl, List.length_replicate, HR, (fun z hz => by rw [(List.mem_replicate.1 hz).2]; exact ⟨Int.le_refl _, Int.le_refl _⟩), S⟩
              case round =>
                clear S HR
                obtain ⟨k, out, hk, rfl, HOl, HR, HO, S⟩ := hrel
                by_cases hlt : k < xs.length
                · obtain ⟨x, hx⟩ : ∃ x, xs[k]? = some x := ⟨_, List.getElem?_eq_getElem hlt⟩
                  have hxr := HG.out.range (List.mem_of_getElem? hx)
                  obtain ⟨blk, off, Af, cf, rfl, hblk, d0, d1, d2, d3, d4, d5, hst⟩ := (HSl.out wr S.b).evt k x hx
                  have HR2 : Hid ((xs.drop (k + 1)).foldl (serStep name zs fr (fr + n)) (serStep name zs fr (fr + n) out x) = R) := by show _ = _; rw [← HR.out, drop_at3 hx]; rfl
                  clear hx HR hst
                  have z0 := (S.lv 0 rfl).all
                  go_upto_region 15 with fail
                  clear d0 d1 d2 d3 d4 d5 z0
                  obtain ⟨Y, hY⟩ : ∃ Y, Y = wr.heap.size := ⟨_, rfl⟩
                  replace S := S.newAt (evCs x Af cf) 32 Y hY
                  replace S : Mem w (wr.alloc (.cells (evCs x Af cf) 32)) [.loc Zb #[.string nm, .slice Az zs.length cz] 66, .own rInt w.heap.size 3 (.slice (some ⟨Z, 0, none⟩) (n + 1) (n + 1)) out, .loc Y (evCs x Af cf) 32] := S
                  rw [← hY]
                  clear hY
                  generalize wr.alloc (.cells (evCs x Af cf) 32) = w5 at *
                  have z0 := (S.lv 0 rfl).all
                  have y0 := (S.lv 2 rfl).all
                  have Hd := Lib.hid (Hday.out x.at' ⟨hxr.1, hxr.2⟩ w5 S.b)
                  obtain ⟨d, HD⟩ : ∃ d, Hid (dayIn (clk zs x.at') = d) := ⟨_, Lib.hid rfl⟩
                  rw [HD.out] at Hd
                  go_wp2_with fail
                  ((with_reducible refine (Hd.out).mono ?_); rintro e w6 ⟨rfl, hl6⟩)
                  replace S := S.below hl6
                  clear Hd hl6 z0 y0
                  have y0 := (S.lv 2 rfl).all
                  have Hi := Lib.hid (Hin.out d fr (fr + n) w6)
                  by_cases hnm2 : x.name = name
                  · have hnb : (x.name.toList == name.toList) = true := by rw [hnm2]; exact beq_self_eq_true _
                    by_cases hdr : fr ≤ d ∧ d ≤ fr + n
                    · obtain ⟨j, hj⟩ : ∃ j : Nat, d = fr + j := ⟨(d - fr).toNat, by omega⟩
                      subst hj
                      obtain ⟨v, hv⟩ : ∃ v, out[j]? = some v := ⟨_, List.getElem?_eq_getElem (by rw [HOl.out]; omega)⟩
                      have hvr := HO.out v (List.mem_of_getElem? hv)
                      have HR3 : Hid ((xs.drop (k + 1)).foldl (serStep name zs fr (fr + n)) (out.set j (v + 1)) = R) := by show _ = _; rw [← HR2.out, serStep_yes hnm2 HD.out hdr.2 hv]
                      have HO3 : Hid (∀ z ∈ out.set j (v + 1), 0 ≤ z ∧ z ≤ ((k + 1 : Nat) : Int)) := by
                        show ∀ z ∈ _, _
                        have := in_set HO.out hv
                        exact this
                      have HOl3 : Hid ((out.set j (v + 1)).length = n + 1) := by show _ = _; rw [List.length_set]; exact HOl.out
                      obtain ⟨cj, fj⟩ := (S.ow 1 rfl).intAt HOl.out.symm j v hv
                      have HS4 := Lib.hid (S.putI 1 rfl HOl.out.symm j v (v + 1) hv)
                      have hwj : IntKind.i64.wrap (fr + (j : Int) - fr) = j := by rw [show fr + (j : Int) - fr = j by omega]; exact IntWalk.i64_in _ (by omega)
                      have hwv : IntKind.i64.wrap (v + 1) = v + 1 := IntWalk.i64_in _ (by omega)
                      have hjn : j < n + 1 := by omega
                      rw [decide_eq_true hdr] at Hi
                      clear S HR2 HO HOl hv hdr hnm2
                      go_wp2_with fail
                      ((with_reducible refine (Hi.out).mono ?_); rintro e _ ⟨rfl, rfl⟩)
                      go_wp2_with fail
                      go_roundw
                      case rel => exact ⟨k + 1, out.set j (v + 1), by omega, by go_num, HOl3, HR3, HO3, HS4.out.del 2⟩
                      case measure => simp [intOf]; omega
                    · have HR3 : Hid ((xs.drop (k + 1)).foldl (serStep name zs fr (fr + n)) out = R) := by show _ = _; rw [← HR2.out, serStep_no (.inr (by rw [HD.out]; exact hdr))]
                      rw [decide_eq_false hdr] at Hi
                      clear HR2 hdr hnm2
                      go_wp2_with fail
                      ((with_reducible refine (Hi.out).mono ?_); rintro e _ ⟨rfl, rfl⟩)
                      go_wp2_with fail
                      go_roundw
                      case rel => exact ⟨k + 1, out, by omega, by go_num, HOl, HR3, (fun z hz => by have := HO.out z hz; omega), S.del 2⟩
                      case measure => simp [intOf]; omega
                  · have hnb : (x.name.toList == name.toList) = false := Bool.eq_false_iff.2 (fun h => hnm2 (beqS.1 h))
                    have HR3 : Hid ((xs.drop (k + 1)).foldl (serStep name zs fr (fr + n)) out = R) := by show _ = _; rw [← HR2.out, serStep_no (.inl hnm2)]
                    clear HR2 hnm2 Hi
                    go_wp2_with fail
                    go_roundw
                    case rel => exact ⟨k + 1, out, by omega, by go_num, HOl, HR3, (fun z hz => by have := HO.out z hz; omega), S.del 2⟩
                    case measure => simp [intOf]; omega
                · have he : out = R := by rw [← HR.out, List.drop_eq_nil_of_le (by omega)]; rfl
                  subst he
                  clear HR
                  go_wp2_with fail
                  go_ret2
                  exact ⟨_, rfl, S.del 0⟩
    · rw [if_pos hz0] at HF
      have hz1 : (Fz != 0) = true := by simpa using hz0
      have hFv := HF.out
      subst hFv
      rw [if_neg (by first | decide | assumption)] at HR
      obtain rfl : [] = R := HR.out
      have HSe := Lib.hid ((S.del 0).nil rInt w.heap.size 3)
      clear HF HR S
      go_wp2_with fail
      go_ret2
      exact ⟨_, rfl, HSe.out⟩
  · rw [if_pos hn0] at HF
    have hn1 : (Fn != 0) = true := by simpa using hn0
    have hFv := HF.out
    subst hFv
    rw [if_neg (by first | decide | assumption)] at HR
    obtain rfl : [] = R := HR.out
    have HSe := Lib.hid ((S.del 0).nil rInt w.heap.size 3)
    clear HF HR S
    go_wp2_with fail
    go_ret2
    exact ⟨_, rfl, HSe.out⟩
end Go.Proofs.YthlcdepjmoddnaaGreatDoor

/- What the generator Name makes. -/
namespace Go.Proofs.YthlcdepjmoddnaaGreatDoor
open Go.RowKit
set_option maxHeartbeats 4000000 in
set_option maxRecDepth 100000 in
theorem evName_any (b m : Nat) (w : World) (hs : Strm b m w) (hm : m ≤ 100000000) :
    Calls Tryz.prog 27 #[.pointer (some ⟨b, 0, none⟩)] w (DrawsStr b (m + 2) 10 w) := by
  have S := St.start hs
  go_enter Tryz.func27, Tryz.ntmps27
  go_wp2_with fail
  ((with_reducible refine (flip_any b _ _ _ S.g.s (by omega) (by omega) (by omega)).mono ?_); rintro e w1 ⟨r1, rfl, hk_w1, hs_w1⟩)
  replace S := S.step hk_w1 hs_w1
  clear hk_w1 hs_w1
  cases r1
  · go_wp2_with fail
    ((with_reducible refine (one_le b _ _ _ (10) S.g.s (by first | rfl | simp) (by first | rfl | simp) (strsLe_of (by decide)) (by simp) (by simp) (by omega)).mono ?_); rintro e w2 ⟨s, s_le, rfl, hk_w2, hs_w2⟩)
    replace S := S.step hk_w2 hs_w2
    clear hk_w2 hs_w2
    go_wp2_with fail
    go_ret
    exact ⟨s, s_le, rfl, S.g.k, S.g.s.mono (by omega)⟩
  · go_wp2_with fail
    ((with_reducible refine (one_le b _ _ _ (10) S.g.s (by first | rfl | simp) (by first | rfl | simp) (strsLe_of (by decide)) (by simp) (by simp) (by omega)).mono ?_); rintro e w2 ⟨s, s_le, rfl, hk_w2, hs_w2⟩)
    replace S := S.step hk_w2 hs_w2
    clear hk_w2 hs_w2
    go_wp2_with fail
    go_ret
    exact ⟨s, s_le, rfl, S.g.k, S.g.s.mono (by omega)⟩
end Go.Proofs.YthlcdepjmoddnaaGreatDoor

/- The law EventSeries walked: it returns true, and nothing that was there has turned. -/
namespace Go.Proofs.YthlcdepjmoddnaaGreatDoor
open Go Go.RowKit
theorem serErr_is (xs : List Evt) (name nm : ByteArray) (zs : List Sft) (fr to' : Int) : serErr xs name nm zs fr to' = if firstErr [evsFault xs, namesErr [name], zoneFault nm zs] ≠ 0 then firstErr [evsFault xs, namesErr [name], zoneFault nm zs] else if fr < 0 then 1 else if to' < fr then 1 else if 3000 < to' then 1 else if 800 < to' - fr + 1 then 2 else 0 := by
  unfold serErr namedErr
  rw [show winErr 0 0 = 0 from rfl]
  simp only [firstErr]
  by_cases h1 : evsFault xs = 0 <;> by_cases h2 : namesErr [name] = 0 <;> by_cases h3 : zoneFault nm zs = 0 <;> simp [h1, h2, h3]
theorem first_three {a b c : Int} (h : firstErr [a, b, c] = 0) : a = 0 ∧ b = 0 ∧ c = 0 := by
  simp only [firstErr] at h
  by_cases h1 : a = 0 <;> by_cases h2 : b = 0 <;> by_cases h3 : c = 0 <;> simp_all
theorem loadAtZ {w : World} {X : Nat} {a b : Value} (h : LV w X #[a, b] 66) : (Instr.loadAt 66 (.pointer (some ⟨X, 0, none⟩))).run Tryz.prog w = .ok (.agg #[a, b]) w := by
  have c0 := h.all
  go_simp
theorem serStep_len (name : ByteArray) (zs : List Sft) (fr to' : Int) : ∀ (l : List Evt) (out : List Int), (l.foldl (serStep name zs fr to') out).length = out.length
  | [], _ => rfl
  | e :: r, out => by
    rw [List.foldl_cons, serStep_len name zs fr to' r]
    unfold serStep
    split
    · rw [List.length_set]
    · rfl
theorem serAns_len (l : List Evt) (name : ByteArray) (zs : List Sft) (fr to' : Int) : (serAns l name zs fr to').length = (to' - fr + 1).toNat := by
  unfold serAns
  rw [serStep_len, List.length_replicate]
set_option maxHeartbeats 16000000 in
set_option maxRecDepth 100000 in
theorem eventSeries_any (v : Value) (w : World) (hv : IntsIn v w) (hT : Tabs w) (hM : MaxL w) (hN : Names w) (hE : ENames w) (hP : Pool w) :
    Calls Tryz.prog 7 #[v] w fun e w' => e = .returned (.bool true) ∧ Below w.heap.size w w' := by
  obtain ⟨va, vn, vc, rfl⟩ : ∃ a n c, v = .slice a n c := by
    rcases hv with ⟨a, c, rfl⟩ | ⟨k, off, len, cap, rfl, _⟩
    · exact ⟨_, _, _, rfl⟩
    · exact ⟨_, _, _, rfl⟩
  have g0 := G.start (Strm.start hv)
  clear hv
  have S := St.start g0.s
  have hPn : 2 ≠ w.heap.size := Nat.ne_of_lt hP.lt
  have hNn : 1 ≠ w.heap.size := Nat.ne_of_lt hN.lt
  have hEn : 0 ≠ w.heap.size := Nat.ne_of_lt hE.lt
  have hb0 : Below w.heap.size w (w.alloc (.cells #[.slice va vn vc, .int .i64 0] 25)) := (Below.refl _ _).alloc (Nat.le_refl _) _
  have Hb0 := Lib.hid hb0
  have HTM : Hid (∀ w', Below w.heap.size w w' → Tabs w' ∧ MaxL w') := fun w' h => ⟨Utf8Tabs_below hT h, hM.below h⟩
  have HP := Lib.hid (hP.keep (b := w.heap.size) ((SK.refl _ w).alloc (.cells #[.slice va vn vc, .int .i64 0] 25)) hPn)
  have HN := Lib.hid (hN.keep (b := w.heap.size) ((SK.refl _ w).alloc (.cells #[.slice va vn vc, .int .i64 0] 25)) hNn)
  have HE := Lib.hid (hE.keep (b := w.heap.size) ((SK.refl _ w).alloc (.cells #[.slice va vn vc, .int .i64 0] 25)) hEn)
  have hw0 : w.heap.size ≤ (w.alloc (.cells #[.slice va vn vc, .int .i64 0] 25)).heap.size := by simp
  clear hP hM hN hE hT hb0
  go_enter Tryz.func7, Tryz.ntmps7
  go_wp2_with fail
  ((with_reducible refine (range_any w.heap.size _ _ _ _ S.g.s (by omega) (by omega) (by omega) (by omega)).mono ?_); rintro e w1 ⟨many, m_lo, m_hi, rfl, hk_w1, hs_w1⟩)
  replace S := S.step hk_w1 hs_w1
  clear hk_w1 hs_w1
  obtain ⟨n, rfl⟩ := Int.eq_ofNat_of_zero_le m_lo
  go_wp2_with fail
  ((with_reducible refine (some_any w.heap.size _ n _ S.g.s (by omega) (by omega) (HN.out.keep S.g.k hNn) hNn (HE.out.keep S.g.k hEn) hEn (HP.out.keep S.g.k hPn) hPn (fun w' h => HTM.out w' (Hb0.out.trans ((S.g.k.trans h).below (Nat.le_refl _) hw0)))).mono ?_); rintro e w2 ⟨A, c, xs, rfl, hxl, hxs, hc, T⟩)
  replace S := S.join T
  have Hxs := Lib.hid hxs
  have Hc0 := Lib.hid hc
  clear T hxs hc
  go_wp2_with fail
  ((with_reducible refine (evName_any w.heap.size _ _ S.g.s (by omega)).mono ?_); rintro e w3 ⟨name, name_le, rfl, hk_w3, hs_w3⟩)
  replace S := S.step hk_w3 hs_w3
  clear hk_w3 hs_w3
  go_wp2_with fail
  have hlt3 := S.g.s.lt
  ((with_reducible refine (zone_any w.heap.size _ _ S.g.s (by omega)).mono ?_); rintro e w4 ⟨nm, vz, zs, rfl, hnm, ho, hzl, hsm, gz⟩)
  obtain ⟨Az, cz, rfl, hZ⟩ := ho.toSl (off_ge' hlt3)
  replace S := S.step gz.k gz.s
  have Hsm := Lib.hid hsm
  have HZ := Lib.hid hZ
  clear ho gz hsm hZ hlt3
  go_wp2_with fail
  ((with_reducible refine (pick_le w.heap.size _ _ _ (-1) 2 S.g.s (by first | rfl | simp) (by first | rfl | simp) (intsIn_of (by decide)) (by simp) (by simp) (by omega)).mono ?_); rintro e w5 ⟨fr, fr_lo, fr_hi, rfl, hk_w5, hs_w5⟩)
  replace S := S.step hk_w5 hs_w5
  replace HZ := Lib.hid (HZ.out.keep hk_w5.n)
  clear hk_w5 hs_w5
  have S2 := S.new' #[.string nm, .slice Az zs.length cz] 66
  replace HZ := Lib.hid (HZ.out.keepB ((Below.refl _ w5).alloc (Nat.le_refl _) (.cells #[.string nm, .slice Az zs.length cz] 66)))
  clear S
  go_upto_region 4 with fail
  obtain ⟨Z, hZb⟩ : ∃ Z, Z = w5.heap.size := ⟨_, rfl⟩
  rw [← hZb] at S2 ⊢
  clear hZb
  generalize w5.alloc (.cells #[.string nm, .slice Az zs.length cz] 66) = w6 at *
  have S := S2
  clear S2
  go_wp2_with fail
  ((with_reducible refine (pick_le w.heap.size _ _ _ (-1) 800 S.g.s (by first | rfl | simp) (by first | rfl | simp) (intsIn_of (by decide)) (by simp) (by simp) (by omega)).mono ?_); rintro e w7 ⟨tt, tt_lo, tt_hi, rfl, hk_w7, hs_w7⟩)
  replace S := S.step hk_w7 hs_w7
  replace HZ := Lib.hid (HZ.out.keep hk_w7.n)
  clear hk_w7 hs_w7
  go_wp2_with fail
  ((with_reducible refine (flip_any w.heap.size _ _ _ S.g.s (by omega) (by omega) (by omega)).mono ?_); rintro e w8 ⟨r8, rfl, hk_w8, hs_w8⟩)
  replace S := S.step hk_w8 hs_w8
  replace HZ := Lib.hid (HZ.out.keep hk_w8.n)
  clear hk_w8 hs_w8
  have hwt : IntKind.i64.wrap (fr + tt) = fr + tt := IntWalk.i64_in _ (by omega)
  go_upto_if 35 with fail
  go_cut [9] (fun s9 wx => ∃ t : Int, s9 = .int .i64 t ∧ -2 ≤ t ∧ t ≤ 3001 ∧ Hid (Sl rSft (Off w.heap.size) wx Az zs) ∧ Below w.heap.size w wx ∧ LV wx Z #[.string nm, .slice Az zs.length cz] 66 ∧ ∃ N : Nat → Prop, Hid (Sl rEvt N wx A xs))
  case first =>
    cases r8 with
    | false =>
      have Hb := Lib.hid (Hb0.out.trans (S.g.k.below (Nat.le_refl _) hw0))
      have HLv := Lib.hid (S.lv 1 rfl)
      have HSl := Lib.hid (S.slc 0 rfl)
      clear S
      go_wp2_with fail
      first | go_meet | (go_wp2_with fail; go_meet)
      exact ⟨fr + tt, rfl, by omega, by omega, HZ, Hb.out, HLv.out, _, HSl⟩
    | true =>
      go_wp2_with fail
      ((with_reducible refine (pick_le w.heap.size _ _ _ 3000 3001 S.g.s (by first | rfl | simp) (by first | rfl | simp) (intsIn_of (by decide)) (by simp) (by simp) (by omega)).mono ?_); rintro e w9 ⟨t9, t9_lo, t9_hi, rfl, hk_w9, hs_w9⟩)
      replace S := S.step hk_w9 hs_w9
      replace HZ := Lib.hid (HZ.out.keep hk_w9.n)
      have Hb := Lib.hid (Hb0.out.trans (S.g.k.below (Nat.le_refl _) hw0))
      have HLv := Lib.hid (S.lv 1 rfl)
      have HSl := Lib.hid (S.slc 0 rfl)
      clear S hk_w9 hs_w9
      go_wp2_with fail
      first | go_meet | (go_wp2_with fail; go_meet)
      exact ⟨t9, rfl, by omega, by omega, HZ, Hb.out, HLv.out, _, HSl⟩
  case rest =>
  obtain ⟨t, rfl, ht1, ht2, HZ, hb, lvZ, N, HSl⟩ := hcut
  have Hb := Lib.hid hb
  clear hb hwt S tt_lo tt_hi
  generalize wc = w10 at *
  have hok : EvsOk xs := evsOk_sm (by omega) Hxs.out
  obtain ⟨hT3, hM3⟩ := HTM.out _ Hb.out
  have hSF := HSl.out.mono (M := fun _ => False) (fun _ _ h => h.elim)
  have hZF := HZ.out.mono (M := fun _ => False) (fun _ _ h => h.elim)
  have Hc := Lib.hid (series_any (fun _ => False) A Az xs zs c cz name nm fr t w10 hSF hok hT3 hM3 hZF (by omega) (by omega) (by omega) Hsm.out (by omega) (by omega))
  obtain ⟨F, hF⟩ : ∃ F, evsFault xs = F := ⟨_, rfl⟩
  obtain ⟨Fn, hFn⟩ : ∃ Fn, namesErr [name] = Fn := ⟨_, rfl⟩
  obtain ⟨Fz, hFz⟩ : ∃ Fz, zoneFault nm zs = Fz := ⟨_, rfl⟩
  obtain ⟨E, HE'⟩ : ∃ E, Hid (serErr xs name nm zs fr t = E) := ⟨_, Lib.hid rfl⟩
  obtain ⟨L, HL⟩ : ∃ L, Hid (serAll xs name nm zs fr t = L) := ⟨_, Lib.hid rfl⟩
  have HE2 : Hid ((if firstErr [F, Fn, Fz] ≠ 0 then firstErr [F, Fn, Fz] else if fr < 0 then 1 else if t < fr then 1 else if 3000 < t then 1 else if 800 < t - fr + 1 then 2 else 0) = E) := by show _ = _; rw [← HE'.out, serErr_is, hF, hFn, hFz]
  have HL2 : Hid ((if E = 0 then serAns xs name zs fr t else []) = L) := by show _ = _; rw [← HL.out, serAll, HE'.out]
  rw [HE'.out, HL.out] at Hc
  have Hname : Hid (∀ X w', LV w' X #[.string name] 9 → Calls Tryz.prog 30 #[.slice (some ⟨X, 0, none⟩) 1 1] w' fun e w'' => e = .returned (.int .i64 Fn) ∧ Below w'.heap.size w' w'') := fun X w' h => hFn ▸ nameFault_any [name] X 1 w' rfl h (by simp) (by simp; omega)
  have Hzf : Hid (∀ w', Below w10.heap.size w10 w' → Calls Tryz.prog 36 #[.agg #[.string nm, .slice Az zs.length cz]] w' fun e w'' => e = .returned (.int .i64 Fz) ∧ Below w'.heap.size w' w'') := fun w' h => hFz ▸ refZone_any (fun _ => False) Az nm zs cz w' (hZF.keepB h) (by omega) (by omega) Hsm.out
  have Hso := Lib.hid (fun (hg : firstErr [F, Fn, Fz] = 0) (h1 : 0 ≤ fr) (h2 : fr ≤ t) (h3 : t ≤ 3000) (h4 : t - fr + 1 ≤ 800) w' (h : Below w10.heap.size w10 w') => seriesOf_any (fun _ => False) A Az xs zs c cz name nm fr t w' (hSF.keepB h) (evs_good (by rw [hF]; exact (first_three hg).1)) (hZF.keepB h) (zone_good (by rw [hFz]; exact (first_three hg).2.2)) h1 h2 h3 h4)
  clear hSF hZF hok hT3 hM3 HSl HZ HE' HL hFn hFz
  rw [hF]
  clear hF
  generalize hxsl : xs.length = n3 at *
  clear hxsl
  have z0 := lvZ.all
  go_wp2_with fail
  ((with_reducible refine (Hc.out).mono ?_); rintro e w11 ⟨v4, rfl, M4⟩)
  have hr11 : Hid (Below w10.heap.size w10 w11) := M4.b
  have lvZ1 := LV.kb3 lvZ M4.b lvZ.lt
  obtain ⟨A4, c4, rfl, M5⟩ := M4.frz 0 rfl
  have HM5 := Lib.hid M5
  clear Hc M4 M5 z0 lvZ
  go_upto_region 8 with fail
  refine wp_region_mix (fun w' => LV w' Z #[.string nm, .slice Az zs.length cz] 66) [(true, 0), (true, 1), (true, 4), (false, 2), (false, 3), (false, 5), (false, 6), (false, 7), (true, 8)] (by kernel_rfl) (by kernel_rfl) (fun w' hd => LV.kb3 lvZ1 (hd.below _) lvZ1.lt) (fun KK hKK wd hd_wd => ?_)
  have hC1 := LV.kb3 lvZ1 (hd_wd.below _) lvZ1.lt
  have hr1 : Hid (Below w11.heap.size w11 wd) := hd_wd.below _
  clear lvZ1 hd_wd
  repeat (refine mix_p rfl (fun K hK => ?_); go_simp; (try go_bits); (try simp (disch := omega) only [if_pos]); (try simp (disch := omega) only [if_neg]); (try simp (disch := omega) only [dif_pos]); (try simp (disch := omega) only [dif_neg]); (try go_simp); (refine hK _ ?_; clear hK K))
  refine mix_loadR (.agg #[.string nm, .slice Az zs.length cz]) rfl rfl rfl rfl (fun w' h => loadAtZ h) ?_
  refine mix_l rfl (fun K hK => ?_) hC1
  go_wp2_with fail
  have hb2 : Below wd.heap.size wd (wd.alloc (.cells #[.string name] 9)) := (Below.refl _ _).alloc (Nat.le_refl _) _
  have hC2 := LV.kb3 hC1 hb2 hC1.lt
  have hr2 : Hid (Below w11.heap.size w11 (wd.alloc (.cells #[.string name] 9))) := hr1.out.trans (hb2.mono hr1.out.size)
  have Hn1 := Lib.hid (Hname.out wd.heap.size _ (LV.new wd wd.heap.size #[.string name] 9 rfl))
  refine ⟨hC2, ?_⟩
  clear hb2 hC1 hr1 Hname
  refine mix_l rfl (fun K hK => ?_) hC2
  go_wp2_with fail
  ((with_reducible refine (Hn1.out).mono ?_); rintro e wa ⟨rfl, hla⟩)
  have hC3 := LV.kb3 hC2 hla hC2.lt
  have hr3 : Hid (Below w11.heap.size w11 wa) := hr2.out.trans (hla.mono hr2.out.size)
  have Hz1 := Lib.hid (Hzf.out wa (hr11.out.trans (hr3.out.mono hr11.out.size)))
  clear Hn1 hla hC2 hr2
  go_wp2_with fail
  refine ⟨hC3, ?_⟩
  refine mix_l rfl (fun K hK => ?_) hC3
  go_wp2_with fail
  ((with_reducible refine (Hz1.out).mono ?_); rintro e wb ⟨rfl, hlb⟩)
  have hC4 := LV.kb3 hC3 hlb hC3.lt
  have hr4 : Hid (Below w11.heap.size w11 wb) := hr3.out.trans (hlb.mono hr3.out.size)
  clear Hz1 hlb hC3 hr3 Hzf
  go_wp2_with fail
  refine ⟨hC4, ?_⟩
  refine mix_l rfl (fun K hK => ?_) hC4
  go_wp2_with fail
  have hb5 : Below wb.heap.size wb (wb.alloc (.cells #[.int .i64 F, .int .i64 Fn, .int .i64 Fz] 35)) := (Below.refl _ _).alloc (Nat.le_refl _) _
  have hC5 := LV.kb3 hC4 hb5 hC4.lt
  have hr5 : Hid (Below w11.heap.size w11 (wb.alloc (.cells #[.int .i64 F, .int .i64 Fn, .int .i64 Fz] 35))) := hr4.out.trans (hb5.mono hr4.out.size)
  have Hw1 := Lib.hid (wrongOr_any wb.heap.size [F, Fn, Fz] _ (LV.new wb wb.heap.size #[.int .i64 F, .int .i64 Fn, .int .i64 Fz] 35 rfl) (by simp))
  refine ⟨hC5, ?_⟩
  clear hb5 hC4 hr4
  obtain ⟨G, HG⟩ : ∃ G, Hid (firstErr [F, Fn, Fz] = G) := ⟨_, Lib.hid rfl⟩
  rw [HG.out, show ([F, Fn, Fz] : List Int).length = 3 from rfl] at Hw1
  rw [HG.out] at HE2 Hso
  clear HG
  refine mix_l rfl (fun K hK => ?_) hC5
  go_wp2_with fail
  ((with_reducible refine (Hw1.out).mono ?_); rintro e _ ⟨rfl, rfl⟩)
  go_wp2_with fail
  refine ⟨hC5, ?_⟩
  generalize wb.alloc (.cells #[.int .i64 F, .int .i64 Fn, .int .i64 Fz] 35) = w12 at *
  clear Hw1
  repeat (refine mix_p rfl (fun K hK => ?_); go_simp; (try go_bits); (try simp (disch := omega) only [if_pos]); (try simp (disch := omega) only [if_neg]); (try simp (disch := omega) only [dif_pos]); (try simp (disch := omega) only [dif_neg]); (try go_simp); (refine hK _ ?_; clear hK K))
  refine mix_nil ?_
  simp only [Exit.then]
  refine hKK _ _ ?_
  have Hb12 : Hid (Below w10.heap.size w10 w12) := hr11.out.trans (hr5.out.mono hr11.out.size)
  have Hbw : Hid (Below w.heap.size w w12) := Hb.out.trans (Hb12.out.mono Hb.out.size)
  have z0 := hC5.all
  by_cases g0 : G = 0
  · subst g0
    rw [if_neg (not_not_intro rfl)] at HE2
    by_cases g1 : fr < 0
    · rw [if_pos g1] at HE2
      have hEv : E = 1 := HE2.out.symm
      rw [if_neg (by rw [hEv]; first | decide | assumption)] at HL2
      obtain rfl : [] = L := HL2.out
      subst hEv
      rw [show ([] : List Int).length = 0 from rfl]
      clear HE2 HL2 Hso HM5
      go_wp2_with fail
      ((with_reducible refine (happenings_any w12).mono ?_); rintro e w9 ⟨rfl, hl9⟩)
      go_wp2_with fail
      go_ret
      exact ⟨rfl, Hbw.out.trans (hl9.mono Hbw.out.size)⟩
    · rw [if_neg g1] at HE2
      by_cases g2 : t < fr
      · rw [if_pos g2] at HE2
        have hEv : E = 1 := HE2.out.symm
        rw [if_neg (by rw [hEv]; first | decide | assumption)] at HL2
        obtain rfl : [] = L := HL2.out
        subst hEv
        rw [show ([] : List Int).length = 0 from rfl]
        clear HE2 HL2 Hso HM5
        go_wp2_with fail
        ((with_reducible refine (happenings_any w12).mono ?_); rintro e w9 ⟨rfl, hl9⟩)
        go_wp2_with fail
        go_ret
        exact ⟨rfl, Hbw.out.trans (hl9.mono Hbw.out.size)⟩
      · rw [if_neg g2] at HE2
        by_cases g3 : 3000 < t
        · rw [if_pos g3] at HE2
          have hEv : E = 1 := HE2.out.symm
          rw [if_neg (by rw [hEv]; first | decide | assumption)] at HL2
          obtain rfl : [] = L := HL2.out
          subst hEv
          rw [show ([] : List Int).length = 0 from rfl]
          clear HE2 HL2 Hso HM5
          go_wp2_with fail
          ((with_reducible refine (happenings_any w12).mono ?_); rintro e w9 ⟨rfl, hl9⟩)
          go_wp2_with fail
          go_ret
          exact ⟨rfl, Hbw.out.trans (hl9.mono Hbw.out.size)⟩
        · rw [if_neg g3] at HE2
          have hwd : IntKind.i64.wrap (t - fr) = t - fr := IntWalk.i64_in _ (by omega)
          by_cases g4 : 800 < t - fr + 1
          · rw [if_pos g4] at HE2
            have g5 : 800 ≤ t - fr := by omega
            clear g4
            have hEv : E = 2 := HE2.out.symm
            rw [if_neg (by rw [hEv]; first | decide | assumption)] at HL2
            obtain rfl : [] = L := HL2.out
            subst hEv
            rw [show ([] : List Int).length = 0 from rfl]
            clear HE2 HL2 Hso HM5
            go_wp2_with fail
            ((with_reducible refine (happenings_any w12).mono ?_); rintro e w9 ⟨rfl, hl9⟩)
            go_wp2_with fail
            go_ret
            exact ⟨rfl, Hbw.out.trans (hl9.mono Hbw.out.size)⟩
          · rw [if_neg g4] at HE2
            have g5 : ¬ 800 ≤ t - fr := by omega
            obtain rfl : 0 = E := HE2.out
            rw [if_pos rfl] at HL2
            have Hs1 := Lib.hid (Hso.out rfl (by omega) (by omega) (by omega) (by omega) w12 Hb12.out)
            rw [HL2.out] at Hs1
            have HLl : Hid (L.length ≤ 1000000000) := by show _ ≤ _; rw [← HL2.out, serAns_len]; omega
            clear g4 HE2 HL2 Hso
            go_wp2_with fail
            ((with_reducible refine (Hs1.out).mono ?_); rintro e w13 ⟨v5, rfl, M6⟩)
            obtain ⟨A5, c5, rfl, M7⟩ := M6.frz 0 rfl
            have Heq := Lib.hid (eqInt_any (fun _ => False) A4 A5 L c4 c5 w13 ((((HM5.out.slc 0 rfl).keepB hr5.out).keepB M7.b).mono (fun _ _ h => h.elim)) ((M7.slc 0 rfl).mono (fun _ _ h => h.elim)) HLl.out)
            have Hb13 : Hid (Below w.heap.size w w13) := Hbw.out.trans (M7.b.mono Hbw.out.size)
            clear Hs1 M6 M7 HM5 HLl z0
            generalize L.length = n4 at *
            go_wp2_with fail
            ((with_reducible refine (Heq.out).mono ?_); rintro e w14 ⟨rfl, hl14⟩)
            have Hb14 : Hid (Below w.heap.size w w14) := Hb13.out.trans (hl14.mono Hb13.out.size)
            clear Heq hl14
            go_wp2_with fail
            ((with_reducible refine (happenings_any w14).mono ?_); rintro e w9 ⟨rfl, hl9⟩)
            go_wp2_with fail
            go_ret
            exact ⟨rfl, Hb14.out.trans (hl9.mono Hb14.out.size)⟩
  · rw [if_pos g0] at HE2
    have g1 : (G != 0) = true := by simpa using g0
    have hEv : E = G := HE2.out.symm
    rw [if_neg (by rw [hEv]; first | decide | assumption)] at HL2
    obtain rfl : [] = L := HL2.out
    subst hEv
    rw [show ([] : List Int).length = 0 from rfl]
    clear HE2 HL2 Hso HM5
    go_wp2_with fail
    ((with_reducible refine (happenings_any w12).mono ?_); rintro e w9 ⟨rfl, hl9⟩)
    go_wp2_with fail
    go_ret
    exact ⟨rfl, Hbw.out.trans (hl9.mono Hbw.out.size)⟩
end Go.Proofs.YthlcdepjmoddnaaGreatDoor
