/- What slices.Repeat makes of one id, 98 times. -/
import Derived.Test.YthmkphmciiiagaaGreatDoorIds
import Derived.Test.YthmkphmciiiagaaGreatDoorCopy
import Derived.RegionTactic
import Derived.Deep.RegionLaw
namespace Go.Proofs.YthmkphmciiiagaaGreatDoor
open Go Go.RowKit
theorem mul98_any (w : World) : Calls Tryz.prog 217 #[.int .u64 1, .int .u64 98] w fun e w' => e = .returned (.tuple #[.int .u64 0, .int .u64 98]) ∧ w = w' := by
  have h : Hid (Calls Tryz.prog 273 #[.int .u64 1, .int .u64 98] w fun e w' => e = .returned (.tuple #[.int .u64 0, .int .u64 98]) ∧ w' = w) := Tryz.bits_Mul64 1 98 (by decide) (by decide) w
  go_enter Tryz.func217, Tryz.ntmps217
  go_wp2_with fail
  ((with_reducible refine (h.out).mono ?_); rintro e w3 ⟨rfl, rfl⟩)
  go_wp2_with fail
  refine bodyPost_ret (results_tt rfl rfl rfl) rfl ⟨by first | rfl | simp, rfl⟩
/-- the cells of a row that holds an id k times, and nothing behind -/
def repCs (x : IdV) (k : Nat) : List Value := (List.replicate k x.cells).flatten ++ (List.replicate (98 - k) [Value.int .i64 0, .string ⟨#[]⟩]).flatten
def GivesRep (x : IdV) (w : World) (e : Ending) (w' : World) : Prop := ∃ V, e = .returned (.slice (some ⟨V, 0, none⟩) 98 98) ∧ w.heap.size ≤ V ∧ V < w'.heap.size ∧ (∀ j u, (List.replicate 98 x.cells).flatten[j]? = some u → w'.cell? ⟨V, j, none⟩ = some u) ∧ Below w.heap.size w w'
theorem tyId : STy 181 29 rId.size 24 (.agg #[.int .i64 0, .string ⟨#[]⟩]) := ⟨Tryz.underlying181, by kernel_rfl, rfl, by decide⟩
theorem made98 (x : IdV) : madeCells (Value.agg #[.int .i64 0, .string ⟨#[]⟩]).cells ((98 : Int).toNat * rId.size) = (repCs x 0).toArray := by kernel_rfl
theorem make98 (x : IdV) (w : World) : (Instr.makeSlice 181 (.int .i64 98) (.int .i64 98)).run Tryz.prog w = .ok (.slice (some ⟨w.heap.size, 0, none⟩) 98 98) (w.alloc (.cells (repCs x 0).toArray 29)) := by
  obtain ⟨i, hi, hz0, hz1, hz2⟩ := info_parts tyId.info
  have h := run_makeSlice (P := Tryz.prog) w 181 29 i _ tyId.under hi hz0 .i64 .i64 98 98 (by decide) (by decide) (by rw [hz1]; decide) (by rw [hz2]; decide) (by decide)
  rw [hz1] at h
  rw [made98 x] at h
  exact h
theorem flat_len {α : Type} (c : List α) (h : c.length = 2) (k : Nat) : (List.replicate k c).flatten.length = k * 2 := by
  rw [List.length_flatten, List.map_replicate, List.sum_replicate_nat, h]
theorem flat_add {α : Type} (c : List α) (a b : Nat) : (List.replicate (a + b) c).flatten = (List.replicate a c).flatten ++ (List.replicate b c).flatten := by
  rw [← List.replicate_append_replicate, List.flatten_append]
theorem repCs_len (x : IdV) (k : Nat) (h : k ≤ 98) : (repCs x k).length = 196 := by
  rw [repCs, List.length_append, flat_len _ rfl, flat_len _ rfl]
  omega
theorem repCs_step (x : IdV) (k m : Nat) (h : k + m ≤ 98) : (repCs x k).take (k * 2) ++ ((List.replicate m x.cells).flatten ++ (repCs x k).drop (k * 2 + (List.replicate m x.cells).flatten.length)) = repCs x (k + m) := by
  have e1 : (repCs x k).take (k * 2) = (List.replicate k x.cells).flatten := List.take_left' (flat_len _ rfl k)
  have e2 : (repCs x k).drop (k * 2 + (List.replicate m x.cells).flatten.length) = (List.replicate (98 - (k + m)) [Value.int .i64 0, .string ⟨#[]⟩]).flatten := by
    rw [repCs, List.drop_append, List.drop_eq_nil_of_le (by rw [flat_len _ rfl]; omega), List.nil_append, flat_len _ rfl, flat_len _ rfl, show 98 - k = m + (98 - (k + m)) by omega, flat_add, show k * 2 + m * 2 - k * 2 = m * 2 by omega]
    exact List.drop_left' (flat_len _ rfl m)
  rw [e1, e2, ← List.append_assoc, ← flat_add]
  rfl
theorem repCs_at (x : IdV) (k m j : Nat) (v : Value) (hm : m ≤ k) (h : (List.replicate m x.cells).flatten[j]? = some v) : (repCs x k)[j]? = some v := by
  obtain ⟨r, rfl⟩ : ∃ r, k = m + r := ⟨k - m, by omega⟩
  rw [repCs, flat_add, List.append_assoc, List.getElem?_append_left (List.getElem?_eq_some_iff.1 h).1]
  exact h
theorem repCs_one (x : IdV) (m : Nat) : ∀ v ∈ (List.replicate m x.cells).flatten, v.oneCell' = true := fun v hv => by
  obtain ⟨l, hl, hv⟩ := List.mem_flatten.1 hv
  obtain rfl := (List.mem_replicate.1 hl).2
  simp only [IdV.cells, List.mem_cons, List.not_mem_nil, or_false] at hv
  rcases hv with rfl | rfl <;> rfl
theorem rowCell {w : World} {V : Nat} {L : List Value} {T : TypeId} (h : w.heap[V]? = some (.cells L.toArray T (0, 0))) (j : Nat) (v : Value) (hj : L[j]? = some v) : w.cell? ((⟨V, 0, none⟩ : Addr).add j) = some v := by
  have e : (⟨V, 0, none⟩ : Addr).add j = ⟨V, j, none⟩ := by unfold Addr.add; split <;> simp_all
  rw [e]
  simp [World.cell?, h, hj]
theorem alloc_at (w : World) (o : Obj) : (w.alloc o).heap[w.heap.size]? = some o := Array.getElem?_push_size
theorem szId : (Tryz.prog.info? 29).map (·.size) = some 2 := by kernel_rfl
theorem rep_after {w w0 : World} {B V k m : Nat} {x : IdV} (hg : w.heap[V]? = some (.cells (repCs x k).toArray 29 (0, 0))) (hkm : k + m ≤ 98) (hb : Below B w0 w) (hBV : B ≤ V) :
    Hid ((w.setRow V ((repCs x k).toArray.toList.take (k * 2) ++ ((List.replicate m x.cells).flatten ++ (repCs x k).toArray.toList.drop (k * 2 + (List.replicate m x.cells).flatten.length))).toArray).heap[V]? = some (.cells (repCs x (k + m)).toArray 29 (0, 0))) ∧
    Below B w0 (w.setRow V ((repCs x k).toArray.toList.take (k * 2) ++ ((List.replicate m x.cells).flatten ++ (repCs x k).toArray.toList.drop (k * 2 + (List.replicate m x.cells).flatten.length))).toArray) := by
  refine ⟨?_, below_setRow hb hBV _⟩
  show _ = _
  rw [setRow_heap w V _ _ 29 _ hg]
  show some (Obj.cells ((repCs x k).take (k * 2) ++ ((List.replicate m x.cells).flatten ++ (repCs x k).drop (k * 2 + (List.replicate m x.cells).flatten.length))).toArray 29 (0, 0)) = _
  rw [repCs_step x k m hkm]
theorem wpList_rep {ops : Array Oper} {rest : List Oper} {o : Oper} {a : Act} {w w0 : World} {Q : Exit → Act → World → Prop} (hgd : o.guard = none) (d s : Operand)
    (ho : o.op = .call { callee := .builtin .copy, args := #[d, s], argTypes := #[181, 181] }) (V k m B : Nat) (x : IdV) (dLen dCap : Nat) (ad : Addr) (sLen sCap : Nat) (hd : a.eval d = .slice (some ⟨V, k * 2, none⟩) dLen dCap) (hs : a.eval s = .slice (some ad) sLen sCap)
    (hg : w.heap[V]? = some (.cells (repCs x k).toArray 29 (0, 0))) (hm : Nat.min sLen dLen = m) (hkm : k + m ≤ 98)
    (hsrc : ∀ j v, (List.replicate m x.cells).flatten[j]? = some v → w.cell? (ad.add j) = some v) (hb : Below B w0 w) (hBV : B ≤ V)
    (h : ∀ w', Hid (w'.heap[V]? = some (.cells (repCs x (k + m)).toArray 29 (0, 0))) → Below B w0 w' → wpList Tryz.prog ops Q rest (a.put o.dst (.int .i64 m)) w') : wpList Tryz.prog ops Q (o :: rest) a w := by
  have ha := rep_after hg hkm hb hBV
  refine wpList_copyK hgd d s 181 181 ho 29 2 tyId.under szId V (k * 2) dLen dCap ad sLen sCap hd hs _ 29 hg (List.replicate m x.cells).flatten (by rw [flat_len _ rfl, hm]) hsrc (by rw [flat_len _ rfl, List.size_toArray, repCs_len x k (by omega)]; omega) (repCs_one x m) ?_
  rw [hm]
  exact h _ ha.1 ha.2
theorem step_rep {ops : Array Oper} {o : Oper} {a : Act} {w w0 : World} {K : Act → World → Prop} {Q : Exit → Act → World → Prop} {E : Prop} (hgd : o.guard = none) (d s : Operand)
    (ho : o.op = .call { callee := .builtin .copy, args := #[d, s], argTypes := #[181, 181] }) (V k m B : Nat) (x : IdV) (dLen dCap : Nat) (ad : Addr) (sLen sCap : Nat) (hd : a.eval d = .slice (some ⟨V, k * 2, none⟩) dLen dCap) (hs : a.eval s = .slice (some ad) sLen sCap)
    (hg : w.heap[V]? = some (.cells (repCs x k).toArray 29 (0, 0))) (hm : Nat.min sLen dLen = m) (hkm : k + m ≤ 98)
    (hsrc : ∀ j v, (List.replicate m x.cells).flatten[j]? = some v → w.cell? (ad.add j) = some v) (hb : Below B w0 w) (hBV : B ≤ V)
    (h : ∀ w', Hid (w'.heap[V]? = some (.cells (repCs x (k + m)).toArray 29 (0, 0))) → Below B w0 w' → K (a.put o.dst (.int .i64 m)) w') :
    if Region.wanted o (yielded ops a.tmps) = true then Oper.wp Tryz.prog o a w K Q else E := by
  have ha := rep_after hg hkm hb hBV
  refine step_copyK hgd d s 181 181 ho 29 2 tyId.under szId V (k * 2) dLen dCap ad sLen sCap hd hs _ 29 hg (List.replicate m x.cells).flatten (by rw [flat_len _ rfl, hm]) hsrc (by rw [flat_len _ rfl, List.size_toArray, repCs_len x k (by omega)]; omega) (repCs_one x m) ?_
  rw [hm]
  exact h _ ha.1 ha.2
end Go.Proofs.YthmkphmciiiagaaGreatDoor
