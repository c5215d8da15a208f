/- The law ConsentAsks walked: it returns true, and nothing that was there has turned. -/
import Derived.Test.YthmkphmciiiagaaGreatDoorPackA
import Derived.Test.YthmkphmciiiagaaGreatDoorAsked
namespace Go.Proofs.YthmkphmciiiagaaGreatDoor
open Go Go.RowKit
theorem loadIdQ {w : World} {X : Nat} {k : Int} {t pu rg : ByteArray} {ch at' : Int} (h : LV w X (qqCs k t pu rg ch at') 31) : (Instr.loadAt 29 (.pointer (some ⟨X, 0, none⟩))).run Tryz.prog w = .ok (.agg #[.int .i64 k, .string t]) w := by
  have c := h.all
  go_simp
theorem loadQQ {w : World} {X : Nat} {k : Int} {t pu rg : ByteArray} {ch at' : Int} (h : LV w X (qqCs k t pu rg ch at') 31) : (Instr.loadAt 31 (.pointer (some ⟨X, 0, none⟩))).run Tryz.prog w = .ok (.agg (qqCs k t pu rg ch at')) w := by
  have c := h.all
  go_simp
theorem loadAA {w : World} {X : Nat} {m : Bool} {a b : Int} (h : LV w X (aCs m a b) 105) : (Instr.loadAt 105 (.pointer (some ⟨X, 0, none⟩))).run Tryz.prog w = .ok (.agg (aCs m a b)) w := by
  have c := h.all
  go_simp
set_option maxHeartbeats 4000000 in
set_option maxRecDepth 100000 in
theorem questionOr_any (N : Nat → Prop) (A : Option Addr) (p : List Purp) (c : Nat) (fault k : Int) (t pu rg : ByteArray) (ch at' : Int) (w : World) (hS : Sl rPurp N w A p) (hl : p.length ≤ 1000000) (ht : t.size ≤ 1000000) (hrg : rg.size ≤ 1000000000) (hM : MaxL w) :
    Calls Tryz.prog 13 #[.int .i64 fault, .slice A p.length c, .agg (qqCs k t pu rg ch at')] w fun e w' => e = .returned (.int .i64 (first3 fault (L.idFault k t) (qErr p pu rg ch at'))) ∧ Below w.heap.size w w' := by
  have S := (Mem.start w).new' (qqCs k t pu rg ch at') 31
  have H1 := Lib.hid (fun w' (h : Below w.heap.size w w') => refId_any k t w' ht (hM.below h))
  have H2 := Lib.hid (fun w' (h : Below w.heap.size w w') => questionFault_any N A p c k t pu rg ch at' w' (hS.keepB h) hl hrg)
  generalize L.idFault k t = F2 at *
  generalize qErr p pu rg ch at' = F3 at *
  have HR : Hid (first3 fault F2 F3 = firstErr [fault, F2, F3]) := by
    show _ = _
    simp only [first3, firstErr]
    split
    · rfl
    · split
      · rfl
      · split
        · rfl
        · rename_i h; exact Decidable.not_not.1 h
  generalize first3 fault F2 F3 = R at *
  clear hS hM
  go_enter Tryz.func13, Tryz.ntmps13
  go_wp2_with fail
  replace S : Mem w (w.alloc (.cells (qqCs k t pu rg ch at') 31)) [.loc w.heap.size (qqCs k t pu rg ch at') 31] := S
  generalize w.alloc (.cells (qqCs k t pu rg ch at') 31) = w1 at *
  refine wp_region_mix (fun w' => LV w' w.heap.size (qqCs k t pu rg ch at') 31) [(true, 0), (true, 1), (true, 2), (true, 4), (true, 5), (false, 3), (false, 6), (false, 7), (false, 8), (true, 9)] (by kernel_rfl) (by kernel_rfl) (fun w' hd => (S.below (hd.below _)).lv 0 rfl) (fun KK hKK wd hd => ?_)
  replace S := S.below (hd.below _)
  clear hd
  repeat (refine mix_p rfl (fun K hK => ?_); go_simp; (try go_bits); (try simp (disch := omega) only [if_pos]); (try simp (disch := omega) only [if_neg]); (try simp (disch := omega) only [dif_pos]); (try simp (disch := omega) only [dif_neg]); (try go_simp); (refine hK _ ?_; clear hK K))
  refine mix_loadR (.agg #[.int .i64 k, .string t]) rfl rfl rfl rfl (fun w' h => loadIdQ h) ?_
  repeat (refine mix_p rfl (fun K hK => ?_); go_simp; (try go_bits); (try simp (disch := omega) only [if_pos]); (try simp (disch := omega) only [if_neg]); (try simp (disch := omega) only [dif_pos]); (try simp (disch := omega) only [dif_neg]); (try go_simp); (refine hK _ ?_; clear hK K))
  refine mix_loadR (.agg (qqCs k t pu rg ch at')) rfl rfl rfl rfl (fun w' h => loadQQ h) ?_
  refine mix_l rfl (fun K hK => ?_) (S.lv 0 rfl)
  go_wp2_with fail
  ((with_reducible refine (H1.out wd S.b).mono ?_); rintro e w3 ⟨rfl, hl3⟩)
  replace S := S.below hl3
  clear hl3 H1
  have hC := S.lv 0 rfl
  go_wp2_with fail
  refine ⟨hC, ?_⟩
  clear hC
  refine mix_l rfl (fun K hK => ?_) (S.lv 0 rfl)
  go_wp2_with fail
  ((with_reducible refine (H2.out w3 S.b).mono ?_); rintro e w4 ⟨rfl, hl4⟩)
  replace S := S.below hl4
  clear hl4 H2
  have hC := S.lv 0 rfl
  go_wp2_with fail
  refine ⟨hC, ?_⟩
  clear hC
  refine mix_l rfl (fun K hK => ?_) (S.lv 0 rfl)
  have S5 := S.alloc (.cells #[.int .i64 fault, .int .i64 F2, .int .i64 F3] 32)
  have hC := S5.lv 0 rfl
  have HW := Lib.hid (wrongOr_any w4.heap.size [fault, F2, F3] (w4.alloc (.cells #[.int .i64 fault, .int .i64 F2, .int .i64 F3] 32)) (LV.new w4 w4.heap.size #[.int .i64 fault, .int .i64 F2, .int .i64 F3] 32 rfl) (by simp))
  rw [← HR.out] at HW
  simp only [List.length_cons, List.length_nil, Nat.zero_add, Nat.reduceAdd] at HW
  go_wp2_with fail
  refine ⟨hC, ?_⟩
  refine mix_l rfl (fun K hK => ?_) hC
  go_wp2_with fail
  ((with_reducible refine (HW.out).mono ?_); rintro e _ ⟨rfl, rfl⟩)
  go_wp2_with fail
  refine ⟨hC, ?_⟩
  repeat (refine mix_p rfl (fun K hK => ?_); go_simp; (try go_bits); (try simp (disch := omega) only [if_pos]); (try simp (disch := omega) only [if_neg]); (try simp (disch := omega) only [dif_pos]); (try simp (disch := omega) only [dif_neg]); (try go_simp); (refine hK _ ?_; clear hK K))
  refine mix_nil ?_
  simp only [Exit.then]
  refine hKK _ _ ?_
  go_wp2_with fail
  go_ret
  exact ⟨rfl, S5.b⟩
theorem DrawsAsked.mem {b m : Nat} {w w' : World} {B B2 : Nat} {A : Option Addr} {c : Nat} {q : List PQ} {v2 : Value} {l : List Stm} (hB : w.heap.size ≤ B) (S : St b m w w' (.own rStm B2 38 v2 l :: polC B (.slice A q.length c) q)) :
    Sl rPurp (fun _ => False) w' A (q.map PQ.purp) ∧ ∃ Al cl, v2 = .slice Al l.length cl ∧ Sl rStm (fun _ => False) w' Al l := by
  obtain ⟨A', c', e', hS⟩ := S.polFalse hB (List.mem_cons_of_mem _ (List.mem_cons_self ..)) (fun e he => List.mem_cons_of_mem _ (List.mem_cons_of_mem _ (List.mem_map.2 ⟨e, he, rfl⟩)))
  simp only [Value.slice.injEq] at e'
  obtain ⟨rfl, _, rfl⟩ := e'
  obtain ⟨Al, cl, e2, hL⟩ := ((S.ow 0 rfl).flatM flatStm (M' := fun _ => False)).toSlC (fun _ _ h => h)
  exact ⟨hS.mono (fun _ _ h => h.elim), Al, cl, e2, hL.2⟩
end Go.Proofs.YthmkphmciiiagaaGreatDoor
