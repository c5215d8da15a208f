/- What handlaw2.wrongOr returns: the first error. -/
import Derived.Test.YtmlpkejeglpciaaDoorStream
import Derived.Test.YtmlpkejeglpciaaDoorPreds
namespace Go.Proofs.YtmlpkejeglpciaaDoor
open Go.RowKit
def firstErr : List Int → Int
  | [] => 0
  | e :: r => if e ≠ 0 then e else firstErr r
set_option maxHeartbeats 1000000 in
theorem wrongOr_any (blk : Nat) (es : List Int) (w : World) (h : LV w blk (es.map (Value.int .i64)).toArray 31) (hn : es.length ≤ 1000) :
    Calls Tryd.prog 10 #[.slice (some ⟨blk, 0, none⟩) es.length es.length] w fun e w' => e = .returned (.int .i64 (firstErr es)) ∧ w = w' := by
  obtain ⟨R, HR⟩ : ∃ R, Hid (firstErr es = R) := ⟨_, Lib.hid rfl⟩
  rw [HR.out]
  go_enter Tryd.func10, Tryd.ntmps10
  go_wp2_with fail
  go_loopw [7] (fun i wr => ∃ k : Nat, k ≤ es.length ∧ i = .int .i64 k ∧ firstErr (es.drop k) = R ∧ w = wr) (fun i _ => es.length - (intOf i).toNat)
  case atStart => exact ⟨0, Nat.zero_le _, rfl, HR.out, rfl⟩
  case round =>
    clear HR
    obtain ⟨k, hk, rfl, hr, rfl⟩ := hrel
    have Hr := Lib.hid hr
    clear hr
    by_cases hlt : k < es.length
    · have c0 : w.cell? ⟨blk, k, none⟩ = some (.int .i64 es[k]) := h.cell k _ (by simp [hlt])
      have Hs : Hid (firstErr (es[k] :: es.drop (k + 1)) = R) := by show _ = _; rw [← Hr.out, List.drop_eq_getElem_cons hlt]
      clear Hr
      generalize es[k] = x at *
      by_cases hx : x = 0
      · subst hx
        go_wp2_with fail
        go_roundw
        case rel => exact ⟨k + 1, by omega, by go_num, by rw [← Hs.out, firstErr, if_neg (by simp)], by first | rfl | trivial⟩
        case measure => simp [intOf]; omega
      · have hx' : (x != 0) = true := by simpa using hx
        have Hn : Hid (x = R) := by show _ = _; rw [← Hs.out, firstErr, if_pos hx]
        clear Hs hx
        go_wp2_with fail
        go_ret
        exact ⟨ret_i Hn.out, rfl⟩
    · have Hn : Hid (0 = R) := by show _ = _; rw [← Hr.out, List.drop_eq_nil_of_le (by omega)]; rfl
      clear Hr
      go_wp2_with fail
      go_ret
      exact ⟨ret_i Hn.out, rfl⟩
end Go.Proofs.YtmlpkejeglpciaaDoor
