/- What handlaw2.people returns: true. -/
import Derived.Test.YtmlpkejeglpciaaDoorPoints
namespace Go.Proofs.YtmlpkejeglpciaaDoor
open Go.RowKit

theorem far_kitten : far ⟨#[107, 105, 116, 116, 101, 110]⟩ ⟨#[115, 105, 116, 116, 105, 110, 103]⟩ = 3 := by decide +kernel
theorem quote_blank : Q.quote [32] = [34, 92, 120, 50, 48, 34] := by decide +kernel

theorem people_any (w : World) (hT : Tabs w) : Calls Tryd.prog 12 #[] w fun e w' => e = .returned (.bool true) ∧ Below w.heap.size w w' := by
  have Hd : Hid (Calls Tryd.prog 28 #[.string ⟨#[107, 105, 116, 116, 101, 110]⟩, .string ⟨#[115, 105, 116, 116, 105, 110, 103]⟩] w fun e w' => e = .returned (.tuple #[.int .i64 3, .int .i64 0]) ∧ Below w.heap.size w w') :=
    (distance_any _ _ w (by simp [ByteArray.size]) (by simp [ByteArray.size]) hT).mono fun e w' ⟨h1, h2⟩ => ⟨by rw [h1, far_kitten]; rfl, h2⟩
  have Hq : Hid (∀ w', Calls Tryd.prog 29 #[.string ⟨#[32]⟩] w' fun e w'' => e = .returned (.string ⟨#[34, 92, 120, 50, 48, 34]⟩) ∧ Below w'.heap.size w' w'') := fun w' =>
    (quote_any _ w' (by simp [ByteArray.size])).mono fun e w'' ⟨h1, h2⟩ => ⟨by rw [h1, quote_blank], h2⟩
  clear hT
  go_enter Tryd.func12, Tryd.ntmps12
  go_wp2_with fail
  refine Hd.out.mono ?_
  rintro e w1 ⟨rfl, hl1⟩
  have hz1 := hl1.size
  go_wp2_with fail
  refine (Hq.out _).mono ?_
  rintro e w2 ⟨rfl, hl2⟩
  go_wp2_with fail
  go_ret
  exact ⟨rfl, hl1.trans (hl2.mono (by omega))⟩
end Go.Proofs.YtmlpkejeglpciaaDoor
