/- What the generator odd makes. -/
import Derived.Test.YtmlpkejeglpciaaDoorStream
namespace Go.Proofs.YtmlpkejeglpciaaDoor
open Go.RowKit
set_option maxHeartbeats 1000000 in
theorem odd_any (b m : Nat) (lo hi : Int) (w : World) (hs : Strm b m w) (h : lo ≤ hi) (hlo : -1000000000000 ≤ lo) (hhi : hi ≤ 1000000000000) (hm : m ≤ 100000000000) :
    Calls Tryd.prog 18 #[.pointer (some ⟨b, 0, none⟩), .int .i64 lo, .int .i64 hi] w (DrawsIn b (m + 2) (-1099511627776) 1099511627776 w) := by
  have g0 := G.start hs
  clear hs
  go_enter Tryd.func18, Tryd.ntmps18
  go_wp2_with fail
  refine (flip_any b m _ _ g0.s (by omega) (by omega) (by omega)).mono ?_
  rintro e w1 ⟨r, rfl, hk_w1, hs_w1⟩
  have g1 := g0.step hk_w1 hs_w1
  clear hk_w1 hs_w1 g0
  cases r
  · go_wp2_with fail
    refine (range_any b (m + 1) _ _ _ g1.s (by omega) (by omega) (by omega) (by omega)).mono ?_
    rintro e w2 ⟨n, n_lo, n_hi, rfl, hk_w2, hs_w2⟩
    have g2 := g1.step hk_w2 hs_w2
    go_wp2_with fail
    go_ret
    exact ⟨n, by omega, by omega, rfl, g2.k, g2.s⟩
  · go_wp2_with fail
    refine (pick_le b _ _ _ (-1099511627776) 1099511627776 g1.s (by simp) (by simp) (by repeat (first | exact intsIn_nil | refine intsIn_cons (by omega) ?_)) (by simp) (by simp) (by omega)).mono ?_
    rintro e w2 ⟨n, n_lo, n_hi, rfl, hk_w2, hs_w2⟩
    have g2 := g1.step hk_w2 hs_w2
    go_wp2_with fail
    go_ret
    exact ⟨n, by omega, by omega, rfl, g2.k, g2.s⟩
end Go.Proofs.YtmlpkejeglpciaaDoor
