/- The law StatementChecks walked: it returns true, and nothing that was there has turned. -/
import Derived.Test.YtlnklkedpknbpaaGreatDoorConsents
import Derived.Test.YtlnklkedpknbpaaGreatDoorPolOk
import Derived.Test.YtlnklkedpknbpaaGreatDoorGenStm
import Derived.Test.YtlnklkedpknbpaaGreatDoorStmRef
namespace Go.Proofs.YtlnklkedpknbpaaGreatDoor
open Go.RowKit
theorem StmSm.ok {l : List Stm} (h : ∀ s ∈ l, StmSm s) (hl : l.length ≤ 1000) : StmOk l where
  len := by omega
  tx := fun s hs => by have := (h s hs).tx; omega
  pu := fun s hs => by have := (h s hs).pu; omega
  rg := fun s hs => by have := (h s hs).rg; omega
theorem purp_small {q : List PQ} (hq : QOk 10 q) : ∀ p ∈ q.map PQ.purp, p.name.size ≤ 1000 := fun p hp => by
  obtain ⟨e, he, rfl⟩ := List.mem_map.1 hp
  have := hq.nm e he
  show e.nm.size ≤ _
  omega
set_option maxHeartbeats 8000000 in
set_option maxRecDepth 100000 in
theorem stmChecks_any (v : Value) (w : World) (hv : IntsIn v w) (hP : Pool w) (hM : MaxL w) :
    Calls Tryz.prog 4 #[v] w fun e w' => e = .returned (.bool true) ∧ Below w.heap.size w w' := by
  obtain ⟨va, vn, vc, rfl⟩ : ∃ a n c, v = .slice a n c := by
    rcases hv with ⟨a, c, rfl⟩ | ⟨k, off, len, cap, rfl, _⟩
    · exact ⟨_, _, _, rfl⟩
    · exact ⟨_, _, _, rfl⟩
  have g0 := G.start (Strm.start hv)
  clear hv
  have S := St.start g0.s
  have HM := Lib.hid hM
  have hPl := hP.lt
  have hPn : 0 ≠ w.heap.size := Nat.ne_of_lt hPl
  have HP := Lib.hid (hP.keep (b := w.heap.size) ((SK.refl _ w).alloc (.cells #[.slice va vn vc, .int .i64 0] 25)) hPn)
  clear hP hM
  go_enter Tryz.func4, Tryz.ntmps4
  go_wp2_with fail
  ((with_reducible refine (policy_any w.heap.size 0 _ S.g.s (by omega)).mono ?_); rintro e w1 ⟨v, q, rfl, hq, S1⟩)
  obtain ⟨A, c, rfl, hc, hS⟩ := S1.polSl (v := v) (q := q) (Nat.le_refl _) (List.mem_cons_self ..) (fun e he => List.mem_cons_of_mem _ (List.mem_map.2 ⟨e, he, rfl⟩))
  have hS1 : Sl rPurp (Off w.heap.size) w1 A (q.map PQ.purp) := hS.mono (fun k _ e => by show k < _; rw [show k = w.heap.size from e]; simp)
  have g1 := g0.step S1.g.k S1.g.s
  have HP1 := Lib.hid (HP.out.keep S1.g.k hPn)
  have hok := Lib.hid hq.polOk
  have hlen : (q.map PQ.purp).length = q.length := by simp
  have hql := hq.len
  have hnm := Lib.hid (purp_small hq)
  rw [← hlen] at hql hc ⊢
  clear S S1 g0 HP hS hq hlen
  generalize q.map PQ.purp = xs at *
  go_wp2_with fail
  ((with_reducible refine (range_any w.heap.size _ 0 8 _ g1.s (by omega) (by omega) (by omega) (by omega)).mono ?_); rintro e w2 ⟨r, r0, r1, rfl, hk2, hs2⟩)
  obtain ⟨n, rfl⟩ := Int.eq_ofNat_of_zero_le r0
  have hn : n ≤ 8 := by omega
  have hS2 := hS1.keep hk2.n
  have HP2 := Lib.hid (HP1.out.keep hk2 hPn)
  have g2 := g1.step hk2 hs2
  clear HP1 hS1 g1 hk2 hs2 r0 r1
  go_wp2_with fail
  ((with_reducible refine (stms_any w.heap.size _ n A xs c _ g2.s (by omega) (by omega) HP2.out hPn hS2 hnm.out (by omega)).mono ?_); rintro e w3 ⟨v2, l, rfl, hl, hls, S3⟩)
  obtain ⟨Al, cl, rfl, _, hL⟩ := ((S3.ow 0 rfl).flatM flatStm (M' := fun _ => False)).toSlC (fun _ _ h => h)
  have g3 := g2.step S3.g.k S3.g.s
  have HS3 : Hid (Sl rPurp (fun _ => False) w3 A xs) := (hS2.keep S3.g.k.n).mono (fun _ _ h => h.elim)
  have HL := Lib.hid hL
  have Hlo := Lib.hid (StmSm.ok hls (by omega))
  have Hb3 := Lib.hid (Gg.toBelow g3)
  clear g2 HP2 hS2 S3 hL hls g3
  have HC := Lib.hid (check_any _ A Al xs l c cl w3 HS3.out hok.out HL.out Hlo.out (HM.out.below Hb3.out))
  have HR := Lib.hid (fun w' (h : Below w3.heap.size w3 w') => refStms_any _ A Al xs l c cl w' (HS3.out.keepB h) hok.out (HL.out.keepB h) Hlo.out (HM.out.below (Hb3.out.trans (h.mono Hb3.out.size))))
  generalize stmsFault xs l = F at *
  go_wp2_with fail
  ((with_reducible refine (HC.out).mono ?_); rintro e w4 ⟨rfl, hl4⟩)
  go_wp2_with fail
  ((with_reducible refine (HR.out w4 hl4).mono ?_); rintro e w5 ⟨rfl, hl5⟩)
  have Hw : Hid (Below w.heap.size w w5) := Hb3.out.trans ((hl4.trans (hl5.mono hl4.size)).mono Hb3.out.size)
  clear hl4 hl5
  go_wp2_with fail
  ((with_reducible refine (consents_any w5 (HM.out.below Hw.out)).mono ?_); rintro e wa ⟨rfl, hla⟩)
  go_wp2_with fail
  go_ret
  exact ⟨rfl, Hw.out.trans (hla.mono Hw.out.size)⟩
end Go.Proofs.YtlnklkedpknbpaaGreatDoor
