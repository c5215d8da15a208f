/- The law PolicyChecks walked: it returns true, and nothing that was there has turned. -/
import Derived.Test.YtlnklkedpknbpaaGreatDoorConsents
import Derived.Test.YtlnklkedpknbpaaGreatDoorGenPolicy
import Derived.Test.YtlnklkedpknbpaaGreatDoorGenFew
import Derived.Test.YtlnklkedpknbpaaGreatDoorConsHas
import Derived.Test.YtlnklkedpknbpaaGreatDoorPolOk
import Derived.Test.YtlnklkedpknbpaaGreatDoorConsRef
namespace Go.Proofs.YtlnklkedpknbpaaGreatDoor
open Go.RowKit
set_option maxHeartbeats 8000000 in
set_option maxRecDepth 100000 in
theorem policyChecks_any (v : Value) (w : World) (hv : IntsIn v w) (hP : Pool w) (hM : MaxL w) :
    Calls Tryz.prog 3 #[v] w fun e w' => e = .returned (.bool true) ∧ Below w.heap.size w w' := by
  obtain ⟨va, vn, vc, rfl⟩ : ∃ a n c, v = .slice a n c := by
    rcases hv with ⟨a, c, rfl⟩ | ⟨k, off, len, cap, rfl, _⟩
    · exact ⟨_, _, _, rfl⟩
    · exact ⟨_, _, _, rfl⟩
  have g0 := G.start (Strm.start hv)
  clear hv
  have S := St.start g0.s
  have HM := Lib.hid hM
  have hPl := hP.lt
  have hPn : 0 ≠ w.heap.size := Nat.ne_of_lt hPl
  have HP := Lib.hid (hP.keep (b := w.heap.size) ((SK.refl _ w).alloc (.cells #[.slice va vn vc, .int .i64 0] 25)) hPn)
  clear hP hM
  go_enter Tryz.func3, Tryz.ntmps3
  go_wp2_with fail
  ((with_reducible refine (policy_any w.heap.size 0 _ S.g.s (by omega)).mono ?_); rintro e w1 ⟨v, q, rfl, hq, S1⟩)
  obtain ⟨A, c, rfl, hc, hS⟩ := S1.polSl (v := v) (q := q) (Nat.le_refl _) (List.mem_cons_self ..) (fun e he => List.mem_cons_of_mem _ (List.mem_map.2 ⟨e, he, rfl⟩))
  have hS1 : Sl rPurp (Off w.heap.size) w1 A (q.map PQ.purp) := hS.mono (fun k _ e => by show k < _; rw [show k = w.heap.size from e]; simp)
  have g1 := g0.step S1.g.k S1.g.s
  have HP1 := Lib.hid (HP.out.keep S1.g.k hPn)
  have hok := Lib.hid hq.polOk
  have hlen : (q.map PQ.purp).length = q.length := by simp
  have hql := hq.len
  have hnm : ∀ p ∈ q.map PQ.purp, p.name.size ≤ 1000 := fun p hp => by
    obtain ⟨e, he, rfl⟩ := List.mem_map.1 hp
    have := hq.nm e he
    show e.nm.size ≤ _
    omega
  rw [← hlen] at hql hc ⊢
  clear S S1 g0 HP hS hq hlen
  generalize q.map PQ.purp = xs at *
  go_wp2_with fail
  ((with_reducible refine (question_any w.heap.size _ A xs c w1 g1.s (by omega) HP1.out hPn hS1 hnm (by omega)).mono ?_); rintro e w2 ⟨k, t, pu, rg, ch, at', ht, hpu, hrg, rfl, hk2, hs2⟩)
  have g2 := (g1.step hk2 hs2).alloc (.cells #[.int .i64 k, .string t, .string pu, .string rg, .int .i64 ch, .int .i64 at'] 31)
  have HS := Lib.hid ((hS1.keep hk2.n).keepB (w' := w2.alloc (.cells #[.int .i64 k, .string t, .string pu, .string rg, .int .i64 ch, .int .i64 at'] 31)) ((Below.refl _ _).alloc (Nat.le_refl _) _))
  have lv2 := LV.new w2 w2.heap.size #[.int .i64 k, .string t, .string pu, .string rg, .int .i64 ch, .int .i64 at'] 31 rfl
  have Hb2 := Lib.hid (Gg.toBelow g2)
  clear g1 g2 hk2 hs2 hS1 HP1 hnm
  obtain ⟨Y, hY⟩ : ∃ Y, Y = w2.heap.size := ⟨_, rfl⟩
  go_upto_region 4 with fail
  rw [← hY] at lv2 ⊢
  generalize w2.alloc (.cells #[.int .i64 k, .string t, .string pu, .string rg, .int .i64 ch, .int .i64 at'] 31) = w3 at *
  clear hY
  have c1 : w3.cell? ⟨Y, 2, none⟩ = some (.string pu) := lv2.cell 2 _ rfl
  have c2 : w3.cell? ⟨Y, 3, none⟩ = some (.string rg) := lv2.cell 3 _ rfl
  have c3 : w3.cell? ⟨Y, 4, none⟩ = some (.int .i64 ch) := lv2.cell 4 _ rfl
  go_wp2_with fail
  ((with_reducible refine (TermOf_any _ A xs pu rg ch c w3 HS.out hok.out).mono ?_); rintro e w4 ⟨rfl, hl4⟩)
  have HT := Lib.hid (fun w' (h : Below w3.heap.size w3 w') => refTermOf_any _ A xs pu rg ch c w' (HS.out.keepB h) hok.out)
  have HC := Lib.hid (fun w' (h : Below w3.heap.size w3 w') => checkPolicy_any _ A xs c w' (HS.out.keepB h) hok.out)
  have HR := Lib.hid (fun w' (h : Below w3.heap.size w3 w') => policyFault_any _ A xs c w' (HS.out.keepB h) hok.out)
  generalize termRes xs pu rg ch = tr at *
  generalize termErr xs pu rg ch = te at *
  generalize policyFault xs = pf at *
  have hb5 : Below w4.heap.size w4 (w4.alloc (.cells #[.string tr.region, .int .i64 tr.channel, .bool tr.free, .int .i64 tr.days, .int .i64 tr.wait] 34)) := (Below.refl _ _).alloc (Nat.le_refl _) _
  have l5 := LV.kb3 (LV.kb3 lv2 hl4 lv2.lt) hb5 (LV.kb3 lv2 hl4 lv2.lt).lt
  have t5 : tLV _ w4.heap.size tr := LV.new w4 w4.heap.size #[.string tr.region, .int .i64 tr.channel, .bool tr.free, .int .i64 tr.days, .int .i64 tr.wait] 34 rfl
  have Hr5 : Hid (Below w3.heap.size w3 (w4.alloc (.cells #[.string tr.region, .int .i64 tr.channel, .bool tr.free, .int .i64 tr.days, .int .i64 tr.wait] 34))) := hl4.alloc hl4.size _
  clear c1 c2 c3 lv2 hl4 hb5 HS
  obtain ⟨Z, hZ⟩ : ∃ Z, Z = w4.heap.size := ⟨_, rfl⟩
  go_upto_region 5 with fail
  rw [← hZ] at t5 ⊢
  generalize w4.alloc (.cells #[.string tr.region, .int .i64 tr.channel, .bool tr.free, .int .i64 tr.days, .int .i64 tr.wait] 34) = w5 at *
  clear hZ
  have c1 : w5.cell? ⟨Y, 2, none⟩ = some (.string pu) := l5.cell 2 _ rfl
  have c2 : w5.cell? ⟨Y, 3, none⟩ = some (.string rg) := l5.cell 3 _ rfl
  have c3 : w5.cell? ⟨Y, 4, none⟩ = some (.int .i64 ch) := l5.cell 4 _ rfl
  go_wp2_with fail
  ((with_reducible refine (HT.out w5 Hr5.out).mono ?_); rintro e w6 ⟨rfl, hl6⟩)
  have hb7 : Below w6.heap.size w6 (w6.alloc (.cells #[.string tr.region, .int .i64 tr.channel, .bool tr.free, .int .i64 tr.days, .int .i64 tr.wait] 34)) := (Below.refl _ _).alloc (Nat.le_refl _) _
  have t6 : tLV w6 Z tr := LV.kb3 t5 hl6 (LV.lt t5)
  have t7 : tLV _ Z tr := LV.kb3 t6 hb7 (LV.lt t6)
  have s7 : tLV _ w6.heap.size tr := LV.new w6 w6.heap.size #[.string tr.region, .int .i64 tr.channel, .bool tr.free, .int .i64 tr.days, .int .i64 tr.wait] 34 rfl
  have Hr7 : Hid (Below w3.heap.size w3 (w6.alloc (.cells #[.string tr.region, .int .i64 tr.channel, .bool tr.free, .int .i64 tr.days, .int .i64 tr.wait] 34))) := (Hr5.out.trans (hl6.mono Hr5.out.size)).alloc (Hr5.out.trans (hl6.mono Hr5.out.size)).size _
  clear c1 c2 c3 l5 t5 t6 hl6 hb7 Hr5
  obtain ⟨X, hX⟩ : ∃ X, X = w6.heap.size := ⟨_, rfl⟩
  go_upto_region 6 with fail
  rw [← hX] at s7 ⊢
  generalize w6.alloc (.cells #[.string tr.region, .int .i64 tr.channel, .bool tr.free, .int .i64 tr.days, .int .i64 tr.wait] 34) = w7 at *
  clear hX
  go_wp2_with fail
  ((with_reducible refine (HC.out w7 Hr7.out).mono ?_); rintro e w8 ⟨rfl, hl8⟩)
  have t8 : tLV w8 Z tr := LV.kb3 t7 hl8 (LV.lt t7)
  have s8 : tLV w8 X tr := LV.kb3 s7 hl8 (LV.lt s7)
  have Hr8 : Hid (Below w3.heap.size w3 w8) := Hr7.out.trans (hl8.mono Hr7.out.size)
  clear t7 s7 hl8 Hr7
  go_wp2_with fail
  ((with_reducible refine (HR.out w8 Hr8.out).mono ?_); rintro e w9 ⟨rfl, hl9⟩)
  have t9 : tLV w9 Z tr := LV.kb3 t8 hl9 (LV.lt t8)
  have s9 : tLV w9 X tr := LV.kb3 s8 hl9 (LV.lt s8)
  have Hr9 : Hid (Below w3.heap.size w3 w9) := Hr8.out.trans (hl9.mono Hr8.out.size)
  clear t8 s8 hl9 Hr8
  have x0 : w9.cell? ⟨Z, 0, none⟩ = some (.string tr.region) := LV.cell t9 0 _ rfl
  have x1 : w9.cell? ⟨Z, 1, none⟩ = some (.int .i64 tr.channel) := LV.cell t9 1 _ rfl
  have x2 : w9.cell? ⟨Z, 2, none⟩ = some (.bool tr.free) := LV.cell t9 2 _ rfl
  have x3 : w9.cell? ⟨Z, 3, none⟩ = some (.int .i64 tr.days) := LV.cell t9 3 _ rfl
  have x4 : w9.cell? ⟨Z, 4, none⟩ = some (.int .i64 tr.wait) := LV.cell t9 4 _ rfl
  have y0 : w9.cell? ⟨X, 0, none⟩ = some (.string tr.region) := LV.cell s9 0 _ rfl
  have y1 : w9.cell? ⟨X, 1, none⟩ = some (.int .i64 tr.channel) := LV.cell s9 1 _ rfl
  have y2 : w9.cell? ⟨X, 2, none⟩ = some (.bool tr.free) := LV.cell s9 2 _ rfl
  have y3 : w9.cell? ⟨X, 3, none⟩ = some (.int .i64 tr.days) := LV.cell s9 3 _ rfl
  have y4 : w9.cell? ⟨X, 4, none⟩ = some (.int .i64 tr.wait) := LV.cell s9 4 _ rfl
  have Hw : Hid (Below w.heap.size w w9) := Hb2.out.trans (Hr9.out.mono Hb2.out.size)
  go_wp2_with fail
  ((with_reducible refine (consents_any w9 (HM.out.below Hw.out)).mono ?_); rintro e wa ⟨rfl, hla⟩)
  go_wp2_with fail
  go_ret
  exact ⟨rfl, Hw.out.trans (hla.mono Hw.out.size)⟩
end Go.Proofs.YtlnklkedpknbpaaGreatDoor
