/- What send.Room, KindOf, handref2.RoomOf and handlaw2.sends return. -/
import Derived.Test.YtneopbbafdmpkaaDoorSendRules
namespace Go.Proofs.YtneopbbafdmpkaaDoor
open Go.RowKit
/-- the room of a pool -/
def roomP (p : SPool) (day : Int) : Int := if day < p.first then 0 else if day - p.first < p.warm.length then (p.warm[(day - p.first).toNat]?).getD 0 else 1440 * p.per
theorem sameStr_any (X : Nat) (nm : ByteArray) (q : SPool) (A : Option Addr) (n c : Nat) (w : World) (hX : LV w X #[.string nm] 9) : Calls Tryd.prog 27 #[.agg #[.string q.name, .int .i64 q.channel, .int .i64 q.per, .int .i64 q.first, .slice A n c], .pointer (some ⟨X, 0, none⟩)] w fun e w' => e = .returned (.bool (q.name.toList == nm.toList)) ∧ Below w.heap.size w w' := by
  have c0 : w.cell? ⟨X, 0, none⟩ = some (.string nm) := hX.cell 0 _ rfl
  have hlt := hX.lt
  have c1 : (w.alloc (.cells #[.string q.name, .int .i64 q.channel, .int .i64 q.per, .int .i64 q.first, .slice A n c] 36)).cell? ⟨X, 0, none⟩ = some (.string nm) := by rw [World.cell?_alloc_past _ _ _ hlt]; exact c0
  go_enter Tryd.func27, Tryd.ntmps27
  go_wp2_with fail
  go_ret
  exact ⟨rfl, (Below.refl _ _).alloc (Nat.le_refl _) _⟩
theorem sameLaw_any (X : Nat) (nm : ByteArray) (q : SPool) (A : Option Addr) (n c : Nat) (w : World) (hX : LV w X #[.string nm] 9) : Calls Tryd.prog 14 #[.agg #[.string q.name, .int .i64 q.channel, .int .i64 q.per, .int .i64 q.first, .slice A n c], .pointer (some ⟨X, 0, none⟩)] w fun e w' => e = .returned (.bool (q.name.toList == nm.toList)) ∧ Below w.heap.size w w' := by
  have c0 : w.cell? ⟨X, 0, none⟩ = some (.string nm) := hX.cell 0 _ rfl
  have hlt := hX.lt
  have c1 : (w.alloc (.cells #[.string q.name, .int .i64 q.channel, .int .i64 q.per, .int .i64 q.first, .slice A n c] 36)).cell? ⟨X, 0, none⟩ = some (.string nm) := by rw [World.cell?_alloc_past _ _ _ hlt]; exact c0
  go_enter Tryd.func14, Tryd.ntmps14
  go_wp2_with fail
  go_ret
  exact ⟨rfl, (Below.refl _ _).alloc (Nat.le_refl _) _⟩
set_option maxHeartbeats 4000000 in
theorem room_any (N : Nat → Prop) (p : SPool) (A : Option Addr) (c : Nat) (day : Int) (w : World) (hS : Sl rInt N w A p.warm) (hl : p.warm.length ≤ 1000) (hf : 0 ≤ p.first ∧ p.first ≤ 3000) (hd : 0 ≤ day ∧ day ≤ 3000) (hp : 1 ≤ p.per ∧ p.per ≤ 10000) :
    Calls Tryd.prog 29 #[.agg #[.string p.name, .int .i64 p.channel, .int .i64 p.per, .int .i64 p.first, .slice A p.warm.length c], .int .i64 day] w fun e w' => e = .returned (.int .i64 (roomP p day)) ∧ Below w.heap.size w w' := by
  obtain ⟨nm, ch, per, first, warm⟩ := p
  dsimp only at *
  have hsub : IntKind.i64.wrap (day - first) = day - first := IntWalk.i64_in _ (by omega)
  have hmul : IntKind.i64.wrap (1440 * per) = 1440 * per := IntWalk.i64_in _ (by omega)
  by_cases h1 : day < first
  · have hR : roomP ⟨nm, ch, per, first, warm⟩ day = 0 := by rw [roomP, if_pos h1]
    rw [hR]
    clear hR hS
    have h2 : day - first < 0 := by omega
    go_enter Tryd.func29, Tryd.ntmps29
    go_wp2_with fail
    go_ret
    exact ⟨rfl, (Below.refl _ _).alloc (Nat.le_refl _) _⟩
  · by_cases h2 : day - first < warm.length
    · obtain ⟨k, hk⟩ := Int.eq_ofNat_of_zero_le (by omega : 0 ≤ day - first)
      have hk2 : k < warm.length := by omega
      obtain ⟨n, hn⟩ : ∃ n, warm[k]? = some n := ⟨_, List.getElem?_eq_getElem hk2⟩
      have hR : roomP ⟨nm, ch, per, first, warm⟩ day = n := by rw [roomP, if_neg h1]; dsimp only; rw [if_pos h2, hk]; simp [hn]
      rw [hR]
      obtain ⟨blk, off, rfl, hb, hcell⟩ := hS.int k n hn
      clear hR hS hn
      rw [hk] at hsub
      have hcell2 : (w.alloc (.cells #[.string nm, .int .i64 ch, .int .i64 per, .int .i64 first, .slice (some ⟨blk, off, none⟩) warm.length c] 36)).cell? ⟨blk, off + k, none⟩ = some (.int .i64 n) := by rw [World.cell?_alloc_past _ _ _ hb]; exact hcell
      go_enter Tryd.func29, Tryd.ntmps29
      go_wp2_with fail
      go_ret
      exact ⟨rfl, (Below.refl _ _).alloc (Nat.le_refl _) _⟩
    · have hR : roomP ⟨nm, ch, per, first, warm⟩ day = 1440 * per := by rw [roomP, if_neg h1]; dsimp only; rw [if_neg h2]
      rw [hR]
      clear hR hS
      obtain ⟨k, hk⟩ := Int.eq_ofNat_of_zero_le (by omega : 0 ≤ day - first)
      have hk2 : ¬ k < warm.length := by omega
      rw [hk] at hsub
      go_enter Tryd.func29, Tryd.ntmps29
      go_wp2_with fail
      go_ret
      exact ⟨rfl, (Below.refl _ _).alloc (Nat.le_refl _) _⟩
set_option maxHeartbeats 4000000 in
theorem roomOf_any (N : Nat → Prop) (p : SPool) (A : Option Addr) (c : Nat) (day : Int) (w : World) (hS : Sl rInt N w A p.warm) (hl : p.warm.length ≤ 1000) (hf : 0 ≤ p.first ∧ p.first ≤ 3000) (hd : 0 ≤ day ∧ day ≤ 3000) (hp : 1 ≤ p.per ∧ p.per ≤ 10000) :
    Calls Tryd.prog 16 #[.agg #[.string p.name, .int .i64 p.channel, .int .i64 p.per, .int .i64 p.first, .slice A p.warm.length c], .int .i64 day] w fun e w' => e = .returned (.int .i64 (roomP p day)) ∧ Below w.heap.size w w' := by
  obtain ⟨nm, ch, per, first, warm⟩ := p
  dsimp only at *
  have hsub : IntKind.i64.wrap (day - first) = day - first := IntWalk.i64_in _ (by omega)
  have hmul : IntKind.i64.wrap (1440 * per) = 1440 * per := IntWalk.i64_in _ (by omega)
  by_cases h1 : day < first
  · have hR : roomP ⟨nm, ch, per, first, warm⟩ day = 0 := by rw [roomP, if_pos h1]
    rw [hR]
    clear hR hS
    have h2 : day - first < 0 := by omega
    go_enter Tryd.func16, Tryd.ntmps16
    go_wp2_with fail
    go_ret
    exact ⟨rfl, (Below.refl _ _).alloc (Nat.le_refl _) _⟩
  · by_cases h2 : day - first < warm.length
    · obtain ⟨k, hk⟩ := Int.eq_ofNat_of_zero_le (by omega : 0 ≤ day - first)
      have hk2 : k < warm.length := by omega
      obtain ⟨n, hn⟩ : ∃ n, warm[k]? = some n := ⟨_, List.getElem?_eq_getElem hk2⟩
      have hR : roomP ⟨nm, ch, per, first, warm⟩ day = n := by rw [roomP, if_neg h1]; dsimp only; rw [if_pos h2, hk]; simp [hn]
      rw [hR]
      obtain ⟨blk, off, rfl, hb, hcell⟩ := hS.int k n hn
      clear hR hS hn
      rw [hk] at hsub
      have hcell2 : (w.alloc (.cells #[.string nm, .int .i64 ch, .int .i64 per, .int .i64 first, .slice (some ⟨blk, off, none⟩) warm.length c] 36)).cell? ⟨blk, off + k, none⟩ = some (.int .i64 n) := by rw [World.cell?_alloc_past _ _ _ hb]; exact hcell
      go_enter Tryd.func16, Tryd.ntmps16
      go_wp2_with fail
      go_ret
      exact ⟨rfl, (Below.refl _ _).alloc (Nat.le_refl _) _⟩
    · have hR : roomP ⟨nm, ch, per, first, warm⟩ day = 1440 * per := by rw [roomP, if_neg h1]; dsimp only; rw [if_neg h2]
      rw [hR]
      clear hR hS
      obtain ⟨k, hk⟩ := Int.eq_ofNat_of_zero_le (by omega : 0 ≤ day - first)
      have hk2 : ¬ k < warm.length := by omega
      rw [hk] at hsub
      go_enter Tryd.func16, Tryd.ntmps16
      go_wp2_with fail
      go_ret
      exact ⟨rfl, (Below.refl _ _).alloc (Nat.le_refl _) _⟩
def kindP (n : Int) : Int := if n = 1 then 1 else if n = 2 then 2 else if n = 3 then 4 else 3
theorem kindOf_any (n : Int) (hn : 1 ≤ n ∧ n ≤ 4) (w : World) : Calls Tryd.prog 31 #[.int .i64 n] w fun e w' => e = .returned (.int .i64 (kindP n)) ∧ Below w.heap.size w w' := by
  obtain rfl | rfl | rfl | rfl : n = 1 ∨ n = 2 ∨ n = 3 ∨ n = 4 := by omega
  all_goals
    go_enter Tryd.func31, Tryd.ntmps31
    go_wp2_with fail
    go_ret
    exact ⟨rfl, (Below.refl _ _).alloc (Nat.le_refl _) _⟩
theorem KindOf_any (n : Int) (w : World) : Calls Tryd.prog 11 #[.int .i64 n] w fun e w' => e = .returned (.tuple #[.int .i64 (if isCh n = true then kindP n else 0), .int .i64 (if isCh n = true then 0 else 4)]) ∧ Below w.heap.size w w' := by
  have HC := Lib.hid (isChannel_any n)
  have HK := Lib.hid (kindOf_any n)
  have Hn : Hid (isCh n = true → 1 ≤ n ∧ n ≤ 4) := fun h => by simpa [isCh] using h
  generalize isCh n = C at *
  generalize kindP n = K at *
  cases C
  · go_enter Tryd.func11, Tryd.ntmps11
    go_wp2_with fail
    ((with_reducible refine (HC.out _).mono ?_); rintro e _ ⟨rfl, rfl⟩)
    go_wp2_with fail
    go_ret2
    exact ⟨rfl, Below.refl _ _⟩
  · go_enter Tryd.func11, Tryd.ntmps11
    go_wp2_with fail
    ((with_reducible refine (HC.out _).mono ?_); rintro e _ ⟨rfl, rfl⟩)
    go_wp2_with fail
    ((with_reducible refine (HK.out (Hn.out (by simp)) _).mono ?_); rintro e w1 ⟨rfl, hl_w1⟩)
    have hz_w1 := hl_w1.size
    go_wp2_with fail
    go_ret2
    exact ⟨rfl, hl_w1⟩
end Go.Proofs.YtneopbbafdmpkaaDoor
