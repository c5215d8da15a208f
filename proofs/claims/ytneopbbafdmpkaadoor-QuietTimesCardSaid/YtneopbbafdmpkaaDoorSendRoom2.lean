/- What send.Room and handlaw2.sends return. -/
import Derived.Test.YtneopbbafdmpkaaDoorSendRoom
namespace Go.Proofs.YtneopbbafdmpkaaDoor
open Go.RowKit
def byName (nm : ByteArray) (q : SPool) : Bool := q.name.toList == nm.toList
def roomV (r : SRules) (nm : ByteArray) (day : Int) : Value :=
  if rulesFault r ≠ 0 then .tuple #[.int .i64 0, .int .i64 (rulesFault r)]
  else if idxGo (byName nm) 0 r.pools < 0 then .tuple #[.int .i64 0, .int .i64 8]
  else if ¬ (0 ≤ day ∧ day ≤ 3000) then .tuple #[.int .i64 0, .int .i64 1]
  else .tuple #[.int .i64 (match r.pools[(idxGo (byName nm) 0 r.pools).toNat]? with | some p => roomP p day | none => 0), .int .i64 0]
theorem idxGo_get {α : Type} (p : α → Bool) : ∀ (l : List α) (k : Nat), 0 ≤ idxGo p k l → ∃ (j : Nat) (x : α), idxGo p k l = k + j ∧ l[j]? = some x
  | [], k, h => by simp [idxGo] at h
  | x :: r, k, h => by
    rw [idxGo] at h ⊢
    by_cases hx : p x = true
    · exact ⟨0, x, by simp [hx], rfl⟩
    · rw [if_neg hx] at h ⊢
      obtain ⟨j, y, h1, h2⟩ := idxGo_get p r (k + 1) h
      exact ⟨j + 1, y, by rw [h1]; omega, h2⟩
theorem poolF_ok {seen : List SPool} {p : SPool} (h : poolF seen p = 0) : (1 ≤ p.per ∧ p.per ≤ 10000) ∧ (0 ≤ p.first ∧ p.first ≤ 3000) := by
  unfold poolF at h
  by_cases h1 : (1 ≤ p.per ∧ p.per ≤ 10000) ∧ (0 ≤ p.first ∧ p.first ≤ 3000)
  · exact h1
  · exfalso
    simp only [h1] at h
    split at h
    · simp at h
    · split at h
      · simp at h
      · split at h
        · simp at h
        · simp at h
theorem poolsGo_ok : ∀ {l seen : List SPool}, poolsGo seen l = 0 → ∀ p ∈ l, (1 ≤ p.per ∧ p.per ≤ 10000) ∧ (0 ≤ p.first ∧ p.first ≤ 3000)
  | [], _, _, p, hp => by cases hp
  | q :: r, seen, h, p, hp => by
    rw [poolsGo] at h
    by_cases h1 : poolF seen q = 0
    · rw [if_neg (by simp [h1])] at h
      rcases List.mem_cons.1 hp with rfl | hp
      · exact poolF_ok h1
      · exact poolsGo_ok h p hp
    · rw [if_pos h1] at h
      exact absurd h h1
theorem rules_pools {r : SRules} (h : rulesFault r = 0) : ∀ p ∈ r.pools, (1 ≤ p.per ∧ p.per ≤ 10000) ∧ (0 ≤ p.first ∧ p.first ≤ 3000) := by
  unfold rulesFault at h
  split at h
  · contradiction
  · split at h
    · simp at h
    · split at h
      · simp at h
      · split at h
        · contradiction
        · split at h
          · contradiction
          · split at h
            · contradiction
            · rename_i h6
              have h7 : poolsFault r.pools = 0 := by simpa using h6
              unfold poolsFault at h7
              split at h7
              · simp at h7
              · exact poolsGo_ok h7
theorem RulesIn.keepB {N : Nat → Prop} {w w' : World} {r : SRules} {Aq Ar Ac Ap Ad : Option Addr} (h : RulesIn N w r Aq Ar Ac Ap Ad) (k : Below w.heap.size w w') : RulesIn N w' r Aq Ar Ac Ap Ad := ⟨h.q.keepB k, h.k.keepB k, h.c.keepB k, h.p.keepB k, h.d.keepB k⟩
abbrev rulesV (r : SRules) (Aq Ar Ac Ap Ad : Option Addr) (cq cr cc cpp cd : Nat) : Array Value := #[.slice Aq r.quiet.length cq, .int .i64 r.qfrom, .int .i64 r.qto, .slice Ar r.ranks.length cr, .slice Ac r.caps.length cc, .slice Ap r.pools.length cpp, .slice Ad r.delays.length cd]
set_option maxHeartbeats 4000000 in
set_option maxRecDepth 100000 in
theorem Room_any (N : Nat → Prop) (r : SRules) (Aq Ar Ac Ap Ad : Option Addr) (cq cr cc cpp cd : Nat) (nm : ByteArray) (day : Int) (w : World) (hI : RulesIn N w r Aq Ar Ac Ap Ad) (hO : RulesOk r) (hcap : r.ranks.length ≤ cr ∧ r.pools.length ≤ cpp) :
    Calls Tryd.prog 10 #[.agg (rulesV r Aq Ar Ac Ap Ad cq cr cc cpp cd), .string nm, .int .i64 day] w fun e w' => e = .returned (roomV r nm day) ∧ Below w.heap.size w w' := by
  obtain ⟨o1, ho1⟩ : ∃ o, o = Obj.cells (rulesV r Aq Ar Ac Ap Ad cq cr cc cpp cd) 30 := ⟨_, rfl⟩
  obtain ⟨o2, ho2⟩ : ∃ o, o = Obj.cells #[.string nm] 9 := ⟨_, rfl⟩
  have hb2 : Below w.heap.size w ((w.alloc o1).alloc o2) := ((Below.refl _ _).alloc (Nat.le_refl _) _).alloc (by simp) _
  have l1 : LV ((w.alloc o1).alloc o2) w.heap.size (rulesV r Aq Ar Ac Ap Ad cq cr cc cpp cd) 30 := by rw [ho1]; exact (LV.new _ _ _ _ rfl).alloc _
  have l2 : LV ((w.alloc o1).alloc o2) (w.heap.size + 1) #[.string nm] 9 := by rw [ho2]; exact LV.new _ _ _ _ (by simp)
  have hI2 := hI.keepB hb2
  have HO := Lib.hid hO
  have HCap := Lib.hid hcap
  have Hpo : Hid (rulesFault r = 0 → ∀ p ∈ r.pools, (1 ≤ p.per ∧ p.per ≤ 10000) ∧ (0 ≤ p.first ∧ p.first ≤ 3000)) := fun h => rules_pools h
  have hpl : r.pools.length ≤ 1000 := hO.pl
  have hsz : ((w.alloc o1).alloc o2).heap.size = w.heap.size + 2 := by simp
  clear hI hO hcap
  have Hc := Lib.hid (checkRules_any N r Aq Ar Ac Ap Ad cq cr cc cpp cd _ hI2 HO.out HCap.out)
  have HI2 := Lib.hid hI2
  clear hI2
  obtain ⟨R, HR⟩ : ∃ R, Hid (roomV r nm day = R) := ⟨_, Lib.hid rfl⟩
  rw [HR.out]
  obtain ⟨F, HF⟩ : ∃ F, Hid (rulesFault r = F) := ⟨_, Lib.hid rfl⟩
  rw [HF.out] at Hc
  have c0 := l1.cell 0 _ rfl
  have c1 := l1.cell 1 _ rfl
  have c2 := l1.cell 2 _ rfl
  have c3 := l1.cell 3 _ rfl
  have c4 := l1.cell 4 _ rfl
  have c5 := l1.cell 5 _ rfl
  have c6 := l1.cell 6 _ rfl
  rw [ho1, ho2] at c0 c1 c2 c3 c4 c5 c6 Hc
  by_cases hF : F = 0
  · subst hF
    go_enter Tryd.func10, Tryd.ntmps10
    go_wp2_with fail
    ((with_reducible refine (Hc.out).mono ?_); rintro e w1 ⟨rfl, hl1⟩)
    clear c0 c1 c2 c3 c4 c5 c6 Hc
    rw [← ho1, ← ho2] at hl1
    rw [hsz] at hl1
    have m1 : LV w1 w.heap.size _ _ := l1.kb3 hl1 (by omega)
    have m2 : LV w1 (w.heap.size + 1) _ _ := l2.kb3 hl1 (by omega)
    have hb1 : Below w.heap.size w w1 := hb2.trans (hl1.mono (by omega))
    have HI1 := Lib.hid (HI2.out.keepB (hsz ▸ hl1))
    clear l1 l2 hb2 HI2 hl1 hsz
    have c5 := m1.cell 5 _ rfl
    have hz1 := m2.lt
    obtain ⟨I, HIx⟩ : ∃ I, Hid (idxGo (byName nm) 0 r.pools = I) := ⟨_, Lib.hid rfl⟩
    have Hix := Lib.hid (indexRoom_any (w.heap.size + 1) (byName nm) N Ap r.pools r.pools.length cpp w1 HI1.out.p (Nat.le_refl _) (by omega) (fun w' q Aw nw cw hb _ => sameStr_any _ nm q Aw nw cw w' (m2.kb3 hb m2.lt)))
    rw [List.take_length, HIx.out] at Hix
    go_wp2_with fail
    ((with_reducible refine (Hix.out).mono ?_); rintro e w2 ⟨rfl, hl2⟩)
    clear c5 Hix m2
    have n1 : LV w2 w.heap.size _ _ := m1.kb3 hl2 m1.lt
    have hb2 : Below w.heap.size w w2 := hb1.trans (hl2.mono hb1.size)
    have HI2 := Lib.hid (HI1.out.keepB hl2)
    clear m1 hl2 HI1 hb1
    by_cases hI0 : I < 0
    · go_wp2_with fail
      go_ret2
      exact ⟨by rw [← HR.out, roomV, if_neg (by simp [HF.out]), HIx.out, if_pos hI0] <;> rfl, hb2⟩
    · obtain ⟨k, q, hk, hq⟩ := idxGo_get (byName nm) r.pools 0 (by rw [HIx.out]; omega)
      rw [HIx.out] at hk
      obtain rfl : I = (k : Int) := by omega
      clear hk
      by_cases hd : 0 ≤ day ∧ day ≤ 3000
      · have hD : decide (0 ≤ day ∧ day ≤ 3000) = true := decide_eq_true hd
        have Hw := Lib.hid (fun w => swithin_any day 0 3000 w)
        rw [hD] at Hw
        obtain ⟨blk, off, Aw, cw, rfl, hblk, d0, d1, d2, d3, d4, hw⟩ := HI2.out.p.pool k q hq
        have hklt : k < r.pools.length := lt_of_get hq
        have Hrm := Lib.hid (room_any N q Aw cw day w2 hw (Nat.le_trans (HO.out.ps q (List.mem_of_getElem? hq)).2 (by omega)) (Hpo.out HF.out q (List.mem_of_getElem? hq)).2 hd (Hpo.out HF.out q (List.mem_of_getElem? hq)).1)
        have HR2 : Hid (.tuple #[.int .i64 (roomP q day), .int .i64 0] = R) := by
          show _ = _
          rw [← HR.out, roomV, if_neg (by simp [HF.out]), HIx.out, if_neg hI0, if_neg (not_not_intro hd)]
          simp [hq]
        have c5 := n1.cell 5 _ rfl
        clear HR HIx hD hw hq
        obtain ⟨Rm, hRm⟩ : ∃ x, roomP q day = x := ⟨_, rfl⟩
        rw [hRm] at Hrm HR2
        obtain ⟨n0, ch, per, fi, wa⟩ := q
        dsimp only at *
        go_wp2_with fail
        ((with_reducible refine (Hw.out _).mono ?_); rintro e _ ⟨rfl, rfl⟩)
        go_wp2_with fail
        ((with_reducible refine (Hrm.out).mono ?_); rintro e w3 ⟨rfl, hl3⟩)
        go_wp2_with fail
        go_ret2
        exact ⟨by rw [← HR2.out] <;> rfl, hb2.trans (hl3.mono hb2.size)⟩
      · have hD : decide (0 ≤ day ∧ day ≤ 3000) = false := decide_eq_false hd
        have Hw := Lib.hid (fun w => swithin_any day 0 3000 w)
        rw [hD] at Hw
        go_wp2_with fail
        ((with_reducible refine (Hw.out _).mono ?_); rintro e _ ⟨rfl, rfl⟩)
        go_wp2_with fail
        go_ret2
        exact ⟨by rw [← HR.out, roomV, if_neg (by simp [HF.out]), HIx.out, if_neg (by omega), if_pos hd] <;> rfl, hb2⟩
  · go_enter Tryd.func10, Tryd.ntmps10
    go_wp2_with fail
    ((with_reducible refine (Hc.out).mono ?_); rintro e w1 ⟨rfl, hl1⟩)
    go_wp2_with fail
    go_ret2
    rw [← ho1, ← ho2] at hl1
    exact ⟨by rw [← HR.out, roomV, if_pos (by rw [HF.out]; exact hF), HF.out] <;> rfl, hb2.trans (hl1.mono (by rw [hsz]; omega))⟩
def sRules1 : SRules := ⟨[], 0, 0, [], [], [⟨⟨#[97]⟩, 1, 2, 0, []⟩], []⟩
theorem room1 : roomV sRules1 ⟨#[97]⟩ 0 = .tuple #[.int .i64 2880, .int .i64 0] := by
  have h1 : rulesFault sRules1 = 0 := by decide +kernel
  have h2 : idxGo (byName ⟨#[97]⟩) 0 sRules1.pools = 0 := by decide +kernel
  rw [roomV, h1, h2]
  rfl
theorem kind4 : (Value.tuple #[.int .i64 (if isCh 4 = true then kindP 4 else 0), .int .i64 (if isCh 4 = true then 0 else 4)]) = .tuple #[.int .i64 3, .int .i64 0] := by rfl
set_option maxHeartbeats 4000000 in
theorem sends_any (w : World) : Calls Tryd.prog 15 #[] w fun e w' => e = .returned (.bool true) ∧ Below w.heap.size w w' := by
  have HK := Lib.hid (KindOf_any 4)
  rw [kind4] at HK
  have HM : Hid (∀ (w1 w2 : World) (X : Nat), X = w1.heap.size → w2 = w1.alloc (.cells #[.string ⟨#[97]⟩, .int .i64 1, .int .i64 2, .int .i64 0, .slice none 0 0] 36) → Calls Tryd.prog 10 #[.agg #[.slice none 0 0, .int .i64 0, .int .i64 0, .slice none 0 0, .slice none 0 0, .slice (some ⟨X, 0, none⟩) 1 1, .slice none 0 0], .string ⟨#[97]⟩, .int .i64 0] w2 fun e w' => e = .returned (.tuple #[.int .i64 2880, .int .i64 0]) ∧ Below w2.heap.size w2 w') := fun w1 w2 X hX hw => by
    have lv : LV w2 X #[.string ⟨#[97]⟩, .int .i64 1, .int .i64 2, .int .i64 0, .slice none 0 0] 36 := by rw [hw]; exact LV.new _ _ _ _ hX
    have hp : Sl rPool (fun _ => False) w2 (some ⟨X, 0, none⟩) sRules1.pools := fun i x hx => by
      obtain rfl : i = 0 := by have := lt_of_get hx; simp [sRules1] at this; exact this
      cases hx
      refine ⟨X, 0, _, rfl, lv.lt, id, ⟨SPool.cells ⟨⟨#[97]⟩, 1, 2, 0, []⟩, [.slice none 0 0], rfl, rfl, none, 0, rfl, Sl.nil⟩, fun j u hu => ?_⟩
      have hj := lv.cell j u (by simpa [SPool.cells] using hu)
      simpa using hj
    have := Room_any (fun _ => False) sRules1 none none none (some ⟨X, 0, none⟩) none 0 0 0 1 0 ⟨#[97]⟩ 0 w2 ⟨Sl.nil, Sl.nil, Sl.nil, hp, Sl.nil⟩ ⟨by decide, by decide, by decide, by decide, by decide, by decide, by decide, by decide⟩ (by decide)
    rw [room1] at this
    exact this
  go_enter Tryd.func15, Tryd.ntmps15
  go_wp2_with fail
  ((with_reducible refine (HK.out _).mono ?_); rintro e w1 ⟨rfl, hl_w1⟩)
  have hz_w1 := hl_w1.size
  go_wp2_with fail
  ((with_reducible refine (HM.out w1 _ _ rfl rfl).mono ?_); rintro e w2 ⟨rfl, hl2⟩)
  go_wp2_with fail
  go_ret
  exact ⟨rfl, hl_w1.trans ((((Below.refl _ _).alloc (Nat.le_refl _) _).trans (hl2.mono (by simp))).mono hz_w1)⟩
end Go.Proofs.YtneopbbafdmpkaaDoor
