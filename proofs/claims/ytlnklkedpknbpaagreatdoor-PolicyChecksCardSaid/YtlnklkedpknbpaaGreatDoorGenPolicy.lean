/- What the generator Policy makes. -/
import Derived.Test.YtlnklkedpknbpaaGreatDoorGenPol
import Derived.Test.YtlnklkedpknbpaaGreatDoorOdd
import Derived.Test.YtlnklkedpknbpaaGreatDoorRevP
namespace Go.Proofs.YtlnklkedpknbpaaGreatDoor
open Go.RowKit
theorem St.clear {b m : Nat} {w0 w : World} {cs : List Chunk} (S : St b m w0 w cs) : St b m w0 w [] := ⟨S.g, S.b0, (fun c hc => by cases hc), (fun c hc => by cases hc), List.Pairwise.nil⟩
theorem map_set_same {α β : Type} (f : α → β) (l : List α) (k : Nat) (x y : α) (h : l[k]? = some x) (e : f y = f x) : (l.set k y).map f = l.map f := by
  obtain ⟨hlt, rfl⟩ := List.getElem?_eq_some_iff.1 h
  refine List.ext_getElem? fun i => ?_
  rw [List.getElem?_map, List.getElem?_map, List.getElem?_set]
  by_cases hi : k = i
  · subst hi
    rw [if_pos rfl, if_pos hlt, List.getElem?_eq_getElem hlt]
    simp [e]
  · rw [if_neg hi]
theorem mem_set2 {α : Type} {l : List α} {k : Nat} {y e : α} (h : e ∈ l.set k y) : e = y ∨ e ∈ l := by
  rcases mem_set_cases h with h | ⟨j, _, h⟩
  · exact .inl h
  · exact .inr (List.mem_of_getElem? h)
def DrawsPolicy (b m : Nat) (w : World) (e : Ending) (w' : World) : Prop := ∃ (v : Value) (q : List PQ), e = .returned v ∧ QOk 10 q ∧ St b m w w' (polC w.heap.size v q)
def polFact (B : Nat) (v0 : Value) (i : Nat) (v : Value) (w : World) : Prop :=
  match i with
  | 4 => v = v0
  | 6 => IsLitS B [⟨#[101, 117]⟩, ⟨#[]⟩, ⟨#[122, 122]⟩] v w
  | _ => True
theorem polFact_keep {b B : Nat} (hb : b < B) (v0 : Value) (i : Nat) (v : Value) (w w' : World) (k : SK b w w') (h : polFact B v0 i v w) : polFact B v0 i v w' := by
  unfold polFact at *
  split at h
  · exact h
  · exact h.keep k hb
  · trivial
set_option maxHeartbeats 8000000 in
set_option maxRecDepth 100000 in
theorem policy_any (b m : Nat) (w : World) (hs : Strm b m w) (hm : m ≤ 10000000) :
    Calls Tryz.prog 12 #[.pointer (some ⟨b, 0, none⟩)] w (DrawsPolicy b (m + 130) w) := by
  have S0 := St.start hs
  clear hs
  go_enter Tryz.func12, Tryz.ntmps12
  go_wp2_with fail
  ((with_reducible refine (rightPolicy_any b m _ S0.g.s (by omega)).mono ?_); rintro e w1 ⟨v, q, rfl, hq1, hok, S⟩)
  clear S0
  have HQ := Lib.hid hok
  have hql := hok.len
  clear hok
  obtain ⟨g, cap, rfl, hcap⟩ := (S.ow 0 rfl).form hq1
  go_wp2_with fail
  ((with_reducible refine (flip_any b _ _ _ S.g.s (by omega) (by omega) (by omega)).mono ?_); rintro e w2 ⟨r2, rfl, hk_w2, hs_w2⟩)
  replace S := S.step hk_w2 hs_w2
  clear hk_w2 hs_w2
  cases r2
  · go_wp2_with fail
    go_ret
    exact ⟨_, q, rfl, HQ.out.mono (by omega), S.mono (by omega)⟩
  · go_wp2_with fail
    ((with_reducible refine (next_any b _ _ _ S.g.s (by omega) (by omega) (by omega)).mono ?_); rintro e w3 ⟨kk, kk_lo, kk_hi, rfl, hk_w3, hs_w3⟩)
    replace S := S.step hk_w3 hs_w3
    clear hk_w3 hs_w3
    obtain ⟨k, rfl⟩ := Int.eq_ofNat_of_zero_le (by omega : 0 ≤ kk)
    have hk : k < q.length := by omega
    obtain ⟨x, hx⟩ : ∃ x, q[k]? = some x := ⟨_, List.getElem?_eq_getElem hk⟩
    have Hx := Lib.hid hx
    clear hx
    go_wp2_with fail
    ((with_reducible refine (next_any b _ _ _ S.g.s (by omega) (by omega) (by omega)).mono ?_); rintro e w4 ⟨r4, r4_lo, r4_hi, rfl, hk_w4, hs_w4⟩)
    replace S := S.step hk_w4 hs_w4
    clear hk_w4 hs_w4
    have hr4 : r4 = 0 ∨ r4 = 1 ∨ r4 = 2 ∨ r4 = 3 := by omega
    clear r4_lo r4_hi
    rcases hr4 with h4 | h4 | h4 | h4
    all_goals subst h4
    · go_wp2_with fail
      ((with_reducible refine (one_le b _ _ _ (10) S.g.s (by first | rfl | simp) (by first | rfl | simp) (strsLe_of (by decide)) (by simp) (by simp) (by omega)).mono ?_); rintro e w5 ⟨nm, nm_le, rfl, hk_w5, hs_w5⟩)
      replace S := S.step hk_w5 hs_w5
      clear hk_w5 hs_w5
      have hcell := Own.cellP flatPQ (S.ow 0 rfl) rfl k x Hx.out 0 (.string x.nm) rfl
      have hc0 : w5.cell? ⟨g, k * 2, none⟩ = some (.string x.nm) := hcell.1
      have hf0 : w5.frozen? ⟨g, k * 2, none⟩ = false := hcell.2
      clear hcell
      go_wp2_with fail
      go_ret
      have S6 : St b _ w (w5.setCell ⟨g, k * 2, none⟩ (.string nm)) (.own rPQ w.heap.size 58 (.slice (some ⟨g, 0, none⟩) q.length cap) (q.set k ⟨nm, x.A, x.c, x.ts⟩) :: q.map (tq w.heap.size)) := S.put flatPQ 0 rfl rfl k x ⟨nm, x.A, x.c, x.ts⟩ Hx.out 0 (by decide) (.string nm) rfl
      rw [← map_set_same (tq w.heap.size) q k x ⟨nm, x.A, x.c, x.ts⟩ Hx.out rfl] at S6
      refine ⟨_, _, rfl, ⟨by simp; omega, fun e he => ?_, fun e he => ?_, fun e he => ?_⟩, S6.mono (by omega)⟩
      · rcases mem_set2 he with rfl | he
        · exact nm_le
        · exact HQ.out.nm e he
      · rcases mem_set2 he with rfl | he
        · exact Nat.le_succ_of_le (HQ.out.tl x (List.mem_of_getElem? Hx.out))
        · exact Nat.le_succ_of_le (HQ.out.tl e he)
      · rcases mem_set2 he with rfl | he
        · exact HQ.out.rg x (List.mem_of_getElem? Hx.out)
        · exact HQ.out.rg e he
    · have hcell := Own.cellP flatPQ (S.ow 0 rfl) rfl k x Hx.out 1 (.slice x.A x.ts.length x.c) rfl
      have hc1 : w4.cell? ⟨g, k * 2 + 1, none⟩ = some (.slice x.A x.ts.length x.c) := hcell.1
      clear hcell
      go_wp2_with fail
      refine wp_region_mixG 21 (fun wc => wc.cell? ⟨g, k * 2 + 1, none⟩ = some (.slice x.A x.ts.length x.c)) [.q 0, .q 1, .q 2, .q 3, .q 4, .q 5, .q 8, .q 10, .q 12, .q 14, .e 6, .e 7, .e 9, .e 11, .e 13, .e 15, .q 16, .e 17, .e 18, .q 19, .q 20, .e 21] (by kernel_rfl) (by kernel_rfl) (fun _ hd => (Own.cellP flatPQ ((S.below (hd.below _)).ow 0 rfl) rfl k x Hx.out 1 (.slice x.A x.ts.length x.c) rfl).1) (fun KK hKK wd hd => ?_)
      replace S := S.below (hd.below _)
      clear hd hc1
      repeat (refine mixG_p rfl (fun K hK => ?_); go_simp; (try go_bits); (try simp (disch := omega) only [if_pos]); (try simp (disch := omega) only [if_neg]); (try simp (disch := omega) only [dif_pos]); (try simp (disch := omega) only [dif_neg]); (try go_simp); (refine hK _ ?_; clear hK K))
      refine mixG_load (.slice x.A x.ts.length x.c) rfl rfl rfl rfl (fun _ => rfl) (fun _ h => h) ?_
      repeat (refine mixG_p rfl (fun K hK => ?_); go_simp; (try go_bits); (try simp (disch := omega) only [if_pos]); (try simp (disch := omega) only [if_neg]); (try simp (disch := omega) only [dif_pos]); (try simp (disch := omega) only [dif_neg]); (try go_simp); (refine hK _ ?_; clear hK K))
      have hCa : ∀ o, (wd.alloc o).cell? ⟨g, k * 2 + 1, none⟩ = some (.slice x.A x.ts.length x.c) := fun o => (Own.cellP flatPQ ((S.alloc o).ow 0 rfl) rfl k x Hx.out 1 (.slice x.A x.ts.length x.c) rfl).1
      refine mixG_l rfl rfl (fun K hK => ?_)
      go_wp2_with fail
      refine ⟨by first | exact hCa _ | exact fun _ => hCa _, ?_⟩
      clear hCa
      refine mixG_l rfl rfl (fun K hK => ?_)
      go_wp2_with fail
      ((with_reducible refine (one_le b _ _ _ (10) S.g.s (by first | rfl | simp) (by first | rfl | simp) (strsLe_of (by decide)) (by simp) (by simp) (by omega)).mono ?_); rintro e w5 ⟨rg, rg_le, rfl, hk_w5, hs_w5⟩)
      replace S := S.step hk_w5 hs_w5
      clear hk_w5 hs_w5
      have hCc : w5.cell? ⟨g, k * 2 + 1, none⟩ = some (.slice x.A x.ts.length x.c) := (Own.cellP flatPQ (S.ow 0 rfl) rfl k x Hx.out 1 (.slice x.A x.ts.length x.c) rfl).1
      go_wp2_with fail
      refine ⟨by first | exact hCc | exact fun _ => hCc, ?_⟩
      clear hCc
      refine mixG_l rfl rfl (fun K hK => ?_)
      go_wp2_with fail
      ((with_reducible refine (odd_any b _ _ _ _ S.g.s (by omega) (by omega) (by omega) (by omega)).mono ?_); rintro e w6 ⟨ch, ch_lo, ch_hi, rfl, hk_w6, hs_w6⟩)
      replace S := S.step hk_w6 hs_w6
      clear hk_w6 hs_w6
      have hCc : w6.cell? ⟨g, k * 2 + 1, none⟩ = some (.slice x.A x.ts.length x.c) := (Own.cellP flatPQ (S.ow 0 rfl) rfl k x Hx.out 1 (.slice x.A x.ts.length x.c) rfl).1
      go_wp2_with fail
      refine ⟨by first | exact hCc | exact fun _ => hCc, ?_⟩
      clear hCc
      refine mixG_l rfl rfl (fun K hK => ?_)
      go_wp2_with fail
      ((with_reducible refine (flip_any b _ _ _ S.g.s (by omega) (by omega) (by omega)).mono ?_); rintro e w7 ⟨fr, rfl, hk_w7, hs_w7⟩)
      replace S := S.step hk_w7 hs_w7
      clear hk_w7 hs_w7
      have hCc : w7.cell? ⟨g, k * 2 + 1, none⟩ = some (.slice x.A x.ts.length x.c) := (Own.cellP flatPQ (S.ow 0 rfl) rfl k x Hx.out 1 (.slice x.A x.ts.length x.c) rfl).1
      go_wp2_with fail
      refine ⟨by first | exact hCc | exact fun _ => hCc, ?_⟩
      clear hCc
      refine mixG_l rfl rfl (fun K hK => ?_)
      go_wp2_with fail
      ((with_reducible refine (odd_any b _ _ _ _ S.g.s (by omega) (by omega) (by omega) (by omega)).mono ?_); rintro e w8 ⟨dy, dy_lo, dy_hi, rfl, hk_w8, hs_w8⟩)
      replace S := S.step hk_w8 hs_w8
      clear hk_w8 hs_w8
      have hCc : w8.cell? ⟨g, k * 2 + 1, none⟩ = some (.slice x.A x.ts.length x.c) := (Own.cellP flatPQ (S.ow 0 rfl) rfl k x Hx.out 1 (.slice x.A x.ts.length x.c) rfl).1
      go_wp2_with fail
      refine ⟨by first | exact hCc | exact fun _ => hCc, ?_⟩
      clear hCc
      refine mixG_l rfl rfl (fun K hK => ?_)
      go_wp2_with fail
      ((with_reducible refine (odd_any b _ _ _ _ S.g.s (by omega) (by omega) (by omega) (by omega)).mono ?_); rintro e w9 ⟨wt, wt_lo, wt_hi, rfl, hk_w9, hs_w9⟩)
      replace S := S.step hk_w9 hs_w9
      clear hk_w9 hs_w9
      have hCc : w9.cell? ⟨g, k * 2 + 1, none⟩ = some (.slice x.A x.ts.length x.c) := (Own.cellP flatPQ (S.ow 0 rfl) rfl k x Hx.out 1 (.slice x.A x.ts.length x.c) rfl).1
      go_wp2_with fail
      refine ⟨by first | exact hCc | exact fun _ => hCc, ?_⟩
      clear hCc
      repeat (refine mixG_p rfl (fun K hK => ?_); go_simp; (try go_bits); (try simp (disch := omega) only [if_pos]); (try simp (disch := omega) only [if_neg]); (try simp (disch := omega) only [dif_pos]); (try simp (disch := omega) only [dif_neg]); (try go_simp); (refine hK _ ?_; clear hK K))
      have htl : x.ts.length ≤ 9 := HQ.out.tl x (List.mem_of_getElem? Hx.out)
      have hsz := S.g.size
      have hCa : ∀ o, (w9.alloc o).cell? ⟨g, k * 2 + 1, none⟩ = some (.slice x.A x.ts.length x.c) := fun o => (Own.cellP flatPQ ((S.alloc o).ow 0 rfl) rfl k x Hx.out 1 (.slice x.A x.ts.length x.c) rfl).1
      have SP := S.perm (perm_pick (tq w.heap.size) q k x Hx.out [.own rPQ w.heap.size 58 (.slice (some ⟨g, 0, none⟩) q.length cap) q])
      refine mixG_l rfl rfl (fun K hK => ?_)
      go_wp2_with fail
      first | refine ⟨hCa _, ?_⟩ | refine ⟨fun _ => hCa _, ?_⟩ | skip
      clear hCa
      refine mixG_l rfl rfl (fun K hK => ?_)
      refine SP.app 0 rfl tyTerm rfl _ _ rfl ⟨rg, ch, fr, dy, wt⟩ 1 rfl rfl rfl (oneTerm ⟨rg, ch, fr, dy, wt⟩) hsz (by omega) (by decide) ?_
      intro v' w10 S6
      obtain ⟨A6, c6, rfl⟩ := (S6.ow 0 rfl).len
      have hcell := Own.cellP flatPQ (S6.ow 1 rfl) rfl k x Hx.out 1 (.slice x.A x.ts.length x.c) rfl
      have hCb : w10.cell? ⟨g, k * 2 + 1, none⟩ = some (.slice x.A x.ts.length x.c) := hcell.1
      have hCf : w10.frozen? ⟨g, k * 2 + 1, none⟩ = false := hcell.2
      clear hcell
      go_wp2_with fail
      first | refine ⟨hCb, ?_⟩ | refine ⟨fun _ => hCb, ?_⟩ | skip
      repeat (refine mixG_p rfl (fun K hK => ?_); go_simp; (try go_bits); (try simp (disch := omega) only [if_pos]); (try simp (disch := omega) only [if_neg]); (try simp (disch := omega) only [dif_pos]); (try simp (disch := omega) only [dif_neg]); (try go_simp); (refine hK _ ?_; clear hK K))
      refine mixG_l rfl rfl (fun K hK => ?_)
      go_wp2_with fail
      refine ⟨fun h => absurd rfl h, ?_⟩
      refine mixG_nil ?_
      simp only [Exit.then]
      refine hKK _ _ ?_
      clear hCb hCf
      go_wp2_with fail
      go_ret
      have S7 : St b _ w (w10.setCell ⟨g, k * 2 + 1, none⟩ (.slice A6 (x.ts ++ [(⟨rg, ch, fr, dy, wt⟩ : PTerm)]).length c6)) (tq w.heap.size (⟨x.nm, A6, c6, x.ts ++ [(⟨rg, ch, fr, dy, wt⟩ : PTerm)]⟩ : PQ) :: ([.own rPQ w.heap.size 58 (.slice (some ⟨g, 0, none⟩) q.length cap) (q.set k (⟨x.nm, A6, c6, x.ts ++ [(⟨rg, ch, fr, dy, wt⟩ : PTerm)]⟩ : PQ))] ++ (q.eraseIdx k).map (tq w.heap.size))) := S6.put flatPQ 1 rfl rfl k x (⟨x.nm, A6, c6, x.ts ++ [(⟨rg, ch, fr, dy, wt⟩ : PTerm)]⟩ : PQ) Hx.out 1 (by decide) (.slice A6 (x.ts ++ [(⟨rg, ch, fr, dy, wt⟩ : PTerm)]).length c6) rfl
      have S8 := S7.perm (perm_put (tq w.heap.size) q k x (⟨x.nm, A6, c6, x.ts ++ [(⟨rg, ch, fr, dy, wt⟩ : PTerm)]⟩ : PQ) Hx.out [.own rPQ w.heap.size 58 (.slice (some ⟨g, 0, none⟩) q.length cap) (q.set k (⟨x.nm, A6, c6, x.ts ++ [(⟨rg, ch, fr, dy, wt⟩ : PTerm)]⟩ : PQ))])
      refine ⟨_, q.set k (⟨x.nm, A6, c6, x.ts ++ [(⟨rg, ch, fr, dy, wt⟩ : PTerm)]⟩ : PQ), rfl, ⟨by simp; omega, fun e he => ?_, fun e he => ?_, fun e he => ?_⟩, by rw [show x.ts.length + 1 = (x.ts ++ [(⟨rg, ch, fr, dy, wt⟩ : PTerm)]).length by simp]; exact S8.mono (by omega)⟩
      · rcases mem_set2 he with rfl | he
        · exact HQ.out.nm x (List.mem_of_getElem? Hx.out)
        · exact HQ.out.nm e he
      · rcases mem_set2 he with rfl | he
        · simp; omega
        · exact Nat.le_succ_of_le (HQ.out.tl e he)
      · rcases mem_set2 he with rfl | he
        · intro t ht
          rcases List.mem_append.1 ht with ht | ht
          · exact HQ.out.rg x (List.mem_of_getElem? Hx.out) t ht
          · rw [List.mem_singleton.1 ht]; exact rg_le
        · exact HQ.out.rg e he
    · have Hr := Lib.hid (reverse_any hq1 hql S)
      go_wp2_with fail
      ((with_reducible refine (Hr.out).mono ?_); rintro e w5 ⟨rfl, q', hp, S5⟩)
      clear Hr S
      go_wp2_with fail
      go_ret
      refine ⟨_, q', rfl, ⟨by rw [hp.length_eq]; omega, fun e he => HQ.out.nm e (hp.mem_iff.1 he), fun e he => Nat.le_succ_of_le (HQ.out.tl e (hp.mem_iff.1 he)), fun e he => HQ.out.rg e (hp.mem_iff.1 he)⟩, ?_⟩
      have S6 := S5.perm ((hp.map (tq w.heap.size)).symm.cons _)
      exact S6.mono (by omega)
    · go_wp2_with fail
      go_ret
      exact ⟨_, [], rfl, ⟨by simp, by simp, by simp, by simp⟩, (S.clear.nil rPQ _ _).mono (by omega)⟩
end Go.Proofs.YtlnklkedpknbpaaGreatDoor
