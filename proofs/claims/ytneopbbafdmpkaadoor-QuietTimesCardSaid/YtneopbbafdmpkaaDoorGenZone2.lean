/- What the generator Zone makes. -/
import Derived.Test.YtneopbbafdmpkaaDoorAppKeep
namespace Go.Proofs.YtneopbbafdmpkaaDoor
open Go.RowKit
theorem early_small {xs : List Sft} (h : ∀ s ∈ xs, 0 ≤ s.at' ∧ s.at' ≤ 1000000) : ∀ s ∈ xs, s.small := fun s hs => by
  have := h s hs
  unfold Sft.small
  omega
/-- the first shift's moment is written over -/
theorem Own.stored0 {N : Nat → Prop} {B E g n cap : Nat} {w : World} {s : Sft} {r : List Sft} (h : Own rSft N B E w (.slice (some ⟨g, 0, none⟩) n cap) (s :: r)) (d : Int) (hn : n = (s :: r).length) :
    Own rSft N B E (w.setCell ⟨g, 0, none⟩ (.int .i64 d)) (.slice (some ⟨g, 0, none⟩) n cap) (⟨d, s.off⟩ :: r) := by
  subst hn
  obtain ⟨ls, hl, hr, ho⟩ := h
  match ls, hl with
  | l :: ls, hl =>
    obtain rfl : l = Sft.cells s := hr 0 s l rfl rfl
    refine ⟨Sft.cells ⟨d, s.off⟩ :: ls, by simpa using hl, fun i x l e1 e2 => ?_, ?_⟩
    · cases i with
      | zero =>
        simp at e1 e2
        subst e1 e2
        exact rfl
      | succ i => exact (flatSft _ _ _ _).2 ((flatSft _ _ _ _).1 (hr (i + 1) x l (by simpa using e1) (by simpa using e2)))
    · exact (World.ownsRow.stored ho 0 (.int .i64 d)).1
theorem Own.first {N : Nat → Prop} {B E g n cap : Nat} {w : World} {s : Sft} {r : List Sft} (h : Own rSft N B E w (.slice (some ⟨g, 0, none⟩) n cap) (s :: r)) (hn : n = (s :: r).length) : w.cell? ⟨g, 0, none⟩ = some (.int .i64 s.at') ∧ w.frozen? ⟨g, 0, none⟩ = false := by
  subst hn
  obtain ⟨ls, hl, hr, ho⟩ := h
  match ls, hl with
  | l :: ls, hl =>
    obtain rfl : l = Sft.cells s := hr 0 s l rfl rfl
    exact ⟨(ho.cellAt 0 (by simp [rSft, Rep.flat])).trans rfl, ho.frozenAt 0⟩
theorem Own.form1 {α : Type} {r : Rep α} {N : Nat → Prop} {B E : Nat} {w : World} {v : Value} {xs : List α} (h : Own r N B E w v xs) (hx : 1 ≤ xs.length) : ∃ g cap, v = .slice (some ⟨g, 0, none⟩) xs.length cap ∧ B ≤ g ∧ g < w.heap.size := by
  obtain ⟨ls, hl, hr, ho⟩ := h
  have hlt := ho.lt
  rcases ho.2 with ⟨_, h0⟩ | ⟨g, cap, cur, rfl, hB, _⟩
  · omega
  · exact ⟨g, cap, rfl, hB, (hlt g rfl).2⟩
/-- the last shift's moment -/
theorem flat_last (xs : List Sft) (k : Nat) (s : Sft) (hk : xs[k]? = some s) : ((xs.map Sft.cells).flatten)[k * 2]? = some (.int .i64 s.at') :=
  flatten_at (n := 2) (fun l hl => by obtain ⟨s, _, rfl⟩ := List.mem_map.1 hl; rfl) k 0 (Sft.cells s) _ (by rw [List.getElem?_map, hk]; rfl) rfl
set_option maxHeartbeats 8000000 in
set_option maxRecDepth 100000 in
theorem zone_any (b m : Nat) (w : World) (hs : Strm b m w) (hm : m ≤ 1000000000) :
    Calls Tryd.prog 17 #[.pointer (some ⟨b, 0, none⟩)] w (DrawsZone b (m + 30) w) := by
  have hlt := hs.lt
  have g0 := (G.start hs).alloc (.cells #[.string ⟨#[]⟩, .slice none 0 0] 51)
  have bR0 := LV.new w w.heap.size #[.string ⟨#[]⟩, .slice none 0 0] 51 rfl
  clear hs
  go_enter Tryd.func17, Tryd.ntmps17
  go_wp2_with fail
  ((with_reducible refine (rightZone_any b m _ g0.s (by omega)).mono ?_); rintro e w1 ⟨nm, v, xs, rfl, hnm, ho1, hx1, hx2, hea, gg1⟩)
  have g1 := g0.step gg1.k gg1.s
  have bR1 := LV.keep bR0 gg1.k (by omega)
  have Ho1 : Hid (Own rSft (Off b) w.heap.size 69 (w1.alloc (.cells #[.string nm, v] 51)) v xs) := (ho1.base (B' := w.heap.size) (by simp)).alloc _ hlt
  have g2 := g1.alloc (.cells #[.string nm, v] 51)
  have bR2 := bR1.alloc (.cells #[.string nm, v] 51)
  have bZ2 := LV.new w1 w1.heap.size #[.string nm, v] 51 rfl
  have hzz := gg1.size
  simp only [World.size_alloc] at hzz
  have Hea := Lib.hid hea
  clear gg1 g0 bR0 g1 bR1 ho1 hea
  obtain ⟨gb, cap, rfl, hgb, hgb2⟩ := Ho1.out.form1 hx1
  go_wp2_with fail
  generalize hZ : w1.heap.size = Z at *
  generalize w1.alloc (.cells #[.string nm, .slice (some ⟨gb, 0, none⟩) xs.length cap] 51) = w2 at *
  ((with_reducible refine (flip_any b _ _ _ g2.s (by omega) (by omega) (by omega)).mono ?_); rintro e w3 ⟨r3, rfl, hk_w3, hs_w3⟩)
  have g3 := g2.step hk_w3 hs_w3
  have bR3 := LV.keep bR2 hk_w3 (by omega)
  have bZ3 := LV.keep bZ2 hk_w3 (by omega)
  have Ho3 := Lib.hid (Ho1.out.stepB hk_w3 hlt)
  clear hk_w3 hs_w3 g2 bR2 bZ2 Ho1
  cases r3
  · have hlen9 := True.intro
    have z0 : World.cell? w3 ⟨Z, 0, none⟩ = some (.string nm) := LV.cell bZ3 0 _ rfl
    have z1 : World.cell? w3 ⟨Z, 1, none⟩ = some (.slice (some ⟨gb, 0, none⟩) xs.length cap) := LV.cell bZ3 1 _ rfl
    have r0 : World.cell? w3 ⟨w.heap.size, 0, none⟩ = some (.string ⟨#[]⟩) := LV.cell bR3 0 _ rfl
    have r1 : World.cell? w3 ⟨w.heap.size, 1, none⟩ = some (.slice none 0 0) := LV.cell bR3 1 _ rfl
    have f0 := LV.free bR3 0
    have f1 := LV.free bR3 1
    have gf := (G.set g3 (X := w.heap.size) hlt (Nat.le_refl _) 0 (.string nm)).set (X := w.heap.size) hlt (Nat.le_refl _) 1 (.slice (some ⟨gb, 0, none⟩) xs.length cap)
    have Hof : Hid (Own rSft (Off b) w.heap.size 69 ((World.setCell w3 ⟨w.heap.size, 0, none⟩ (.string nm)).setCell ⟨w.heap.size, 1, none⟩ (.slice (some ⟨gb, 0, none⟩) xs.length cap)) (.slice (some ⟨gb, 0, none⟩) xs.length cap) (xs)) := (Own.setCell (Ho3.out) (Own.ne (Ho3.out) bR3 (by decide)) flatSft 0 _).setCell (Own.ne (Ho3.out) bR3 (by decide)) flatSft 1 _
    clear bZ3 bR3 g3
    go_wp2_with fail
    exact bodyPost_ret (v := .agg #[.string nm, .slice (some ⟨gb, 0, none⟩) xs.length cap]) (by simp [results, Tryd.results17, go_sem, r0, r1]) rfl ⟨nm, _, xs, rfl, by omega, Hof.out, by omega, early_small Hea.out, gf.mono (by omega)⟩
  · go_wp2_with fail
    ((with_reducible refine (next_any b _ _ _ g3.s (by omega) (by omega) (by omega)).mono ?_); rintro e w4 ⟨r4, r4_lo, r4_hi, rfl, hk_w4, hs_w4⟩)
    have g4 := g3.step hk_w4 hs_w4
    have bR4 := LV.keep bR3 hk_w4 (by omega)
    have bZ4 := LV.keep bZ3 hk_w4 (by omega)
    have Ho4 := Lib.hid (Ho3.out.stepB hk_w4 hlt)
    clear hk_w4 hs_w4 g3 bR3 bZ3 Ho3
    by_cases h40 : r4 = 0
    · subst h40
      go_wp2_with fail
      ((with_reducible refine (one_le b _ _ _ 100 g4.s (by simp) (by simp) (strsLe_of (by decide)) (by simp) (by simp) (by omega)).mono ?_); rintro e w5 ⟨nm5, nm5_le, rfl, hk_w5, hs_w5⟩)
      have g5 := g4.step hk_w5 hs_w5
      have bR5 := LV.keep bR4 hk_w5 (by omega)
      have bZ5 := LV.keep bZ4 hk_w5 (by omega)
      have Ho5 := Lib.hid (Ho4.out.stepB hk_w5 hlt)
      clear hk_w5 hs_w5 g4 bR4 bZ4 Ho4
      have c5 : w5.cell? ⟨Z, 0, none⟩ = some (.string nm) := bZ5.cell 0 _ rfl
      have f5 := bZ5.free 0
      have g6 := g5.set (X := Z) (by omega) (by omega) 0 (.string nm5)
      have bR6 := bR5.other (Y := Z) (by omega) 0 (.string nm5)
      have bZ6 := bZ5.set 0 (.string nm5) #[.string nm5, .slice (some ⟨gb, 0, none⟩) xs.length cap] rfl
      have Ho6 := Lib.hid (Ho5.out.setCell (Ho5.out.ne bZ5 (by decide)) flatSft 0 (.string nm5))
      clear g5 bR5 bZ5 Ho5
      have hlen9 := True.intro
      have z0 : World.cell? (w5.setCell ⟨Z, 0, none⟩ (.string nm5)) ⟨Z, 0, none⟩ = some (.string nm5) := LV.cell bZ6 0 _ rfl
      have z1 : World.cell? (w5.setCell ⟨Z, 0, none⟩ (.string nm5)) ⟨Z, 1, none⟩ = some (.slice (some ⟨gb, 0, none⟩) xs.length cap) := LV.cell bZ6 1 _ rfl
      have r0 : World.cell? (w5.setCell ⟨Z, 0, none⟩ (.string nm5)) ⟨w.heap.size, 0, none⟩ = some (.string ⟨#[]⟩) := LV.cell bR6 0 _ rfl
      have r1 : World.cell? (w5.setCell ⟨Z, 0, none⟩ (.string nm5)) ⟨w.heap.size, 1, none⟩ = some (.slice none 0 0) := LV.cell bR6 1 _ rfl
      have f0 := LV.free bR6 0
      have f1 := LV.free bR6 1
      have gf := (G.set g6 (X := w.heap.size) hlt (Nat.le_refl _) 0 (.string nm5)).set (X := w.heap.size) hlt (Nat.le_refl _) 1 (.slice (some ⟨gb, 0, none⟩) xs.length cap)
      have Hof : Hid (Own rSft (Off b) w.heap.size 69 ((World.setCell (w5.setCell ⟨Z, 0, none⟩ (.string nm5)) ⟨w.heap.size, 0, none⟩ (.string nm5)).setCell ⟨w.heap.size, 1, none⟩ (.slice (some ⟨gb, 0, none⟩) xs.length cap)) (.slice (some ⟨gb, 0, none⟩) xs.length cap) (xs)) := (Own.setCell (Ho6.out) (Own.ne (Ho6.out) bR6 (by decide)) flatSft 0 _).setCell (Own.ne (Ho6.out) bR6 (by decide)) flatSft 1 _
      clear bZ6 bR6 g6
      go_wp2_with fail
      exact bodyPost_ret (v := .agg #[.string nm5, .slice (some ⟨gb, 0, none⟩) xs.length cap]) (by simp [results, Tryd.results17, go_sem, r0, r1]) rfl ⟨nm5, _, xs, rfl, by omega, Hof.out, by omega, early_small Hea.out, gf.mono (by omega)⟩
    · have h40' : (r4 == 0) = false := by simpa using h40
      by_cases h41 : r4 = 1
      · subst h41
        clear h40 h40'
        have c5 : w4.cell? ⟨Z, 1, none⟩ = some (.slice (some ⟨gb, 0, none⟩) xs.length cap) := bZ4.cell 1 _ rfl
        have f5 := bZ4.free 1
        have g6 := g4.set (X := Z) (by omega) (by omega) 1 (.slice none 0 0)
        have bR6 := bR4.other (Y := Z) (by omega) 1 (.slice none 0 0)
        have bZ6 := bZ4.set 1 (.slice none 0 0) #[.string nm, .slice none 0 0] rfl
        have Ho6 := Lib.hid (Own.nil rSft (Off b) w.heap.size 69 (w4.setCell ⟨Z, 1, none⟩ (.slice none 0 0)))
        clear g4 bR4 bZ4 Ho4
        have hlen9 := True.intro
        have z0 : World.cell? (w4.setCell ⟨Z, 1, none⟩ (.slice none 0 0)) ⟨Z, 0, none⟩ = some (.string nm) := LV.cell bZ6 0 _ rfl
        have z1 : World.cell? (w4.setCell ⟨Z, 1, none⟩ (.slice none 0 0)) ⟨Z, 1, none⟩ = some (.slice none 0 0) := LV.cell bZ6 1 _ rfl
        have r0 : World.cell? (w4.setCell ⟨Z, 1, none⟩ (.slice none 0 0)) ⟨w.heap.size, 0, none⟩ = some (.string ⟨#[]⟩) := LV.cell bR6 0 _ rfl
        have r1 : World.cell? (w4.setCell ⟨Z, 1, none⟩ (.slice none 0 0)) ⟨w.heap.size, 1, none⟩ = some (.slice none 0 0) := LV.cell bR6 1 _ rfl
        have f0 := LV.free bR6 0
        have f1 := LV.free bR6 1
        have gf := (G.set g6 (X := w.heap.size) hlt (Nat.le_refl _) 0 (.string nm)).set (X := w.heap.size) hlt (Nat.le_refl _) 1 (.slice none 0 0)
        have Hof : Hid (Own rSft (Off b) w.heap.size 69 ((World.setCell (w4.setCell ⟨Z, 1, none⟩ (.slice none 0 0)) ⟨w.heap.size, 0, none⟩ (.string nm)).setCell ⟨w.heap.size, 1, none⟩ (.slice none 0 0)) (.slice none 0 0) (([] : List Sft))) := (Own.setCell (Ho6.out) (Own.ne (Ho6.out) bR6 (by decide)) flatSft 0 _).setCell (Own.ne (Ho6.out) bR6 (by decide)) flatSft 1 _
        clear bZ6 bR6 g6
        go_wp2_with fail
        exact bodyPost_ret (v := .agg #[.string nm, .slice none 0 0]) (by simp [results, Tryd.results17, go_sem, r0, r1]) rfl ⟨nm, _, ([] : List Sft), rfl, by omega, Hof.out, by simp, (fun s hs => by cases hs), gf.mono (by omega)⟩
      · have h41' : (r4 == 1) = false := by simpa using h41
        by_cases h42 : r4 = 2
        · subst h42
          clear h40 h40' h41 h41'
          go_wp2_with fail
          refine wp_region_mix (fun w' => LV w' Z #[.string nm, .slice (some ⟨gb, 0, none⟩) xs.length cap] 51) [(true, 0), (true, 1), (true, 2), (false, 3), (false, 4), (true, 5), (true, 6), (false, 7)] (by kernel_rfl) (by kernel_rfl) (fun w' hd => LV.kb bZ4 (hd.below _) bZ4.lt) (fun KK hKK wd hd => ?_)
          have g6 := g4.below (hd.below _)
          have bR6 := LV.kb bR4 (hd.below _) bR4.lt
          have bZ6 := LV.kb bZ4 (hd.below _) bZ4.lt
          have Ho6 := Lib.hid (Ho4.out.stepB (SK.ofBelow (hd.below _)) hlt)
          clear hd g4 bR4 bZ4 Ho4
          repeat (refine mix_p rfl (fun K hK => ?_); go_simp; (try go_bits); (try simp (disch := omega) only [if_pos]); (try simp (disch := omega) only [if_neg]); (try simp (disch := omega) only [dif_pos]); (try simp (disch := omega) only [dif_neg]); (try go_simp); (refine hK _ ?_; clear hK K))
          refine mix_load (.slice (some ⟨gb, 0, none⟩) xs.length cap) rfl rfl rfl rfl (fun _ => rfl) (fun w' h => h.cell 1 _ rfl) ?_
          repeat (refine mix_p rfl (fun K hK => ?_); go_simp; (try go_bits); (try simp (disch := omega) only [if_pos]); (try simp (disch := omega) only [if_neg]); (try simp (disch := omega) only [dif_pos]); (try simp (disch := omega) only [dif_neg]); (try go_simp); (refine hK _ ?_; clear hK K))
          refine mix_l rfl (fun K hK => ?_) bZ6
          go_wp2_with fail
          refine ⟨bZ6.alloc _, ?_⟩
          refine mix_l rfl (fun K2 hK2 => ?_) (bZ6.alloc _)
          go_wp2_with fail
          ((with_reducible refine (pick_le b _ _ _ (-1) 1 g6.s (by first | rfl | simp) (by first | rfl | simp) (intsIn_of (by decide)) (by simp) (by simp) (by omega)).mono ?_); rintro e w7 ⟨d7, d7_lo, d7_hi, rfl, hk_w7, hs_w7⟩)
          have g7 := g6.step hk_w7 hs_w7
          have bR7 := LV.keep bR6 hk_w7 (by omega)
          have bZ7 := LV.keep bZ6 hk_w7 (by omega)
          have Ho7 := Lib.hid (Ho6.out.stepB hk_w7 hlt)
          have hne1 := Lib.hid (Ho7.out.ne bZ7 (by decide))
          have hne2 := Lib.hid (Ho7.out.ne bR7 (by decide))
          clear hk_w7 hs_w7 g6 bR6 bZ6 Ho6
          go_wp2_with fail
          refine ⟨bZ7, ?_⟩
          have hx1' : 0 < xs.length := hx1
          repeat (refine mix_p rfl (fun K hK => ?_); go_simp; (try go_bits); (try simp (disch := omega) only [if_pos]); (try simp (disch := omega) only [if_neg]); (try simp (disch := omega) only [dif_pos]); (try simp (disch := omega) only [dif_neg]); (try go_simp); (refine hK _ ?_; clear hK K))
          refine mix_l rfl (fun K3 hK3 => ?_) bZ7
          match xs, hx1, hx2, Hea, Ho7, bZ7 with
          | s :: r, hx1, hx2, Hea, Ho7, bZ7 =>
          obtain ⟨c7, f7⟩ := Ho7.out.first rfl
          have hgZ : gb ≠ Z := fun e => hne1.out (by rw [e]; rfl)
          have hgR : gb ≠ w.heap.size := fun e => hne2.out (by rw [e]; rfl)
          have g8 := g7.set (X := gb) (by omega) (by omega) 0 (.int .i64 d7)
          have bR8 := bR7.other (Y := gb) (Ne.symm hgR) 0 (.int .i64 d7)
          have bZ8 := bZ7.other (Y := gb) (Ne.symm hgZ) 0 (.int .i64 d7)
          have Ho8 := Lib.hid (Ho7.out.stored0 d7 rfl)
          clear g7 bR7 bZ7 Ho7 hne1 hne2
          go_wp2_with fail
          refine ⟨bZ8, ?_⟩
          refine mix_nil ?_
          simp only [Exit.then]
          refine hKK _ _ ?_
          have hlen9 := True.intro
          have z0 : World.cell? (w7.setCell ⟨gb, 0, none⟩ (.int .i64 d7)) ⟨Z, 0, none⟩ = some (.string nm) := LV.cell bZ8 0 _ rfl
          have z1 : World.cell? (w7.setCell ⟨gb, 0, none⟩ (.int .i64 d7)) ⟨Z, 1, none⟩ = some (.slice (some ⟨gb, 0, none⟩) (s :: r).length cap) := LV.cell bZ8 1 _ rfl
          have r0 : World.cell? (w7.setCell ⟨gb, 0, none⟩ (.int .i64 d7)) ⟨w.heap.size, 0, none⟩ = some (.string ⟨#[]⟩) := LV.cell bR8 0 _ rfl
          have r1 : World.cell? (w7.setCell ⟨gb, 0, none⟩ (.int .i64 d7)) ⟨w.heap.size, 1, none⟩ = some (.slice none 0 0) := LV.cell bR8 1 _ rfl
          have f0 := LV.free bR8 0
          have f1 := LV.free bR8 1
          have gf := (G.set g8 (X := w.heap.size) hlt (Nat.le_refl _) 0 (.string nm)).set (X := w.heap.size) hlt (Nat.le_refl _) 1 (.slice (some ⟨gb, 0, none⟩) (s :: r).length cap)
          have Hof : Hid (Own rSft (Off b) w.heap.size 69 ((World.setCell (w7.setCell ⟨gb, 0, none⟩ (.int .i64 d7)) ⟨w.heap.size, 0, none⟩ (.string nm)).setCell ⟨w.heap.size, 1, none⟩ (.slice (some ⟨gb, 0, none⟩) (s :: r).length cap)) (.slice (some ⟨gb, 0, none⟩) (s :: r).length cap) ((⟨d7, s.off⟩ :: r))) := (Own.setCell (Ho8.out) (Own.ne (Ho8.out) bR8 (by decide)) flatSft 0 _).setCell (Own.ne (Ho8.out) bR8 (by decide)) flatSft 1 _
          clear bZ8 bR8 g8
          go_wp2_with fail
          exact bodyPost_ret (v := .agg #[.string nm, .slice (some ⟨gb, 0, none⟩) (s :: r).length cap]) (by simp [results, Tryd.results17, go_sem, r0, r1]) rfl ⟨nm, _, (⟨d7, s.off⟩ :: r), rfl, by omega, Hof.out, by simp at hx2 ⊢; omega, (fun t ht => by rcases List.mem_cons.1 ht with rfl | ht; exact ⟨by show (-10000000000000 : Int) ≤ d7; omega, by show d7 ≤ 10000000000000; omega⟩; exact early_small Hea.out t (List.mem_cons_of_mem _ ht)), gf.mono (by omega)⟩
        · have h42' : (r4 == 2) = false := by simpa using h42
          obtain ⟨n1, hn1⟩ : ∃ n1, xs.length = n1 + 1 := ⟨xs.length - 1, by omega⟩
          obtain ⟨la, hla⟩ : ∃ la, xs[n1]? = some la := ⟨_, List.getElem?_eq_getElem (by omega)⟩
          have hlb := Hea.out la (List.mem_of_getElem? hla)
          have Hla := Lib.hid (flat_last xs n1 la hla)
          clear hla
          go_wp2_with fail
          have hcell : ∀ {w' : World}, Own rSft (Off b) w.heap.size 69 w' (.slice (some ⟨gb, 0, none⟩) xs.length cap) xs → w'.cell? ⟨gb, n1 * 2, none⟩ = some (.int .i64 la.at') := fun {w'} h => by
            obtain ⟨ls, hl, hr, ho⟩ := h
            have hls : ls = xs.map Sft.cells := by
              apply List.ext_getElem?
              intro k
              rw [List.getElem?_map]
              rcases Nat.lt_or_ge k xs.length with hk | hk
              · have e1 : xs[k]? = some xs[k] := List.getElem?_eq_getElem hk
                have e2 : ls[k]? = some (ls[k]'(by omega)) := List.getElem?_eq_getElem (by omega)
                rw [e1, e2, (flatSft _ _ _ _).1 (hr k _ _ e1 e2)]
                rfl
              · rw [List.getElem?_eq_none hk, List.getElem?_eq_none (by omega)]
                rfl
            subst hls
            have := ho.cells (g := gb) rfl _ _ Hla.out
            rwa [add_at, Nat.zero_add] at this
          refine wp_region_mixL 21 (fun w' => LV w' Z #[.string nm, .slice (some ⟨gb, 0, none⟩) xs.length cap] 51 ∧ w'.cell? ⟨gb, n1 * 2, none⟩ = some (.int .i64 la.at')) [(true, 0), (true, 1), (true, 2), (true, 3), (true, 4), (true, 5), (true, 6), (true, 7), (true, 8), (true, 9), (true, 10), (true, 11), (true, 15), (false, 12), (false, 13), (true, 14), (false, 16), (true, 17), (false, 18), (false, 19), (true, 20), (false, 21)] (by kernel_rfl) (by kernel_rfl) (fun w' hd => ⟨LV.kb bZ4 (hd.below _) bZ4.lt, hcell (Ho4.out.stepB (SK.ofBelow (hd.below _)) hlt)⟩) (fun KK hKK wd hd => ?_)
          have g6 := g4.below (hd.below _)
          have bR6 := LV.kb bR4 (hd.below _) bR4.lt
          have bZ6 := LV.kb bZ4 (hd.below _) bZ4.lt
          have Ho6 := Lib.hid (Ho4.out.stepB (SK.ofBelow (hd.below _)) hlt)
          have e6 := hcell Ho6.out
          clear hd g4 bR4 bZ4 Ho4
          have hn2 : ((xs.length : Int) - 1) = (n1 : Int) := by omega
          repeat (refine mixL_p rfl (fun K hK => ?_); go_simp; (try go_bits); (try simp (disch := omega) only [if_pos]); (try simp (disch := omega) only [if_neg]); (try simp (disch := omega) only [dif_pos]); (try simp (disch := omega) only [dif_neg]); (try go_simp); (refine hK _ ?_; clear hK K))
          refine mixL_load (.slice (some ⟨gb, 0, none⟩) xs.length cap) rfl rfl rfl rfl (fun _ => rfl) (fun w' h => h.1.cell 1 _ rfl) ?_
          repeat (refine mixL_p rfl (fun K hK => ?_); go_simp; (try go_bits); (try simp (disch := omega) only [if_pos]); (try simp (disch := omega) only [if_neg]); (try simp (disch := omega) only [dif_pos]); (try simp (disch := omega) only [dif_neg]); (try go_simp); (refine hK _ ?_; clear hK K))
          refine mixL_load (.slice (some ⟨gb, 0, none⟩) xs.length cap) rfl rfl rfl rfl (fun _ => rfl) (fun w' h => h.1.cell 1 _ rfl) ?_
          repeat (refine mixL_p rfl (fun K hK => ?_); go_simp; (try go_bits); (try simp (disch := omega) only [if_pos]); (try simp (disch := omega) only [if_neg]); (try simp (disch := omega) only [dif_pos]); (try simp (disch := omega) only [dif_neg]); (try go_simp); (refine hK _ ?_; clear hK K))
          refine mixL_load (.slice (some ⟨gb, 0, none⟩) xs.length cap) rfl rfl rfl rfl (fun _ => rfl) (fun w' h => h.1.cell 1 _ rfl) ?_
          repeat (refine mixL_p rfl (fun K hK => ?_); go_simp; (try go_bits); (try simp (disch := omega) only [if_pos]); (try simp (disch := omega) only [if_neg]); (try simp (disch := omega) only [dif_pos]); (try simp (disch := omega) only [dif_neg]); (try go_simp); (refine hK _ ?_; clear hK K))
          refine mixL_load (.int .i64 la.at') rfl rfl rfl rfl (fun _ => rfl) (fun w' h => h.2) ?_
          repeat (refine mixL_p rfl (fun K hK => ?_); go_simp; (try go_bits); (try simp (disch := omega) only [if_pos]); (try simp (disch := omega) only [if_neg]); (try simp (disch := omega) only [dif_pos]); (try simp (disch := omega) only [dif_neg]); (try go_simp); (refine hK _ ?_; clear hK K))
          refine mixL_l rfl (fun K hK => ?_) ⟨bZ6, e6⟩
          go_wp2_with fail
          refine ⟨fun _ => ⟨bZ6.alloc _, hcell (Ho6.out.alloc _ hlt)⟩, ?_⟩
          refine mixL_l rfl (fun K2 hK2 => ?_) ⟨bZ6.alloc _, hcell (Ho6.out.alloc _ hlt)⟩
          go_wp2_with fail
          ((with_reducible refine (pick_le b _ _ _ 0 1800 g6.s (by first | rfl | simp) (by first | rfl | simp) (intsIn_of (by decide)) (by simp) (by simp) (by omega)).mono ?_); rintro e w7 ⟨d7, d7_lo, d7_hi, rfl, hk_w7, hs_w7⟩)
          have g7 := g6.step hk_w7 hs_w7
          have bR7 := LV.keep bR6 hk_w7 (by omega)
          have bZ7 := LV.keep bZ6 hk_w7 (by omega)
          have Ho7 := Lib.hid (Ho6.out.stepB hk_w7 hlt)
          have e7 := hcell Ho7.out
          clear hk_w7 hs_w7 g6 bR6 bZ6 Ho6 e6
          go_wp2_with fail
          refine ⟨fun _ => ⟨bZ7, e7⟩, ?_⟩
          repeat (refine mixL_p rfl (fun K hK => ?_); go_simp; (try go_bits); (try simp (disch := omega) only [if_pos]); (try simp (disch := omega) only [if_neg]); (try simp (disch := omega) only [dif_pos]); (try simp (disch := omega) only [dif_neg]); (try go_simp); (refine hK _ ?_; clear hK K))
          refine mixL_l rfl (fun K3 hK3 => ?_) ⟨bZ7, e7⟩
          go_wp2_with fail
          ((with_reducible refine (odd_any b _ _ _ _ g7.s (by omega) (by omega) (by omega) (by omega)).mono ?_); rintro e w8 ⟨o8, o8_lo, o8_hi, rfl, hk_w8, hs_w8⟩)
          have g8 := g7.step hk_w8 hs_w8
          have bR8 := LV.keep bR7 hk_w8 (by omega)
          have bZ8 := LV.keep bZ7 hk_w8 (by omega)
          have Ho8 := Lib.hid (Ho7.out.stepB hk_w8 hlt)
          have e8 := hcell Ho8.out
          have hz8 := g8.size
          clear hk_w8 hs_w8 g7 bR7 bZ7 Ho7 e7
          go_wp2_with fail
          refine ⟨fun _ => ⟨bZ8, e8⟩, ?_⟩
          repeat (refine mixL_p rfl (fun K hK => ?_); go_simp; (try go_bits); (try simp (disch := omega) only [if_pos]); (try simp (disch := omega) only [if_neg]); (try simp (disch := omega) only [dif_pos]); (try simp (disch := omega) only [dif_neg]); (try go_simp); (refine hK _ ?_; clear hK K))
          refine mixL_l rfl (fun K4 hK4 => ?_) ⟨bZ8, e8⟩
          go_wp2_with fail
          refine ⟨fun _ => ⟨bZ8.alloc _, hcell (Ho8.out.alloc _ hlt)⟩, ?_⟩
          refine mixL_l rfl (fun K5 hK5 => ?_) ⟨bZ8.alloc _, hcell (Ho8.out.alloc _ hlt)⟩
          refine app_flat3 (w0 := w8) flatSft tySft rfl _ _ rfl (Off b) w.heap.size gb cap xs ⟨la.at' + d7, o8⟩ _ (by rw [hn1]; rfl) Ho8.out rfl rfl (oneSft _) (by omega) (by omega) (by decide) ?_
          intro v' w9 ho9 hl9 hg9 hc9
          clear hn1 hn2
          have bZ9 := bZ8.grown hg9 (Ho8.out.ne bZ8 (by decide))
          have bR9 := bR8.grown hg9 (Ho8.out.ne bR8 (by decide))
          have g9 := g8.belowB hl9 hlt
          have Ho9 := Lib.hid ho9
          have e9 := hc9 _ _ Hla.out
          clear ho9 hl9 hg9 bZ8 bR8 g8 Ho8 hc9 e8
          go_wp2_with fail
          refine ⟨fun _ => ⟨bZ9, e9⟩, ?_⟩
          repeat (refine mixL_p rfl (fun K hK => ?_); go_simp; (try go_bits); (try simp (disch := omega) only [if_pos]); (try simp (disch := omega) only [if_neg]); (try simp (disch := omega) only [dif_pos]); (try simp (disch := omega) only [dif_neg]); (try go_simp); (refine hK _ ?_; clear hK K))
          refine mixL_l rfl (fun K6 hK6 => ?_) ⟨bZ9, e9⟩
          obtain ⟨A9, c9, e9'⟩ := Ho9.out.len
          obtain rfl : v' = .slice A9 (xs.length + 1) c9 := by rw [e9']; simp
          clear e9' e9
          have z9 := bZ9.free 1
          have z9c : w9.cell? ⟨Z, 1, none⟩ = some (.slice (some ⟨gb, 0, none⟩) xs.length cap) := bZ9.cell 1 _ rfl
          have bZ10 := bZ9.set 1 (.slice A9 (xs.length + 1) c9) #[.string nm, .slice A9 (xs.length + 1) c9] rfl
          have bR10 := bR9.other (Y := Z) (by omega) 1 (.slice A9 (xs.length + 1) c9)
          have g10 := g9.set (X := Z) (by omega) (by omega) 1 (.slice A9 (xs.length + 1) c9)
          have Ho10 := Lib.hid (Ho9.out.setCell (Ho9.out.ne bZ9 (by decide)) flatSft 1 (.slice A9 (xs.length + 1) c9))
          have hxl : (xs ++ [(⟨la.at' + d7, o8⟩ : Sft)]).length ≤ 5 := by simp; omega
          have Hxs := Lib.hid (small_snoc (s := ⟨la.at' + d7, o8⟩) (early_small Hea.out) ⟨by show (-10000000000000 : Int) ≤ la.at' + d7; omega, by show la.at' + d7 ≤ 10000000000000; omega⟩)
          clear g9 bR9 bZ9 Ho9
          generalize xs ++ [(⟨la.at' + d7, o8⟩ : Sft)] = ys at *
          go_wp2_with fail
          refine ⟨fun h => absurd rfl h, ?_⟩
          refine mixL_nil ?_
          simp only [Exit.then]
          refine hKK _ _ ?_
          clear z9 z9c
          generalize w9.setCell ⟨Z, 1, none⟩ (.slice A9 (xs.length + 1) c9) = w10 at *
          have hlen9 := True.intro
          have z0 : World.cell? w10 ⟨Z, 0, none⟩ = some (.string nm) := LV.cell bZ10 0 _ rfl
          have z1 : World.cell? w10 ⟨Z, 1, none⟩ = some (.slice A9 (xs.length + 1) c9) := LV.cell bZ10 1 _ rfl
          have r0 : World.cell? w10 ⟨w.heap.size, 0, none⟩ = some (.string ⟨#[]⟩) := LV.cell bR10 0 _ rfl
          have r1 : World.cell? w10 ⟨w.heap.size, 1, none⟩ = some (.slice none 0 0) := LV.cell bR10 1 _ rfl
          have f0 := LV.free bR10 0
          have f1 := LV.free bR10 1
          have gf := (G.set g10 (X := w.heap.size) hlt (Nat.le_refl _) 0 (.string nm)).set (X := w.heap.size) hlt (Nat.le_refl _) 1 (.slice A9 (xs.length + 1) c9)
          have Hof : Hid (Own rSft (Off b) w.heap.size 69 ((World.setCell w10 ⟨w.heap.size, 0, none⟩ (.string nm)).setCell ⟨w.heap.size, 1, none⟩ (.slice A9 (xs.length + 1) c9)) (.slice A9 (xs.length + 1) c9) (ys)) := (Own.setCell (Ho10.out) (Own.ne (Ho10.out) bR10 (by decide)) flatSft 0 _).setCell (Own.ne (Ho10.out) bR10 (by decide)) flatSft 1 _
          clear bZ10 bR10 g10
          go_wp2_with fail
          exact bodyPost_ret (v := .agg #[.string nm, .slice A9 (xs.length + 1) c9]) (by simp [results, Tryd.results17, go_sem, r0, r1]) rfl ⟨nm, _, ys, rfl, by omega, Hof.out, hxl, Hxs.out, gf.mono (by omega)⟩
end Go.Proofs.YtneopbbafdmpkaaDoor
