/- The law ConsentPersons walked: it returns true, and nothing that was there has turned. -/
import Derived.Test.YtlnklkedpknbpaaGreatDoorLawAsk
import Derived.Test.YtlnklkedpknbpaaGreatDoorAskOf
import Derived.Test.YtlnklkedpknbpaaGreatDoorRevId
import Derived.Test.YtlnklkedpknbpaaGreatDoorRepId
import Derived.Test.YtlnklkedpknbpaaGreatDoorAppN
namespace Go.Proofs.YtlnklkedpknbpaaGreatDoor
open Go Go.RowKit
theorem oneId (y : IdV) : ∀ u ∈ y.cells, u.oneCell' = true := fun u hu => by
  simp only [IdV.cells, List.mem_cons, List.not_mem_nil, or_false] at hu
  rcases hu with rfl | rfl <;> rfl
def slLen : Value → Nat
  | .slice _ n _ => n
  | _ => 0
/-- the first error, over ids -/
def foldE (f : Int) : List IdV → Int
  | [] => f
  | x :: r => foldE (firstErr [f, L.idFault x.k x.t]) r
theorem foldE_is : ∀ (xs : List IdV) (f : Int), foldE f xs = if f ≠ 0 then f else idsF xs
  | [], f => by
    show f = if f ≠ 0 then f else 0
    split
    · rfl
    · rename_i h; exact Decidable.not_not.1 h
  | x :: r, f => by
    rw [foldE, foldE_is r]
    by_cases h1 : f = 0 <;> by_cases h2 : L.idFault x.k x.t = 0 <;> simp [h1, h2, idsF, firstErr]
theorem foldE_at {xs : List IdV} {j : Nat} {x : IdV} {f : Int} (h : xs[j]? = some x) : foldE f (xs.drop j) = foldE (firstErr [f, L.idFault x.k x.t]) (xs.drop (j + 1)) := by
  obtain ⟨hk, rfl⟩ := List.getElem?_eq_some_iff.1 h
  rw [List.drop_eq_getElem_cons hk, foldE]
/-- the law's error is the program's -/
theorem perE_is (F0 Fq Qe : Int) (xs : List IdV) (B : Bool) :
    (if first3 (foldE (if F0 = 0 ∧ 100 < xs.length then 2 else F0) xs) Fq Qe = 0 ∧ B = false then 8 else first3 (foldE (if F0 = 0 ∧ 100 < xs.length then 2 else F0) xs) Fq Qe) = mofE F0 (idsErr 100 xs) Fq Qe B := by
  have h1 : foldE (if F0 = 0 ∧ 100 < xs.length then 2 else F0) xs = if F0 ≠ 0 then F0 else idsErr 100 xs := by
    rw [foldE_is, idsErr]
    by_cases h0 : F0 = 0
    · by_cases hl : 100 < xs.length
      · have hl' : (100 : Int) < (xs.length : Int) := by omega
        simp [h0, hl, hl']
      · have hl' : ¬ (100 : Int) < (xs.length : Int) := by omega
        simp [h0, hl, hl']
    · simp [h0]
  rw [h1]
  generalize idsErr 100 xs = F1
  unfold first3 mofE
  by_cases h0 : F0 = 0
  · rw [if_neg (not_not_intro h0), if_neg (not_not_intro h0)]
    by_cases h2 : F1 = 0
    · rw [if_neg (not_not_intro h2), if_neg (not_not_intro h2)]
      by_cases h3 : Fq = 0
      · rw [if_neg (not_not_intro h3), if_neg (not_not_intro h3)]
        by_cases h4 : Qe = 0
        · subst h4
          cases B <;> simp
        · rw [if_neg (fun h => h4 h.1), if_pos h4]
      · rw [if_pos h3, if_neg (fun h => h3 h.1), if_pos h3]
    · rw [if_pos h2, if_neg (fun h => h2 h.1), if_pos h2]
  · rw [if_pos h0, if_neg (by rw [if_pos h0]; exact fun h => h0 h.1), if_pos h0, if_pos h0]
theorem mofE_zero {F1 F2 F3 F4 : Int} {B : Bool} (h : mofE F1 F2 F3 F4 B = 0) : F1 = 0 ∧ F4 = 0 := by
  unfold mofE at h
  split at h
  · rename_i h1; exact absurd h h1
  · rename_i h1
    split at h
    · rename_i h2; exact absurd h h2
    · split at h
      · rename_i h3; exact absurd h h3
      · split at h
        · rename_i h4; exact absurd h h4
        · rename_i h4; exact ⟨Decidable.not_not.1 h1, Decidable.not_not.1 h4⟩
set_option maxHeartbeats 8000000 in
set_option maxRecDepth 100000 in
theorem consentPersons_any (v : Value) (w : World) (hv : IntsIn v w) (hP : Pool w) (hM : MaxL w) :
    Calls Tryz.prog 7 #[v] w fun e w' => e = .returned (.bool true) ∧ Below w.heap.size w w' := by
  obtain ⟨va, vn, vc, rfl⟩ : ∃ a n c, v = .slice a n c := by
    rcases hv with ⟨a, c, rfl⟩ | ⟨k, off, len, cap, rfl, _⟩
    · exact ⟨_, _, _, rfl⟩
    · exact ⟨_, _, _, rfl⟩
  have g0 := G.start (Strm.start hv)
  clear hv
  have hPn : 0 ≠ w.heap.size := Nat.ne_of_lt hP.lt
  have hMl : 1 < w.heap.size := by
    obtain ⟨m, h⟩ := hM
    exact World.block_lt_of_cell? w _ h
  have hMn : 1 ≠ w.heap.size := Nat.ne_of_lt hMl
  have hk0 := (SK.refl w.heap.size w).alloc (.cells #[.slice va vn vc, .int .i64 0] 25)
  have HP0 : Hid (Pool (w.alloc (.cells #[.slice va vn vc, .int .i64 0] 25))) := hP.keep hk0 hPn
  have HA := Lib.hid (asked_any w.heap.size 0 _ g0.s (by omega) (hP.keep hk0 hPn) hPn (hM.sk hk0 hMn) hMn)
  have HM := Lib.hid hM
  clear hP hM hk0 hMl
  go_enter Tryz.func7, Tryz.ntmps7
  go_wp2_with fail
  ((with_reducible refine (HA.out).mono ?_); rintro e w1 ⟨B, B2, A, c, q, v2, l, k, t, pu, rg, ch, at', rfl, hq, hl, hls, hqs, hB, hB2, S1⟩)
  obtain ⟨Al, cl, rfl⟩ := (S1.ow 0 rfl).len
  have Hpf := Lib.hid ((⟨hq, hl, hls, hqs, hB, hB2⟩ : QOk 10 q ∧ l.length ≤ 14 ∧ (∀ s ∈ l, StmSm s) ∧ QSm t pu rg ∧ (w.alloc (.cells #[.slice va vn vc, .int .i64 0] 25)).heap.size ≤ B ∧ (w.alloc (.cells #[.slice va vn vc, .int .i64 0] 25)).heap.size ≤ B2))
  obtain ⟨RS, hRS⟩ : ∃ RS, RS = (.own rStm B2 84 (.slice Al l.length cl) l :: polC B (.slice A q.length c) q) := ⟨_, rfl⟩
  rw [← hRS] at S1
  have HRS := Lib.hid hRS
  have G0 := Lib.hid g0
  generalize hw0 : w.alloc (.cells #[.slice va vn vc, .int .i64 0] 25) = w0 at *
  have HW0 := Lib.hid hw0
  clear hw0
  obtain ⟨b, hb⟩ : ∃ b, b = w.heap.size := ⟨_, rfl⟩
  have Hb := Lib.hid hb
  rw [← hb] at S1 G0 hPn hMn ⊢
  have htt : t.size ≤ 1000000 := Nat.le_trans hqs.1 (by decide)
  clear HA hRS hq hl hls hqs hB hB2 g0 hb
  have S := (S1.newAt (qqCs k t pu rg ch at') 31 _ rfl).front
  clear S1
  obtain ⟨Q, hQ⟩ : ∃ Q, Q = w1.heap.size := ⟨_, rfl⟩
  rw [← hQ] at S
  go_upto_region 3 with fail
  rw [← hQ]
  clear hQ
  generalize w1.alloc (.cells (qqCs k t pu rg ch at') 31) = w2 at *
  have c0 := (S.lv 0 rfl).all
  go_upto_region 4 with fail
  clear c0
  replace S := ((S.newAt #[.int .i64 k, .string t] 29 _ rfl).front).asOwn flatId 0 rfl [(⟨k, t⟩ : IdV)] rfl rfl (by simp) rfl 1 rfl
  obtain ⟨g, hg⟩ : ∃ g, g = w2.heap.size := ⟨_, rfl⟩
  rw [← hg] at S ⊢
  clear hg
  generalize w2.alloc (.cells #[.int .i64 k, .string t] 29) = w3 at *
  replace S : St b 440 w0 w3 (.own rId w0.heap.size 29 (.slice (some ⟨g, 0, none⟩) 1 1) [⟨k, t⟩] :: .loc Q (qqCs k t pu rg ch at') 31 :: RS) := S
  go_wp2_with fail
  ((with_reducible refine (range_any b _ _ _ _ S.g.s (by omega) (by omega) (by omega) (by omega)).mono ?_); rintro e w4 ⟨r, r0, r1, rfl, hk_w4, hs_w4⟩)
  replace S := S.step hk_w4 hs_w4
  clear hk_w4 hs_w4
  obtain ⟨n, rfl⟩ := Int.eq_ofNat_of_zero_le r0
  go_wp2_with fail
  go_loopw [8, 28] (fun v i wr => ∃ (j : Nat) (xs : List IdV), j ≤ n ∧ i = .int .i64 j ∧ Hid (xs.length = j + 1) ∧ Hid (∀ y ∈ xs, y.t.size ≤ 1000000) ∧ St b (500 + 100 * j) w0 wr (.own rId w0.heap.size 29 v xs :: .loc Q (qqCs k t pu rg ch at') 31 :: RS)) (fun _ i _ => n - (intOf i).toNat)
  case atStart => exact ⟨0, [⟨k, t⟩], Nat.zero_le _, rfl, Lib.hid rfl, (fun y hy => by rw [List.mem_singleton.1 hy]; exact htt), S.mono (by omega)⟩
  case round =>
    clear S
    obtain ⟨j, xs, hj, rfl, HXl, HX, S⟩ := hrel
    have hj3 : j ≤ 3 := by omega
    have hxl : xs.length ≤ 4 := by have := HXl.out; omega
    obtain ⟨Ao, co, rfl⟩ := (S.ow 0 rfl).len
    by_cases hlt : j < n
    · go_wp2_with fail
      ((with_reducible refine (id_any b _ _ S.g.s (by omega) (HP0.out.keep S.g.k hPn) hPn).mono ?_); rintro e w5 ⟨k', t', ht', rfl, hk5, hs5⟩)
      replace S := S.step hk5 hs5
      clear hk5 hs5
      have hsz := S.g.size
      go_wp2_with (at_builtin; refine S.app 0 rfl tyId rfl _ _ rfl (⟨k', t'⟩ : IdV) 1 rfl rfl rfl (oneId ⟨k', t'⟩) hsz (by omega) (by decide) ?_; intro v' w6 S6)
      go_roundw
      case rel => exact ⟨j + 1, xs ++ [(⟨k', t'⟩ : IdV)], by omega, by go_num, (by show _ = _; rw [List.length_append, HXl.out]; rfl), (fun y hy => by
        rcases List.mem_append.1 hy with hy | hy
        · exact HX.out y hy
        · rw [List.mem_singleton.1 hy]; exact Nat.le_trans ht' (by decide)), S6.mono (by omega)⟩
      case measure => simp [intOf]; omega
    · clear r1
      obtain ⟨g1, cap1, e1, _⟩ := (S.ow 0 rfl).form (by have := HXl.out; omega)
      rw [e1] at S ⊢
      obtain ⟨n1, hn1⟩ : ∃ n1, n1 = xs.length := ⟨_, rfl⟩
      have hn1b : 1 ≤ n1 ∧ n1 ≤ 4 := by have := HXl.out; omega
      replace S := S.mono (n := 800) (by omega)
      have HX0 := Lib.hid hn1
      rw [← hn1] at S ⊢
      clear hn1 e1 hxl HXl
      go_wp2_with fail
      ((with_reducible refine (flip_any b _ _ _ S.g.s (by omega) (by omega) (by omega)).mono ?_); rintro e w5 ⟨r5, rfl, hk_w5, hs_w5⟩)
      replace S := S.step hk_w5 hs_w5
      clear hk_w5 hs_w5
      clear hlt hj hj3
      go_upto_if 37 with fail
      have HS0 := Lib.hid S
      clear S
      go_cut [8] (fun s8 wx => s8 = .slice (some ⟨g1, 0, none⟩) n1 cap1 ∧ ∃ ys : List IdV, ys.length = n1 ∧ Hid (∀ y ∈ ys, y.t.size ≤ 1000000) ∧ St b 801 w0 wx (.own rId w0.heap.size 29 (.slice (some ⟨g1, 0, none⟩) n1 cap1) ys :: .loc Q (qqCs k t pu rg ch at') 31 :: RS))
      case first =>
        have S := HS0.out
        clear HS0
        cases r5
        · go_wp2_with fail
          go_meet
          exact ⟨rfl, xs, HX0.out.symm, HX, S⟩
        · have e := HX0.out
          subst e
          have Hr := Lib.hid (revId_any (by omega) (by omega) S)
          go_wp2_with fail
          ((with_reducible refine (Hr.out).mono ?_); rintro e w6 ⟨rfl, ys, hyl, hym, S6⟩)
          go_wp2_with fail
          go_meet
          exact ⟨rfl, ys, hyl, (fun y hy => HX.out y (hym y hy)), S6⟩
      case rest =>
        clear HS0 HX0 HX
        obtain ⟨rfl, ys, hyl, HX, S⟩ := hcut
        go_wp2_with fail
        ((with_reducible refine (flip_any b _ _ _ S.g.s (by omega) (by omega) (by omega)).mono ?_); rintro e w7 ⟨r7, rfl, hk_w7, hs_w7⟩)
        replace S := S.step hk_w7 hs_w7
        clear hk_w7 hs_w7
        go_upto_if 41 with fail
        have HS0 := Lib.hid S
        have HY0 := Lib.hid hyl
        clear S hyl
        go_cut [8] (fun s8 wx => ∃ (n2 : Nat) (zs : List IdV), s8 = .slice (some ⟨g1, 0, none⟩) n2 cap1 ∧ n2 ≤ 4 ∧ Hid (zs.length = n2) ∧ Hid (∀ y ∈ zs, y.t.size ≤ 1000000) ∧ St b 900 w0 wx (.own rId w0.heap.size 29 (.slice (some ⟨g1, 0, none⟩) n2 cap1) zs :: .loc Q (qqCs k t pu rg ch at') 31 :: RS))
        case first =>
          have S := HS0.out
          clear HS0
          cases r7
          · go_wp2_with fail
            go_meet
            exact ⟨n1, ys, rfl, by omega, HY0, HX, S.mono (by omega)⟩
          · have hcap : n1 ≤ cap1 := by
              obtain ⟨g2, cap2, e2, h2⟩ := (S.ow 0 rfl).form (by have := HY0.out; omega)
              cases e2
              have := HY0.out
              omega
            have S2 := S.cut 0 rfl (n1 - 1) (by have := HY0.out; omega)
            go_wp2_with fail
            go_meet
            exact ⟨n1 - 1, ys.take (n1 - 1), rfl, by omega, (by show _ = _; rw [List.length_take, HY0.out]; omega), (fun y hy => HX.out y (List.mem_of_mem_take hy)), S2.mono (by omega)⟩
        case rest =>
          clear HS0 HX HY0
          obtain ⟨n2, zs, rfl, hn2, HZ, HX, S⟩ := hcut
          go_wp2_with fail
          go_loopw [8] (fun v wr => ∃ (zs : List IdV), Hid (zs.length ≤ 300) ∧ Hid (∀ y ∈ zs, y.t.size ≤ 1000000) ∧ St b (900 + zs.length) w0 wr (.own rId w0.heap.size 29 v zs :: .loc Q (qqCs k t pu rg ch at') 31 :: RS)) (fun v _ => 101 - slLen v)
          case atStart => exact ⟨zs, (by show _ ≤ _; have := HZ.out; omega), HX, S.mono (by omega)⟩
          case round =>
            clear S HX HZ
            obtain ⟨zs, HZ, HX, S⟩ := hrel
            obtain ⟨Ao, co, rfl⟩ := (S.ow 0 rfl).len
            have hzl := HZ.out
            go_upto_region 12 with fail
            have HS0 := Lib.hid S
            clear S
            go_cut [53] (fun s53 wx => ∃ B : Bool, s53 = .bool B ∧ (B = true → zs.length < 101) ∧ St b (901 + zs.length) w0 wx (.own rId w0.heap.size 29 (.slice Ao zs.length co) zs :: .loc Q (qqCs k t pu rg ch at') 31 :: RS))
            case first =>
              have S := HS0.out
              clear HS0
              go_wp2_with fail
              ((with_reducible refine (flip_any b _ _ _ S.g.s (by omega) (by omega) (by omega)).mono ?_); rintro e w8 ⟨r8, rfl, hk_w8, hs_w8⟩)
              replace S := S.step hk_w8 hs_w8
              clear hk_w8 hs_w8
              cases r8
              · go_wp2_with fail
                go_meet
                exact ⟨false, rfl, (fun h => by cases h), S.mono (by omega)⟩
              · go_wp2_with fail
                go_meet
                exact ⟨_, rfl, (fun h => by simp at h; omega), S.mono (by omega)⟩
            case rest =>
              clear HS0
              obtain ⟨B, rfl, hB, S⟩ := hcut
              cases B
              · clear hB hzl
                generalize wc = we at *
                obtain ⟨hq, hl, hls, hqs, hB, hB2⟩ := Hpf.out
                have hRS := HRS.out
                subst hRS
                obtain ⟨hSp, Al', cl', e', hSl⟩ := DrawsAsked.mem hB (S.sublist (((List.Sublist.refl _).cons _).cons _))
                cases e'
                obtain ⟨Ao', co', e', _, hI⟩ := ((S.ow 0 rfl).flatM flatId (M' := fun _ => False)).toSlC (fun _ _ h => h)
                cases e'
                have LQ := S.lv 1 rfl
                have hQl := LQ.lt
                have Hb1 : Hid (Below w.heap.size w we) := by
                  have h1 := G0.out.step S.g.k S.g.s
                  rw [Hb.out, ← HW0.out] at h1
                  exact Gg.toBelow h1
                have HM1 := Lib.hid (HM.out.below Hb1.out)
                have Hok := Lib.hid hq.polOk
                have hlen : (q.map PQ.purp).length = q.length := by simp
                have hql : (q.map PQ.purp).length ≤ 1000000 := by have := hq.len; omega
                have Hlo := Lib.hid (StmSm.ok hls (by omega))
                have hrg : rg.size ≤ 1000000000 := Nat.le_trans hqs.2.2 (by decide)
                rw [← hlen]
                clear S hq hls hB hB2 hlen hqs Hpf HRS HP0 G0 HM
                generalize q.map PQ.purp = ps at *
                have hzl : zs.length ≤ 300 := HZ.out
                obtain ⟨F0, hF0⟩ : ∃ F0, stmsFault ps l = F0 := ⟨_, rfl⟩
                obtain ⟨Fq, hFq⟩ : ∃ Fq, L.idFault k t = Fq := ⟨_, rfl⟩
                obtain ⟨Qe, hQe⟩ : ∃ Qe, qErr ps pu rg ch at' = Qe := ⟨_, rfl⟩
                obtain ⟨Bh, hBh⟩ : ∃ Bh, decide ((⟨k, t⟩ : IdV) ∈ zs) = Bh := ⟨_, rfl⟩
                obtain ⟨E, hE⟩ : ∃ E, mofE F0 (idsErr 100 zs) Fq Qe Bh = E := ⟨_, rfl⟩
                obtain ⟨An, hAn⟩ : ∃ An, mofAns (fun y => mayAns ps l y.k y.t pu rg ch at') (⟨k, t⟩ : IdV) zs = An := ⟨_, rfl⟩
                obtain ⟨R, hR⟩ : ∃ R, R = if E = 0 then An else (false, 0, 0) := ⟨_, rfl⟩
                have HMO := Lib.hid (fun w' (h : Below we.heap.size we w') => mayOf_any (fun _ => False) A Al Ao ps l zs c cl co pu rg ch at' ⟨k, t⟩ w' (hSp.keepB h) Hok.out (hSl.keepB h) Hlo.out (by omega) (hI.keepB h) (by omega) HX.out hrg htt (HM1.out.below h) E (by rw [hF0, hFq, hQe, hBh, hE]) R (by rw [hR, hAn]))
                have HQ := Lib.hid (fun f w' (h : Below we.heap.size we w') => questionOr_any (fun _ => False) A ps c f k t pu rg ch at' w' (hSp.keepB h) hql htt hrg (HM1.out.below h))
                have HId := Lib.hid (fun (y : IdV) (hy : y ∈ zs) w' (h : Below we.heap.size we w') => refId_any y.k y.t w' (HX.out y hy) (HM1.out.below h))
                have HCn := Lib.hid (fun w' (h : Below we.heap.size we w') => containsId_any (fun _ => False) Ao zs co ⟨k, t⟩ w' (hI.keepB h) (by omega))
                have HSI := Lib.hid hI
                have HAs := Lib.hid (fun (hE0 : E = 0) w' (h : Below we.heap.size we w') => by
                  have h1 := mofE_zero (hE.trans hE0)
                  have h2 := stms_good (hF0.trans h1.1)
                  have h3 := refAskedOf_any (fun _ => False) A Al Ao ps l zs c cl co pu rg ch at' ⟨k, t⟩ w' (hSp.keepB h) (policy_good h2.1) (hSl.keepB h) h2.2 (by omega) (hI.keepB h) (by omega) (qErr_at (hQe.trans h1.2))
                  rw [hAn] at h3
                  exact h3)
                have HPE : Hid ((if first3 (foldE (if F0 = 0 ∧ 100 < zs.length then 2 else F0) zs) Fq Qe = 0 ∧ Bh = false then 8 else first3 (foldE (if F0 = 0 ∧ 100 < zs.length then 2 else F0) zs) Fq Qe) = E) := (perE_is F0 Fq Qe zs Bh).trans hE
                have HR := Lib.hid hR
                have HC := Lib.hid (fun w' (h : Below we.heap.size we w') => consents_any w' (HM1.out.below h))
                rw [hFq, hQe] at HQ
                rw [hBh] at HCn
                rw [hF0]
                clear hSp hSl hI hF0 hFq hQe hBh hE hAn hR Hok Hlo HX HM1 HZ
                have S := Mem.start we
                have c0 := LQ.all
                go_wp2_with fail
                ((with_reducible refine (HMO.out we S.b).mono ?_); rintro e w5 ⟨rfl, hl5⟩)
                replace S := S.below hl5
                clear hl5 HMO c0
                go_upto_region 16 with fail
                obtain ⟨Y, hY⟩ : ∃ Y, Y = w5.heap.size := ⟨_, rfl⟩
                replace S := S.newAt (aCs R.1 R.2.1 R.2.2) 48 Y hY
                rw [← hY]
                clear hY
                generalize w5.alloc (.cells (aCs R.1 R.2.1 R.2.2) 48) = w6 at *
                go_cut [88] (fun s88 wx => s88 = .bool (decide (F0 = 0 ∧ 100 < zs.length)) ∧ w6 = wx)
                case first =>
                  by_cases h0 : F0 = 0
                  · subst h0
                    go_wp2_with fail
                    go_meet
                    exact ⟨by simp; omega, rfl⟩
                  · have h0' : (F0 == 0) = false := by simpa using h0
                    go_wp2_with fail
                    go_meet
                    exact ⟨by simp [h0], rfl⟩
                case rest =>
                  obtain ⟨rfl, rfl⟩ := hcut
                  obtain ⟨F1, hF1⟩ : ∃ F1, (if F0 = 0 ∧ 100 < zs.length then 2 else F0) = F1 := ⟨_, rfl⟩
                  rw [hF1] at HPE
                  have HF1 := Lib.hid hF1
                  clear hF1
                  go_upto_if 88 with fail
                  go_cut [7] (fun s7 wx => s7 = .int .i64 F1 ∧ w6 = wx)
                  case first =>
                    by_cases h0 : F0 = 0 ∧ 100 < zs.length
                    · have h1 : decide (F0 = 0 ∧ 100 < zs.length) = true := decide_eq_true h0
                      rw [h1]
                      go_wp2_with fail
                      go_meet
                      exact ⟨by rw [← HF1.out, if_pos h0], rfl⟩
                    · have h1 : decide (F0 = 0 ∧ 100 < zs.length) = false := decide_eq_false h0
                      rw [h1]
                      go_wp2_with fail
                      go_meet
                      exact ⟨by rw [← HF1.out, if_neg h0], rfl⟩
                  case rest =>
                    obtain ⟨rfl, rfl⟩ := hcut
                    clear HF1
                    go_wp2_with fail
                    have HS0 := Lib.hid S
                    clear S
                    go_loopw [7, 91] (fun s7 i wr => ∃ (j : Nat) (f : Int), j ≤ zs.length ∧ i = .int .i64 j ∧ s7 = .int .i64 f ∧ Hid ((if first3 (foldE f (zs.drop j)) Fq Qe = 0 ∧ Bh = false then 8 else first3 (foldE f (zs.drop j)) Fq Qe) = E) ∧ Mem we wr [.loc Y (aCs R.1 R.2.1 R.2.2) 48]) (fun _ i _ => zs.length - (intOf i).toNat)
                    case atStart => exact ⟨0, F1, Nat.zero_le _, rfl, rfl, HPE, HS0.out⟩
                    case round =>
                      clear HS0 HPE
                      obtain ⟨j, f, hj, rfl, rfl, HPE, S⟩ := hrel
                      by_cases hlt : j < zs.length
                      · obtain ⟨x, hf⟩ : ∃ x, zs[j]? = some x := ⟨_, List.getElem?_eq_getElem hlt⟩
                        obtain ⟨blk, off, rfl, _, d0, d1⟩ := (HSI.out.keepB S.b).idv j x hf
                        have HI1 := Lib.hid (fun w' h => HId.out x (List.mem_of_getElem? hf) w' h)
                        have HPE2 : Hid ((if first3 (foldE (firstErr [f, L.idFault x.k x.t]) (zs.drop (j + 1))) Fq Qe = 0 ∧ Bh = false then 8 else first3 (foldE (firstErr [f, L.idFault x.k x.t]) (zs.drop (j + 1))) Fq Qe) = E) := by
                          have h1 := HPE.out
                          rw [foldE_at hf] at h1
                          exact h1
                        clear hf HPE
                        generalize L.idFault x.k x.t = fx at *
                        go_upto_region 21 with fail
                        clear d0 d1
                        obtain ⟨P, hP⟩ : ∃ P, P = wr.heap.size := ⟨_, rfl⟩
                        replace S := S.newAt (idCs x.k x.t) 29 P hP
                        rw [← hP]
                        clear hP
                        generalize wr.alloc (.cells (idCs x.k x.t) 29) = w7 at *
                        have c1 := (S.lv 1 rfl).all
                        go_wp2_with fail
                        ((with_reducible refine (HI1.out w7 S.b).mono ?_); rintro e w8 ⟨rfl, hl8⟩)
                        replace S := S.below hl8
                        clear hl8 HI1 c1
                        have HW := Lib.hid (wrongOr_any w8.heap.size [f, fx] (w8.alloc (.cells #[.int .i64 f, .int .i64 fx] 35)) (LV.new w8 w8.heap.size #[.int .i64 f, .int .i64 fx] 35 rfl) (by simp))
                        obtain ⟨f2, hf2⟩ : ∃ f2, firstErr [f, fx] = f2 := ⟨_, rfl⟩
                        rw [hf2] at HW HPE2
                        simp only [List.length_cons, List.length_nil, Nat.zero_add, Nat.reduceAdd] at HW
                        clear hf2
                        go_wp2_with fail
                        ((with_reducible refine (HW.out).mono ?_); rintro e _ ⟨rfl, rfl⟩)
                        go_wp2_with fail
                        go_roundw
                        case rel => exact ⟨j + 1, f2, by omega, by go_num, rfl, HPE2, (S.alloc _).del 1⟩
                        case measure => simp [intOf]; omega
                      · have HPE2 : Hid ((if first3 f Fq Qe = 0 ∧ Bh = false then 8 else first3 f Fq Qe) = E) := by
                          have h1 := HPE.out
                          rw [List.drop_eq_nil_of_le (by omega)] at h1
                          exact h1
                        clear HPE
                        have HQ1 := Lib.hid (HQ.out f)
                        obtain ⟨F3, hF3⟩ : ∃ F3, first3 f Fq Qe = F3 := ⟨_, rfl⟩
                        rw [hF3] at HQ1 HPE2
                        clear hF3 HQ
                        have c0 := (LQ.kb3 S.b hQl).all
                        go_wp2_with fail
                        ((with_reducible refine (HQ1.out wr S.b).mono ?_); rintro e w7 ⟨rfl, hl7⟩)
                        replace S := S.below hl7
                        clear hl7 HQ1 c0
                        go_upto_region 24 with fail
                        have HS0 := Lib.hid S
                        clear S
                        go_cut [113] (fun s113 wx => s113 = .bool (decide (F3 = 0 ∧ Bh = false)) ∧ Mem we wx [.loc Y (aCs R.1 R.2.1 R.2.2) 48])
                        case first =>
                          have S := HS0.out
                          clear HS0 HPE2
                          by_cases h0 : F3 = 0
                          · subst h0
                            have c0 := (LQ.kb3 S.b hQl).all
                            go_wp2_with fail
                            ((with_reducible refine (HCn.out w7 S.b).mono ?_); rintro e w8 ⟨rfl, hl8⟩)
                            replace S := S.below hl8
                            cases Bh
                            · go_wp2_with fail
                              go_meet
                              exact ⟨rfl, S⟩
                            · go_wp2_with fail
                              go_meet
                              exact ⟨rfl, S⟩
                          · have h0' : (F3 == 0) = false := by simpa using h0
                            go_wp2_with fail
                            go_meet
                            exact ⟨by simp [h0], S⟩
                        case rest =>
                          clear HS0 HCn
                          obtain ⟨rfl, S⟩ := hcut
                          go_upto_if 113 with fail
                          have HS0 := Lib.hid S
                          clear S
                          go_cut [7] (fun s7 wx => s7 = .int .i64 E ∧ Mem we wx [.loc Y (aCs R.1 R.2.1 R.2.2) 48])
                          case first =>
                            have S := HS0.out
                            clear HS0
                            by_cases h0 : F3 = 0 ∧ Bh = false
                            · have h1 : decide (F3 = 0 ∧ Bh = false) = true := decide_eq_true h0
                              rw [h1]
                              go_wp2_with fail
                              go_meet
                              exact ⟨by rw [← HPE2.out, if_pos h0], S⟩
                            · have h1 : decide (F3 = 0 ∧ Bh = false) = false := decide_eq_false h0
                              rw [h1]
                              go_wp2_with fail
                              go_meet
                              exact ⟨by rw [← HPE2.out, if_neg h0], S⟩
                          case rest =>
                            clear HS0 HPE2
                            obtain ⟨rfl, S⟩ := hcut
                            by_cases hE : E = 0
                            · obtain rfl : R = An := by rw [HR.out, if_pos hE]
                              have HAs1 := Lib.hid (HAs.out hE)
                              subst hE
                              clear HAs HR
                              have hCl : ∀ {wx : World}, Mem we wx [.loc Y (aCs R.1 R.2.1 R.2.2) 48] → LV wx Q (qqCs k t pu rg ch at') 31 ∧ LV wx Y (aCs R.1 R.2.1 R.2.2) 48 := fun S => ⟨LQ.kb3 S.b hQl, S.lv 0 rfl⟩
                              go_wp2_with fail
                              refine wp_region_mix (fun w' => LV w' Q (qqCs k t pu rg ch at') 31 ∧ LV w' Y (aCs R.1 R.2.1 R.2.2) 48) [(true, 0), (true, 1), (true, 2), (true, 3), (true, 4), (true, 5), (true, 6), (true, 7), (false, 8), (true, 9), (true, 10), (true, 11), (false, 12), (true, 13), (true, 14)] (by kernel_rfl) (by kernel_rfl) (fun w' hd => hCl (S.below (hd.below _))) (fun KK hKK wd hd => ?_)
                              replace S := S.below (hd.below _)
                              clear hd
                              repeat (refine mix_p rfl (fun K hK => ?_); go_simp; (try go_bits); (try simp (disch := omega) only [if_pos]); (try simp (disch := omega) only [if_neg]); (try simp (disch := omega) only [dif_pos]); (try simp (disch := omega) only [dif_neg]); (try go_simp); (refine hK _ ?_; clear hK K))
                              refine mix_loadG (.agg (aCs R.1 R.2.1 R.2.2)) rfl (by simp [Region.wanted, yielded, go_sem]) rfl rfl (fun w' h => loadAA h.2) ?_
                              repeat (refine mix_p rfl (fun K hK => ?_); go_simp; (try go_bits); (try simp (disch := omega) only [if_pos]); (try simp (disch := omega) only [if_neg]); (try simp (disch := omega) only [dif_pos]); (try simp (disch := omega) only [dif_neg]); (try go_simp); (refine hK _ ?_; clear hK K))
                              refine mix_loadG (.agg (qqCs k t pu rg ch at')) rfl (by simp [Region.wanted, yielded, go_sem]) rfl rfl (fun w' h => loadQQ h.1) ?_
                              refine mix_l rfl (fun K hK => ?_) (hCl S)
                              go_wp2_with fail
                              ((with_reducible refine (HAs1.out wd S.b).mono ?_); rintro e w8 ⟨rfl, hl8⟩)
                              replace S := S.below hl8
                              clear hl8 HAs1
                              have hC := hCl S
                              go_wp2_with fail
                              refine ⟨hC, ?_⟩
                              clear hC
                              repeat (refine mix_p rfl (fun K hK => ?_); go_simp; (try go_bits); (try simp (disch := omega) only [if_pos]); (try simp (disch := omega) only [if_neg]); (try simp (disch := omega) only [dif_pos]); (try simp (disch := omega) only [dif_neg]); (try go_simp); (refine hK _ ?_; clear hK K))
                              refine mix_l rfl (fun K hK => ?_) (hCl S)
                              go_wp2_with fail
                              ((with_reducible refine (HC.out w8 S.b).mono ?_); rintro e w9 ⟨rfl, hl9⟩)
                              replace S := S.below hl9
                              clear hl9 HC
                              have hC := hCl S
                              go_wp2_with fail
                              refine ⟨hC, ?_⟩
                              clear hC
                              repeat (refine mix_p rfl (fun K hK => ?_); go_simp; (try go_bits); (try simp (disch := omega) only [if_pos]); (try simp (disch := omega) only [if_neg]); (try simp (disch := omega) only [dif_pos]); (try simp (disch := omega) only [dif_neg]); (try go_simp); (refine hK _ ?_; clear hK K))
                              refine mix_nil ?_
                              simp only [Exit.then]
                              refine hKK _ _ ?_
                              go_wp2_with fail
                              go_ret
                              exact ⟨rfl, Hb1.out.trans (S.b.mono Hb1.out.size)⟩
                            · have hE' : (E != 0) = true := by simpa using hE
                              obtain rfl : R = (false, 0, 0) := by rw [HR.out, if_neg hE]
                              clear HAs HR hE
                              have c1 := (S.lv 0 rfl).all
                              go_wp2_with fail
                              ((with_reducible refine (HC.out _ S.b).mono ?_); rintro e w8 ⟨rfl, hl8⟩)
                              replace S := S.below hl8
                              go_wp2_with fail
                              go_ret
                              exact ⟨rfl, Hb1.out.trans (S.b.mono Hb1.out.size)⟩
              · have hl := hB rfl
                clear hB
                have c1 := (S.lv 1 rfl).all
                have hsz := S.g.size
                go_upto_region 14 with (at_builtin; refine S.app 0 rfl tyId rfl _ _ rfl (⟨k, t⟩ : IdV) 1 rfl rfl rfl (oneId ⟨k, t⟩) hsz (by omega) (by decide) ?_; intro v' w9 S6)
                clear c1
                replace S6 : St b (901 + zs.length) w0 w9 (.own rId w0.heap.size 29 v' (zs ++ [(⟨k, t⟩ : IdV)]) :: .loc Q (qqCs k t pu rg ch at') 31 :: RS) := S6
                obtain ⟨ws, hws⟩ : ∃ ws, ws = zs ++ [(⟨k, t⟩ : IdV)] := ⟨_, rfl⟩
                rw [← hws] at S6
                have hwl : ws.length ≤ 101 := by rw [hws]; simp; omega
                have HW := Lib.hid hws
                clear hws
                obtain ⟨A9, c9, rfl⟩ := (S6.ow 0 rfl).len
                have c1 := (S6.lv 1 rfl).all
                have S7 := S6.alloc (.cells #[.int .i64 k, .string t] 29)
                have HRp := Lib.hid (repId_any w9.heap.size ⟨k, t⟩ _ (LV.new w9 w9.heap.size (idCs k t) 29 rfl))
                go_wp2_with fail
                ((with_reducible refine (HRp.out).mono ?_); rintro e w10 ⟨V, rfl, hV1, hV2, hcs, hl10⟩)
                replace S7 := S7.below hl10
                have hsz7 := S7.g.size
                clear c1 S6 HRp hl10 hV1 hV2
                have hcs2 : ∀ j u, ((List.replicate 98 (⟨k, t⟩ : IdV)).map IdV.cells).flatten[j]? = some u → w10.cell? ((⟨V, 0, none⟩ : Addr).add j) = some u := fun j u h => by
                  rw [List.map_replicate] at h
                  rw [add_at, Nat.zero_add]
                  exact hcs j u h
                go_wp2_with (at_builtin; refine S7.appN flatId 0 rfl tyId rfl _ _ rfl (List.replicate 98 (⟨k, t⟩ : IdV)) 98 98 (by simp) rfl ⟨V, 0, none⟩ rfl hcs2 (fun y hy => oneId y) (fun _ => rfl) hsz7 (by simp; omega) (by decide) ?_; intro v' w11 S8)
                rw [HW.out] at S8
                replace S8 : St b (901 + zs.length) w0 w11 (.own rId w0.heap.size 29 v' ((zs ++ [(⟨k, t⟩ : IdV)]) ++ List.replicate 98 (⟨k, t⟩ : IdV)) :: .loc Q (qqCs k t pu rg ch at') 31 :: RS) := S8
                obtain ⟨A8, c8, rfl⟩ := (S8.ow 0 rfl).len
                go_roundw
                case rel => exact ⟨(zs ++ [(⟨k, t⟩ : IdV)]) ++ List.replicate 98 (⟨k, t⟩ : IdV), (by show _ ≤ _; simp; omega), (fun y hy => by
                  rcases List.mem_append.1 hy with hy | hy
                  · rcases List.mem_append.1 hy with hy | hy
                    · exact HX.out y hy
                    · rw [List.mem_singleton.1 hy]; exact htt
                  · rw [(List.mem_replicate.1 hy).2]; exact htt), S8.mono (by simp; omega)⟩
                case measure => simp [slLen]; omega
end Go.Proofs.YtlnklkedpknbpaaGreatDoor
