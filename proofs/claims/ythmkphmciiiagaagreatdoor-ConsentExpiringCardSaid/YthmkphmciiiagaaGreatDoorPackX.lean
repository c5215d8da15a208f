/- Several texts in one: AudRef, Next, Periods, Exp, Turns. -/
import Derived.Test.YthmkphmciiiagaaGreatDoorAud
import Derived.Test.YthmkphmciiiagaaGreatDoorPackT
import Derived.Test.YthmkphmciiiagaaGreatDoorWanted
/- What handref2.AudienceOf returns. -/
namespace Go.Proofs.YthmkphmciiiagaaGreatDoor
open Go Go.RowKit
def GivesSlI (xs : List IdV) (w : World) (e : Ending) (w' : World) : Prop := ∃ A c, e = .returned (.slice A xs.length c) ∧ Sl rId (Lt w.heap.size) w' A xs ∧ Below w.heap.size w w'
theorem Own.slF {α : Type} {r : Rep α} {f : α → List Value} (hf : r.Flat f) {M : Nat → Prop} {B E n c : Nat} {A : Option Addr} {w : World} {xs : List α} (h : Own r M B E w (.slice A n c) xs) : Sl r (fun _ => False) w A xs := by
  obtain ⟨A2, c2, e, _, hS⟩ := (h.flatM hf (M' := fun _ => False)).toSlC (fun _ _ h => h)
  simp only [Value.slice.injEq] at e
  obtain ⟨rfl, _, _⟩ := e
  exact hS
end Go.Proofs.YthmkphmciiiagaaGreatDoor

/- What consent.Next returns. -/
namespace Go.Proofs.YthmkphmciiiagaaGreatDoor
open Go Go.RowKit
abbrev ansF (p : List Purp) (l : List Stm) (k : Int) (t pu rg : ByteArray) (ch : Int) : Int → Ans := fun m => mayAns p l k t pu rg ch m
abbrev refL (p : List Purp) (l : List Stm) (k : Int) (t pu rg : ByteArray) (ch : Int) : List Int := momL (rawR ((termAt p pu rg ch).getD tZero) k t ch l)
def nextAns (p : List Purp) (l : List Stm) (k : Int) (t pu rg : ByteArray) (ch at' : Int) : Int := nextP (ansF p l k t pu rg ch) at' (refL p l k t pu rg ch)
theorem term_rng {p : List Purp} (hg : GoodPol p) (pu rg : ByteArray) (ch : Int) : (0 ≤ ((termAt p pu rg ch).getD tZero).days ∧ ((termAt p pu rg ch).getD tZero).days ≤ 2000) ∧ 0 ≤ ((termAt p pu rg ch).getD tZero).wait ∧ ((termAt p pu rg ch).getD tZero).wait ≤ 100000 := by
  cases h : termAt p pu rg ch with
  | none => exact ⟨⟨by decide, by decide⟩, by decide, by decide⟩
  | some tm => exact termAt_good hg h
theorem moms_p {p : List Purp} {l U : List Stm} {k : Int} {t pu rg : ByteArray} {ch : Int} (hg : GoodPol p) (hgl : GoodL p l) (hU : IsOf k t ch l U) : Moms (ansF p l k t pu rg ch) (momL (rawP ((termAt p pu rg ch).getD tZero) pu U)) :=
  momsP hU.ord hU.mem (fun s hs => (hgl.at' s hs).1) hgl.wh (fun _ h => (termAt_good hg h).1.1) ⟨(term_rng hg pu rg ch).1.1, (term_rng hg pu rg ch).2.1⟩
theorem moms_r {p : List Purp} {l : List Stm} {k : Int} {t pu rg : ByteArray} {ch : Int} (hg : GoodPol p) (hgl : GoodL p l) : Moms (ansF p l k t pu rg ch) (refL p l k t pu rg ch) := by
  obtain ⟨U, ho, hm⟩ := isOf_ex k t ch hgl.no (fun s hs => (hgl.at' s hs).2)
  exact momsR ho hm (fun s hs => (hgl.at' s hs).1) hgl.wh (fun _ h => (termAt_good hg h).1.1) ⟨(term_rng hg pu rg ch).1.1, (term_rng hg pu rg ch).2.1⟩
theorem ans_ne {a b : Ans} (h : a ≠ b) : (a.1 == b.1) = false ∨ ((a.1 == b.1) = true ∧ (a.2.1 == b.2.1) = false) ∨ ((a.1 == b.1) = true ∧ (a.2.1 == b.2.1) = true ∧ (a.2.2 == b.2.2) = false) := by
  obtain ⟨a1, a2, a3⟩ := a
  obtain ⟨b1, b2, b3⟩ := b
  by_cases h1 : a1 = b1
  · by_cases h2 : a2 = b2
    · by_cases h3 : a3 = b3
      · exact absurd (by rw [h1, h2, h3]) h
      · exact .inr (.inr ⟨by simpa using h1, by simpa using h2, by simpa using h3⟩)
    · exact .inr (.inl ⟨by simpa using h1, by simpa using h2⟩)
  · exact .inl (by simpa using h1)
theorem nextP_at {f : Int → Ans} {at' : Int} {L : List Int} {j : Nat} {m : Int} (h : L[j]? = some m) : nextP f at' (L.drop j) = if at' < m ∧ f m ≠ f at' then m else nextP f at' (L.drop (j + 1)) := by
  obtain ⟨hk, rfl⟩ := List.getElem?_eq_some_iff.1 h
  rw [List.drop_eq_getElem_cons hk, nextP]
theorem Sl.oneAt {N : Nat → Prop} {w : World} {A : Option Addr} {xs : List Int} (h : Sl rInt N w A xs) (k : Nat) (x : Int) (hk : xs[k]? = some x) : ∃ blk off, A = some ⟨blk, off, none⟩ ∧ w.cell? ⟨blk, off + k, none⟩ = some (.int .i64 x) := by
  obtain ⟨b, o, l, e, _, _, hr, hc⟩ := h k x hk
  obtain rfl : l = [.int .i64 x] := hr
  have := hc 0 _ rfl
  rw [show o + k * rInt.size + 0 = o + k by simp [rInt, Rep.flat]] at this
  exact ⟨b, o, e, this⟩
theorem loadAskN {w : World} {X : Nat} {tm : PTerm} {is : Bool} {pu : ByteArray} {A : Option Addr} {n c : Nat} (l : LV w X (askCs tm is pu A n c) 102) : (Instr.loadAt 102 (.pointer (some ⟨X, 0, none⟩))).run Tryz.prog w = .ok (.agg (askCs tm is pu A n c)) w := by
  have c0 := l.all
  go_simp
theorem loadAnN {w : World} {X : Nat} {m : Bool} {a b : Int} (h : LV w X (aCs m a b) 105) : (Instr.loadAt 105 (.pointer (some ⟨X, 0, none⟩))).run Tryz.prog w = .ok (.agg (aCs m a b)) w := by
  have c := h.all
  go_simp
end Go.Proofs.YthmkphmciiiagaaGreatDoor

/- What consent.Periods returns. -/
namespace Go.Proofs.YthmkphmciiiagaaGreatDoor
open Go Go.RowKit
def Per.cells (e : Per) : List Value := [.int .i64 e.from', .int .i64 e.to', .bool e.a.1, .int .i64 e.a.2.1, .int .i64 e.a.2.2]
def rPer : Rep Per := .flat 5 Per.cells (fun _ => rfl)
theorem flatPer : rPer.Flat Per.cells := fun _ _ _ _ => Iff.rfl
theorem tyPer : STy 168 171 rPer.size 40 (.agg #[.int .i64 0, .int .i64 0, .bool false, .int .i64 0, .int .i64 0]) := ⟨Tryz.underlying168, by kernel_rfl, rfl, by decide⟩
theorem onePer (t : Per) : ∀ u ∈ t.cells, u.oneCell' = true := fun u hu => by
  simp only [Per.cells, List.mem_cons, List.not_mem_nil, or_false] at hu
  rcases hu with rfl | rfl | rfl | rfl | rfl <;> rfl
theorem steps_at {f : Int → Ans} {cur : Ans} {L : List Int} {j : Nat} {m : Int} (h : L[j]? = some m) : steps f cur (L.drop j) = if f m = cur then steps f cur (L.drop (j + 1)) else (m, f m) :: steps f (f m) (L.drop (j + 1)) := by
  obtain ⟨hk, rfl⟩ := List.getElem?_eq_some_iff.1 h
  rw [List.drop_eq_getElem_cons hk, steps]
theorem steps_len (f : Int → Ans) : ∀ (L : List Int) (cur : Ans), (steps f cur L).length ≤ L.length
  | [], _ => Nat.le_refl _
  | m :: r, cur => by
    unfold steps
    split
    · exact Nat.le_trans (steps_len f r cur) (Nat.le_succ _)
    · rw [List.length_cons, List.length_cons]; exact Nat.succ_le_succ (steps_len f r (f m))
def GivesPer (xs : List Per) (F : Int) (w : World) (e : Ending) (w' : World) : Prop := ∃ A c, e = .returned (.tuple #[.slice A xs.length c, .int .i64 F]) ∧ Sl rPer (Lt w.heap.size) w' A xs ∧ Below w.heap.size w w'
def perA (p : List Purp) (l : List Stm) (k : Int) (t pu rg : ByteArray) (ch : Int) : List Per := perAns (ansF p l k t pu rg ch) (refL p l k t pu rg ch)
end Go.Proofs.YthmkphmciiiagaaGreatDoor

/- What consent.Expiring returns. -/
namespace Go.Proofs.YthmkphmciiiagaaGreatDoor
open Go Go.RowKit
theorem zeroBX (w : World) : (zeroValue 4).run Tryz.prog w = .ok (.bool false) w := by kernel_rfl
theorem tyXpy : STy 80 87 rXpy.size 56 (.agg #[.int .i64 0, .int .i64 0, .string ⟨#[]⟩, .string ⟨#[]⟩, .int .i64 0]) := ⟨Tryz.underlying80, by kernel_rfl, rfl, by decide⟩
/-- the ends of a statement's key -/
def expE (p : List Purp) (l : List Stm) (rg : ByteArray) (lo hi : Int) (s : Stm) : List Int := expR lo hi 0 (perA p l s.kind s.text s.purpose rg s.channel)
def expAll (p : List Purp) (l : List Stm) (rg : ByteArray) (lo hi : Int) : List Xpy := expGo (expE p l rg lo hi) [] l
def winErr (lo hi : Int) : Int := if lo < 0 ∨ hi < lo ∨ 4321440 < hi then 1 else 0
def keyErr (rg : ByteArray) : Int := if L.isKey rg = true then 0 else 5
def expErr (p : List Purp) (l : List Stm) (rg : ByteArray) (lo hi : Int) : Int := first3 (stmsFault p l) (keyErr rg) (winErr lo hi)
def GivesExp (xs : List Xpy) (F : Int) (w : World) (e : Ending) (w' : World) : Prop :=
  ∃ A c zs, e = .returned (.tuple #[.slice A zs.length c, .int .i64 F]) ∧ zs.Perm xs ∧ zs.Pairwise (fun a b => xordP a b ≤ 0) ∧ Sl rXpy (Lt w.heap.size) w' A zs ∧ Below w.heap.size w w'
theorem expP_at {f : Int → Ans} {lo hi : Int} {L : List Int} {j : Nat} {m : Int} (h : L[j]? = some m) : expP f lo hi (L.drop j) = if (decide (0 < m) && endB f lo hi m) = true then m :: expP f lo hi (L.drop (j + 1)) else expP f lo hi (L.drop (j + 1)) := by
  obtain ⟨hk, rfl⟩ := List.getElem?_eq_some_iff.1 h
  rw [List.drop_eq_getElem_cons hk, expP, List.filter_cons]
  rfl
theorem expGo_at {E : Stm → List Int} {done : List Xpy} {l : List Stm} {j : Nat} {s : Stm} (h : l[j]? = some s) : expGo E done (l.drop j) = if (s.purpose.toList == []) = true ∨ mkX s 0 ∈ done then expGo E done (l.drop (j + 1)) else (E s).map (mkX s) ++ expGo E (done ++ [mkX s 0]) (l.drop (j + 1)) := by
  obtain ⟨hk, rfl⟩ := List.getElem?_eq_some_iff.1 h
  rw [List.drop_eq_getElem_cons hk, expGo]
set_option maxHeartbeats 16000000 in
set_option maxRecDepth 100000 in
theorem expiring_any (A Al : Option Addr) (p : List Purp) (l : List Stm) (c cl : Nat) (rg : ByteArray) (lo hi : Int) (w : World) (hS : Sl rPurp (fun _ => False) w A p) (hok : PolOk p) (hL : Sl rStm (fun _ => False) w Al l) (hlo : StmOk l) (hl : l.length ≤ 19) (hrg : rg.size ≤ 1000000000) (hM : MaxL w) :
    Calls Tryz.prog 46 #[.slice A p.length c, .slice Al l.length cl, .string rg, .agg #[.int .i64 lo, .int .i64 hi]] w (GivesExp (if expErr p l rg lo hi = 0 then expAll p l rg lo hi else []) (expErr p l rg lo hi) w) := by
  have Hc := Lib.hid (fun w' (h : Below w.heap.size w w') => check_any (fun _ => False) A Al p l c cl w' (hS.keepB h) hok (hL.keepB h) hlo (hM.below h))
  have HLs := Lib.hid (fun w' (h : Below w.heap.size w w') => hL.keepB h)
  have Hgood : Hid (stmsFault p l = 0 → GoodPol p ∧ GoodL p l) := fun h => by
    obtain ⟨h4, h5⟩ := stms_good h
    exact ⟨policy_good h4, h5⟩
  have Hask := Lib.hid (fun (hg : GoodPol p) (hn : l.Pairwise (fun a b => a.no < b.no)) k t pu ch w' (h : Below w.heap.size w w') => ask_any (fun _ => False) A Al p l c cl pu rg ch 0 k t w' (hS.keepB h) hg (hL.keepB h) hl hn)
  have Hans := Lib.hid (fun (hg : GoodPol p) (hgl : GoodL p l) k t pu ch (U : List Stm) (hU : IsOf k t ch l U) (N : Nat → Prop) Au cu at' (hat : 0 ≤ at' ∧ at' ≤ 4321439) w' (hS : Sl rStm N w' Au U) hc => answerAt_any (pu := pu) (rg := rg) hg hgl hU hat (by omega) N Au cu w' hS hc)
  have HKc : Hid (∀ w, Calls Tryz.prog 115 #[.string rg] w fun e w' => e = .returned (.bool (L.isKey rg)) ∧ w = w') := fun w => isKey_any rg w hrg
  obtain ⟨F, HF⟩ : ∃ F, Hid (expErr p l rg lo hi = F) := ⟨_, Lib.hid rfl⟩
  rw [HF.out]
  obtain ⟨Rs, HRs⟩ : ∃ Rs, Hid ((if F = 0 then expAll p l rg lo hi else []) = Rs) := ⟨_, Lib.hid rfl⟩
  rw [HRs.out]
  have Hl := Lib.hid hl
  unfold expErr at HF
  obtain ⟨F0, HF0⟩ : ∃ F0, Hid (stmsFault p l = F0) := ⟨_, Lib.hid rfl⟩
  rw [HF0.out] at HF Hgood Hc
  clear HF0
  unfold keyErr at HF
  obtain ⟨KB, HKB⟩ : ∃ KB, Hid (L.isKey rg = KB) := ⟨_, Lib.hid rfl⟩
  rw [HKB.out] at HF HKc
  clear HKB
  have hT := Tryz.underlying164
  clear hS hok hL hlo hM hl
  have S := (Mem.start w).new' #[.int .i64 lo, .int .i64 hi] 78
  replace S : Mem w (w.alloc (.cells #[.int .i64 lo, .int .i64 hi] 78)) [.loc w.heap.size #[.int .i64 lo, .int .i64 hi] 78] := S
  go_enter Tryz.func46, Tryz.ntmps46
  go_upto_region 1 with fail
  generalize w.alloc (.cells #[.int .i64 lo, .int .i64 hi] 78) = w1 at *
  go_wp2_with fail
  ((with_reducible refine (Hc.out w1 S.b).mono ?_); rintro e w2 ⟨rfl, hl2⟩)
  replace S := S.below hl2
  clear hl2 Hc
  by_cases h1 : F0 = 0
  · have Hg := Lib.hid (Hgood.out h1)
    have HF1 : Hid ((if (if KB = true then (0 : Int) else 5) ≠ 0 then (if KB = true then (0 : Int) else 5) else winErr lo hi) = F) := Eq.trans (Eq.symm (if_neg (by simpa using h1))) HF.out
    subst h1
    clear Hgood HF
    go_wp2_with fail
    ((with_reducible refine (HKc.out w2).mono ?_); rintro e _ ⟨rfl, rfl⟩)
    cases KB with
    | false =>
      obtain rfl : 5 = F := by rw [← HF1.out]; rfl
      obtain rfl : [] = Rs := by rw [← HRs.out, if_neg (by decide)]
      clear HF1
      go_wp2_with fail
      exact bodyPost_ret (results_tt rfl rfl rfl) rfl ⟨none, 0, [], rfl, List.Perm.refl _, List.Pairwise.nil, Sl.nil, S.b⟩
    | true =>
      have HF2 : Hid (winErr lo hi = F) := by show _ = _; rw [← HF1.out]; rfl
      clear HF1
      have c0 := (S.lv 0 rfl).all
      by_cases hw : lo < 0 ∨ hi < lo ∨ 4321440 < hi
      · obtain rfl : 1 = F := by rw [← HF2.out, winErr, if_pos hw]
        obtain rfl : [] = Rs := by rw [← HRs.out, if_neg (by decide)]
        clear HF2 HRs
        by_cases q1 : lo < 0
        · clear hw
          go_wp2_with fail
          exact bodyPost_ret (results_tt rfl rfl rfl) rfl ⟨none, 0, [], rfl, List.Perm.refl _, List.Pairwise.nil, Sl.nil, S.b⟩
        · by_cases q2 : hi < lo
          · clear hw
            go_wp2_with fail
            exact bodyPost_ret (results_tt rfl rfl rfl) rfl ⟨none, 0, [], rfl, List.Perm.refl _, List.Pairwise.nil, Sl.nil, S.b⟩
          · have q3 : 4321440 < hi := by omega
            clear hw
            go_wp2_with fail
            exact bodyPost_ret (results_tt rfl rfl rfl) rfl ⟨none, 0, [], rfl, List.Perm.refl _, List.Pairwise.nil, Sl.nil, S.b⟩
      · obtain rfl : 0 = F := by rw [← HF2.out, winErr, if_neg hw]
        have HR0 : Hid (expGo (expE p l rg lo hi) [] l = Rs) := by show _ = _; rw [← HRs.out, if_pos rfl]; rfl
        have q1 : ¬ lo < 0 := by omega
        have q2 : ¬ hi < lo := by omega
        have q3 : ¬ 4321440 < hi := by omega
        clear hw HF2 HRs
        have hmm := @run_makeMap Tryz.prog
        go_upto_region 10 with fail
        obtain ⟨X, hX⟩ : ∃ X, X = w2.heap.size := ⟨_, rfl⟩
        clear hmm
        replace S := (S.nil rXpy w.heap.size 87).newMapX X hX
        replace S : Mem w (w2.alloc (.map #[] 0)) [.loc w.heap.size #[.int .i64 lo, .int .i64 hi] 78, .own rXpy w.heap.size 87 (.slice none 0 0) [], .mapX X []] := S
        rw [← hX]
        clear hX c0
        generalize w2.alloc (.map #[] 0) = w3 at *
        go_wp2_with fail
        go_loopw [11, 48] (fun v i wr => ∃ (j : Nat) (done out : List Xpy), j ≤ l.length ∧ i = .int .i64 j ∧ Hid (out.length ≤ j * 1000) ∧ Hid (out ++ expGo (expE p l rg lo hi) done (l.drop j) = Rs) ∧ Mem w wr [.loc w.heap.size #[.int .i64 lo, .int .i64 hi] 78, .own rXpy w.heap.size 87 v out, .mapX X done]) (fun _ i _ => l.length - (intOf i).toNat)
        case atStart => exact ⟨0, [], [], Nat.zero_le _, rfl, Nat.zero_le _, HR0, S⟩
        case round =>
          clear S HR0
          obtain ⟨j, done, out, hj, rfl, HO, HR, S⟩ := hrel
          obtain ⟨Ao, co, rfl⟩ := (S.ow 1 rfl).len
          have hll := Hl.out
          by_cases hlt : j < l.length
          · obtain ⟨s, hs⟩ : ∃ s, l[j]? = some s := ⟨_, List.getElem?_eq_getElem hlt⟩
            obtain ⟨blk, off, rfl, _, d0, d1, d2, d3, d4, d5, d6, d7⟩ := (HLs.out wr S.b).stm j s hs
            have Hs := Lib.hid hs
            have HR2 : Hid ((out ++ if (s.purpose.toList == []) = true ∨ mkX s 0 ∈ done then expGo (expE p l rg lo hi) done (l.drop (j + 1)) else (expE p l rg lo hi s).map (mkX s) ++ expGo (expE p l rg lo hi) (done ++ [mkX s 0]) (l.drop (j + 1))) = Rs) := by show _ = _; rw [← HR.out, expGo_at hs]
            clear hs HR
            go_upto_region 13 with fail
            clear d0 d1 d2 d3 d4 d5 d6 d7
            obtain ⟨Y, hY⟩ : ∃ Y, Y = wr.heap.size := ⟨_, rfl⟩
            replace S := S.newAt (stmCs s) 38 Y hY
            rw [← hY]
            clear hY
            generalize wr.alloc (.cells (stmCs s) 38) = w4 at *
            have c3 := (S.lv 3 rfl).all
            go_upto_region 14 with fail
            obtain ⟨Z, hZ⟩ : ∃ Z, Z = w4.heap.size := ⟨_, rfl⟩
            replace S := S.newAt (xCs (mkX s 0)) 87 Z hZ
            rw [← hZ]
            clear hZ c3
            replace S : Mem w (w4.alloc (.cells (xCs (mkX s 0)) 87)) [.loc w.heap.size #[.int .i64 lo, .int .i64 hi] 78, .own rXpy w.heap.size 87 (.slice Ao out.length co) out, .mapX X done, .loc Y (stmCs s) 38, .loc Z (xCs (mkX s 0)) 87] := S
            generalize w4.alloc (.cells (xCs (mkX s 0)) 87) = w5 at *
            have c3 := (S.lv 3 rfl).all
            have c4 := (S.lv 4 rfl).all
            cases hp : (s.purpose.toList == []) with
            | true =>
              have HR3 : Hid (out ++ expGo (expE p l rg lo hi) done (l.drop (j + 1)) = Rs) := by show _ = _; rw [← HR2.out, if_pos (.inl hp)]
              have ho := HO.out
              clear HR2
              go_wp2_with fail
              go_roundw
              case rel => exact ⟨j + 1, done, out, by omega, by go_num, by show _ ≤ _; omega, HR3, (S.del 4).del 3⟩
              case measure => simp [intOf]; omega
            | false =>
              by_cases hd : mkX s 0 ∈ done
              · have HR3 : Hid (out ++ expGo (expE p l rg lo hi) done (l.drop (j + 1)) = Rs) := by show _ = _; rw [← HR2.out, if_pos (.inr hd)]
                have hd' : decide (mkX s 0 ∈ done) = true := decide_eq_true hd
                have ho := HO.out
                have hlk : (Instr.lookup 164 (.map (some X)) (.agg #[.int .i64 0, .int .i64 s.kind, .string s.text, .string s.purpose, .int .i64 s.channel]) false).run Tryz.prog w5 = .ok (.bool true) w5 := by
                  have h := lookX_run (S.ok _ (List.mem_of_getElem? (i := 2) rfl)) hT zeroBX (mkX s 0)
                  rw [hd'] at h
                  exact h
                clear HR2 hd hd'
                go_wp2_with fail
                go_roundw
                case rel => exact ⟨j + 1, done, out, by omega, by go_num, by show _ ≤ _; omega, HR3, (S.del 4).del 3⟩
                case measure => simp [intOf]; omega
              · have HR3 : Hid (out ++ ((expE p l rg lo hi s).map (mkX s) ++ expGo (expE p l rg lo hi) (done ++ [mkX s 0]) (l.drop (j + 1))) = Rs) := by
                  show _ = _
                  rw [← HR2.out, if_neg (fun h => h.elim (fun h => by rw [hp] at h; cases h) hd)]
                have hd' : decide (mkX s 0 ∈ done) = false := decide_eq_false hd
                have Hd0 := Lib.hid hd
                have hlk : (Instr.lookup 164 (.map (some X)) (.agg #[.int .i64 0, .int .i64 s.kind, .string s.text, .string s.purpose, .int .i64 s.channel]) false).run Tryz.prog w5 = .ok (.bool false) w5 := by
                  have h := lookX_run (S.ok _ (List.mem_of_getElem? (i := 2) rfl)) hT zeroBX (mkX s 0)
                  rw [hd'] at h
                  exact h
                clear HR2 hd hd'
                go_upto_region 16 with (first | (at_mapUpdate; refine S.putX 2 rfl hT rfl _ _ _ rfl rfl (mkX s 0) rfl rfl Hd0.out ?_; intro w6 S6) | fail)
                clear c3 c4 hlk S hT
                have ho := HO.out
                obtain ⟨hg, hgl⟩ := Hg.out
                have Ha := Lib.hid (Hask.out hg hgl.no s.kind s.text s.purpose s.channel)
                have Hb := Lib.hid (Hans.out hg hgl s.kind s.text s.purpose s.channel)
                clear Hask Hans Hd0 HKc
                replace S6 : Mem w w6 [.loc w.heap.size #[.int .i64 lo, .int .i64 hi] 78, .own rXpy w.heap.size 87 (.slice Ao out.length co) out, .mapX X (done ++ [mkX s 0]), .loc Y (stmCs s) 38, .loc Z (xCs (mkX s 0)) 87] := S6
                have S := S6
                clear S6
                have c3 := (S.lv 3 rfl).all
                go_wp2_with fail
                ((with_reducible refine (Ha.out w6 S.b).mono ?_); rintro e w7 ⟨Au, U, cu, rfl, hU, hcu, hSU, hl7⟩)
                replace S := S.call hl7 (.sl rStm Au U) hSU (fun k e => by cases e)
                have Hd := Lib.hid (fun (at' : Int) (hat : 0 ≤ at' ∧ at' ≤ 4321439) (N : Nat → Prop) w' (hS : Sl rStm N w' Au U) => Hb.out U hU N Au cu at' hat w' hS hcu)
                have HU := Lib.hid hU
                clear hl7 Ha Hb hU hcu hSU c3
                go_upto_region 17 with fail
                obtain ⟨K, hK⟩ : ∃ K, K = w7.heap.size := ⟨_, rfl⟩
                replace S := S.newAt (askCs ((termAt p s.purpose rg s.channel).getD tZero) (termAt p s.purpose rg s.channel).isSome s.purpose Au U.length cu) 102 K hK
                rw [← hK]
                clear hK
                generalize w7.alloc (.cells (askCs ((termAt p s.purpose rg s.channel).getD tZero) (termAt p s.purpose rg s.channel).isSome s.purpose Au U.length cu) 102) = w8 at *
                have Hmo := Lib.hid (moms_p (pu := s.purpose) (rg := rg) hg hgl HU.out)
                have HE : Hid (expP (ansF p l s.kind s.text s.purpose rg s.channel) lo hi (momL (rawP ((termAt p s.purpose rg s.channel).getD tZero) s.purpose U)) = expE p l rg lo hi s) := exp_same Hmo.out (moms_r hg hgl) lo hi
                have Hm := Lib.hid (fun (N : Nat → Prop) w' (h : Sl rStm N w' Au U) => moments_any N Au ((termAt p s.purpose rg s.channel).getD tZero) (termAt p s.purpose rg s.channel).isSome s.purpose U cu w' h (Nat.le_trans HU.out.len (by omega)) (fun s hs => hgl.at' s ((HU.out.mem s).1 hs).1) (term_rng hg s.purpose rg s.channel).1 (term_rng hg s.purpose rg s.channel).2)
                have Hrg : Hid (∀ m ∈ momL (rawP ((termAt p s.purpose rg s.channel).getD tZero) s.purpose U), 0 ≤ m ∧ m ≤ 4321439) := fun m hm => ⟨Hmo.out.lo m hm, by have := Hmo.out.hi m hm; omega⟩
                have HLl : Hid ((momL (rawP ((termAt p s.purpose rg s.channel).getD tZero) s.purpose U)).length ≤ 1000) := by
                  have h1 := momL_len (rawP ((termAt p s.purpose rg s.channel).getD tZero) s.purpose U)
                  have h2 := flatMap_len (momS ((termAt p s.purpose rg s.channel).getD tZero) s.purpose) 3 (momS_len _ s.purpose) U
                  have h3 := HU.out.len
                  show _ ≤ _
                  unfold rawP at h1 ⊢
                  omega
                clear Hmo hg hgl HU
                generalize momL (rawP ((termAt p s.purpose rg s.channel).getD tZero) s.purpose U) = L at *
                generalize (termAt p s.purpose rg s.channel).getD tZero = tm at *
                generalize (termAt p s.purpose rg s.channel).isSome = is at *
                obtain ⟨f, hf⟩ : ∃ f : Int → Ans, ansF p l s.kind s.text s.purpose rg s.channel = f := ⟨_, rfl⟩
                have Hd2 : Hid (∀ (at' : Int) (hat : 0 ≤ at' ∧ at' ≤ 4321439) (N : Nat → Prop) w' (hS : Sl rStm N w' Au U), Calls Tryz.prog 59 #[.agg (askCs tm is s.purpose Au U.length cu), .int .i64 at'] w' (GivesAns (f at') w')) := fun at' hat N w' hS => hf ▸ Hd.out at' hat N w' hS
                rw [hf] at HE
                clear Hd hf
                obtain ⟨Mid, HMid⟩ : ∃ Mid, Hid (out ++ (expP f lo hi L).map (mkX s) = Mid) := ⟨_, Lib.hid rfl⟩
                have HR4 : Hid (Mid ++ expGo (expE p l rg lo hi) (done ++ [mkX s 0]) (l.drop (j + 1)) = Rs) := by show _ = _; rw [← HMid.out, HE.out, List.append_assoc]; exact HR3.out
                clear HE HR3
                have c6 := (S.lv 6 rfl).all
                go_wp2_with fail
                ((with_reducible refine (Hm.out _ w8 (S.slc 5 rfl)).mono ?_); rintro e w9 ⟨Am, cm, rfl, hSm, hl9⟩)
                replace S := S.call hl9 (.sl rInt Am L) hSm (fun k e => by cases e)
                clear hl9 hSm Hm c6
                replace S : Mem w w9 [.loc w.heap.size #[.int .i64 lo, .int .i64 hi] 78, .own rXpy w.heap.size 87 (.slice Ao out.length co) out, .mapX X (done ++ [mkX s 0]), .loc Y (stmCs s) 38, .loc Z (xCs (mkX s 0)) 87, .sl rStm Au U, .loc K (askCs tm is s.purpose Au U.length cu) 102, .sl rInt Am L] := S
                go_wp2_with fail
                go_loopw [11, 83] (fun v i wr => ∃ (n : Nat) (o : List Xpy), n ≤ L.length ∧ i = .int .i64 n ∧ Hid (o.length ≤ j * 1000 + n) ∧ Hid (o ++ (expP f lo hi (L.drop n)).map (mkX s) = Mid) ∧ Mem w wr [.loc w.heap.size #[.int .i64 lo, .int .i64 hi] 78, .own rXpy w.heap.size 87 v o, .mapX X (done ++ [mkX s 0]), .loc Y (stmCs s) 38, .loc Z (xCs (mkX s 0)) 87, .sl rStm Au U, .loc K (askCs tm is s.purpose Au U.length cu) 102, .sl rInt Am L]) (fun _ i _ => L.length - (intOf i).toNat)
                case atStart => exact ⟨0, out, Nat.zero_le _, rfl, by show _ ≤ _; omega, HMid, S⟩
                case round =>
                  clear S HMid
                  obtain ⟨n, o, hn, rfl, HO2, HM2, S⟩ := hrel
                  obtain ⟨Ao2, co2, rfl⟩ := (S.ow 1 rfl).len
                  have hLl := HLl.out
                  by_cases hnl : n < L.length
                  · skip
                    obtain ⟨m, hm⟩ : ∃ m, L[n]? = some m := ⟨_, List.getElem?_eq_getElem hnl⟩
                    obtain ⟨blk2, off2, rfl, e0⟩ := (S.slc 7 rfl).oneAt n m hm
                    have hmr := Hrg.out m (List.mem_of_getElem? hm)
                    have Hm := Lib.hid hm
                    have c0 := (S.lv 0 rfl).all
                    clear hm
                    by_cases p1 : 0 < m
                    · by_cases p2 : lo ≤ m
                      · by_cases p3 : m < hi
                        · have hwm : IntKind.i64.wrap (m - 1) = m - 1 := IntWalk.i64_in _ (by omega)
                          have hfw := fieldWhy
                          obtain ⟨a1, Ha1⟩ : ∃ a1, Hid (f (m - 1) = a1) := ⟨_, Lib.hid rfl⟩
                          have Hd3 := Lib.hid (Hd2.out (m - 1) (by omega))
                          rw [Ha1.out] at Hd3
                          have c6 := (S.lv 6 rfl).all
                          go_wp2_with fail
                          ((with_reducible refine (Hd3.out _ wr (S.slc 5 rfl)).mono ?_); rintro e w10 ⟨rfl, hl10⟩)
                          rw [show aVal a1 = Value.agg #[.bool a1.1, .int .i64 a1.2.1, .int .i64 a1.2.2] from rfl]
                          replace S := S.below hl10
                          clear hl10 Hd3 c6 c0 e0
                          by_cases p4 : a1.2.1 = 2
                          · have b4 : (a1.2.1 == 2) = true := by simpa using p4
                            have P4 := Lib.hid p4
                            obtain ⟨a2, Ha2⟩ : ∃ a2, Hid (f m = a2) := ⟨_, Lib.hid rfl⟩
                            have Hd3 := Lib.hid (Hd2.out m hmr)
                            rw [Ha2.out] at Hd3
                            clear p4
                            have c6 := (S.lv 6 rfl).all
                            go_wp2_with fail
                            ((with_reducible refine (Hd3.out _ w10 (S.slc 5 rfl)).mono ?_); rintro e w11 ⟨rfl, hl11⟩)
                            rw [show aVal a2 = Value.agg #[.bool a2.1, .int .i64 a2.2.1, .int .i64 a2.2.2] from rfl]
                            replace S := S.below hl11
                            clear hl11 Hd3 c6
                            by_cases p5 : a2.2.1 = 7
                            · have b5 : (a2.2.1 == 7) = true := by simpa using p5
                              have HM3 : Hid ((o ++ [mkX s m]) ++ (expP f lo hi (L.drop (n + 1))).map (mkX s) = Mid) := by
                                show _ = _
                                rw [← HM2.out, expP_at Hm.out, if_pos ?_, List.map_cons, List.append_assoc]
                                · rfl
                                · simp only [Bool.and_eq_true, decide_eq_true_eq, endB]
                                  rw [Ha1.out, Ha2.out]
                                  exact ⟨p1, P4.out, p5, p2, p3⟩
                              have ho2 := HO2.out
                              clear p5 HM2
                              have c3 := (S.lv 3 rfl).all
                              have hsz := S.b.size
                              go_wp2_with (at_builtin; refine S.app 1 rfl tyXpy rfl _ _ rfl (mkX s m) 1 rfl rfl rfl (oneXpy (mkX s m)) hsz (by omega) (by decide) ?_; intro v' w12 S4)
                              go_roundw
                              case rel => exact ⟨n + 1, o ++ [mkX s m], by omega, by go_num, by show _ ≤ _; rw [List.length_append, List.length_singleton]; omega, HM3, S4⟩
                              case measure => simp [intOf]; omega
                            · have b5 : (a2.2.1 == 7) = false := by simpa using p5
                              have HM3 : Hid (o ++ (expP f lo hi (L.drop (n + 1))).map (mkX s) = Mid) := by
                                show _ = _
                                rw [← HM2.out, expP_at Hm.out, if_neg (fun h => ?_)]
                                simp only [Bool.and_eq_true, decide_eq_true_eq, endB] at h
                                rw [Ha2.out] at h; exact p5 h.2.2.1
                              have ho2 := HO2.out
                              clear p5 HM2
                              go_wp2_with fail
                              go_roundw
                              case rel => exact ⟨n + 1, o, by omega, by go_num, by show _ ≤ _; omega, HM3, S⟩
                              case measure => simp [intOf]; omega
                          · have b4 : (a1.2.1 == 2) = false := by simpa using p4
                            have HM3 : Hid (o ++ (expP f lo hi (L.drop (n + 1))).map (mkX s) = Mid) := by
                              show _ = _
                              rw [← HM2.out, expP_at Hm.out, if_neg (fun h => ?_)]
                              simp only [Bool.and_eq_true, decide_eq_true_eq, endB] at h
                              rw [Ha1.out] at h; exact p4 h.2.1
                            have ho2 := HO2.out
                            clear p4 HM2
                            go_wp2_with fail
                            go_roundw
                            case rel => exact ⟨n + 1, o, by omega, by go_num, by show _ ≤ _; omega, HM3, S⟩
                            case measure => simp [intOf]; omega
                        · have HM3 : Hid (o ++ (expP f lo hi (L.drop (n + 1))).map (mkX s) = Mid) := by
                            show _ = _
                            rw [← HM2.out, expP_at Hm.out, if_neg (fun h => ?_)]
                            simp only [Bool.and_eq_true, decide_eq_true_eq, endB] at h
                            omega
                          have ho2 := HO2.out
                          clear HM2
                          go_wp2_with fail
                          go_roundw
                          case rel => exact ⟨n + 1, o, by omega, by go_num, by show _ ≤ _; omega, HM3, S⟩
                          case measure => simp [intOf]; omega
                      · have HM3 : Hid (o ++ (expP f lo hi (L.drop (n + 1))).map (mkX s) = Mid) := by
                          show _ = _
                          rw [← HM2.out, expP_at Hm.out, if_neg (fun h => ?_)]
                          simp only [Bool.and_eq_true, decide_eq_true_eq, endB] at h
                          omega
                        have ho2 := HO2.out
                        clear HM2
                        go_wp2_with fail
                        go_roundw
                        case rel => exact ⟨n + 1, o, by omega, by go_num, by show _ ≤ _; omega, HM3, S⟩
                        case measure => simp [intOf]; omega
                    · have HM3 : Hid (o ++ (expP f lo hi (L.drop (n + 1))).map (mkX s) = Mid) := by
                        show _ = _
                        rw [← HM2.out, expP_at Hm.out, if_neg (fun h => ?_)]
                        simp only [Bool.and_eq_true, decide_eq_true_eq, endB] at h
                        omega
                      have ho2 := HO2.out
                      clear HM2
                      go_wp2_with fail
                      go_roundw
                      case rel => exact ⟨n + 1, o, by omega, by go_num, by show _ ≤ _; omega, HM3, S⟩
                      case measure => simp [intOf]; omega
                  · obtain rfl : o = Mid := by
                      rw [← HM2.out, List.drop_eq_nil_of_le (by omega)]
                      simp [expP]
                    clear HM2
                    have ho2 := HO2.out
                    go_wp2_with fail
                    go_roundw
                    case rel => exact ⟨j + 1, done ++ [mkX s 0], o, by omega, by go_num, by show _ ≤ _; omega, HR4, ((((S.del 7).del 6).del 5).del 4).del 3⟩
                    case measure => simp [intOf]; omega
          · obtain rfl : out = Rs := by
              rw [← HR.out, List.drop_eq_nil_of_le (by omega)]
              simp [expGo]
            clear HR
            have ho := HO.out
            have Hso := Lib.hid (sortX_any S 1 rfl (by omega))
            clear S
            go_wp2_with fail
            ((with_reducible refine (Hso.out).mono ?_); rintro e w6 ⟨rfl, ys, hp, hs, S⟩)
            replace S : Mem w w6 [.loc w.heap.size #[.int .i64 lo, .int .i64 hi] 78, .own rXpy w.heap.size 87 (.slice Ao out.length co) ys, .mapX X done] := S
            obtain ⟨A2, c2, e2, S⟩ := S.frz 1 rfl
            have HFs := Lib.hid (S.outSl 1 rfl)
            have He := Lib.hid e2
            have Hp := Lib.hid hp
            clear hp e2
            go_wp2_with fail
            exact bodyPost_ret (results_tt rfl rfl rfl) rfl ⟨A2, c2, ys, by rw [He.out]; rfl, Hp.out, hs, HFs.out, S.b⟩
  · have h1' : (F0 != 0) = true := by simpa using h1
    obtain rfl : F0 = F := by rw [← HF.out, first3, if_pos h1]
    obtain rfl : [] = Rs := by rw [← HRs.out, if_neg h1]
    clear HF HRs h1 Hgood
    go_wp2_with fail
    exact bodyPost_ret (results_tt rfl rfl rfl) rfl ⟨none, 0, [], rfl, List.Perm.refl _, List.Pairwise.nil, Sl.nil, S.b⟩
end Go.Proofs.YthmkphmciiiagaaGreatDoor

/- What handref2.turns returns. -/
namespace Go.Proofs.YthmkphmciiiagaaGreatDoor
open Go Go.RowKit
theorem endR : EndIs 267 := fun m w => by
  go_enter Tryz.func267, Tryz.ntmps267
  go_wp2_with fail
  go_ret
  refine ⟨ret_b ?_, rfl⟩
  unfold belowE
  rw [Bool.eq_iff_iff]
  simp
theorem turnS_len (tm : PTerm) (k : Int) (t : ByteArray) (ch : Int) (s : Stm) : (turnS tm k t ch s).length ≤ 3 := by unfold turnS; split <;> (try split) <;> simp
set_option maxHeartbeats 8000000 in
set_option maxRecDepth 100000 in
theorem turns_any (A Al : Option Addr) (p : List Purp) (l : List Stm) (c cl : Nat) (k : Int) (t pu rg : ByteArray) (ch at' : Int) (w : World) (hS : Sl rPurp (fun _ => False) w A p) (hg : GoodPol p) (hL : Sl rStm (fun _ => False) w Al l) (hl : l.length ≤ 1000) (hgs : ∀ s ∈ l, 0 ≤ s.at' ∧ s.at' ≤ 4321439) :
    Calls Tryz.prog 201 #[.slice A p.length c, .slice Al l.length cl, .agg (qqCs k t pu rg ch at')] w (GivesL (refL p l k t pu rg ch) w) := by
  have HL := Lib.hid hL
  have Hg := Lib.hid hgs
  have Ht := Lib.hid (fun w' (h : Below w.heap.size w w') => refTermIn_any (fun _ => False) A p pu rg ch c w' (hS.keepB h) hg)
  have htr := term_rng hg pu rg ch
  unfold refL
  clear hL hgs hS hg
  generalize (termAt p pu rg ch).isSome = is at *
  generalize (termAt p pu rg ch).getD tZero = tm at *
  obtain ⟨R, HR⟩ : ∃ R, Hid (rawR tm k t ch l = R) := ⟨_, Lib.hid rfl⟩
  rw [HR.out]
  obtain ⟨⟨hd0, hd1⟩, hw0, hw1⟩ := htr
  have S := (Mem.start w).new' (qqCs k t pu rg ch at') 31
  go_enter Tryz.func201, Tryz.ntmps201
  go_upto_region 1 with fail
  generalize w.alloc (.cells (qqCs k t pu rg ch at') 31) = w1 at *
  go_upto_region 2 with fail
  obtain ⟨Z, hZ⟩ : ∃ Z, Z = w1.heap.size := ⟨_, rfl⟩
  replace S := ((S.newAt #[.int .i64 0] 3 Z hZ).asOwn flatInt 1 rfl [0] rfl rfl (by simp) rfl 1 rfl).swap
  rw [← hZ]
  clear hZ
  generalize w1.alloc (.cells #[.int .i64 0] 3) = w2 at *
  have c1 := (S.lv 1 rfl).all
  go_wp2_with fail
  ((with_reducible refine (Ht.out w2 S.b).mono ?_); rintro e w3 ⟨rfl, hl3⟩)
  replace S := S.below hl3
  clear hl3 Ht c1
  go_upto_region 3 with fail
  obtain ⟨Q, hQ⟩ : ∃ Q, Q = w3.heap.size := ⟨_, rfl⟩
  replace S := S.newAt (tCs tm) 99 Q hQ
  replace S : Mem w (w3.alloc (.cells (tCs tm) 99)) [.own rInt w.heap.size 3 (.slice (some ⟨Z, 0, none⟩) 1 1) [0], .loc w.heap.size (qqCs k t pu rg ch at') 31, .loc Q (tCs tm) 99] := S
  rw [← hQ]
  clear hQ
  generalize w3.alloc (.cells (tCs tm) 99) = w4 at *
  generalize Value.slice (some ⟨Z, 0, none⟩) 1 1 = v0 at *
  have HO0 : Hid (0 :: (l.take 0).flatMap (turnS tm k t ch) = [0]) := Lib.hid rfl
  go_wp2_with fail
  go_loopw [7, 26] (fun v i wr => ∃ (j : Nat) (out : List Int), j ≤ l.length ∧ i = .int .i64 j ∧ Hid (0 :: (l.take j).flatMap (turnS tm k t ch) = out) ∧ Mem w wr [.own rInt w.heap.size 3 v out, .loc w.heap.size (qqCs k t pu rg ch at') 31, .loc Q (tCs tm) 99]) (fun _ i _ => l.length - (intOf i).toNat)
  case atStart => exact ⟨0, [0], Nat.zero_le _, rfl, HO0, S⟩
  case round =>
    clear S HO0
    obtain ⟨j, out, hj, rfl, HO, S⟩ := hrel
    have hol : out.length ≤ 3001 := by
      rw [← HO.out]
      have := flatMap_len (turnS tm k t ch) 3 (turnS_len tm k t ch) (l.take j)
      rw [List.length_take] at this
      rw [List.length_cons]
      omega
    by_cases hlt : j < l.length
    · obtain ⟨Ao, co, rfl⟩ := (S.ow 0 rfl).len
      obtain ⟨s, hf⟩ : ∃ s, l[j]? = some s := ⟨_, List.getElem?_eq_getElem hlt⟩
      obtain ⟨blk, off, rfl, hblk, d0, d1, d2, d3, d4, d5, d6, d7⟩ := (HL.out.keepB S.b).stm j s hf
      have hsat := Hg.out s (List.mem_of_getElem? hf)
      have HO2 := Lib.hid (flatMap_take (turnS tm k t ch) l j s hf)
      replace HO2 : Hid (0 :: (l.take (j + 1)).flatMap (turnS tm k t ch) = out ++ turnS tm k t ch s) := by show _ = _; rw [HO2.out, ← HO.out]; rfl
      clear hf HO
      go_upto_region 6 with fail
      clear d0 d1 d2 d3 d4 d5 d6 d7
      obtain ⟨Y, hY⟩ : ∃ Y, Y = wr.heap.size := ⟨_, rfl⟩
      replace S := S.newAt (stmCs s) 38 Y hY
      rw [← hY]
      clear hY
      generalize wr.alloc (.cells (stmCs s) 38) = w5 at *
      have c1 := (S.lv 1 rfl).all
      have c2 := (S.lv 2 rfl).all
      have c3 := (S.lv 3 rfl).all
      obtain ⟨B, HB⟩ : ∃ B, Hid (ofB k t ch s = B) := ⟨_, Lib.hid rfl⟩
      go_cut [41] (fun s41 wx => s41 = .bool B ∧ w5 = wx)
      case first =>
        clear HO2
        go_wp2_with fail
        all_goals (go_meet; exact ⟨by rw [← HB.out]; clear HB c1 c2 c3; unfold ofB; first | rfl | (simp [*]; done) | (simp [*]; rfl) | (simp [*]; intros; omega), rfl⟩)
      case rest =>
        obtain ⟨rfl, rfl⟩ := hcut
        have HO3 : Hid (0 :: (l.take (j + 1)).flatMap (turnS tm k t ch) = out ++ (if B = true then s.at' :: (s.at' + tm.wait + 1) :: (if 0 < tm.days then [s.at' + tm.days * 1440] else []) else [])) := by
          show _ = _
          rw [HO2.out, turnS, HB.out]
        clear HO2 HB
        cases B with
        | false =>
          have HO4 : Hid (0 :: (l.take (j + 1)).flatMap (turnS tm k t ch) = out) := by show _ = _; rw [HO3.out]; simp
          go_wp2_with fail
          go_roundw
          case rel => exact ⟨j + 1, out, by omega, by go_num, HO4, S.del 3⟩
          case measure => simp [intOf]; omega
        | true =>
          have hw1 : IntKind.i64.wrap (s.at' + tm.wait) = s.at' + tm.wait := IntWalk.i64_in _ (by omega)
          have hw2 : IntKind.i64.wrap (s.at' + tm.wait + 1) = s.at' + tm.wait + 1 := IntWalk.i64_in _ (by omega)
          have hw4 : IntKind.i64.wrap (tm.days * 1440) = tm.days * 1440 := IntWalk.i64_in _ (by omega)
          have hw3 : IntKind.i64.wrap (s.at' + tm.days * 1440) = s.at' + tm.days * 1440 := IntWalk.i64_in _ (by omega)
          have hcs : ∀ (x y : Int), ∀ j u, (([x, y] : List Int).map (fun n => [Value.int .i64 n])).flatten[j]? = some u → (w5.alloc (.cells #[.int .i64 x, .int .i64 y] 3)).cell? ((⟨w5.heap.size, 0, none⟩ : Addr).add j) = some u := fun x y j u h => new_cells rfl j u h
          have S4 := S.alloc (.cells #[.int .i64 s.at', .int .i64 (s.at' + tm.wait + 1)] 3)
          have hsz4 := S4.b.size
          go_upto_region 8 with (at_builtin; refine S4.appN flatInt 0 rfl tyIntP rfl _ _ rfl [s.at', s.at' + tm.wait + 1] 2 2 rfl rfl ⟨w5.heap.size, 0, none⟩ rfl (hcs _ _) (fun y _ => oneI y) (fun _ => rfl) hsz4 (by simp; omega) (by decide) ?_; intro v6 w6 S6)
          replace S6 : Mem w w6 [.own rInt w.heap.size 3 v6 (out ++ [s.at', s.at' + tm.wait + 1]), .loc w.heap.size (qqCs k t pu rg ch at') 31, .loc Q (tCs tm) 99, .loc Y (stmCs s) 38] := S6
          clear c1 c2 c3 hcs S4 hsz4 S
          have c1 := (S6.lv 1 rfl).all
          have c2 := (S6.lv 2 rfl).all
          have c3 := (S6.lv 3 rfl).all
          have hsz6 := S6.b.size
          obtain ⟨o6, ho6⟩ : ∃ o6, o6 = out ++ [s.at', s.at' + tm.wait + 1] := ⟨_, rfl⟩
          rw [← ho6] at S6
          have hol6 : o6.length ≤ 3003 := by rw [ho6]; simp; omega
          by_cases hdd : 0 < tm.days
          · have HO4 : Hid (0 :: (l.take (j + 1)).flatMap (turnS tm k t ch) = o6 ++ [s.at' + tm.days * 1440]) := by show _ = _; rw [HO3.out, ho6, if_pos hdd]; simp
            have hdd' : decide (tm.days > 0) = true := decide_eq_true hdd
            clear HO3 ho6
            go_wp2_with (at_builtin; refine S6.app 0 rfl tyIntP rfl _ _ rfl (s.at' + tm.days * 1440) 1 rfl rfl rfl (oneI (s.at' + tm.days * 1440)) hsz6 (by omega) (by decide) ?_; intro v7 w7 S7)
            go_roundw
            case rel => exact ⟨j + 1, _, by omega, by go_num, HO4, S7.del 3⟩
            case measure => simp [intOf]; omega
          · have HO4 : Hid (0 :: (l.take (j + 1)).flatMap (turnS tm k t ch) = o6) := by show _ = _; rw [HO3.out, ho6, if_neg hdd]; simp
            have hdd' : decide (tm.days > 0) = false := decide_eq_false hdd
            clear HO3 ho6
            go_wp2_with fail
            go_roundw
            case rel => exact ⟨j + 1, o6, by omega, by go_num, HO4, S6.del 3⟩
            case measure => simp [intOf]; omega
    · obtain rfl : out = R := by
        rw [← HO.out, ← HR.out, List.take_of_length_le (by omega)]; rfl
      have hol1 : 1 ≤ out.length := by rw [← HO.out]; simp
      clear HO
      have hml := momL_len out
      obtain ⟨g, cap, rfl, hcap⟩ : ∃ g cap, u7 = .slice (some ⟨g, 0, none⟩) out.length cap ∧ out.length ≤ cap := by
        obtain ⟨g2, cap2, e2, h2⟩ := (S.ow 0 rfl).form hol1
        exact ⟨g2, cap2, e2, by omega⟩
      have Hs := Lib.hid (S.sortI 0 rfl rfl (by omega))
      have hsl := srtI_len out
      have hcl := compact_len (srtI out)
      go_wp2_with fail
      ((with_reducible refine (Hs.out).mono ?_); rintro e w2 ⟨rfl, S2⟩)
      have Hc := Lib.hid (S2.compI 0 rfl hsl.symm (by omega) hcap)
      clear Hs S
      go_wp2_with fail
      ((with_reducible refine (Hc.out).mono ?_); rintro e w3 ⟨rfl, S3⟩)
      have Hd := Lib.hid (delIR_any S3 rfl (by omega) (by omega) endR)
      clear Hc S2
      go_wp2_with fail
      ((with_reducible refine (Hd.out).mono ?_); rintro e w4 ⟨rfl, S4⟩)
      clear Hd S3
      rw [show (Lib.compact (srtI out)).filter belowE = momL out from rfl] at S4 ⊢
      obtain ⟨A2, c2, e2, hS⟩ := ((S4.ow 0 rfl).flatM flatInt (M' := Lt w.heap.size)).toSlC (fun k h1 h2 => by unfold Lt at h2; omega)
      have He := Lib.hid e2
      have HS2 := Lib.hid hS.2
      clear hS e2
      go_wp2_with fail
      go_ret
      exact ⟨A2, c2, congrArg Ending.returned He.out, HS2.out, S4.b⟩
end Go.Proofs.YthmkphmciiiagaaGreatDoor
