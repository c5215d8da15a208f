/- What consent.checkRegion (one id) and consent.Choices return. -/
import Derived.Test.YtlnklkedpknbpaaGreatDoorMayTop
namespace Go.Proofs.YtlnklkedpknbpaaGreatDoor
open Go Go.RowKit
structure Chc where
  pu : ByteArray
  ch : Int
  a : Bool × Int × Int
def Chc.cells (e : Chc) : List Value := [.string e.pu, .int .i64 e.ch, .bool e.a.1, .int .i64 e.a.2.1, .int .i64 e.a.2.2]
def rChc : Rep Chc := .flat 5 Chc.cells (fun _ => rfl)
theorem flatChc : rChc.Flat Chc.cells := fun _ _ _ _ => Iff.rfl
theorem tyChc : STy 53 61 rChc.size 48 (.agg #[.string ⟨#[]⟩, .int .i64 0, .bool false, .int .i64 0, .int .i64 0]) := ⟨Tryz.underlying53, by kernel_rfl, rfl, by decide⟩
theorem oneChc (t : Chc) : ∀ u ∈ t.cells, u.oneCell' = true := fun u hu => by
  simp only [Chc.cells, List.mem_cons, List.not_mem_nil, or_false] at hu
  rcases hu with rfl | rfl | rfl | rfl | rfl <;> rfl
def headName : List Purp → ByteArray
  | [] => ⟨#[]⟩
  | u :: _ => u.name
def regErr (p : List Purp) (l : List Stm) (k : Int) (t rg : ByteArray) (at' : Int) : Int := first3 (stmsFault p l) (L.idFault k t) (qErr p (headName p) rg 1 at')
/-- the choice of a purpose and a channel -/
def chcS (p : List Purp) (l : List Stm) (k : Int) (t rg : ByteArray) (at' : Int) (u : Purp) (ch : Int) : List Chc := if (termAt p u.name rg ch).isSome then [⟨u.name, ch, mayAns p l k t u.name rg ch at'⟩] else []
abbrev chans : List Int := [1, 2, 3, 4]
def chcU (p : List Purp) (l : List Stm) (k : Int) (t rg : ByteArray) (at' : Int) (u : Purp) : List Chc := chans.flatMap (chcS p l k t rg at' u)
def chcAll (p : List Purp) (l : List Stm) (k : Int) (t rg : ByteArray) (at' : Int) : List Chc := p.flatMap (chcU p l k t rg at')
theorem chans_at (i : Nat) (h : i < 4) : chans[i]? = some ((i : Int) + 1) := by
  obtain rfl | rfl | rfl | rfl : i = 0 ∨ i = 1 ∨ i = 2 ∨ i = 3 := by omega
  all_goals rfl
theorem flatMap_take {α β : Type} (f : α → List β) (xs : List α) (k : Nat) (x : α) (h : xs[k]? = some x) : (xs.take (k + 1)).flatMap f = (xs.take k).flatMap f ++ f x := by
  rw [take_snoc h, List.flatMap_append]
  simp
theorem chcU_len (p : List Purp) (l : List Stm) (k : Int) (t rg : ByteArray) (at' : Int) (u : Purp) (i : Nat) : ((chans.take i).flatMap (chcS p l k t rg at' u)).length ≤ 4 := by
  have h1 : ∀ (cs : List Int), (cs.flatMap (chcS p l k t rg at' u)).length ≤ cs.length := fun cs => by
    induction cs with
    | nil => simp
    | cons x r ih =>
      rw [List.flatMap_cons, List.length_append, List.length_cons]
      have : (chcS p l k t rg at' u x).length ≤ 1 := by unfold chcS; split <;> simp
      omega
  refine Nat.le_trans (h1 _) ?_
  rw [List.length_take]
  simp; omega
theorem chcAll_len (p : List Purp) (l : List Stm) (k : Int) (t rg : ByteArray) (at' : Int) : ∀ ps : List Purp, (ps.flatMap (chcU p l k t rg at')).length ≤ 4 * ps.length
  | [] => by simp
  | u :: r => by
    rw [List.flatMap_cons, List.length_append, List.length_cons]
    have h1 := chcU_len p l k t rg at' u 4
    have h2 := chcAll_len p l k t rg at' r
    have h3 : chcU p l k t rg at' u = (chans.take 4).flatMap (chcS p l k t rg at' u) := rfl
    rw [h3]
    omega
set_option maxHeartbeats 4000000 in
set_option maxRecDepth 100000 in
theorem checkRegion1_any (N : Nat → Prop) (A Al : Option Addr) (p : List Purp) (l : List Stm) (c cl : Nat) (rg : ByteArray) (at' : Int) (X : Nat) (k : Int) (t : ByteArray) (w : World) (hS : Sl rPurp N w A p) (hok : PolOk p) (hL : Sl rStm N w Al l) (hlo : StmOk l) (hrg : rg.size ≤ 1000000000) (ht : t.size ≤ 1000000) (hM : MaxL w) (hX : LV w X (idCs k t) 29) :
    Calls Tryz.prog 83 #[.slice A p.length c, .slice Al l.length cl, .string rg, .int .i64 at', .int .i64 1, .slice (some ⟨X, 0, none⟩) 1 1] w fun e w' => e = .returned (.int .i64 (regErr p l k t rg at')) ∧ Below w.heap.size w w' := by
  have HS := Lib.hid hS
  have hXl := hX.lt
  have Hc := Lib.hid (check_any N A Al p l c cl w hS hok hL hlo hM)
  have Ha := Lib.hid (fun w' (h : Below w.heap.size w w') => checkAll1_any N A Al p l c cl (headName p) rg 1 at' X k t w' (hS.keepB h) hok (hL.keepB h) hlo hrg ht (hM.below h) (LV.kb3 hX h hXl))
  have Hne : Hid (stmsFault p l = 0 → 1 ≤ p.length) := fun h => (policy_good (stms_good h).1).len.1
  obtain ⟨R, HR⟩ : ∃ R, Hid (regErr p l k t rg at' = R) := ⟨_, Lib.hid rfl⟩
  rw [HR.out]
  rw [show first3 (stmsFault p l) (L.idFault k t) (qErr p (headName p) rg 1 at') = R from HR.out] at Ha
  have HR2 : Hid (stmsFault p l ≠ 0 → stmsFault p l = R) := fun h => by rw [← HR.out, regErr, first3, if_pos h]
  generalize stmsFault p l = F at *
  clear hS hM hX hok hL hlo HR
  go_enter Tryz.func83, Tryz.ntmps83
  go_wp2_with fail
  ((with_reducible refine (Hc.out).mono ?_); rintro e w2 ⟨rfl, hl2⟩)
  have Hb := Lib.hid hl2
  clear hl2 Hc
  by_cases hF : F = 0
  · have hne := Hne.out hF
    subst hF
    obtain ⟨u, r, rfl⟩ : ∃ u r, p = u :: r := by
      cases p with
      | nil => simp at hne
      | cons u r => exact ⟨u, r, rfl⟩
    obtain ⟨blk, off, At, ct, rfl, _, d0, _, _⟩ := (HS.out.keepB Hb.out).purp 0 u rfl
    rw [Nat.zero_mul, Nat.add_zero] at d0
    have Hd := Lib.hid (Ha.out w2 Hb.out)
    rw [show headName (u :: r) = u.name from rfl, List.length_cons] at Hd
    clear Ha HR2 Hne HS
    go_wp2_with fail
    ((with_reducible refine (Hd.out).mono ?_); rintro e w3 ⟨rfl, hl3⟩)
    go_wp2_with fail
    go_ret
    exact ⟨rfl, Hb.out.trans (hl3.mono Hb.out.size)⟩
  · have hF' : (F != 0) = true := by simpa using hF
    obtain rfl : F = R := HR2.out hF
    clear HR2 hF Hne Ha
    go_wp2_with fail
    go_ret
    exact ⟨rfl, Hb.out⟩
def GivesChc (xs : List Chc) (F : Int) (w : World) (e : Ending) (w' : World) : Prop := ∃ A c, e = .returned (.tuple #[.slice A xs.length c, .int .i64 F]) ∧ Sl rChc (Lt w.heap.size) w' A xs ∧ Below w.heap.size w w'
theorem loadAskI {w : World} {X : Nat} {a b c d e f g h : Value} (l : LV w X #[a, b, c, d, e, f, g, h] 122) : (Instr.loadAt 122 (.pointer (some ⟨X, 0, none⟩))).run Tryz.prog w = .ok (.agg #[a, b, c, d, e, f, g, h]) w := by
  have c0 := l.all
  go_simp
set_option maxHeartbeats 16000000 in
set_option maxRecDepth 100000 in
theorem choices_any (A Al : Option Addr) (p : List Purp) (l : List Stm) (c cl : Nat) (k : Int) (t rg : ByteArray) (at' : Int) (w : World) (hS : Sl rPurp (fun _ => False) w A p) (hok : PolOk p) (hL : Sl rStm (fun _ => False) w Al l) (hlo : StmOk l) (hl : l.length ≤ 19) (hrg : rg.size ≤ 1000000000) (ht : t.size ≤ 1000000) (hM : MaxL w) :
    Calls Tryz.prog 27 #[.slice A p.length c, .slice Al l.length cl, .agg #[.int .i64 k, .string t], .string rg, .int .i64 at'] w (GivesChc (if regErr p l k t rg at' = 0 then chcAll p l k t rg at' else []) (regErr p l k t rg at') w) := by
  have HS := Lib.hid hS
  have hpl := hok.len
  have Hall := Lib.hid (fun X w' (h : Below w.heap.size w w') (hX : LV w' X (idCs k t) 29) => checkRegion1_any (fun _ => False) A Al p l c cl rg at' X k t w' (hS.keepB h) hok (hL.keepB h) hlo hrg ht (hM.below h) hX)
  have Hgood : Hid (regErr p l k t rg at' = 0 → GoodPol p ∧ GoodL p l ∧ (0 ≤ at' ∧ at' ≤ 4321439)) := fun h => by
    obtain ⟨h1, _, h3⟩ := first3_zero h
    obtain ⟨h4, h5⟩ := stms_good h1
    exact ⟨policy_good h4, h5, qErr_at h3⟩
  have Hask := Lib.hid (fun (hg : GoodPol p) (hn : l.Pairwise (fun a b => a.no < b.no)) pu ch w' (h : Below w.heap.size w w') => ask_any (fun _ => False) A Al p l c cl pu rg ch at' k t w' (hS.keepB h) hg (hL.keepB h) hl hn)
  have Hans := Lib.hid (fun (hg : GoodPol p) (hgl : GoodL p l) (hat : 0 ≤ at' ∧ at' ≤ 4321439) pu ch (U : List Stm) (hU : IsOf k t ch l U) (N : Nat → Prop) Au cu w' (hS : Sl rStm N w' Au U) hc => answerAt_any (pu := pu) (rg := rg) hg hgl hU hat (by omega) N Au cu w' hS hc)
  obtain ⟨F, HF⟩ : ∃ F, Hid (regErr p l k t rg at' = F) := ⟨_, Lib.hid rfl⟩
  rw [HF.out] at Hgood ⊢
  have Hall2 : Hid (∀ X w' (h : Below w.heap.size w w') (hX : LV w' X (idCs k t) 29), Calls Tryz.prog 83 #[.slice A p.length c, .slice Al l.length cl, .string rg, .int .i64 at', .int .i64 1, .slice (some ⟨X, 0, none⟩) 1 1] w' fun e w'' => e = .returned (.int .i64 F) ∧ Below w'.heap.size w' w'') := fun X w' h hX => HF.out ▸ Hall.out X w' h hX
  obtain ⟨Rs, HRs⟩ : ∃ Rs, Hid ((if F = 0 then chcAll p l k t rg at' else []) = Rs) := ⟨_, Lib.hid rfl⟩
  rw [HRs.out]
  have S := ((Mem.start w).new' (idCs k t) 29).nil rChc w.heap.size 61
  replace S : Mem w (w.alloc (.cells (idCs k t) 29)) [.loc w.heap.size (idCs k t) 29, .own rChc w.heap.size 61 (.slice none 0 0) []] := S
  clear hS hok hL hlo hM HF Hall
  go_enter Tryz.func27, Tryz.ntmps27
  go_upto_region 1 with fail
  generalize w.alloc (.cells (idCs k t) 29) = w1 at *
  have c0 := (S.lv 0 rfl).all
  have Hc := Lib.hid (Hall2.out w1.heap.size (w1.alloc (.cells (idCs k t) 29)) (S.alloc _).b (LV.new w1 w1.heap.size (idCs k t) 29 rfl))
  replace S := S.alloc (.cells (idCs k t) 29)
  clear Hall2
  go_wp2_with fail
  ((with_reducible refine (Hc.out).mono ?_); rintro e w3 ⟨rfl, hl3⟩)
  replace S := S.below hl3
  clear hl3 Hc c0
  by_cases hF : F = 0
  · obtain ⟨hg, hgl, hat⟩ := Hgood.out hF
    have Ha := Lib.hid (Hask.out hg hgl.no)
    have Hb := Lib.hid (Hans.out hg hgl hat)
    have HR1 : Hid (p.flatMap (chcU p l k t rg at') = Rs) := by show _ = _; rw [← HRs.out, if_pos hF]; rfl
    subst hF
    clear hg hgl hat Hask Hans Hgood HRs
    replace S := S.swap
    go_wp2_with fail
    go_loopw [13, 31] (fun v i wr => ∃ (j : Nat) (out : List Chc), j ≤ p.length ∧ i = .int .i64 j ∧ Hid ((p.take j).flatMap (chcU p l k t rg at') = out) ∧ Mem w wr [.own rChc w.heap.size 61 v out, .loc w.heap.size (idCs k t) 29]) (fun _ i _ => p.length - (intOf i).toNat)
    case atStart => exact ⟨0, [], Nat.zero_le _, rfl, Lib.hid rfl, S⟩
    case round =>
      clear S
      obtain ⟨j, out, hj, rfl, HO, S⟩ := hrel
      have hol : out.length ≤ 4 * p.length := by rw [← HO.out]; exact Nat.le_trans (chcAll_len p l k t rg at' _) (by rw [List.length_take]; omega)
      by_cases hlt : j < p.length
      · obtain ⟨u, hf⟩ : ∃ u, p[j]? = some u := ⟨_, List.getElem?_eq_getElem hlt⟩
        obtain ⟨blk, off, At, ct, rfl, hblk, d0, d1, _⟩ := (HS.out.keepB S.b).purp j u hf
        have HO2 := Lib.hid (flatMap_take (chcU p l k t rg at') p j u hf)
        rw [HO.out] at HO2
        clear hf
        go_upto_region 8 with fail
        clear d0 d1
        obtain ⟨Y, hY⟩ : ∃ Y, Y = wr.heap.size := ⟨_, rfl⟩
        replace S := S.newAt #[.string u.name, .slice At u.terms.length ct] 58 Y hY
        rw [← hY]
        clear hY
        generalize wr.alloc (.cells #[.string u.name, .slice At u.terms.length ct] 58) = w4 at *
        go_wp2_with fail
        go_loopw [13, 16] (fun v i wr => ∃ (m : Nat) (out2 : List Chc), m ≤ 4 ∧ i = .int .i64 (m + 1) ∧ Hid (out ++ (chans.take m).flatMap (chcS p l k t rg at' u) = out2) ∧ Mem w wr [.own rChc w.heap.size 61 v out2, .loc w.heap.size (idCs k t) 29, .loc Y #[.string u.name, .slice At u.terms.length ct] 58]) (fun _ i _ => 5 - (intOf i).toNat)
        case atStart => exact ⟨0, out, by omega, rfl, by show _ = _; simp, S⟩
        case round =>
          clear S HO
          obtain ⟨m, out2, hm, rfl, HO, S⟩ := hrel
          have hol2 : out2.length ≤ 4 * p.length + 4 := by
            rw [← HO.out, List.length_append]
            have := chcU_len p l k t rg at' u m
            omega
          obtain ⟨Ao, co, rfl⟩ := (S.ow 0 rfl).len
          by_cases hm4 : m < 4
          · have HO3 := Lib.hid (flatMap_take (chcS p l k t rg at' u) chans m _ (chans_at m hm4))
            rw [chcS] at HO3
            obtain ⟨tm, htm⟩ : ∃ tm, (termAt p u.name rg (m + 1)).getD tZero = tm := ⟨_, rfl⟩
            obtain ⟨is, his⟩ : ∃ is, (termAt p u.name rg (m + 1)).isSome = is := ⟨_, rfl⟩
            have Ha1 := Lib.hid (fun w' h => Ha.out u.name (m + 1) w' h)
            have Hb1 := Lib.hid (fun U hU N Au cu w' hS hc => Hb.out u.name (m + 1) U hU N Au cu w' hS hc)
            rw [htm, his] at Ha1 Hb1
            rw [his] at HO3
            clear htm his
            generalize mayAns p l k t u.name rg (m + 1) at' = an at *
            have c2 := (S.lv 2 rfl).all
            go_upto_region 12 with fail
            obtain ⟨Q, hQ⟩ : ∃ Q, Q = wr.heap.size := ⟨_, rfl⟩
            replace S := S.newAt (qCs (some ⟨blk, off, none⟩) p.length c u.name rg (m + 1) at') 118 Q hQ
            rw [← hQ]
            clear hQ
            generalize wr.alloc (.cells (qCs (some ⟨blk, off, none⟩) p.length c u.name rg (m + 1) at') 118) = w5 at *
            clear c2
            have c1 := (S.lv 1 rfl).all
            have c3 := (S.lv 3 rfl).all
            go_wp2_with fail
            ((with_reducible refine (Ha1.out w5 S.b).mono ?_); rintro e w6 ⟨Au, U, cu, rfl, hU, hc, hSU, hl6⟩)
            replace S := S.call hl6 (.sl rStm Au U) hSU (fun k e => by cases e)
            have HU := Lib.hid hU
            have Hcu := Lib.hid hc
            clear hl6 hSU hU hc c1 c3 Ha1
            go_upto_region 13 with fail
            obtain ⟨Kk, hK⟩ : ∃ K, K = w6.heap.size := ⟨_, rfl⟩
            replace S := S.newAt (askCs tm is u.name Au U.length cu) 122 Kk hK
            rw [← hK]
            clear hK
            generalize w6.alloc (.cells (askCs tm is u.name Au U.length cu) 122) = w7 at *
            have c5 := (S.lv 5 rfl).all
            cases is with
            | false =>
              go_wp2_with fail
              go_roundw
              case rel => exact ⟨m + 1, out2, by omega, by go_num, (by show _ = _; rw [HO3.out, ← List.append_assoc, HO.out]; simp), ((S.del 5).del 4).del 3⟩
              case measure => simp [intOf]; omega
            | true =>
              go_wp2_with fail
              clear c5
              have hsz := S.b.size
              have hCl : ∀ {wx : World} {v : Value} {o : List Chc}, Mem w wx [.own rChc w.heap.size 61 v o, .loc w.heap.size (idCs k t) 29, .loc Y #[.string u.name, .slice At u.terms.length ct] 58, .loc Q (qCs (some ⟨blk, off, none⟩) p.length c u.name rg (m + 1) at') 118, .sl rStm Au U, .loc Kk (askCs tm true u.name Au U.length cu) 122] → LV wx Y #[.string u.name, .slice At u.terms.length ct] 58 ∧ LV wx Kk (askCs tm true u.name Au U.length cu) 122 := fun S => ⟨S.lv 2 rfl, S.lv 5 rfl⟩
              refine wp_region_mix (fun wx => LV wx Y #[.string u.name, .slice At u.terms.length ct] 58 ∧ LV wx Kk (askCs tm true u.name Au U.length cu) 122) [(true, 0), (true, 1), (true, 2), (true, 3), (true, 4), (true, 5), (false, 6), (true, 7), (false, 8), (false, 9), (true, 10)] (by kernel_rfl) (by kernel_rfl) (fun w' hd => hCl (S.below (hd.below _))) (fun KK hKK wd hd => ?_)
              replace S := S.below (hd.below _)
              clear hd
              repeat (refine mix_p rfl (fun K hK => ?_); go_simp; (try go_bits); (try simp (disch := omega) only [if_pos]); (try simp (disch := omega) only [if_neg]); (try simp (disch := omega) only [dif_pos]); (try simp (disch := omega) only [dif_neg]); (try go_simp); (refine hK _ ?_; clear hK K))
              refine mix_load (.string u.name) rfl rfl rfl rfl (fun _ => rfl) (fun w' h => h.1.cell 0 _ rfl) ?_
              repeat (refine mix_p rfl (fun K hK => ?_); go_simp; (try go_bits); (try simp (disch := omega) only [if_pos]); (try simp (disch := omega) only [if_neg]); (try simp (disch := omega) only [dif_pos]); (try simp (disch := omega) only [dif_neg]); (try go_simp); (refine hK _ ?_; clear hK K))
              refine mix_loadR (.agg (askCs tm true u.name Au U.length cu)) rfl rfl rfl rfl (fun w' h => loadAskI h.2) ?_
              repeat (refine mix_p rfl (fun K hK => ?_); go_simp; (try go_bits); (try simp (disch := omega) only [if_pos]); (try simp (disch := omega) only [if_neg]); (try simp (disch := omega) only [dif_pos]); (try simp (disch := omega) only [dif_neg]); (try go_simp); (refine hK _ ?_; clear hK K))
              refine mix_l rfl (fun K hK => ?_) (hCl S)
              have Hd := Lib.hid (Hb1.out U HU.out _ Au cu wd (S.slc 4 rfl) Hcu.out)
              go_wp2_with fail
              ((with_reducible refine (Hd.out).mono ?_); rintro e w8 ⟨rfl, hl8⟩)
              replace S := S.below hl8
              clear hl8 Hd
              have hC := hCl S
              go_wp2_with fail
              refine ⟨hC, ?_⟩
              clear hC
              repeat (refine mix_p rfl (fun K hK => ?_); go_simp; (try go_bits); (try simp (disch := omega) only [if_pos]); (try simp (disch := omega) only [if_neg]); (try simp (disch := omega) only [dif_pos]); (try simp (disch := omega) only [dif_neg]); (try go_simp); (refine hK _ ?_; clear hK K))
              refine mix_l rfl (fun K hK => ?_) (hCl S)
              have hC8 := hCl (S.alloc (.cells #[.string u.name, .int .i64 (m + 1), .bool an.1, .int .i64 an.2.1, .int .i64 an.2.2] 61))
              go_wp2_with fail
              refine ⟨hC8, ?_⟩
              refine mix_l rfl (fun K hK => ?_) hC8
              have hsz8 := S.b.size
              refine S.app 0 rfl tyChc rfl _ _ rfl ⟨u.name, m + 1, an⟩ 1 rfl rfl rfl (oneChc ⟨u.name, m + 1, an⟩) hsz8 (by omega) (by decide) ?_
              intro v' w9 S6
              have hC9 := hCl (v := v') (o := out2 ++ [⟨u.name, m + 1, an⟩]) S6
              clear hC8
              go_wp2_with fail
              refine ⟨hC9, ?_⟩
              clear hC9 hCl
              repeat (refine mix_p rfl (fun K hK => ?_); go_simp; (try go_bits); (try simp (disch := omega) only [if_pos]); (try simp (disch := omega) only [if_neg]); (try simp (disch := omega) only [dif_pos]); (try simp (disch := omega) only [dif_neg]); (try go_simp); (refine hK _ ?_; clear hK K))
              refine mix_nil ?_
              simp only [Exit.then]
              refine hKK _ _ ?_
              go_wp2_with fail
              go_roundw
              case rel => exact ⟨m + 1, out2 ++ [(⟨u.name, (m : Int) + 1, an⟩ : Chc)], by omega, by go_num, (by show _ = _; rw [HO3.out, ← List.append_assoc, HO.out]; simp), ((S6.del 5).del 4).del 3⟩
              case measure => simp [intOf]; omega
          · have HO3 : Hid ((p.take (j + 1)).flatMap (chcU p l k t rg at') = out2) := by
              show _ = _
              rw [HO2.out, ← HO.out, show chans.take m = chans from List.take_of_length_le (by simp; omega)]
              rfl
            go_wp2_with fail
            go_roundw
            case rel => exact ⟨j + 1, out2, by omega, by go_num, HO3, S.del 2⟩
            case measure => simp [intOf]; omega
      · obtain rfl : out = Rs := by rw [← HO.out, ← HR1.out, List.take_of_length_le (by omega)]
        obtain ⟨A2, c2, e2, hS⟩ := ((S.ow 0 rfl).flatM flatChc (M' := Lt w.heap.size)).toSlC (fun k h1 h2 => by unfold Lt at h2; omega)
        have He := Lib.hid e2
        have HS2 := Lib.hid hS.2
        clear hS e2
        go_wp2_with fail
        exact bodyPost_ret (results_tt rfl rfl rfl) rfl ⟨A2, c2, congrArg (fun x => Ending.returned (.tuple #[x, .int .i64 0])) He.out, HS2.out, S.b⟩
  · have hF' : (F != 0) = true := by simpa using hF
    obtain rfl : ([] : List Chc) = Rs := by rw [← HRs.out, if_neg hF]
    clear hF Hask Hans Hgood HRs
    go_wp2_with fail
    refine bodyPost_ret (results_tt rfl rfl rfl) rfl ⟨none, 0, rfl, Sl.nil, S.b⟩
end Go.Proofs.YtlnklkedpknbpaaGreatDoor
