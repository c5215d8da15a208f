/- Several texts in one: PsnOf, PersonIn, PsnOfT, LawPof. -/
import Derived.Test.YtjlangjhdakmiaaGreatDoorPackP
import Derived.Test.YtjlangjhdakmiaaGreatDoorPackX
import Derived.Test.YtjlangjhdakmiaaGreatDoorPackT
import Derived.Test.YtjlangjhdakmiaaGreatDoorPackI
import Derived.Test.YtjlangjhdakmiaaGreatDoorPackU
import Derived.Test.YtjlangjhdakmiaaGreatDoorPackN
import Derived.Test.YtjlangjhdakmiaaGreatDoorPackL
import Derived.Test.YtjlangjhdakmiaaGreatDoorPackY
import Derived.Test.YtjlangjhdakmiaaGreatDoorPackG
import Derived.Test.YtjlangjhdakmiaaGreatDoorPackW
/- person.of: the first person who has an id. -/
namespace Go.Proofs.YtjlangjhdakmiaaGreatDoor
open Go Go.RowKit
def ofP (P : List Psn) (x : IdV) : Option Psn := P.find? (fun p => decide (x ∈ p.ids))
abbrev pzCs : Array Value := #[.int .i64 0, .string ⟨#[]⟩, .slice none 0 0, .slice none 0 0]
theorem zeroPsn (w : World) : (zeroValue 47).run Tryz.prog w = .ok (.agg pzCs) w := by kernel_rfl
theorem loadPsn {w : World} {X : Nat} {a b c d : Value} (h : LV w X #[a, b, c, d] 47) : (loadVar 47 ⟨X, 0, none⟩).run Tryz.prog w = .ok (.agg #[a, b, c, d]) w := by
  have c0 := h.all
  go_simp
def IsOf (N : Nat → Prop) (P : List Psn) (x : IdV) (w' : World) (cs : Array Value) (b : Bool) : Prop :=
  (ofP P x = none ∧ b = false ∧ cs = pzCs) ∨ ∃ p A a B b', ofP P x = some p ∧ b = true ∧ cs = psCs p A a B b' ∧ Sl rInt N w' A p.tch ∧ Sl rId N w' B p.ids
def GivesOf (N : Nat → Prop) (P : List Psn) (x : IdV) (w : World) (e : Ending) (w' : World) : Prop :=
  ∃ cs b, e = .returned (.tuple #[.agg cs, .bool b]) ∧ Below w.heap.size w w' ∧ IsOf N P x w' cs b
set_option maxHeartbeats 4000000 in
set_option maxRecDepth 100000 in
theorem psnOf_any (N : Nat → Prop) (P : List Psn) (A : Option Addr) (c : Nat) (x : IdV) (w : World) (hS : Sl rPsn N w A P) (hl : P.length ≤ 1000000) (hs : ∀ p ∈ P, p.ids.length ≤ 1000000 ∧ RiseI p.ids) :
    Calls Tryz.prog 55 #[.slice A P.length c, .agg #[.int .i64 x.k, .string x.t]] w (GivesOf N P x w) := by
  have HS := Lib.hid (fun w' (h : Below w.heap.size w w') => hS.keepB h)
  have Hs := Lib.hid hs
  clear hS hs
  obtain ⟨X, hX⟩ : ∃ X, X = w.heap.size := ⟨_, rfl⟩
  have S1 := (Mem.start w).newAt #[.int .i64 x.k, .string x.t] 43 X hX
  have S : Mem w _ [.loc X #[.int .i64 x.k, .string x.t] 43, .loc (X + 1) pzCs 47] := S1.newAt pzCs 47 (X + 1) (by rw [hX, World.size_alloc])
  clear S1
  go_enter Tryz.func55, Tryz.ntmps55
  go_upto_region 1 with fail
  rw [← hX]
  clear hX
  generalize (w.alloc (.cells #[.int .i64 x.k, .string x.t] 43)).alloc (.cells pzCs 47) = w1 at *
  obtain ⟨R, hR⟩ : ∃ R, R = X + 1 := ⟨_, rfl⟩
  rw [← hR] at S ⊢
  clear hR
  go_wp2_with fail
  go_loopw [12] (fun i wr => ∃ j : Nat, j ≤ P.length ∧ i = .int .i64 j ∧ Hid (ofP (P.drop j) x = ofP P x) ∧ Mem w wr [.loc X #[.int .i64 x.k, .string x.t] 43, .loc R pzCs 47]) (fun i _ => P.length - (intOf i).toNat)
  case atStart => exact ⟨0, Nat.zero_le _, rfl, rfl, S⟩
  case round =>
    clear S
    obtain ⟨j, hj, rfl, Hf, S⟩ := hrel
    by_cases hlt : j < P.length
    · obtain ⟨p, hp⟩ : ∃ p, P[j]? = some p := ⟨_, List.getElem?_eq_getElem hlt⟩
      obtain ⟨b1, o1, At, at', Ai, ai, rfl, hb1, c0, c1, c2, c3, s1, s2⟩ := (HS.out w (Below.refl _ _)).psn j p hp
      have hcl := fun (q : Addr) (hq : q.block < w.heap.size) => S.b.cell hq
      rw [← hcl _ hb1] at c0 c1 c2 c3
      clear hcl
      have hpl := Hs.out p (List.mem_of_getElem? hp)
      have Hd : Hid (ofP (P.drop j) x = if decide (x ∈ p.ids) = true then some p else ofP (P.drop (j + 1)) x) := by
        show _ = _
        rw [drop_at3 hp]
        unfold ofP
        rw [List.find?_cons]
        cases decide (x ∈ p.ids) <;> rfl
      have Hbs := Lib.hid (fun w' (h : Below w.heap.size w w') => bsId_any N Ai p.ids x ai w' (s2.keepB h) hpl.1 hpl.2)
      have Hri : Hid (∀ (i j : Nat) (a b : IdV), i < j → p.ids[i]? = some a → p.ids[j]? = some b → cmpId b x ≤ 0 → cmpId a x < 0) := fun i j a b hij ha hb h => by
        obtain ⟨hi, rfl⟩ := List.getElem?_eq_some_iff.1 ha
        obtain ⟨hj, rfl⟩ := List.getElem?_eq_some_iff.1 hb
        exact cmpId_ok.lt (List.pairwise_iff_getElem.1 hpl.2 i j hi hj hij) h
      have Hsl := Lib.hid (fun w' (h : Below w.heap.size w w') => (⟨s1.keepB h, s2.keepB h⟩ : Sl rInt N w' At p.tch ∧ Sl rId N w' Ai p.ids))
      clear hp s1 s2 hpl
      obtain ⟨U, hU⟩ : ∃ U, U = wr.heap.size := ⟨_, rfl⟩
      have S2 : Mem w _ [.loc X #[.int .i64 x.k, .string x.t] 43, .loc R pzCs 47, .loc U (psCs p At at' Ai ai) 47] := S.newAt (psCs p At at' Ai ai) 47 U hU
      go_upto_region 4 with fail
      rw [← hU]
      clear hU S c0 c1 c2 c3
      generalize wr.alloc (.cells (psCs p At at' Ai ai) 47) = w2 at *
      have l0 := (S2.lv 0 rfl).all
      have l2 := (S2.lv 2 rfl).all
      go_wp2_with fail
      ((with_reducible refine (Hbs.out _ S2.b).mono ?_); rintro e w3 ⟨q, b, rfl, hq, hlo, hhi, hb, hb3⟩)
      have Hh := Lib.hid (by_has hlo hhi Hri.out hb)
      have S3 := S2.below hb3
      clear hlo hhi hb l0 l2 S2 hb3 Hbs Hri
      have Hm : Hid (b = decide (x ∈ p.ids)) := by
        have := Hh.out
        show _ = _
        rw [Bool.eq_iff_iff, decide_eq_true_eq, this]
        constructor
        · rintro ⟨f, hf, h0⟩
          rw [← cmpId_zero h0]
          exact hf
        · exact fun h => ⟨x, h, cmpId_ok.refl x⟩
      cases b
      · go_wp2_with fail
        go_roundw
        case rel => exact ⟨j + 1, by omega, by go_num, by show _ = _; rw [← Hf.out, Hd.out, ← Hm.out, if_neg (by decide)], S3.del 2⟩
        case measure => simp [intOf]; omega
      · have l1 := (S3.lv 1 rfl).all
        have l2 := (S3.lv 2 rfl).all
        have S9 := (((S3.set 1 0 (.int .i64 p.key.k) rfl).set 1 1 (.string p.key.t) rfl).set 1 2 (.slice At p.tch.length at') rfl).set 1 3 (.slice Ai p.ids.length ai) rfl
        have hof : ofP P x = some p := by rw [← Hf.out, Hd.out, ← Hm.out, if_pos rfl]
        go_wp2_with fail
        exact bodyPost_ret (results_cs rfl rfl rfl (loadPsn (S9.lv 1 rfl))) rfl ⟨_, _, rfl, S9.b, .inr ⟨p, At, at', Ai, ai, hof, rfl, rfl, (Hsl.out _ S9.b).1, (Hsl.out _ S9.b).2⟩⟩
    · obtain rfl : j = P.length := by omega
      have hnone : ofP P x = none := by rw [← Hf.out, List.drop_length]; rfl
      have l1 := (S.lv 1 rfl).all
      have S9 := (((S.set 1 0 (.int .i64 0) rfl).set 1 1 (.string ⟨#[]⟩) rfl).set 1 2 (.slice none 0 0) rfl).set 1 3 (.slice none 0 0) rfl
      go_wp2_with fail
      exact bodyPost_ret (results_cs rfl rfl rfl (loadPsn (S9.lv 1 rfl))) rfl ⟨_, _, rfl, S9.b, .inl ⟨hnone, rfl, rfl⟩⟩
end Go.Proofs.YtjlangjhdakmiaaGreatDoor

/- (*group).persons again, over any pieces of memory beside its own. -/
namespace Go.Proofs.YtjlangjhdakmiaaGreatDoor
open Go Go.RowKit
set_option maxHeartbeats 4000000 in
set_option maxRecDepth 100000 in
theorem persons_in {w0 w : World} (ch : List Chunk) (A : Option Addr) (c : Nat) (qs : List MQ) (hl : qs.length ≤ 1000000) (S : Mem w0 w (.sl rMQ A qs :: .mdat qs :: ch)) :
    Calls Tryz.prog 46 #[.slice A qs.length c] w fun e w' => ∃ A' c', e = .returned (.slice A' (qs.map MQ.psn).length c') ∧ Mem w0 w' (.sl rPsn A' (qs.map MQ.psn) :: ch) := by
  obtain ⟨B, hB⟩ : ∃ B, B = w0.heap.size := ⟨_, rfl⟩
  have S1 : Mem w0 w (.own rPsQ B 47 (.slice none 0 0) [] :: .sl rMQ A qs :: .mdat qs :: ch) := (S.nil rPsQ B 47).front
  have Hb := Lib.hid hB
  clear S hB
  go_enter Tryz.func46, Tryz.ntmps46
  go_wp2_with fail
  go_loopw [3, 8] (fun v i wr => ∃ (k : Nat) (A3 : Option Addr) (c3 : Nat), k ≤ qs.length ∧ v = .slice A3 k c3 ∧ i = .int .i64 k ∧ Mem w0 wr (.own rPsQ B 47 (.slice A3 k c3) ((qs.take k).map MQ.ps) :: .sl rMQ A qs :: .mdat qs :: ch)) (fun _ i _ => qs.length - (intOf i).toNat)
  case atStart => exact ⟨0, none, 0, Nat.zero_le _, rfl, rfl, S1⟩
  case round =>
    clear S1
    obtain ⟨k, A3, c3, hk, rfl, rfl, S1⟩ := hrel
    by_cases hlt : k < qs.length
    · obtain ⟨q, hq⟩ : ∃ q, qs[k]? = some q := ⟨_, List.getElem?_eq_getElem hlt⟩
      obtain ⟨blk, off, rfl, hblk, d0, d1, d2, d3, d4⟩ := (S1.slc 1 rfl).mq k q hq
      have Hq := Lib.hid hq
      clear hq
      go_upto_region 5 with fail
      clear d0 d1 d2 d3 d4
      obtain ⟨Y, hY⟩ : ∃ Y, Y = wr.heap.size := ⟨_, rfl⟩
      have S2 : Mem w0 _ (.loc Y (mqCs q) 118 :: .own rPsQ B 47 (.slice A3 k c3) ((qs.take k).map MQ.ps) :: .sl rMQ (some ⟨blk, off, none⟩) qs :: .mdat qs :: ch) := (S1.newAt (mqCs q) 118 Y hY).front
      rw [← hY]
      clear hY S1
      generalize wr.alloc (.cells (mqCs q) 118) = w2 at *
      have y0 := (S2.lv 0 rfl).all
      have hsB : B ≤ w2.heap.size := by rw [Hb.out]; exact S2.b.size
      have hlk : ((qs.take k).map MQ.ps).length ≤ 100000000 := by rw [List.length_map, List.length_take]; omega
      go_wp2_with (at_builtin; refine S2.app 1 rfl tyPsn rfl _ _ rfl q.ps 1 rfl rfl rfl (onePsQ q.ps) hsB hlk (by decide) ?_; intro v' w7 S7)
      obtain ⟨A7, c7, e7⟩ := (S7.ow 1 rfl).len
      rw [List.length_append, List.length_map, List.length_take, Nat.min_eq_left hk, List.length_singleton] at e7
      subst e7
      go_roundw
      case rel =>
        refine ⟨k + 1, A7, c7, by omega, rfl, by go_num, ?_⟩
        have S8 := S7.del 0
        rw [take_snoc Hq.out, List.map_append]
        exact S8
      case measure => simp [intOf]; omega
    · obtain rfl : k = qs.length := by omega
      rw [List.take_length] at S1
      go_wp2_with fail
      go_ret
      obtain ⟨A6, c6, e6, S6⟩ := S1.frz 0 rfl
      rw [List.length_map] at e6
      simp only [Value.slice.injEq, true_and] at e6
      obtain ⟨rfl, rfl⟩ := e6
      have hpd : PdOk (Mut w0.heap.size (.sl rPsQ A3 (qs.map MQ.ps) :: .sl rMQ A qs :: .mdat qs :: ch)) wr (qs.map MQ.ps) := fun p hp => by
        obtain ⟨q, hq, rfl⟩ := List.mem_map.1 hp
        have hm : MdOk (Mut w0.heap.size (.sl rPsQ A3 (qs.map MQ.ps) :: .sl rMQ A qs :: .mdat qs :: ch)) wr qs := S6.ok (.mdat qs) (.tail _ (.tail _ (.head _)))
        exact ⟨(hm q hq).1, (hm q hq).2.1⟩
      have e : (qs.map MQ.ps).map PsQ.p = qs.map MQ.psn := by rw [List.map_map]; rfl
      have S9 := S6.turn 0 rfl (.sl rPsn A3 ((qs.map MQ.ps).map PsQ.p)) rfl (slPsn (S6.slc 0 rfl) hpd)
      rw [e] at S9
      exact ⟨A3, c3, by rw [List.length_map]; rfl, (S9.del 2).del 1⟩
end Go.Proofs.YtjlangjhdakmiaaGreatDoor

/- person.Of: the person who has an id. -/
namespace Go.Proofs.YtjlangjhdakmiaaGreatDoor
open Go Go.RowKit
theorem IsOf.mono {M N : Nat → Prop} {P : List Psn} {x : IdV} {w : World} {cs : Array Value} {b : Bool} (h : IsOf N P x w cs b) (k : ∀ k, k < w.heap.size → M k → N k) : IsOf M P x w cs b := by
  rcases h with h | ⟨p, A, a, B, b', h1, h2, h3, h4, h5⟩
  · exact .inl h
  · exact .inr ⟨p, A, a, B, b', h1, h2, h3, h4.mono k, h5.mono k⟩
theorem IsOf.keep {N : Nat → Prop} {P : List Psn} {x : IdV} {w w' : World} {cs : Array Value} {b : Bool} (h : IsOf N P x w cs b) (k : SKN N w w') : IsOf N P x w' cs b := by
  rcases h with h | ⟨p, A, a, B, b', h1, h2, h3, h4, h5⟩
  · exact .inl h
  · exact .inr ⟨p, A, a, B, b', h1, h2, h3, h4.keep k, h5.keep k⟩
theorem IsOf.form {N : Nat → Prop} {P : List Psn} {x : IdV} {w : World} {cs : Array Value} {b : Bool} (h : IsOf N P x w cs b) : ∃ k t A n a B m c, cs = #[.int .i64 k, .string t, .slice A n a, .slice B m c] ∧ (b = false → cs = pzCs) := by
  rcases h with ⟨_, _, rfl⟩ | ⟨p, A, a, B, b', h1, h2, rfl, _⟩
  · exact ⟨_, _, _, _, _, _, _, _, rfl, fun _ => rfl⟩
  · exact ⟨_, _, _, _, _, _, _, _, rfl, fun e => by rw [h2] at e; cases e⟩
/-- the answer of of, as a piece -/
def Chunk.ofd (P : List Psn) (x : IdV) (cs : Array Value) (b : Bool) : Chunk :=
  ⟨none, fun M w => IsOf M P x w cs b, fun k hd _ h => h.keep (k.mono hd), fun hm h => h.mono (fun k hk e => (hm k hk e).resolve_right (by simp)), fun _ _ e => by cases e⟩
/-- the answer: a fault of the rules or touches, of the id, none such person, or the person -/
def GivesOfT (r : Rul) (ts : List Tch) (x : IdV) (w : World) (e : Ending) (w' : World) : Prop :=
  ∃ cs F, e = .returned (.tuple #[.agg cs, .int .i64 F]) ∧ Below w.heap.size w w' ∧
    ((bothF r ts ≠ 0 ∧ F = bothF r ts ∧ cs = pzCs) ∨ (bothF r ts = 0 ∧ L.idFault x.k x.t ≠ 0 ∧ F = L.idFault x.k x.t ∧ cs = pzCs) ∨
      (bothF r ts = 0 ∧ L.idFault x.k x.t = 0 ∧ ∃ P b, IsPsns r ts P ∧ IsOf (fun _ => False) P x w' cs b ∧ F = if b then 0 else 8))
theorem loadAtJ3 {w : World} {X : Nat} {a b c d : Value} (h : LV w X #[a, b, c, d] 29) : (Instr.loadAt 29 (.pointer (some ⟨X, 0, none⟩))).run Tryz.prog w = .ok (.agg #[a, b, c, d]) w := by
  have c0 := h.all
  go_simp
theorem loadAtI3 {w : World} {X : Nat} {a b : Value} (h : LV w X #[a, b] 43) : (Instr.loadAt 43 (.pointer (some ⟨X, 0, none⟩))).run Tryz.prog w = .ok (.agg #[a, b]) w := by
  have c0 := h.all
  go_simp
set_option maxHeartbeats 8000000 in
set_option maxRecDepth 100000 in
theorem psnOfT_any (N : Nat → Prop) (r : Rul) (K W S A : Option Addr) (ck cw cs c : Nat) (ts : List Tch) (x : IdV) (w : World) (hR : RulIn N w r K W S) (hT : Sl rTch N w A ts) (hr : RulOk r) (ht : TchsOk ts) (hx : x.t.size ≤ 1000000) (hU : Tabs w) (hM : MaxL w) :
    Calls Tryz.prog 18 #[.agg (ruCs r K ck W cw S cs), .slice A ts.length c, .agg #[.int .i64 x.k, .string x.t]] w (GivesOfT r ts x w) := by
  obtain ⟨Y, hY⟩ : ∃ Y, Y = w.heap.size := ⟨_, rfl⟩
  have T0 := (Mem.start w).newAt (ruCs r K ck W cw S cs) 29 Y hY
  have T1 := T0.newAt #[.int .i64 x.k, .string x.t] 43 (Y + 1) (by rw [hY, World.size_alloc])
  have T : Mem w _ [.loc Y (ruCs r K ck W cw S cs) 29, .loc (Y + 1) #[.int .i64 x.k, .string x.t] 43, .loc (Y + 1 + 1) pzCs 47] := T1.newAt pzCs 47 (Y + 1 + 1) (by rw [hY, World.size_alloc, World.size_alloc])
  have Hc := Lib.hid (fun w' (h : Below w.heap.size w w') => checkBoth_any N r K W S A ck cw cs c ts w' (hR.keepB h) (hT.keepB h) hr ht (Utf8Tabs_below hU h) (hM.below h))
  obtain ⟨F, hF⟩ : ∃ F, bothF r ts = F := ⟨_, rfl⟩
  rw [hF] at Hc
  have HF := Lib.hid hF
  have HR := Lib.hid hR
  have HT := Lib.hid hT
  have Hr := Lib.hid hr
  clear hF hR hT hr ht T0 T1
  go_enter Tryz.func18, Tryz.ntmps18
  go_upto_region 1 with fail
  rw [← hY]
  clear hY
  generalize ((w.alloc (.cells (ruCs r K ck W cw S cs) 29)).alloc (.cells #[.int .i64 x.k, .string x.t] 43)).alloc (.cells pzCs 47) = w1 at *
  obtain ⟨X, hX⟩ : ∃ X, X = Y + 1 := ⟨_, rfl⟩
  obtain ⟨R, hRr⟩ : ∃ R, R = X + 1 := ⟨_, rfl⟩
  rw [← hX, ← hRr] at T ⊢
  clear hX hRr
  have y0 := (T.lv 0 rfl).all
  go_wp2_with fail
  ((with_reducible refine (Hc.out w1 T.b).mono ?_); rintro e w2 ⟨rfl, hl2⟩)
  have T2 := T.below hl2
  clear y0 Hc hl2 T
  by_cases hE : F = 0
  · subst hE
    have Hid1 := Lib.hid (checkId_any x.k x.t w2 hx (hM.below T2.b))
    have l0 := (T2.lv 0 rfl).all
    have l1 := (T2.lv 1 rfl).all
    obtain ⟨F1, hF1⟩ : ∃ F1, L.idFault x.k x.t = F1 := ⟨_, rfl⟩
    rw [hF1] at Hid1
    have HF1 := Lib.hid hF1
    clear hF1
    go_wp2_with fail
    ((with_reducible refine (Hid1.out).mono ?_); rintro e w3 ⟨rfl, hl3⟩)
    have T3 := T2.below hl3
    clear l0 l1 T2 hl3 Hid1
    by_cases hE1 : F1 = 0
    · subst hE1
      have Ho : Hid (RtOk r ts) := RtOk.both HF.out Hr.out
      have Hn := Lib.hid (fun w' (h : Below w.heap.size w w') => newGroup_any N r K W S A ck cw cs c ts w' (HT.out.keepB h) Ho.out.tl (fun t h => (Ho.out.up t h).nodup) Ho.out.il)
      go_wp2_with fail
      refine wp_region_mixT [] (fun wx => LV wx Y (ruCs r K ck W cw S cs) 29 ∧ LV wx X #[.int .i64 x.k, .string x.t] 43) (.q 0 (.p 1 (.q 5 (.e2 2 (.e2 3 (.e2 4 (.e2 6 (.p 7 (.p 8 (.p 9 (.e 10 (.e 11 (.p 12 .z)))))) 10 (.e 6 (.p 7 (.p 8 (.p 9 (.e 11 (.p 12 .z))))))) 10 (.e 4 (.e 6 (.p 7 (.p 8 (.p 9 (.e 11 (.p 12 .z)))))))) 10 (.e 3 (.e 4 (.e 6 (.p 7 (.p 8 (.p 9 (.e 11 (.p 12 .z))))))))) 10 (.e 2 (.e 3 (.e 4 (.e 6 (.p 7 (.p 8 (.p 9 (.e 11 (.p 12 .z))))))))))))) (by kernel_rfl) (by kernel_rfl) (fun _ hd => ⟨(T3.below (hd.below _)).lv 0 rfl, (T3.below (hd.below _)).lv 1 rfl⟩) (fun KK hKK wd hd => ?_)
      have T := T3.below (hd.below _)
      clear hd T3
      refine mixT_loadR (.agg (ruCs r K ck W cw S cs)) rfl rfl rfl rfl (fun w' h => loadAtJ3 h.1) ?_
      repeat ((first | refine mixT_pp rfl (fun K hK => ?_) | refine mixT_p rfl (fun K hK => ?_)); go_simp; (try go_bits); (try simp (disch := omega) only [if_pos]); (try simp (disch := omega) only [if_neg]); (try simp (disch := omega) only [dif_pos]); (try simp (disch := omega) only [dif_neg]); (try go_simp); (refine hK _ ?_; clear hK K))
      refine mixT_loadR (.agg #[.int .i64 x.k, .string x.t]) rfl rfl rfl rfl (fun w' h => loadAtI3 h.2) ?_
      refine mixT_2 (mixT_one rfl rfl (fun K9 hK9 => ?_)) (mixT_one rfl rfl (fun K9 hK9 => ?_))
      · go_wp2_with fail
        ((with_reducible refine (Hn.out _ T.b).mono ?_); rintro e wg ⟨G, Xg, qs, rfl, T4, hH⟩)
        have Hm := Lib.hid (fun w' (h : Below wg.heap.size wg w') => members_any N G Xg r K W S A ck cw cs c ts qs w' ((grp_of T4.b (HR.out.keepB T.b) (HT.out.keepB T.b) T4 hH).keepB h) Ho.out)
        replace T := T.below T4.b
        have hC := (⟨T.lv 0 rfl, T.lv 1 rfl⟩ : LV wg Y (ruCs r K ck W cw S cs) 29 ∧ LV wg X #[.int .i64 x.k, .string x.t] 43)
        have hbx := Below.refl wg.heap.size wg
        clear T4 hH
        go_wp2_with fail
        refine ⟨hC, ?_⟩
        clear hC
        refine mixT_2 (mixT_one rfl rfl (fun K9 hK9 => ?_)) (mixT_one rfl rfl (fun K9 hK9 => ?_))
        · go_wp2_with fail
          ((with_reducible refine (Hm.out _ hbx).mono ?_); rintro e wm ⟨Aq, cq, cc, ms, rfl, hp, hm, T5⟩)
          have Hpm : Hid (IsPsns r ts (ms.map MQ.psn)) := ⟨cc, hp, hm.are⟩
          have hml : ms.length ≤ 1000000 := by have := hm.len; have := Ho.out.tl; omega
          replace T : Mem w wm (.sl rMQ Aq ms :: .mdat ms :: [.loc Y (ruCs r K ck W cw S cs) 29, .loc X #[.int .i64 x.k, .string x.t] 43, .loc R pzCs 47]) := (T.join T5).perm List.perm_append_comm
          have hC := (⟨T.lv 2 rfl, T.lv 3 rfl⟩ : LV wm Y (ruCs r K ck W cw S cs) 29 ∧ LV wm X #[.int .i64 x.k, .string x.t] 43)
          clear T5 hp hm Hm hbx
          go_wp2_with fail
          refine ⟨hC, ?_⟩
          clear hC
          refine mixT_2 (mixT_one rfl rfl (fun K9 hK9 => ?_)) (mixT_one rfl rfl (fun K9 hK9 => ?_))
          · have Hps := Lib.hid (persons_in [.loc Y (ruCs r K ck W cw S cs) 29, .loc X #[.int .i64 x.k, .string x.t] 43, .loc R pzCs 47] Aq cq ms hml T)
            clear T
            go_wp2_with fail
            ((with_reducible refine (Hps.out).mono ?_); rintro e w5 ⟨Ap, cp, rfl, T⟩)
            have hC := (⟨T.lv 1 rfl, T.lv 2 rfl⟩ : LV w5 Y (ruCs r K ck W cw S cs) 29 ∧ LV w5 X #[.int .i64 x.k, .string x.t] 43)
            obtain ⟨P, hP⟩ : ∃ P, ms.map MQ.psn = P := ⟨_, rfl⟩
            rw [hP] at T Hpm ⊢
            clear hP Hps hml
            go_wp2_with fail
            refine ⟨hC, ?_⟩
            clear hC
            refine mixT_2 (mixT_one rfl rfl (fun K9 hK9 => ?_)) (mixT_one rfl rfl (fun K9 hK9 => ?_))
            · have Hof := Lib.hid (psnOf_any (Mut w.heap.size (.sl rPsn Ap P :: [.loc Y (ruCs r K ck W cw S cs) 29, .loc X #[.int .i64 x.k, .string x.t] 43, .loc R pzCs 47])) P Ap cp x _ (T.slc 0 rfl) (psns_small Ho.out Hpm.out).1 (fun p hp => ⟨((psns_small Ho.out Hpm.out).2 p hp).2, psns_rise Hpm.out p hp⟩))
              go_wp2_with fail
              ((with_reducible refine (Hof.out).mono ?_); rintro e w6 ⟨cs6, b6, rfl, hb6, hI6⟩)
              replace T : Mem w w6 (.ofd P x cs6 b6 :: [.loc Y (ruCs r K ck W cw S cs) 29, .loc X #[.int .i64 x.k, .string x.t] 43, .loc R pzCs 47]) := (T.below hb6).turn 0 rfl (.ofd P x cs6 b6) rfl hI6
              have hC := (⟨T.lv 1 rfl, T.lv 2 rfl⟩ : LV w6 Y (ruCs r K ck W cw S cs) 29 ∧ LV w6 X #[.int .i64 x.k, .string x.t] 43)
              clear hb6 hI6 Hof
              go_wp2_with fail
              refine ⟨hC, ?_⟩
              clear hC
              repeat ((first | refine mixT_pp rfl (fun K hK => ?_) | refine mixT_p rfl (fun K hK => ?_)); go_simp; (try go_bits); (try simp (disch := omega) only [if_pos]); (try simp (disch := omega) only [if_neg]); (try simp (disch := omega) only [dif_pos]); (try simp (disch := omega) only [dif_neg]); (try go_simp); (refine hK _ ?_; clear hK K))
              refine mixT_l rfl rfl (fun K9 hK9 => ?_)
              go_wp2_with fail
              obtain ⟨Z, hZ⟩ : ∃ Z, Z = (w6).heap.size := ⟨_, rfl⟩
              replace T : Mem w _ (.ofd P x cs6 b6 :: [.loc Y (ruCs r K ck W cw S cs) 29, .loc X #[.int .i64 x.k, .string x.t] 43, .loc R pzCs 47, .loc Z pzCs 47]) := T.newAt pzCs 47 Z hZ
              rw [← hZ]
              clear hZ
              try skip
              generalize (w6).alloc (.cells pzCs 47) = wz at *
              have hC := (⟨T.lv 1 rfl, T.lv 2 rfl⟩ : LV wz Y (ruCs r K ck W cw S cs) 29 ∧ LV wz X #[.int .i64 x.k, .string x.t] 43)
              refine ⟨hC, ?_⟩
              clear hC
              refine mixT_l rfl rfl (fun K9 hK9 => ?_)
              obtain ⟨k7, t7, A7, n7, a7, B7, m7, c7, rfl, hz7⟩ := IsOf.form (T.ok _ (.head _))
              have Hz7 := Lib.hid hz7
              clear hz7
              have l4 := (T.lv 4 rfl).all
              replace T := (((T.set 4 0 (.int .i64 k7) rfl).set 4 1 (.string t7) rfl).set 4 2 (.slice A7 n7 a7) rfl).set 4 3 (.slice B7 m7 c7) rfl
              go_wp2_with fail
              have hC := (⟨T.lv 1 rfl, T.lv 2 rfl⟩ : LV _ Y (ruCs r K ck W cw S cs) 29 ∧ LV _ X #[.int .i64 x.k, .string x.t] 43)
              refine ⟨hC, ?_⟩
              clear hC l4
              repeat ((first | refine mixT_pp rfl (fun K hK => ?_) | refine mixT_p rfl (fun K hK => ?_)); go_simp; (try go_bits); (try simp (disch := omega) only [if_pos]); (try simp (disch := omega) only [if_neg]); (try simp (disch := omega) only [dif_pos]); (try simp (disch := omega) only [dif_neg]); (try go_simp); (refine hK _ ?_; clear hK K))
              refine mixT_nil ?_
              simp only [Exit.then]
              refine hKK _ _ ?_
              have l3 := (T.lv 3 rfl).all
              have l4 := (T.lv 4 rfl).all
              cases b6
              · have S9 := (((T.set 3 0 (.int .i64 0) rfl).set 3 1 (.string ⟨#[]⟩) rfl).set 3 2 (.slice none 0 0) rfl).set 3 3 (.slice none 0 0) rfl
                have h9 := IsOf.mono (M := fun _ => False) (S9.ok _ (.head _)) (fun _ _ h => h.elim)
                rw [Hz7.out rfl] at h9
                go_wp2_with fail
                exact bodyPost_ret (results_cs rfl rfl rfl (loadPsn (S9.lv 3 rfl))) rfl ⟨_, 8, rfl, S9.b, .inr (.inr ⟨HF.out, HF1.out, P, false, Hpm.out, h9, rfl⟩)⟩
              · have S9 := (((T.set 3 0 (.int .i64 k7) rfl).set 3 1 (.string t7) rfl).set 3 2 (.slice A7 n7 a7) rfl).set 3 3 (.slice B7 m7 c7) rfl
                have h9 := IsOf.mono (M := fun _ => False) (S9.ok _ (.head _)) (fun _ _ h => h.elim)
                go_wp2_with fail
                exact bodyPost_ret (results_cs rfl rfl rfl (loadPsn (S9.lv 3 rfl))) rfl ⟨_, 0, rfl, S9.b, .inr (.inr ⟨HF.out, HF1.out, P, true, Hpm.out, h9, rfl⟩)⟩
            · go_wp2_with fail
              obtain ⟨Z, hZ⟩ : ∃ Z, Z = (w5).heap.size := ⟨_, rfl⟩
              replace T : Mem w _ (.sl rPsn Ap P :: [.loc Y (ruCs r K ck W cw S cs) 29, .loc X #[.int .i64 x.k, .string x.t] 43, .loc R pzCs 47, .loc Z pzCs 47]) := T.newAt pzCs 47 Z hZ
              rw [← hZ]
              clear hZ
              try skip
              generalize (w5).alloc (.cells pzCs 47) = wz at *
              have hC := (⟨T.lv 1 rfl, T.lv 2 rfl⟩ : LV wz Y (ruCs r K ck W cw S cs) 29 ∧ LV wz X #[.int .i64 x.k, .string x.t] 43)
              refine ⟨hC, ?_⟩
              clear hC
              refine mixT_l rfl rfl (fun K9 hK9 => ?_)
              have Hof := Lib.hid (psnOf_any (Mut w.heap.size (.sl rPsn Ap P :: [.loc Y (ruCs r K ck W cw S cs) 29, .loc X #[.int .i64 x.k, .string x.t] 43, .loc R pzCs 47, .loc Z pzCs 47])) P Ap cp x _ (T.slc 0 rfl) (psns_small Ho.out Hpm.out).1 (fun p hp => ⟨((psns_small Ho.out Hpm.out).2 p hp).2, psns_rise Hpm.out p hp⟩))
              go_wp2_with fail
              ((with_reducible refine (Hof.out).mono ?_); rintro e w6 ⟨cs6, b6, rfl, hb6, hI6⟩)
              replace T : Mem w w6 (.ofd P x cs6 b6 :: [.loc Y (ruCs r K ck W cw S cs) 29, .loc X #[.int .i64 x.k, .string x.t] 43, .loc R pzCs 47, .loc Z pzCs 47]) := (T.below hb6).turn 0 rfl (.ofd P x cs6 b6) rfl hI6
              have hC := (⟨T.lv 1 rfl, T.lv 2 rfl⟩ : LV w6 Y (ruCs r K ck W cw S cs) 29 ∧ LV w6 X #[.int .i64 x.k, .string x.t] 43)
              clear hb6 hI6 Hof
              go_wp2_with fail
              refine ⟨hC, ?_⟩
              clear hC
              repeat ((first | refine mixT_pp rfl (fun K hK => ?_) | refine mixT_p rfl (fun K hK => ?_)); go_simp; (try go_bits); (try simp (disch := omega) only [if_pos]); (try simp (disch := omega) only [if_neg]); (try simp (disch := omega) only [dif_pos]); (try simp (disch := omega) only [dif_neg]); (try go_simp); (refine hK _ ?_; clear hK K))
              refine mixT_l rfl rfl (fun K9 hK9 => ?_)
              obtain ⟨k7, t7, A7, n7, a7, B7, m7, c7, rfl, hz7⟩ := IsOf.form (T.ok _ (.head _))
              have Hz7 := Lib.hid hz7
              clear hz7
              have l4 := (T.lv 4 rfl).all
              replace T := (((T.set 4 0 (.int .i64 k7) rfl).set 4 1 (.string t7) rfl).set 4 2 (.slice A7 n7 a7) rfl).set 4 3 (.slice B7 m7 c7) rfl
              go_wp2_with fail
              have hC := (⟨T.lv 1 rfl, T.lv 2 rfl⟩ : LV _ Y (ruCs r K ck W cw S cs) 29 ∧ LV _ X #[.int .i64 x.k, .string x.t] 43)
              refine ⟨hC, ?_⟩
              clear hC l4
              repeat ((first | refine mixT_pp rfl (fun K hK => ?_) | refine mixT_p rfl (fun K hK => ?_)); go_simp; (try go_bits); (try simp (disch := omega) only [if_pos]); (try simp (disch := omega) only [if_neg]); (try simp (disch := omega) only [dif_pos]); (try simp (disch := omega) only [dif_neg]); (try go_simp); (refine hK _ ?_; clear hK K))
              refine mixT_nil ?_
              simp only [Exit.then]
              refine hKK _ _ ?_
              have l3 := (T.lv 3 rfl).all
              have l4 := (T.lv 4 rfl).all
              cases b6
              · have S9 := (((T.set 3 0 (.int .i64 0) rfl).set 3 1 (.string ⟨#[]⟩) rfl).set 3 2 (.slice none 0 0) rfl).set 3 3 (.slice none 0 0) rfl
                have h9 := IsOf.mono (M := fun _ => False) (S9.ok _ (.head _)) (fun _ _ h => h.elim)
                rw [Hz7.out rfl] at h9
                go_wp2_with fail
                exact bodyPost_ret (results_cs rfl rfl rfl (loadPsn (S9.lv 3 rfl))) rfl ⟨_, 8, rfl, S9.b, .inr (.inr ⟨HF.out, HF1.out, P, false, Hpm.out, h9, rfl⟩)⟩
              · have S9 := (((T.set 3 0 (.int .i64 k7) rfl).set 3 1 (.string t7) rfl).set 3 2 (.slice A7 n7 a7) rfl).set 3 3 (.slice B7 m7 c7) rfl
                have h9 := IsOf.mono (M := fun _ => False) (S9.ok _ (.head _)) (fun _ _ h => h.elim)
                go_wp2_with fail
                exact bodyPost_ret (results_cs rfl rfl rfl (loadPsn (S9.lv 3 rfl))) rfl ⟨_, 0, rfl, S9.b, .inr (.inr ⟨HF.out, HF1.out, P, true, Hpm.out, h9, rfl⟩)⟩
          · go_wp2_with fail
            obtain ⟨Z, hZ⟩ : ∃ Z, Z = (wm).heap.size := ⟨_, rfl⟩
            replace T : Mem w _ (.sl rMQ Aq ms :: .mdat ms :: [.loc Y (ruCs r K ck W cw S cs) 29, .loc X #[.int .i64 x.k, .string x.t] 43, .loc R pzCs 47, .loc Z pzCs 47]) := T.newAt pzCs 47 Z hZ
            rw [← hZ]
            clear hZ
            try skip
            generalize (wm).alloc (.cells pzCs 47) = wz at *
            have hC := (⟨T.lv 2 rfl, T.lv 3 rfl⟩ : LV wz Y (ruCs r K ck W cw S cs) 29 ∧ LV wz X #[.int .i64 x.k, .string x.t] 43)
            refine ⟨hC, ?_⟩
            clear hC
            refine mixT_l rfl rfl (fun K9 hK9 => ?_)
            have Hps := Lib.hid (persons_in [.loc Y (ruCs r K ck W cw S cs) 29, .loc X #[.int .i64 x.k, .string x.t] 43, .loc R pzCs 47, .loc Z pzCs 47] Aq cq ms hml T)
            clear T
            go_wp2_with fail
            ((with_reducible refine (Hps.out).mono ?_); rintro e w5 ⟨Ap, cp, rfl, T⟩)
            have hC := (⟨T.lv 1 rfl, T.lv 2 rfl⟩ : LV w5 Y (ruCs r K ck W cw S cs) 29 ∧ LV w5 X #[.int .i64 x.k, .string x.t] 43)
            obtain ⟨P, hP⟩ : ∃ P, ms.map MQ.psn = P := ⟨_, rfl⟩
            rw [hP] at T Hpm ⊢
            clear hP Hps hml
            go_wp2_with fail
            refine ⟨hC, ?_⟩
            clear hC
            refine mixT_l rfl rfl (fun K9 hK9 => ?_)
            have Hof := Lib.hid (psnOf_any (Mut w.heap.size (.sl rPsn Ap P :: [.loc Y (ruCs r K ck W cw S cs) 29, .loc X #[.int .i64 x.k, .string x.t] 43, .loc R pzCs 47, .loc Z pzCs 47])) P Ap cp x _ (T.slc 0 rfl) (psns_small Ho.out Hpm.out).1 (fun p hp => ⟨((psns_small Ho.out Hpm.out).2 p hp).2, psns_rise Hpm.out p hp⟩))
            go_wp2_with fail
            ((with_reducible refine (Hof.out).mono ?_); rintro e w6 ⟨cs6, b6, rfl, hb6, hI6⟩)
            replace T : Mem w w6 (.ofd P x cs6 b6 :: [.loc Y (ruCs r K ck W cw S cs) 29, .loc X #[.int .i64 x.k, .string x.t] 43, .loc R pzCs 47, .loc Z pzCs 47]) := (T.below hb6).turn 0 rfl (.ofd P x cs6 b6) rfl hI6
            have hC := (⟨T.lv 1 rfl, T.lv 2 rfl⟩ : LV w6 Y (ruCs r K ck W cw S cs) 29 ∧ LV w6 X #[.int .i64 x.k, .string x.t] 43)
            clear hb6 hI6 Hof
            go_wp2_with fail
            refine ⟨hC, ?_⟩
            clear hC
            repeat ((first | refine mixT_pp rfl (fun K hK => ?_) | refine mixT_p rfl (fun K hK => ?_)); go_simp; (try go_bits); (try simp (disch := omega) only [if_pos]); (try simp (disch := omega) only [if_neg]); (try simp (disch := omega) only [dif_pos]); (try simp (disch := omega) only [dif_neg]); (try go_simp); (refine hK _ ?_; clear hK K))
            refine mixT_l rfl rfl (fun K9 hK9 => ?_)
            obtain ⟨k7, t7, A7, n7, a7, B7, m7, c7, rfl, hz7⟩ := IsOf.form (T.ok _ (.head _))
            have Hz7 := Lib.hid hz7
            clear hz7
            have l4 := (T.lv 4 rfl).all
            replace T := (((T.set 4 0 (.int .i64 k7) rfl).set 4 1 (.string t7) rfl).set 4 2 (.slice A7 n7 a7) rfl).set 4 3 (.slice B7 m7 c7) rfl
            go_wp2_with fail
            have hC := (⟨T.lv 1 rfl, T.lv 2 rfl⟩ : LV _ Y (ruCs r K ck W cw S cs) 29 ∧ LV _ X #[.int .i64 x.k, .string x.t] 43)
            refine ⟨hC, ?_⟩
            clear hC l4
            repeat ((first | refine mixT_pp rfl (fun K hK => ?_) | refine mixT_p rfl (fun K hK => ?_)); go_simp; (try go_bits); (try simp (disch := omega) only [if_pos]); (try simp (disch := omega) only [if_neg]); (try simp (disch := omega) only [dif_pos]); (try simp (disch := omega) only [dif_neg]); (try go_simp); (refine hK _ ?_; clear hK K))
            refine mixT_nil ?_
            simp only [Exit.then]
            refine hKK _ _ ?_
            have l3 := (T.lv 3 rfl).all
            have l4 := (T.lv 4 rfl).all
            cases b6
            · have S9 := (((T.set 3 0 (.int .i64 0) rfl).set 3 1 (.string ⟨#[]⟩) rfl).set 3 2 (.slice none 0 0) rfl).set 3 3 (.slice none 0 0) rfl
              have h9 := IsOf.mono (M := fun _ => False) (S9.ok _ (.head _)) (fun _ _ h => h.elim)
              rw [Hz7.out rfl] at h9
              go_wp2_with fail
              exact bodyPost_ret (results_cs rfl rfl rfl (loadPsn (S9.lv 3 rfl))) rfl ⟨_, 8, rfl, S9.b, .inr (.inr ⟨HF.out, HF1.out, P, false, Hpm.out, h9, rfl⟩)⟩
            · have S9 := (((T.set 3 0 (.int .i64 k7) rfl).set 3 1 (.string t7) rfl).set 3 2 (.slice A7 n7 a7) rfl).set 3 3 (.slice B7 m7 c7) rfl
              have h9 := IsOf.mono (M := fun _ => False) (S9.ok _ (.head _)) (fun _ _ h => h.elim)
              go_wp2_with fail
              exact bodyPost_ret (results_cs rfl rfl rfl (loadPsn (S9.lv 3 rfl))) rfl ⟨_, 0, rfl, S9.b, .inr (.inr ⟨HF.out, HF1.out, P, true, Hpm.out, h9, rfl⟩)⟩
        · go_wp2_with fail
          obtain ⟨Z, hZ⟩ : ∃ Z, Z = (wg).heap.size := ⟨_, rfl⟩
          replace T : Mem w _ ([.loc Y (ruCs r K ck W cw S cs) 29, .loc X #[.int .i64 x.k, .string x.t] 43, .loc R pzCs 47, .loc Z pzCs 47]) := T.newAt pzCs 47 Z hZ
          rw [← hZ]
          clear hZ
          replace hbx := hbx.alloc hbx.size (.cells pzCs 47)
          generalize (wg).alloc (.cells pzCs 47) = wz at *
          have hC := (⟨T.lv 0 rfl, T.lv 1 rfl⟩ : LV wz Y (ruCs r K ck W cw S cs) 29 ∧ LV wz X #[.int .i64 x.k, .string x.t] 43)
          refine ⟨hC, ?_⟩
          clear hC
          refine mixT_l rfl rfl (fun K9 hK9 => ?_)
          go_wp2_with fail
          ((with_reducible refine (Hm.out _ hbx).mono ?_); rintro e wm ⟨Aq, cq, cc, ms, rfl, hp, hm, T5⟩)
          have Hpm : Hid (IsPsns r ts (ms.map MQ.psn)) := ⟨cc, hp, hm.are⟩
          have hml : ms.length ≤ 1000000 := by have := hm.len; have := Ho.out.tl; omega
          replace T : Mem w wm (.sl rMQ Aq ms :: .mdat ms :: [.loc Y (ruCs r K ck W cw S cs) 29, .loc X #[.int .i64 x.k, .string x.t] 43, .loc R pzCs 47, .loc Z pzCs 47]) := (T.join T5).perm List.perm_append_comm
          have hC := (⟨T.lv 2 rfl, T.lv 3 rfl⟩ : LV wm Y (ruCs r K ck W cw S cs) 29 ∧ LV wm X #[.int .i64 x.k, .string x.t] 43)
          clear T5 hp hm Hm hbx
          go_wp2_with fail
          refine ⟨hC, ?_⟩
          clear hC
          refine mixT_l rfl rfl (fun K9 hK9 => ?_)
          have Hps := Lib.hid (persons_in [.loc Y (ruCs r K ck W cw S cs) 29, .loc X #[.int .i64 x.k, .string x.t] 43, .loc R pzCs 47, .loc Z pzCs 47] Aq cq ms hml T)
          clear T
          go_wp2_with fail
          ((with_reducible refine (Hps.out).mono ?_); rintro e w5 ⟨Ap, cp, rfl, T⟩)
          have hC := (⟨T.lv 1 rfl, T.lv 2 rfl⟩ : LV w5 Y (ruCs r K ck W cw S cs) 29 ∧ LV w5 X #[.int .i64 x.k, .string x.t] 43)
          obtain ⟨P, hP⟩ : ∃ P, ms.map MQ.psn = P := ⟨_, rfl⟩
          rw [hP] at T Hpm ⊢
          clear hP Hps hml
          go_wp2_with fail
          refine ⟨hC, ?_⟩
          clear hC
          refine mixT_l rfl rfl (fun K9 hK9 => ?_)
          have Hof := Lib.hid (psnOf_any (Mut w.heap.size (.sl rPsn Ap P :: [.loc Y (ruCs r K ck W cw S cs) 29, .loc X #[.int .i64 x.k, .string x.t] 43, .loc R pzCs 47, .loc Z pzCs 47])) P Ap cp x _ (T.slc 0 rfl) (psns_small Ho.out Hpm.out).1 (fun p hp => ⟨((psns_small Ho.out Hpm.out).2 p hp).2, psns_rise Hpm.out p hp⟩))
          go_wp2_with fail
          ((with_reducible refine (Hof.out).mono ?_); rintro e w6 ⟨cs6, b6, rfl, hb6, hI6⟩)
          replace T : Mem w w6 (.ofd P x cs6 b6 :: [.loc Y (ruCs r K ck W cw S cs) 29, .loc X #[.int .i64 x.k, .string x.t] 43, .loc R pzCs 47, .loc Z pzCs 47]) := (T.below hb6).turn 0 rfl (.ofd P x cs6 b6) rfl hI6
          have hC := (⟨T.lv 1 rfl, T.lv 2 rfl⟩ : LV w6 Y (ruCs r K ck W cw S cs) 29 ∧ LV w6 X #[.int .i64 x.k, .string x.t] 43)
          clear hb6 hI6 Hof
          go_wp2_with fail
          refine ⟨hC, ?_⟩
          clear hC
          repeat ((first | refine mixT_pp rfl (fun K hK => ?_) | refine mixT_p rfl (fun K hK => ?_)); go_simp; (try go_bits); (try simp (disch := omega) only [if_pos]); (try simp (disch := omega) only [if_neg]); (try simp (disch := omega) only [dif_pos]); (try simp (disch := omega) only [dif_neg]); (try go_simp); (refine hK _ ?_; clear hK K))
          refine mixT_l rfl rfl (fun K9 hK9 => ?_)
          obtain ⟨k7, t7, A7, n7, a7, B7, m7, c7, rfl, hz7⟩ := IsOf.form (T.ok _ (.head _))
          have Hz7 := Lib.hid hz7
          clear hz7
          have l4 := (T.lv 4 rfl).all
          replace T := (((T.set 4 0 (.int .i64 k7) rfl).set 4 1 (.string t7) rfl).set 4 2 (.slice A7 n7 a7) rfl).set 4 3 (.slice B7 m7 c7) rfl
          go_wp2_with fail
          have hC := (⟨T.lv 1 rfl, T.lv 2 rfl⟩ : LV _ Y (ruCs r K ck W cw S cs) 29 ∧ LV _ X #[.int .i64 x.k, .string x.t] 43)
          refine ⟨hC, ?_⟩
          clear hC l4
          repeat ((first | refine mixT_pp rfl (fun K hK => ?_) | refine mixT_p rfl (fun K hK => ?_)); go_simp; (try go_bits); (try simp (disch := omega) only [if_pos]); (try simp (disch := omega) only [if_neg]); (try simp (disch := omega) only [dif_pos]); (try simp (disch := omega) only [dif_neg]); (try go_simp); (refine hK _ ?_; clear hK K))
          refine mixT_nil ?_
          simp only [Exit.then]
          refine hKK _ _ ?_
          have l3 := (T.lv 3 rfl).all
          have l4 := (T.lv 4 rfl).all
          cases b6
          · have S9 := (((T.set 3 0 (.int .i64 0) rfl).set 3 1 (.string ⟨#[]⟩) rfl).set 3 2 (.slice none 0 0) rfl).set 3 3 (.slice none 0 0) rfl
            have h9 := IsOf.mono (M := fun _ => False) (S9.ok _ (.head _)) (fun _ _ h => h.elim)
            rw [Hz7.out rfl] at h9
            go_wp2_with fail
            exact bodyPost_ret (results_cs rfl rfl rfl (loadPsn (S9.lv 3 rfl))) rfl ⟨_, 8, rfl, S9.b, .inr (.inr ⟨HF.out, HF1.out, P, false, Hpm.out, h9, rfl⟩)⟩
          · have S9 := (((T.set 3 0 (.int .i64 k7) rfl).set 3 1 (.string t7) rfl).set 3 2 (.slice A7 n7 a7) rfl).set 3 3 (.slice B7 m7 c7) rfl
            have h9 := IsOf.mono (M := fun _ => False) (S9.ok _ (.head _)) (fun _ _ h => h.elim)
            go_wp2_with fail
            exact bodyPost_ret (results_cs rfl rfl rfl (loadPsn (S9.lv 3 rfl))) rfl ⟨_, 0, rfl, S9.b, .inr (.inr ⟨HF.out, HF1.out, P, true, Hpm.out, h9, rfl⟩)⟩
      · go_wp2_with fail
        obtain ⟨Z, hZ⟩ : ∃ Z, Z = (wd).heap.size := ⟨_, rfl⟩
        replace T : Mem w _ ([.loc Y (ruCs r K ck W cw S cs) 29, .loc X #[.int .i64 x.k, .string x.t] 43, .loc R pzCs 47, .loc Z pzCs 47]) := T.newAt pzCs 47 Z hZ
        rw [← hZ]
        clear hZ
        try skip
        generalize (wd).alloc (.cells pzCs 47) = wz at *
        have hC := (⟨T.lv 0 rfl, T.lv 1 rfl⟩ : LV wz Y (ruCs r K ck W cw S cs) 29 ∧ LV wz X #[.int .i64 x.k, .string x.t] 43)
        refine ⟨hC, ?_⟩
        clear hC
        refine mixT_l rfl rfl (fun K9 hK9 => ?_)
        go_wp2_with fail
        ((with_reducible refine (Hn.out _ T.b).mono ?_); rintro e wg ⟨G, Xg, qs, rfl, T4, hH⟩)
        have Hm := Lib.hid (fun w' (h : Below wg.heap.size wg w') => members_any N G Xg r K W S A ck cw cs c ts qs w' ((grp_of T4.b (HR.out.keepB T.b) (HT.out.keepB T.b) T4 hH).keepB h) Ho.out)
        replace T := T.below T4.b
        have hC := (⟨T.lv 0 rfl, T.lv 1 rfl⟩ : LV wg Y (ruCs r K ck W cw S cs) 29 ∧ LV wg X #[.int .i64 x.k, .string x.t] 43)
        have hbx := Below.refl wg.heap.size wg
        clear T4 hH
        go_wp2_with fail
        refine ⟨hC, ?_⟩
        clear hC
        refine mixT_l rfl rfl (fun K9 hK9 => ?_)
        go_wp2_with fail
        ((with_reducible refine (Hm.out _ hbx).mono ?_); rintro e wm ⟨Aq, cq, cc, ms, rfl, hp, hm, T5⟩)
        have Hpm : Hid (IsPsns r ts (ms.map MQ.psn)) := ⟨cc, hp, hm.are⟩
        have hml : ms.length ≤ 1000000 := by have := hm.len; have := Ho.out.tl; omega
        replace T : Mem w wm (.sl rMQ Aq ms :: .mdat ms :: [.loc Y (ruCs r K ck W cw S cs) 29, .loc X #[.int .i64 x.k, .string x.t] 43, .loc R pzCs 47, .loc Z pzCs 47]) := (T.join T5).perm List.perm_append_comm
        have hC := (⟨T.lv 2 rfl, T.lv 3 rfl⟩ : LV wm Y (ruCs r K ck W cw S cs) 29 ∧ LV wm X #[.int .i64 x.k, .string x.t] 43)
        clear T5 hp hm Hm hbx
        go_wp2_with fail
        refine ⟨hC, ?_⟩
        clear hC
        refine mixT_l rfl rfl (fun K9 hK9 => ?_)
        have Hps := Lib.hid (persons_in [.loc Y (ruCs r K ck W cw S cs) 29, .loc X #[.int .i64 x.k, .string x.t] 43, .loc R pzCs 47, .loc Z pzCs 47] Aq cq ms hml T)
        clear T
        go_wp2_with fail
        ((with_reducible refine (Hps.out).mono ?_); rintro e w5 ⟨Ap, cp, rfl, T⟩)
        have hC := (⟨T.lv 1 rfl, T.lv 2 rfl⟩ : LV w5 Y (ruCs r K ck W cw S cs) 29 ∧ LV w5 X #[.int .i64 x.k, .string x.t] 43)
        obtain ⟨P, hP⟩ : ∃ P, ms.map MQ.psn = P := ⟨_, rfl⟩
        rw [hP] at T Hpm ⊢
        clear hP Hps hml
        go_wp2_with fail
        refine ⟨hC, ?_⟩
        clear hC
        refine mixT_l rfl rfl (fun K9 hK9 => ?_)
        have Hof := Lib.hid (psnOf_any (Mut w.heap.size (.sl rPsn Ap P :: [.loc Y (ruCs r K ck W cw S cs) 29, .loc X #[.int .i64 x.k, .string x.t] 43, .loc R pzCs 47, .loc Z pzCs 47])) P Ap cp x _ (T.slc 0 rfl) (psns_small Ho.out Hpm.out).1 (fun p hp => ⟨((psns_small Ho.out Hpm.out).2 p hp).2, psns_rise Hpm.out p hp⟩))
        go_wp2_with fail
        ((with_reducible refine (Hof.out).mono ?_); rintro e w6 ⟨cs6, b6, rfl, hb6, hI6⟩)
        replace T : Mem w w6 (.ofd P x cs6 b6 :: [.loc Y (ruCs r K ck W cw S cs) 29, .loc X #[.int .i64 x.k, .string x.t] 43, .loc R pzCs 47, .loc Z pzCs 47]) := (T.below hb6).turn 0 rfl (.ofd P x cs6 b6) rfl hI6
        have hC := (⟨T.lv 1 rfl, T.lv 2 rfl⟩ : LV w6 Y (ruCs r K ck W cw S cs) 29 ∧ LV w6 X #[.int .i64 x.k, .string x.t] 43)
        clear hb6 hI6 Hof
        go_wp2_with fail
        refine ⟨hC, ?_⟩
        clear hC
        repeat ((first | refine mixT_pp rfl (fun K hK => ?_) | refine mixT_p rfl (fun K hK => ?_)); go_simp; (try go_bits); (try simp (disch := omega) only [if_pos]); (try simp (disch := omega) only [if_neg]); (try simp (disch := omega) only [dif_pos]); (try simp (disch := omega) only [dif_neg]); (try go_simp); (refine hK _ ?_; clear hK K))
        refine mixT_l rfl rfl (fun K9 hK9 => ?_)
        obtain ⟨k7, t7, A7, n7, a7, B7, m7, c7, rfl, hz7⟩ := IsOf.form (T.ok _ (.head _))
        have Hz7 := Lib.hid hz7
        clear hz7
        have l4 := (T.lv 4 rfl).all
        replace T := (((T.set 4 0 (.int .i64 k7) rfl).set 4 1 (.string t7) rfl).set 4 2 (.slice A7 n7 a7) rfl).set 4 3 (.slice B7 m7 c7) rfl
        go_wp2_with fail
        have hC := (⟨T.lv 1 rfl, T.lv 2 rfl⟩ : LV _ Y (ruCs r K ck W cw S cs) 29 ∧ LV _ X #[.int .i64 x.k, .string x.t] 43)
        refine ⟨hC, ?_⟩
        clear hC l4
        repeat ((first | refine mixT_pp rfl (fun K hK => ?_) | refine mixT_p rfl (fun K hK => ?_)); go_simp; (try go_bits); (try simp (disch := omega) only [if_pos]); (try simp (disch := omega) only [if_neg]); (try simp (disch := omega) only [dif_pos]); (try simp (disch := omega) only [dif_neg]); (try go_simp); (refine hK _ ?_; clear hK K))
        refine mixT_nil ?_
        simp only [Exit.then]
        refine hKK _ _ ?_
        have l3 := (T.lv 3 rfl).all
        have l4 := (T.lv 4 rfl).all
        cases b6
        · have S9 := (((T.set 3 0 (.int .i64 0) rfl).set 3 1 (.string ⟨#[]⟩) rfl).set 3 2 (.slice none 0 0) rfl).set 3 3 (.slice none 0 0) rfl
          have h9 := IsOf.mono (M := fun _ => False) (S9.ok _ (.head _)) (fun _ _ h => h.elim)
          rw [Hz7.out rfl] at h9
          go_wp2_with fail
          exact bodyPost_ret (results_cs rfl rfl rfl (loadPsn (S9.lv 3 rfl))) rfl ⟨_, 8, rfl, S9.b, .inr (.inr ⟨HF.out, HF1.out, P, false, Hpm.out, h9, rfl⟩)⟩
        · have S9 := (((T.set 3 0 (.int .i64 k7) rfl).set 3 1 (.string t7) rfl).set 3 2 (.slice A7 n7 a7) rfl).set 3 3 (.slice B7 m7 c7) rfl
          have h9 := IsOf.mono (M := fun _ => False) (S9.ok _ (.head _)) (fun _ _ h => h.elim)
          go_wp2_with fail
          exact bodyPost_ret (results_cs rfl rfl rfl (loadPsn (S9.lv 3 rfl))) rfl ⟨_, 0, rfl, S9.b, .inr (.inr ⟨HF.out, HF1.out, P, true, Hpm.out, h9, rfl⟩)⟩
    · have h1 : (F1 != 0) = true := by simpa using hE1
      have l2 := (T3.lv 2 rfl).all
      have S9 := (((T3.set 2 0 (.int .i64 0) rfl).set 2 1 (.string ⟨#[]⟩) rfl).set 2 2 (.slice none 0 0) rfl).set 2 3 (.slice none 0 0) rfl
      go_wp2_with fail
      exact bodyPost_ret (results_cs rfl rfl rfl (loadPsn (S9.lv 2 rfl))) rfl ⟨_, F1, rfl, S9.b, .inr (.inl ⟨HF.out, by rw [HF1.out]; exact hE1, HF1.out.symm, rfl⟩)⟩
  · have h1 : (F != 0) = true := by simpa using hE
    have l2 := (T2.lv 2 rfl).all
    have S9 := (((T2.set 2 0 (.int .i64 0) rfl).set 2 1 (.string ⟨#[]⟩) rfl).set 2 2 (.slice none 0 0) rfl).set 2 3 (.slice none 0 0) rfl
    go_wp2_with fail
    exact bodyPost_ret (results_cs rfl rfl rfl (loadPsn (S9.lv 2 rfl))) rfl ⟨_, F, rfl, S9.b, .inl ⟨by rw [HF.out]; exact hE, HF.out.symm, rfl⟩⟩
end Go.Proofs.YtjlangjhdakmiaaGreatDoor

/- The law PersonOfs walked: it returns true, and nothing that was there has turned. -/
namespace Go.Proofs.YtjlangjhdakmiaaGreatDoor
open Go Go.RowKit
theorem ofT_law {r : Rul} {ts : List Tch} {x : IdV} {w : World} {zs : Array Value} {F : Int}
    (h : (bothF r ts ≠ 0 ∧ F = bothF r ts ∧ zs = pzCs) ∨ (bothF r ts = 0 ∧ L.idFault x.k x.t ≠ 0 ∧ F = L.idFault x.k x.t ∧ zs = pzCs) ∨
      (bothF r ts = 0 ∧ L.idFault x.k x.t = 0 ∧ ∃ P b, IsPsns r ts P ∧ IsOf (fun _ => False) P x w zs b ∧ F = if b then 0 else 8)) :
    (firstErr [bothF r ts, L.idFault x.k x.t] ≠ 0 ∧ F = firstErr [bothF r ts, L.idFault x.k x.t] ∧ zs = pzCs) ∨
      (firstErr [bothF r ts, L.idFault x.k x.t] = 0 ∧ bothF r ts = 0 ∧ ∃ P b, IsPsns r ts P ∧ IsOf (fun _ => False) P x w zs b ∧ F = if b then 0 else 8) := by
  rcases h with ⟨h1, h2, h3⟩ | ⟨h1, h2, h3, h4⟩ | ⟨h1, h2, h3⟩
  · have e : firstErr [bothF r ts, L.idFault x.k x.t] = bothF r ts := by simp [firstErr, h1]
    rw [e]
    exact .inl ⟨h1, h2, h3⟩
  · have e : firstErr [bothF r ts, L.idFault x.k x.t] = L.idFault x.k x.t := by simp [firstErr, h1, h2]
    rw [e]
    exact .inl ⟨h2, h3, h4⟩
  · have e : firstErr [bothF r ts, L.idFault x.k x.t] = 0 := by simp [firstErr, h1, h2]
    rw [e]
    exact .inr ⟨rfl, h1, h3⟩
theorem ofT_form {r : Rul} {ts : List Tch} {x : IdV} {w : World} {zs : Array Value} {F E : Int}
    (h : (E ≠ 0 ∧ F = E ∧ zs = pzCs) ∨ (E = 0 ∧ bothF r ts = 0 ∧ ∃ P b, IsPsns r ts P ∧ IsOf (fun _ => False) P x w zs b ∧ F = if b then 0 else 8)) :
    ∃ k t A n a B m c, zs = #[.int .i64 k, .string t, .slice A n a, .slice B m c] := by
  rcases h with ⟨_, _, rfl⟩ | ⟨_, _, P, b, _, hI, _⟩
  · exact ⟨_, _, _, _, _, _, _, _, rfl⟩
  · obtain ⟨k, t, A, n, a, B, m, c, e, _⟩ := hI.form
    exact ⟨k, t, A, n, a, B, m, c, e⟩
theorem pz_inj {k : Int} {t : ByteArray} {A : Option Addr} {n a : Nat} {B : Option Addr} {m c : Nat} (h : (#[.int .i64 k, .string t, .slice A n a, .slice B m c] : Array Value) = pzCs) : k = 0 ∧ t = ⟨#[]⟩ ∧ A = none ∧ n = 0 ∧ a = 0 ∧ B = none ∧ m = 0 ∧ c = 0 := by
  have h := congrArg Array.toList h
  simp only [List.cons.injEq, Value.int.injEq, Value.string.injEq, Value.slice.injEq, and_true, true_and] at h
  obtain ⟨h1, h2, ⟨h3, h4, h5⟩, h6, h7, h8⟩ := h
  exact ⟨h1, h2, h3, h4, h5, h6, h7, h8⟩
theorem ps_inj {k : Int} {t : ByteArray} {A : Option Addr} {n a : Nat} {B : Option Addr} {m c : Nat} {p : Psn} {A2 B2 : Option Addr} {a2 b2 : Nat} (h : (#[.int .i64 k, .string t, .slice A n a, .slice B m c] : Array Value) = psCs p A2 a2 B2 b2) : k = p.key.k ∧ t = p.key.t ∧ A = A2 ∧ n = p.tch.length ∧ a = a2 ∧ B = B2 ∧ m = p.ids.length ∧ c = b2 := by
  have h := congrArg Array.toList h
  simp only [List.cons.injEq, Value.int.injEq, Value.string.injEq, Value.slice.injEq, and_true, true_and] at h
  obtain ⟨h1, h2, ⟨h3, h4, h5⟩, h6, h7, h8⟩ := h
  exact ⟨h1, h2, h3, h4, h5, h6, h7, h8⟩
set_option maxHeartbeats 8000000 in
set_option maxRecDepth 100000 in
theorem personOfs_any (v : Value) (w : World) (hv : IntsIn v w) (hT : Tabs w) (hM : MaxL w) (hN : Names w) (hP : Pool w) :
    Calls Tryz.prog 4 #[v] w fun e w' => e = .returned (.bool true) ∧ Below w.heap.size w w' := by
  obtain ⟨va, vn, vc, rfl⟩ : ∃ a n c, v = .slice a n c := by
    rcases hv with ⟨a, c, rfl⟩ | ⟨k, off, len, cap, rfl, _⟩
    · exact ⟨_, _, _, rfl⟩
    · exact ⟨_, _, _, rfl⟩
  have g0 := G.start (Strm.start hv)
  clear hv
  have S := St.start g0.s
  have hPn : 0 ≠ w.heap.size := Nat.ne_of_lt hP.lt
  have hNn : 1 ≠ w.heap.size := Nat.ne_of_lt hN.lt
  have hb0 : Below w.heap.size w (w.alloc (.cells #[.slice va vn vc, .int .i64 0] 25)) := (Below.refl _ _).alloc (Nat.le_refl _) _
  have Hb0 := Lib.hid hb0
  have HTM : Hid (∀ w', Below w.heap.size w w' → Tabs w' ∧ MaxL w') := fun w' h => ⟨Utf8Tabs_below hT h, hM.below h⟩
  have HP := Lib.hid (hP.keep (b := w.heap.size) ((SK.refl _ w).alloc (.cells #[.slice va vn vc, .int .i64 0] 25)) hPn)
  have HN := Lib.hid (hN.keep (b := w.heap.size) ((SK.refl _ w).alloc (.cells #[.slice va vn vc, .int .i64 0] 25)) hNn)
  have hw0 : w.heap.size ≤ (w.alloc (.cells #[.slice va vn vc, .int .i64 0] 25)).heap.size := by simp
  clear hP hM hN hT hb0
  go_enter Tryz.func4, Tryz.ntmps4
  go_wp2_with fail
  ((with_reducible refine (range_any w.heap.size _ _ _ _ S.g.s (by omega) (by omega) (by omega) (by omega)).mono ?_); rintro e w1 ⟨many, m_lo, m_hi, rfl, hk_w1, hs_w1⟩)
  replace S := S.step hk_w1 hs_w1
  clear hk_w1 hs_w1
  obtain ⟨n, rfl⟩ := Int.eq_ofNat_of_zero_le m_lo
  go_wp2_with fail
  ((with_reducible refine (joined_any w.heap.size _ n w.heap.size _ S.g.s (by omega) (by omega) (HN.out.keep S.g.k hNn) hNn (HP.out.keep S.g.k hPn) hPn (Nat.le_refl _) (Nat.le_trans hw0 S.g.size) (fun w' h => HTM.out w' ((Hb0.out.trans (S.g.k.below (Nat.le_refl _) hw0)).trans h))).mono ?_); rintro e w2 ⟨r, K, ck, W, cw, Sv, cs, A, c, ts, rfl, hr, ht, htl, T⟩)
  obtain ⟨M, hMm⟩ : ∃ M, 0 + 1 + 40000 = M := ⟨_, rfl⟩
  have S3 := S.join T
  rw [hMm] at S3
  have HMl : Hid (M ≤ 100000) := by show M ≤ 100000; omega
  obtain ⟨Y, hY⟩ : ∃ Y, Y = w2.heap.size := ⟨_, rfl⟩
  have S6 : St w.heap.size M _ (w2.alloc (.cells (ruCs r K ck W cw Sv cs) 29)) [.sl rInt K r.kinds, .sl rId W r.weak, .sl rSrv Sv r.surv, .sl rTch A ts, .loc Y (ruCs r K ck W cw Sv cs) 29] := S3.newAt (ruCs r K ck W cw Sv cs) 29 Y hY
  have Hr := Lib.hid hr
  have Ht := Lib.hid ht
  clear S S3 T hMm m_lo m_hi hr ht htl
  obtain ⟨F0, HF0⟩ : ∃ F, Hid (bothF r ts = F) := ⟨_, Lib.hid rfl⟩
  rw [HF0.out]
  go_upto_region 3 with fail
  rw [← hY]
  clear hY
  generalize w2.alloc (.cells (ruCs r K ck W cw Sv cs) 29) = w3 at *
  go_wp2_with fail
  ((with_reducible refine (id_any w.heap.size _ _ S6.g.s (by have := HMl.out; omega) (HP.out.keep S6.g.k hPn) hPn).mono ?_); rintro e w4 ⟨xk, xt, hxt, rfl, hk4, hs4⟩)
  replace S6 := S6.step hk4 hs4
  clear hk4 hs4 HP HN hPn hNn HMl
  obtain ⟨x, rfl, rfl⟩ : ∃ x : IdV, x.k = xk ∧ x.t = xt := ⟨⟨xk, xt⟩, rfl, rfl⟩
  obtain ⟨X, hX⟩ : ∃ X, X = w4.heap.size := ⟨_, rfl⟩
  have S7 : St w.heap.size _ _ (w4.alloc (.cells #[.int .i64 x.k, .string x.t] 43)) [.sl rInt K r.kinds, .sl rId W r.weak, .sl rSrv Sv r.surv, .sl rTch A ts, .loc Y (ruCs r K ck W cw Sv cs) 29, .loc X #[.int .i64 x.k, .string x.t] 43] := S6.newAt #[.int .i64 x.k, .string x.t] 43 X hX
  clear S6
  go_upto_region 4 with fail
  rw [← hX]
  clear hX
  generalize w4.alloc (.cells #[.int .i64 x.k, .string x.t] 43) = w5 at *
  have Hb5 : Hid (Below w.heap.size w w5) := Hb0.out.trans (S7.g.k.below (Nat.le_refl _) hw0)
  have hS := (S7.slc 3 rfl).mono (M := fun _ => False) (fun _ _ h => h.elim)
  have hR : RulIn (fun _ => False) w5 r K W Sv := ⟨(S7.slc 0 rfl).mono (fun _ _ h => h.elim), (S7.slc 1 rfl).mono (fun _ _ h => h.elim), (S7.slc 2 rfl).mono (fun _ _ h => h.elim)⟩
  have HlY := Lib.hid (S7.lv 4 rfl)
  have HlX := Lib.hid (S7.lv 5 rfl)
  have HTM2 : Hid (∀ w', Below w5.heap.size w5 w' → Tabs w' ∧ MaxL w') := fun w' h => HTM.out w' (Hb5.out.trans (h.mono Hb5.out.size))
  have Hxl : Hid (x.t.size ≤ 1000000) := by show _ ≤ _; omega
  have Hc1 := Lib.hid (psnOfT_any (fun _ => False) r K W Sv A ck cw cs c ts x w5 hR hS Hr.out Ht.out Hxl.out (HTM2.out w5 (Below.refl _ _)).1 (HTM2.out w5 (Below.refl _ _)).2)
  have Hc2 := Lib.hid (fun w' (h : Below w5.heap.size w5 w') => refId_any x.k x.t w' Hxl.out (HTM2.out w' h).2)
  have Hc3 := Lib.hid (fun w' (h : Below w5.heap.size w5 w') (ho : RtOk r ts) => refPersons_any (fun _ => False) r K W Sv A ck cw cs c ts w' (hR.keepB h) (hS.keepB h) ho)
  have Hc5 := Lib.hid (fun w' (h : Below w5.heap.size w5 w') => people_any w' (HTM2.out w' h).1)
  have Hsz : Hid (∀ w', Calls Tryz.prog 16 #[.agg pzCs, .agg pzCs] w' fun e w'' => e = .returned (.bool true) ∧ Below w'.heap.size w' w'') := fun w' =>
    samePerson_any (fun _ => False) ⟨⟨0, ⟨#[]⟩⟩, [], []⟩ none none 0 0 none none 0 0 w' Sl.nil Sl.nil Sl.nil Sl.nil (by simp) (by simp)
  have Hkl : Hid (r.kinds.length ≤ 1000000) := Hr.out.kl
  clear hS hR S7 HTM HTM2 Hr Ht Hb0 hw0 hxt Hxl
  obtain ⟨F1, HF1⟩ : ∃ F, Hid (L.idFault x.k x.t = F) := ⟨_, Lib.hid rfl⟩
  rw [HF1.out] at Hc2
  have y0 := HlY.out.all
  have x0 := HlX.out.all
  go_wp2_with fail
  ((with_reducible refine (Hc1.out).mono ?_); rintro e w6 ⟨zs, F, rfl, hb6, hD⟩)
  replace hD := ofT_law hD
  rw [HF0.out, HF1.out] at hD
  obtain ⟨E, HE⟩ : ∃ E, Hid (firstErr [F0, F1] = E) := ⟨_, Lib.hid rfl⟩
  rw [HE.out, ← HF0.out] at hD
  obtain ⟨k7, t7, A7, n7, a7, B7, m7, c7, rfl⟩ := ofT_form hD
  have HD := Lib.hid hD
  clear hD Hc1
  have y0 := (LV.kb3 HlY.out hb6 HlY.out.lt).all
  have x0 := (LV.kb3 HlX.out hb6 HlX.out.lt).all
  obtain ⟨Z, hZ⟩ : ∃ Z, Z = w6.heap.size := ⟨_, rfl⟩
  have hz0 := LV.new w6 Z #[.int .i64 k7, .string t7, .slice A7 n7 a7, .slice B7 m7 c7] 47 hZ
  go_upto_region 5 with fail
  rw [← hZ]
  clear hZ
  have hb7 := hb6.alloc hb6.size (.cells #[.int .i64 k7, .string t7, .slice A7 n7 a7, .slice B7 m7 c7] 47)
  have HD7 : Hid (∀ w', Below (w6.alloc (.cells #[.int .i64 k7, .string t7, .slice A7 n7 a7, .slice B7 m7 c7] 47)).heap.size (w6.alloc (.cells #[.int .i64 k7, .string t7, .slice A7 n7 a7, .slice B7 m7 c7] 47)) w' → Below w6.heap.size w6 w') := fun w' h => ((Below.refl _ _).alloc (Nat.le_refl _) _).trans (h.mono (by simp))
  generalize w6.alloc (.cells #[.int .i64 k7, .string t7, .slice A7 n7 a7, .slice B7 m7 c7] 47) = w7 at *
  have HlZ := Lib.hid hz0
  clear hz0 y0 x0 hb6
  have x0 := (LV.kb3 HlX.out hb7 HlX.out.lt).all
  go_wp2_with fail
  ((with_reducible refine (Hc2.out _ hb7).mono ?_); rintro e w8 ⟨rfl, hb8⟩)
  have hb58 := hb7.trans (hb8.mono hb7.size)
  obtain ⟨U, hU⟩ : ∃ U, U = w8.heap.size := ⟨_, rfl⟩
  have Hw : Hid (Calls Tryz.prog 19 #[.slice (some ⟨U, 0, none⟩) 2 2] (w8.alloc (.cells #[.int .i64 F0, .int .i64 F1] 31)) fun e w' => e = .returned (.int .i64 E) ∧ (w8.alloc (.cells #[.int .i64 F0, .int .i64 F1] 31)) = w') := by
    show Calls _ _ _ _ _
    rw [← HE.out]
    exact wrongOr_any U [F0, F1] _ (LV.new w8 U #[.int .i64 F0, .int .i64 F1] 31 hU) (by simp)
  have hb9 := hb58.alloc hb58.size (.cells #[.int .i64 F0, .int .i64 F1] 31)
  have hb79 := hb8.alloc hb8.size (.cells #[.int .i64 F0, .int .i64 F1] 31)
  clear x0 hb8 hb58 Hc2
  go_wp2_with fail
  rw [← hU]
  clear hU
  generalize w8.alloc (.cells #[.int .i64 F0, .int .i64 F1] 31) = w9 at *
  ((with_reducible refine (Hw.out).mono ?_); rintro e _ ⟨rfl, rfl⟩)
  clear Hw
  by_cases hE : E = 0
  · subst hE
    obtain ⟨hF0, P, b, hP, hI, hF⟩ : bothF r ts = 0 ∧ ∃ P b, IsPsns r ts P ∧ IsOf (fun _ => False) P x w6 #[.int .i64 k7, .string t7, .slice A7 n7 a7, .slice B7 m7 c7] b ∧ F = if b then 0 else 8 := by
      rcases HD.out with ⟨h, _⟩ | ⟨_, h, h2⟩
      · exact absurd rfl h
      · exact ⟨h, h2⟩
    have hbz := both_zero hF0
    have Ho : Hid (RtOk r ts) := RtOk.of hbz.1 Hkl.out hbz.2
    have Hq := Lib.hid hP
    have HI := Lib.hid (fun w' (h : Below w7.heap.size w7 w') => hI.keep (SKN.ofBelow (N := fun _ => False) (HD7.out w' h)))
    have Hb := Lib.hid hF
    have hpp := psns_small Ho.out Hq.out
    have y0 := (LV.kb3 HlY.out hb9 HlY.out.lt).all
    clear hF0 hP hI hF HD HD7 hbz
    go_wp2_with fail
    ((with_reducible refine (Hc3.out _ hb9 Ho.out).mono ?_); rintro e w10 ⟨A4, c4, P4, rfl, hn4, M4⟩)
    have hP4 : P4 = P := hn4.uniq Hq.out
    have Hm := Lib.hid ((M4.slc 0 rfl).mono (M := fun _ => False) (fun _ _ h => h.elim))
    have hb10 := hb9.trans (M4.b.mono hb9.size)
    have hb710 := hb79.trans (M4.b.mono hb79.size)
    rw [hP4] at Hm ⊢
    have HX := Lib.hid (LV.kb3 HlX.out hb10 HlX.out.lt)
    have HZ := Lib.hid (LV.kb3 HlZ.out hb710 HlZ.out.lt)
    have Hbb := Lib.hid hb10
    have Hb7 := Lib.hid hb710
    clear y0 M4 hn4 hP4 hb9 hb79 hb10 hb710 hb7 Hc3
    have Hpl : Hid (P.length ≤ 1000000) := hpp.1
    have Hps := Lib.hid hpp.2
    have hpl3 : P.length ≤ 1000000 := hpp.1
    clear hpp
    go_wp2_with fail
    go_loopw [43] (fun i wr => ∃ j : Nat, j ≤ P.length ∧ i = .int .i64 j ∧ Hid (ofP (P.drop j) x = ofP P x) ∧ Below w10.heap.size w10 wr) (fun i _ => P.length - (intOf i).toNat)
    case atStart => exact ⟨0, Nat.zero_le _, rfl, rfl, Below.refl _ _⟩
    case round =>
      obtain ⟨j, hj, rfl, Hf, hb⟩ := hrel
      by_cases hlt : j < P.length
      · obtain ⟨p, hp⟩ : ∃ p, P[j]? = some p := ⟨_, List.getElem?_eq_getElem hlt⟩
        obtain ⟨b1, o1, At, at', Ai, ai, rfl, hb1, c0, c1, c2, c3, s1, s2⟩ := (Hm.out.keepB hb).psn j p hp
        have hpl := Hps.out p (List.mem_of_getElem? hp)
        have Hd : Hid (ofP (P.drop j) x = if decide (x ∈ p.ids) = true then some p else ofP (P.drop (j + 1)) x) := by
          show _ = _
          rw [drop_at3 hp]
          unfold ofP
          rw [List.find?_cons]
          cases decide (x ∈ p.ids) <;> rfl
        have Hct := Lib.hid (fun w' (h : Below wr.heap.size wr w') => containsId_any (fun _ => False) Ai p.ids ai x w' (s2.keepB h) hpl.2)
        have Hsl := Lib.hid (fun w' (h : Below wr.heap.size wr w') => (⟨s1.keepB h, s2.keepB h⟩ : Sl rInt (fun _ => False) w' At p.tch ∧ Sl rId (fun _ => False) w' Ai p.ids))
        have Hpl2 := Lib.hid hpl
        clear hp s1 s2 hpl
        obtain ⟨V, hV⟩ : ∃ V, V = wr.heap.size := ⟨_, rfl⟩
        have S2 : Mem wr _ [.loc V (psCs p At at' Ai ai) 47] := (Mem.start wr).newAt (psCs p At at' Ai ai) 47 V hV
        go_upto_region 11 with fail
        rw [← hV]
        clear hV c0 c1 c2 c3
        generalize wr.alloc (.cells (psCs p At at' Ai ai) 47) = w11 at *
        have v0 := (S2.lv 0 rfl).all
        have x0 := (LV.kb3 HX.out (hb.trans (S2.b.mono hb.size)) HX.out.lt).all
        go_wp2_with fail
        ((with_reducible refine (Hct.out _ S2.b).mono ?_); rintro e w12 ⟨rfl, hb12⟩)
        have S3 := S2.below hb12
        clear v0 x0 S2 hb12 Hct
        have hb3 := hb.trans (S3.b.mono hb.size)
        by_cases hm : x ∈ p.ids
        · have hof : ofP P x = some p := by rw [← Hf.out, Hd.out, if_pos (by simpa using hm)]
          obtain ⟨p2, A2, a2, B2, b2, g1, g2, g3, g4, g5⟩ : ∃ p2 A2 a2 B2 b2, ofP P x = some p2 ∧ b = true ∧ (#[.int .i64 k7, .string t7, .slice A7 n7 a7, .slice B7 m7 c7] : Array Value) = psCs p2 A2 a2 B2 b2 ∧ Sl rInt (fun _ => False) w12 A2 p2.tch ∧ Sl rId (fun _ => False) w12 B2 p2.ids := by
            rcases HI.out w12 (Hb7.out.trans (hb3.mono Hb7.out.size)) with ⟨h, _⟩ | h
            · rw [hof] at h; cases h
            · exact h
          obtain rfl : p = p2 := by rw [hof] at g1; exact Option.some.inj g1
          obtain ⟨rfl, rfl, rfl, rfl, rfl, rfl, rfl, rfl⟩ := ps_inj g3
          have hF : F = 0 := by rw [Hb.out, g2]; rfl
          subst hF
          have Hsm := Lib.hid (samePerson_any (fun _ => False) p A7 At a7 at' B7 Ai c7 ai w12 g4 (Hsl.out _ S3.b).1 g5 (Hsl.out _ S3.b).2 Hpl2.out.1 Hpl2.out.2)
          have hmd : decide (x ∈ p.ids) = true := by simpa using hm
          have z0 := (LV.kb3 HZ.out hb3 HZ.out.lt).all
          have v0 := (S3.lv 0 rfl).all
          clear g1 g2 g3 g4 g5 hof hm Hf Hd
          rw [hmd]
          go_wp2_with fail
          ((with_reducible refine (Hsm.out).mono ?_); rintro e w13 ⟨rfl, hb13⟩)
          have hb4 := hb3.trans (hb13.mono hb3.size)
          clear z0 v0 hb13 Hsm
          go_wp2_with fail
          ((with_reducible refine (Hc5.out _ (Hbb.out.trans (hb4.mono Hbb.out.size))).mono ?_); rintro e w14 ⟨rfl, hb14⟩)
          have hb5 := hb4.trans (hb14.mono hb4.size)
          go_wp2_with fail
          go_ret
          exact ⟨rfl, Hb5.out.trans ((Hbb.out.trans (hb5.mono Hbb.out.size)).mono Hb5.out.size)⟩
        · have hmd : decide (x ∈ p.ids) = false := by simpa using hm
          have Hn : Hid (ofP (P.drop (j + 1)) x = ofP P x) := by show _ = _; rw [← Hf.out, Hd.out, hmd]; rfl
          clear hm
          rw [hmd]
          go_wp2_with fail
          go_roundw
          case rel => exact ⟨j + 1, by omega, by go_num, Hn, hb3⟩
          case measure => simp [intOf]; omega
      · obtain rfl : j = P.length := by omega
        have hnone : ofP P x = none := by rw [← Hf.out, List.drop_length]; rfl
        obtain ⟨rfl, hz⟩ : b = false ∧ (#[.int .i64 k7, .string t7, .slice A7 n7 a7, .slice B7 m7 c7] : Array Value) = pzCs := by
          rcases HI.out w10 Hb7.out with ⟨_, h1, h2⟩ | ⟨p, A2, a2, B2, b2, h, _⟩
          · exact ⟨h1, h2⟩
          · rw [hnone] at h; cases h
        obtain ⟨rfl, rfl, rfl, rfl, rfl, rfl, rfl, rfl⟩ := pz_inj hz
        have hF : F = 8 := by rw [Hb.out]; rfl
        subst hF
        have z0 := (LV.kb3 HZ.out hb HZ.out.lt).all
        clear hz hnone Hf
        go_wp2_with fail
        ((with_reducible refine (Hsz.out _).mono ?_); rintro e w13 ⟨rfl, hb13⟩)
        have hb4 := hb.trans (hb13.mono hb.size)
        clear z0 hb13
        go_wp2_with fail
        ((with_reducible refine (Hc5.out _ (Hbb.out.trans (hb4.mono Hbb.out.size))).mono ?_); rintro e w14 ⟨rfl, hb14⟩)
        have hb5 := hb4.trans (hb14.mono hb4.size)
        go_wp2_with fail
        go_ret
        exact ⟨rfl, Hb5.out.trans ((Hbb.out.trans (hb5.mono Hbb.out.size)).mono Hb5.out.size)⟩
  · obtain ⟨rfl, hz⟩ : F = E ∧ (#[.int .i64 k7, .string t7, .slice A7 n7 a7, .slice B7 m7 c7] : Array Value) = pzCs := by
      rcases HD.out with ⟨_, h1, h2⟩ | ⟨h, _⟩
      · exact ⟨h1, h2⟩
      · exact absurd h hE
    obtain ⟨rfl, rfl, rfl, rfl, rfl, rfl, rfl, rfl⟩ := pz_inj hz
    have h1 : (F == 0) = false := by simpa using hE
    have z0 := (LV.kb3 HlZ.out hb79 HlZ.out.lt).all
    clear hz hE HD HD7 HE
    go_wp2_with fail
    ((with_reducible refine (Hsz.out _).mono ?_); rintro e w13 ⟨rfl, hb13⟩)
    have hb4 := hb9.trans (hb13.mono hb9.size)
    clear z0 hb13
    go_wp2_with fail
    ((with_reducible refine (Hc5.out _ hb4).mono ?_); rintro e w14 ⟨rfl, hb14⟩)
    have hb5 := hb4.trans (hb14.mono hb4.size)
    go_wp2_with fail
    go_ret
    exact ⟨rfl, Hb5.out.trans (hb5.mono Hb5.out.size)⟩
end Go.Proofs.YtjlangjhdakmiaaGreatDoor
