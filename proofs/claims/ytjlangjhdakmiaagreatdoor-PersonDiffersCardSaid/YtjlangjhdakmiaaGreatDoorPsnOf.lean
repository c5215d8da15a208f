/- person.of: the first person who has an id. -/
import Derived.Test.YtjlangjhdakmiaaGreatDoorPackP
import Derived.Test.YtjlangjhdakmiaaGreatDoorPackX
import Derived.Test.YtjlangjhdakmiaaGreatDoorPackT
namespace Go.Proofs.YtjlangjhdakmiaaGreatDoor
open Go Go.RowKit
def ofP (P : List Psn) (x : IdV) : Option Psn := P.find? (fun p => decide (x ∈ p.ids))
abbrev pzCs : Array Value := #[.int .i64 0, .string ⟨#[]⟩, .slice none 0 0, .slice none 0 0]
theorem zeroPsn (w : World) : (zeroValue 47).run Tryz.prog w = .ok (.agg pzCs) w := by kernel_rfl
theorem loadPsn {w : World} {X : Nat} {a b c d : Value} (h : LV w X #[a, b, c, d] 47) : (loadVar 47 ⟨X, 0, none⟩).run Tryz.prog w = .ok (.agg #[a, b, c, d]) w := by
  have c0 := h.all
  go_simp
def IsOf (N : Nat → Prop) (P : List Psn) (x : IdV) (w' : World) (cs : Array Value) (b : Bool) : Prop :=
  (ofP P x = none ∧ b = false ∧ cs = pzCs) ∨ ∃ p A a B b', ofP P x = some p ∧ b = true ∧ cs = psCs p A a B b' ∧ Sl rInt N w' A p.tch ∧ Sl rId N w' B p.ids
def GivesOf (N : Nat → Prop) (P : List Psn) (x : IdV) (w : World) (e : Ending) (w' : World) : Prop :=
  ∃ cs b, e = .returned (.tuple #[.agg cs, .bool b]) ∧ Below w.heap.size w w' ∧ IsOf N P x w' cs b
set_option maxHeartbeats 4000000 in
set_option maxRecDepth 100000 in
theorem psnOf_any (N : Nat → Prop) (P : List Psn) (A : Option Addr) (c : Nat) (x : IdV) (w : World) (hS : Sl rPsn N w A P) (hl : P.length ≤ 1000000) (hs : ∀ p ∈ P, p.ids.length ≤ 1000000 ∧ RiseI p.ids) :
    Calls Tryz.prog 55 #[.slice A P.length c, .agg #[.int .i64 x.k, .string x.t]] w (GivesOf N P x w) := by
  have HS := Lib.hid (fun w' (h : Below w.heap.size w w') => hS.keepB h)
  have Hs := Lib.hid hs
  clear hS hs
  obtain ⟨X, hX⟩ : ∃ X, X = w.heap.size := ⟨_, rfl⟩
  have S1 := (Mem.start w).newAt #[.int .i64 x.k, .string x.t] 43 X hX
  have S : Mem w _ [.loc X #[.int .i64 x.k, .string x.t] 43, .loc (X + 1) pzCs 47] := S1.newAt pzCs 47 (X + 1) (by rw [hX, World.size_alloc])
  clear S1
  go_enter Tryz.func55, Tryz.ntmps55
  go_upto_region 1 with fail
  rw [← hX]
  clear hX
  generalize (w.alloc (.cells #[.int .i64 x.k, .string x.t] 43)).alloc (.cells pzCs 47) = w1 at *
  obtain ⟨R, hR⟩ : ∃ R, R = X + 1 := ⟨_, rfl⟩
  rw [← hR] at S ⊢
  clear hR
  go_wp2_with fail
  go_loopw [12] (fun i wr => ∃ j : Nat, j ≤ P.length ∧ i = .int .i64 j ∧ Hid (ofP (P.drop j) x = ofP P x) ∧ Mem w wr [.loc X #[.int .i64 x.k, .string x.t] 43, .loc R pzCs 47]) (fun i _ => P.length - (intOf i).toNat)
  case atStart => exact ⟨0, Nat.zero_le _, rfl, rfl, S⟩
  case round =>
    clear S
    obtain ⟨j, hj, rfl, Hf, S⟩ := hrel
    by_cases hlt : j < P.length
    · obtain ⟨p, hp⟩ : ∃ p, P[j]? = some p := ⟨_, List.getElem?_eq_getElem hlt⟩
      obtain ⟨b1, o1, At, at', Ai, ai, rfl, hb1, c0, c1, c2, c3, s1, s2⟩ := (HS.out w (Below.refl _ _)).psn j p hp
      have hcl := fun (q : Addr) (hq : q.block < w.heap.size) => S.b.cell hq
      rw [← hcl _ hb1] at c0 c1 c2 c3
      clear hcl
      have hpl := Hs.out p (List.mem_of_getElem? hp)
      have Hd : Hid (ofP (P.drop j) x = if decide (x ∈ p.ids) = true then some p else ofP (P.drop (j + 1)) x) := by
        show _ = _
        rw [drop_at3 hp]
        unfold ofP
        rw [List.find?_cons]
        cases decide (x ∈ p.ids) <;> rfl
      have Hbs := Lib.hid (fun w' (h : Below w.heap.size w w') => bsId_any N Ai p.ids x ai w' (s2.keepB h) hpl.1 hpl.2)
      have Hri : Hid (∀ (i j : Nat) (a b : IdV), i < j → p.ids[i]? = some a → p.ids[j]? = some b → cmpId b x ≤ 0 → cmpId a x < 0) := fun i j a b hij ha hb h => by
        obtain ⟨hi, rfl⟩ := List.getElem?_eq_some_iff.1 ha
        obtain ⟨hj, rfl⟩ := List.getElem?_eq_some_iff.1 hb
        exact cmpId_ok.lt (List.pairwise_iff_getElem.1 hpl.2 i j hi hj hij) h
      have Hsl := Lib.hid (fun w' (h : Below w.heap.size w w') => (⟨s1.keepB h, s2.keepB h⟩ : Sl rInt N w' At p.tch ∧ Sl rId N w' Ai p.ids))
      clear hp s1 s2 hpl
      obtain ⟨U, hU⟩ : ∃ U, U = wr.heap.size := ⟨_, rfl⟩
      have S2 : Mem w _ [.loc X #[.int .i64 x.k, .string x.t] 43, .loc R pzCs 47, .loc U (psCs p At at' Ai ai) 47] := S.newAt (psCs p At at' Ai ai) 47 U hU
      go_upto_region 4 with fail
      rw [← hU]
      clear hU S c0 c1 c2 c3
      generalize wr.alloc (.cells (psCs p At at' Ai ai) 47) = w2 at *
      have l0 := (S2.lv 0 rfl).all
      have l2 := (S2.lv 2 rfl).all
      go_wp2_with fail
      ((with_reducible refine (Hbs.out _ S2.b).mono ?_); rintro e w3 ⟨q, b, rfl, hq, hlo, hhi, hb, hb3⟩)
      have Hh := Lib.hid (by_has hlo hhi Hri.out hb)
      have S3 := S2.below hb3
      clear hlo hhi hb l0 l2 S2 hb3 Hbs Hri
      have Hm : Hid (b = decide (x ∈ p.ids)) := by
        have := Hh.out
        show _ = _
        rw [Bool.eq_iff_iff, decide_eq_true_eq, this]
        constructor
        · rintro ⟨f, hf, h0⟩
          rw [← cmpId_zero h0]
          exact hf
        · exact fun h => ⟨x, h, cmpId_ok.refl x⟩
      cases b
      · go_wp2_with fail
        go_roundw
        case rel => exact ⟨j + 1, by omega, by go_num, by show _ = _; rw [← Hf.out, Hd.out, ← Hm.out, if_neg (by decide)], S3.del 2⟩
        case measure => simp [intOf]; omega
      · have l1 := (S3.lv 1 rfl).all
        have l2 := (S3.lv 2 rfl).all
        have S9 := (((S3.set 1 0 (.int .i64 p.key.k) rfl).set 1 1 (.string p.key.t) rfl).set 1 2 (.slice At p.tch.length at') rfl).set 1 3 (.slice Ai p.ids.length ai) rfl
        have hof : ofP P x = some p := by rw [← Hf.out, Hd.out, ← Hm.out, if_pos rfl]
        go_wp2_with fail
        exact bodyPost_ret (results_cs rfl rfl rfl (loadPsn (S9.lv 1 rfl))) rfl ⟨_, _, rfl, S9.b, .inr ⟨p, At, at', Ai, ai, hof, rfl, rfl, (Hsl.out _ S9.b).1, (Hsl.out _ S9.b).2⟩⟩
    · obtain rfl : j = P.length := by omega
      have hnone : ofP P x = none := by rw [← Hf.out, List.drop_length]; rfl
      have l1 := (S.lv 1 rfl).all
      have S9 := (((S.set 1 0 (.int .i64 0) rfl).set 1 1 (.string ⟨#[]⟩) rfl).set 1 2 (.slice none 0 0) rfl).set 1 3 (.slice none 0 0) rfl
      go_wp2_with fail
      exact bodyPost_ret (results_cs rfl rfl rfl (loadPsn (S9.lv 1 rfl))) rfl ⟨_, _, rfl, S9.b, .inl ⟨hnone, rfl, rfl⟩⟩
end Go.Proofs.YtjlangjhdakmiaaGreatDoor
