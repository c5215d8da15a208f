/- What consent's answer, ask, checkIds, checkAll and May return. -/
import Derived.Test.YthmkphmciiiagaaGreatDoorPackE
import Derived.Test.YthmkphmciiiagaaGreatDoorMay
namespace Go.Proofs.YthmkphmciiiagaaGreatDoor
open Go Go.RowKit
/-- good statements: what the check leaves -/
structure GoodL (p : List Purp) (l : List Stm) : Prop where
  no : l.Pairwise (fun a b => a.no < b.no)
  at' : ∀ s ∈ l, 0 ≤ s.at' ∧ s.at' ≤ 4321439
  wh : ∀ s ∈ l, whole s.what = true → (s.purpose.toList == []) = true
  pos : ∀ s ∈ l, 1 ≤ s.no ∧ s.no ≤ 2000000
  id : ∀ s ∈ l, L.idFault s.kind s.text = 0
theorem stmF_ok {p : List Purp} {prev : Option Stm} {s : Stm} (h : stmF p prev s = 0) : (1 ≤ s.no ∧ s.no ≤ 1000000) ∧ (∀ q, prev = some q → q.no < s.no) ∧ (0 ≤ s.at' ∧ s.at' ≤ 4321439) ∧ (whole s.what = true → (s.purpose.toList == []) = true) ∧ L.idFault s.kind s.text = 0 := by
  unfold stmF stmE at h
  split at h
  · cases h
  · rename_i h1
    split at h
    · cases h
    · rename_i h2
      split at h
      · cases h
      · rename_i h3
        split at h
        · rename_i h4; exact absurd h h4
        · rename_i h4
          split at h
          · cases h
          · split at h
            · cases h
            · split at h
              · cases h
              · rename_i h7
                refine ⟨by simpa using h1, fun q hq => ?_, by simpa using h3, fun hw => ?_, by simpa using h4⟩
                · rw [hq] at h2
                  simp at h2; omega
                · cases he : (s.purpose.toList == []) with
                  | true => rfl
                  | false => exact absurd ⟨hw, he⟩ h7
theorem stmsGo_ok {p : List Purp} : ∀ {l : List Stm} {prev : Option Stm}, stmsGo p prev l = 0 → GoodL p l ∧ ∀ q, prev = some q → ∀ s ∈ l, q.no < s.no
  | [], _, _ => ⟨⟨List.Pairwise.nil, by simp, by simp, by simp, by simp⟩, by simp⟩
  | s :: r, prev, h => by
    rw [stmsGo] at h
    split at h
    · rename_i h1; exact absurd h h1
    · rename_i h1
      obtain ⟨h2, h3, h4, h5, h6⟩ := stmF_ok (Decidable.not_not.1 h1)
      obtain ⟨g, hn⟩ := stmsGo_ok h
      have hs := hn s rfl
      refine ⟨⟨List.pairwise_cons.2 ⟨hs, g.no⟩, fun x hx => ?_, fun x hx => ?_, fun x hx => ?_, fun x hx => ?_⟩, fun q hq x hx => ?_⟩
      · rcases List.mem_cons.1 hx with rfl | hx
        · exact h4
        · exact g.at' x hx
      · rcases List.mem_cons.1 hx with rfl | hx
        · exact h5
        · exact g.wh x hx
      · rcases List.mem_cons.1 hx with rfl | hx
        · exact ⟨h2.1, by omega⟩
        · exact g.pos x hx
      · rcases List.mem_cons.1 hx with rfl | hx
        · exact h6
        · exact g.id x hx
      · rcases List.mem_cons.1 hx with rfl | hx
        · exact h3 q hq
        · have h7 := h3 q hq
          have h8 := hs x hx
          omega
theorem stms_good {p : List Purp} {l : List Stm} (h : stmsFault p l = 0) : policyFault p = 0 ∧ GoodL p l := by
  unfold stmsFault at h
  split at h
  · rename_i h1; exact absurd h h1
  · rename_i h1
    split at h
    · cases h
    · exact ⟨Decidable.not_not.1 h1, (stmsGo_ok h).1⟩
theorem IsOf.said {k : Int} {t : ByteArray} {ch : Int} {l U : List Stm} (h : IsOf k t ch l U) (at' : Int) : IsSaid k t ch at' l (upS at' U) where
  ord := h.ord.filter _
  mem := fun s => by rw [upS, List.mem_filter, h.mem]; simp [and_assoc]
abbrev askCs (tm : PTerm) (has : Bool) (pu : ByteArray) (A : Option Addr) (n c : Nat) : Array Value := #[.string tm.region, .int .i64 tm.channel, .bool tm.free, .int .i64 tm.days, .int .i64 tm.wait, .bool has, .string pu, .slice A n c]
set_option maxHeartbeats 4000000 in
set_option maxRecDepth 100000 in
theorem answer_any (N : Nat → Prop) (o : Option PTerm) (pu : ByteArray) (A : Option Addr) (U : List Stm) (c : Nat) (at' : Int) (w : World) (hS : Sl rStm N w A U) (hn : U.length ≤ 1000000) (hri : U.Pairwise ahead) (hc : U.length ≤ c ∧ (A = none → c = 0) ∧ ∀ a, A = some a → a.spot = none) (hg : ∀ s ∈ U, 0 ≤ s.at' ∧ s.at' ≤ 4321439)
    (hd : ∀ t, o = some t → (0 ≤ t.days ∧ t.days ≤ 2000) ∧ (0 ≤ t.wait ∧ t.wait ≤ 100000)) (hat : -1 ≤ at' ∧ at' ≤ 100000000) :
    Calls Tryz.prog 59 #[.agg (askCs (o.getD tZero) o.isSome pu A U.length c), .int .i64 at'] w fun e w' => e = .returned (aVal (ansP o pu at' (upS at' U))) ∧ Below w.heap.size w w' := by
  have S := ((Mem.start w).new' (askCs (o.getD tZero) o.isSome pu A U.length c) 102).new' (aCs false 0 0) 105
  have Hu := Lib.hid (fun w' (h : Below w.heap.size w w') => upTo_any N A U c at' w' (hS.keepB h) hn hri hc hat)
  have hg2 : ∀ s ∈ upS at' U, 0 ≤ s.at' ∧ s.at' ≤ 4321439 := fun s hs => hg s (List.mem_filter.1 hs).1
  have hn2 : (upS at' U).length ≤ 1000000 := Nat.le_trans (List.length_filter_le ..) hn
  obtain ⟨V, HV⟩ : ∃ V, Hid (upS at' U = V) := ⟨_, Lib.hid rfl⟩
  rw [HV.out] at Hu hg2 hn2 ⊢
  have Hg2 := Lib.hid hg2
  have Hd := Lib.hid hd
  obtain ⟨R, HR⟩ : ∃ R, Hid (ansP o pu at' V = R) := ⟨_, Lib.hid rfl⟩
  rw [HR.out]
  clear hS hri hc hg hg2 hd HV
  go_enter Tryz.func59, Tryz.ntmps59
  go_upto_region 1 with fail
  replace S : Mem w ((w.alloc (.cells (askCs (o.getD tZero) o.isSome pu A U.length c) 102)).alloc (.cells (aCs false 0 0) 105)) [.loc w.heap.size (askCs (o.getD tZero) o.isSome pu A U.length c) 102, .loc (w.heap.size + 1) (aCs false 0 0) 105] := by simpa using S
  generalize (w.alloc (.cells (askCs (o.getD tZero) o.isSome pu A U.length c) 102)).alloc (.cells (aCs false 0 0) 105) = w1 at *
  cases o with
  | none =>
    have c0 := (S.lv 0 rfl).all
    have c1 := (S.lv 1 rfl).all
    obtain rfl : (false, 3, 0) = R := HR.out
    clear HR
    dsimp only [Option.isSome_none] at c0
    go_wp2_with fail
    have S2 := S.fillAns 1 rfl false 3 0
    exact bodyPost_ret (results_cell1 rfl rfl (loadA (S2.lv 1 rfl))) rfl ⟨rfl, S2.b⟩
  | some tm =>
    have hdt := Hd.out tm rfl
    have HA := Lib.hid (fun w' (h : Sl rStm N w' A V) => allowed_any N A V c tm pu at' w' h hn2 Hg2.out hdt.1 hdt.2)
    have HO := Lib.hid (fun w' (h : Sl rStm N w' A V) => objected_any N A V c w' h hn2)
    have HR2 : Hid (R = if (objGo 0 (-1) false V).2 = true then (false, 6, (objGo 0 (-1) false V).1) else allowP tm pu at' V) := HR.out.symm
    generalize objGo 0 (-1) false V = ob at *
    generalize allowP tm pu at' V = al at *
    obtain ⟨no, is⟩ := ob
    dsimp only at HR2 HO
    clear HR Hd hdt Hg2
    have c0 := (S.lv 0 rfl).all
    simp only [Option.getD_some, Option.isSome_some] at c0 S ⊢
    go_wp2_with fail
    ((with_reducible refine (Hu.out w1 S.b).mono ?_); rintro e w2 ⟨rfl, hV, hl2⟩)
    replace S := S.below hl2
    have HSV := Lib.hid hV
    clear hV hl2 Hu c0
    go_wp2_with fail
    ((with_reducible refine (HO.out w2 HSV.out).mono ?_); rintro e w3 ⟨rfl, hl3⟩)
    replace S := S.below hl3
    have HSV3 := Lib.hid (HSV.out.keepB hl3)
    clear HSV hl3 HO
    have c0 := (S.lv 0 rfl).all
    have c1 := (S.lv 1 rfl).all
    cases is with
    | true =>
      obtain rfl : R = (false, 6, no) := HR2.out
      clear HR2
      go_wp2_with fail
      have S2 := S.fillAns 1 rfl false 6 no
      exact bodyPost_ret (results_cell1 rfl rfl (loadA (S2.lv 1 rfl))) rfl ⟨rfl, S2.b⟩
    | false =>
      obtain rfl : R = al := HR2.out
      clear HR2
      go_wp2_with fail
      ((with_reducible refine (HA.out w3 HSV3.out).mono ?_); rintro e w4 ⟨rfl, hl4⟩)
      replace S := S.below hl4
      clear c0 c1 hl4 HA HSV3
      have c1 := (S.lv 1 rfl).all
      go_wp2_with fail
      have S2 := S.fillAns 1 rfl R.1 R.2.1 R.2.2
      exact bodyPost_ret (results_cell1 rfl rfl (loadA (S2.lv 1 rfl))) rfl ⟨rfl, S2.b⟩
end Go.Proofs.YthmkphmciiiagaaGreatDoor
