/- What send.isNone, checkCaps and checkPools, and handref2.poolFault return. -/
import Derived.Test.YtneopbbafdmpkaaDoorSendFn
import Derived.Test.YtneopbbafdmpkaaDoorRefKey
namespace Go.Proofs.YtneopbbafdmpkaaDoor
open Go.RowKit
theorem isNone_any (s : ByteArray) (w : World) (hs : s.size ≤ 1000000000) : Calls Tryd.prog 59 #[.string s] w fun e w' => e = .returned (.bool (noneOr s)) ∧ w = w' := by
  have Hk : Hid (∀ w, Calls Tryd.prog 41 #[.string s] w fun e w' => e = .returned (.bool (L.isKey s)) ∧ w = w') := fun w => isKey_any s w hs
  unfold noneOr
  generalize L.isKey s = K at *
  by_cases h : s.toList = []
  · have h2 : (s.toList == []) = true := by simpa using h
    rw [h2]
    go_enter Tryd.func59, Tryd.ntmps59
    go_wp2_with fail
    go_ret
    exact ⟨rfl, rfl⟩
  · have h2 : (s.toList == []) = false := by simpa using h
    rw [h2]
    have h3 : s.toList.isEmpty = false := by simpa using h
    go_enter Tryd.func59, Tryd.ntmps59
    go_wp2_with fail
    ((with_reducible refine (Hk.out _).mono ?_); rintro e _ ⟨rfl, rfl⟩)
    go_wp2_with fail
    go_ret
    exact ⟨by cases K <;> rfl, rfl⟩
set_option maxHeartbeats 4000000 in
set_option maxRecDepth 100000 in
theorem checkCaps_any (N : Nat → Prop) (A : Option Addr) (xs : List SCap) (c : Nat) (w : World) (hS : Sl rCap N w A xs) (hsm : ∀ f ∈ xs, f.purpose.size ≤ 1000000000) (hn : xs.length ≤ 1000000000) :
    Calls Tryd.prog 42 #[.slice A xs.length c] w fun e w' => e = .returned (.int .i64 (capsFault xs)) ∧ Below w.heap.size w w' := by
  have HS := Lib.hid hS
  have Hsm := Lib.hid hsm
  clear hS hsm
  obtain ⟨R, HR⟩ : ∃ R, Hid (capsFault xs = R) := ⟨_, Lib.hid rfl⟩
  rw [HR.out]
  by_cases h20 : 20 < xs.length
  · go_enter Tryd.func42, Tryd.ntmps42
    go_wp2_with fail
    go_ret
    exact ⟨ret_i (by rw [← HR.out, capsFault, if_pos h20]), Below.refl _ _⟩
  · have HR2 : Hid (capsGo xs = R) := by show _ = _; rw [← HR.out, capsFault, if_neg h20]
    clear HR
    go_enter Tryd.func42, Tryd.ntmps42
    go_wp2_with fail
    go_loopw [10] (fun i wr => ∃ k : Nat, k ≤ xs.length ∧ i = .int .i64 k ∧ capsGo (xs.drop k) = R ∧ Below w.heap.size w wr) (fun i _ => xs.length - (intOf i).toNat)
    case atStart => exact ⟨0, Nat.zero_le _, rfl, HR2.out, Below.refl _ _⟩
    case round =>
      clear HR2
      obtain ⟨k, hk, rfl, hr, hbl⟩ := hrel
      have Hr := Lib.hid hr
      clear hr
      by_cases hlt : k < xs.length
      · obtain ⟨f, hf⟩ : ∃ f, xs[k]? = some f := ⟨_, List.getElem?_eq_getElem hlt⟩
        obtain ⟨blk, off, rfl, hblk, d0, d1, d2, d3⟩ := (HS.out.keepB hbl).cap k f hf
        have hfs1 : f.purpose.size ≤ 1000000000 := Hsm.out f (List.mem_of_getElem? hf)
        have Hstep : Hid (capsGo (f :: xs.drop (k + 1)) = R) := by show _ = _; rw [← Hr.out, drop_at3 hf]
        clear Hr hf
        have Hb1 : Hid (Below w.heap.size w (wr.alloc (.cells #[.int .i64 f.channel, .string f.purpose, .int .i64 f.many, .int .i64 f.within] 63))) := hbl.alloc hbl.size _
        have hsz := hbl.size
        obtain ⟨K, HK⟩ : ∃ K, Hid (noneOr f.purpose = K) := ⟨_, Lib.hid rfl⟩
        obtain ⟨C, HC⟩ : ∃ C, Hid (isCh f.channel = C) := ⟨_, Lib.hid rfl⟩
        have HKc : Hid (∀ w, Calls Tryd.prog 59 #[.string f.purpose] w fun e w' => e = .returned (.bool K) ∧ w = w') := fun w => HK.out ▸ isNone_any f.purpose w hfs1
        have HCc : Hid (∀ w, Calls Tryd.prog 30 #[.int .i64 f.channel] w fun e w' => e = .returned (.bool C) ∧ w = w') := fun w => HC.out ▸ isChannel_any f.channel w
        obtain ⟨ch, pu, ma, wi⟩ := f
        dsimp only at *
        by_cases hc0 : ch = 0
        · subst hc0
          go_wp2_with (first | (go_at_call 59; refine (HKc.out _).mono ?_; rintro e _ ⟨rfl, rfl⟩) | (go_at_call 30; refine (HCc.out _).mono ?_; rintro e _ ⟨rfl, rfl⟩) | (go_at_call 28; refine (swithin_any _ _ _ _).mono ?_; rintro e _ ⟨rfl, rfl⟩))
          all_goals first
            | (go_ret
               refine ⟨ret_i ?_, Hb1.out⟩
               rw [← Hstep.out, capsGo, HC.out, HK.out]
               clear Hstep HS Hsm HKc HCc Hb1 HK HC
               dsimp only
               first
                 | (simp_all; done)
                 | (simp_all; omega)
                 | (simp_all; intros; omega))
            | (go_roundw
               case rel =>
                 refine ⟨k + 1, by omega, by go_num, ?_, Hb1.out⟩
                 rw [← Hstep.out, capsGo, HC.out, HK.out]
                 clear Hstep HS Hsm HKc HCc Hb1 HK HC
                 dsimp only
                 first
                   | (simp_all; done)
                   | (simp_all; omega)
                   | (simp_all; intros; omega)
               case measure => simp [intOf]; omega)
        · go_wp2_with (first | (go_at_call 59; refine (HKc.out _).mono ?_; rintro e _ ⟨rfl, rfl⟩) | (go_at_call 30; refine (HCc.out _).mono ?_; rintro e _ ⟨rfl, rfl⟩) | (go_at_call 28; refine (swithin_any _ _ _ _).mono ?_; rintro e _ ⟨rfl, rfl⟩))
          all_goals first
            | (go_ret
               refine ⟨ret_i ?_, Hb1.out⟩
               rw [← Hstep.out, capsGo, HC.out, HK.out]
               clear Hstep HS Hsm HKc HCc Hb1 HK HC
               dsimp only
               first
                 | (simp_all; done)
                 | (simp_all; omega)
                 | (simp_all; intros; omega))
            | (go_roundw
               case rel =>
                 refine ⟨k + 1, by omega, by go_num, ?_, Hb1.out⟩
                 rw [← Hstep.out, capsGo, HC.out, HK.out]
                 clear Hstep HS Hsm HKc HCc Hb1 HK HC
                 dsimp only
                 first
                   | (simp_all; done)
                   | (simp_all; omega)
                   | (simp_all; intros; omega)
               case measure => simp [intOf]; omega)
      · go_wp2_with fail
        go_ret
        exact ⟨ret_i (by rw [← Hr.out, List.drop_eq_nil_of_le (by omega)]; rfl), hbl⟩
end Go.Proofs.YtneopbbafdmpkaaDoor
