/- The moments of the program and those of the reference hold all turns of an answer. -/
import Derived.Test.YtlnklkedpknbpaaGreatDoorMoms
import Derived.Test.YtlnklkedpknbpaaGreatDoorPrfLaw
namespace Go.Proofs.YtlnklkedpknbpaaGreatDoor
open Go.RowKit
/-- the moments that one statement brings, as the reference says it -/
def turnS (tm : PTerm) (k : Int) (t : ByteArray) (ch : Int) (s : Stm) : List Int := if ofB k t ch s = true then s.at' :: (s.at' + tm.wait + 1) :: (if 0 < tm.days then [s.at' + tm.days * 1440] else []) else []
def rawR (tm : PTerm) (k : Int) (t : ByteArray) (ch : Int) (l : List Stm) : List Int := 0 :: l.flatMap (turnS tm k t ch)
theorem said_of {k : Int} {t : ByteArray} {ch : Int} {l U : List Stm} (ho : U.Pairwise ahead) (hm : ∀ s, s ∈ U ↔ s ∈ l ∧ ofB k t ch s = true) (at' : Int) : IsSaid k t ch at' l (upS at' U) where
  ord := ho.filter _
  mem := fun s => by rw [upS, List.mem_filter, hm]; simp [and_assoc]
theorem turn_mom {o : Option PTerm} {k : Int} {t : ByteArray} {ch : Int} {pu : ByteArray} {l U : List Stm} (ho : U.Pairwise ahead) (hU : ∀ s, s ∈ U ↔ s ∈ l ∧ ofB k t ch s = true) (h0 : ∀ s ∈ l, 0 ≤ s.at') (hw : ∀ s ∈ l, whole s.what = true → (s.purpose.toList == []) = true) (hd : ∀ t, o = some t → 0 ≤ t.days) {m : Int} (h : askR o k t ch m pu l ≠ askR o k t ch (m - 1) pu l) : IsMom (o.getD tZero) pu U m := by
  refine Classical.byContradiction fun hn => h ?_
  rw [← ans_is (said_of ho hU m) h0 hw hd, ← ans_is (said_of ho hU (m - 1)) h0 hw hd]
  exact ansP_still hn
theorem momsP {o : Option PTerm} {k : Int} {t : ByteArray} {ch : Int} {pu : ByteArray} {l U : List Stm} (ho : U.Pairwise ahead) (hU : ∀ s, s ∈ U ↔ s ∈ l ∧ ofB k t ch s = true) (h0 : ∀ s ∈ l, 0 ≤ s.at') (hw : ∀ s ∈ l, whole s.what = true → (s.purpose.toList == []) = true) (hd : ∀ t, o = some t → 0 ≤ t.days) (hdw : 0 ≤ (o.getD tZero).days ∧ 0 ≤ (o.getD tZero).wait) : Moms (fun m => askR o k t ch m pu l) (momL (rawP (o.getD tZero) pu U)) where
  ord := momL_ord _
  lo := fun m hm => by
    obtain ⟨s, hs, hm⟩ := List.mem_flatMap.1 ((momL_mem _ m).1 hm).1
    have := h0 s ((hU s).1 hs).1
    unfold momS at hm
    rcases List.mem_cons.1 hm with rfl | hm
    · exact this
    · split at hm
      · simp only [List.mem_cons, List.not_mem_nil, or_false] at hm
        rcases hm with rfl | rfl <;> omega
      · cases hm
  hi := fun m hm => ((momL_mem _ m).1 hm).2
  all := fun m _ hm hne => by
    refine (momL_mem _ m).2 ⟨?_, hm⟩
    obtain ⟨s, hs, e⟩ := turn_mom ho hU h0 hw hd hne
    refine List.mem_flatMap.2 ⟨s, hs, ?_⟩
    unfold momS
    rcases e with rfl | ⟨hk, e⟩
    · simp
    · rw [if_pos hk]
      rcases e with rfl | ⟨_, rfl⟩ <;> simp
theorem momsR {o : Option PTerm} {k : Int} {t : ByteArray} {ch : Int} {pu : ByteArray} {l U : List Stm} (ho : U.Pairwise ahead) (hU : ∀ s, s ∈ U ↔ s ∈ l ∧ ofB k t ch s = true) (h0 : ∀ s ∈ l, 0 ≤ s.at') (hw : ∀ s ∈ l, whole s.what = true → (s.purpose.toList == []) = true) (hd : ∀ t, o = some t → 0 ≤ t.days) (hdw : 0 ≤ (o.getD tZero).days ∧ 0 ≤ (o.getD tZero).wait) : Moms (fun m => askR o k t ch m pu l) (momL (rawR (o.getD tZero) k t ch l)) where
  ord := momL_ord _
  lo := fun m hm => by
    rcases List.mem_cons.1 ((momL_mem _ m).1 hm).1 with rfl | hm
    · exact Int.le_refl _
    · obtain ⟨s, hs, hm⟩ := List.mem_flatMap.1 hm
      have := h0 s hs
      unfold turnS at hm
      split at hm
      · rcases List.mem_cons.1 hm with rfl | hm
        · exact this
        · rcases List.mem_cons.1 hm with rfl | hm
          · omega
          · split at hm
            · rw [List.mem_singleton.1 hm]; omega
            · cases hm
      · cases hm
  hi := fun m hm => ((momL_mem _ m).1 hm).2
  all := fun m _ hm hne => by
    refine (momL_mem _ m).2 ⟨List.mem_cons.2 (.inr ?_), hm⟩
    obtain ⟨s, hs, e⟩ := turn_mom ho hU h0 hw hd hne
    have hs2 := (hU s).1 hs
    refine List.mem_flatMap.2 ⟨s, hs2.1, ?_⟩
    unfold turnS
    rw [if_pos hs2.2]
    rcases e with rfl | ⟨_, rfl | ⟨hd0, rfl⟩⟩
    · simp
    · simp
    · rw [if_pos (by omega)]; simp
theorem isOf_ex (k : Int) (t : ByteArray) (ch : Int) {l : List Stm} (hn : l.Pairwise (fun a b => a.no < b.no)) (hr : ∀ s ∈ l, s.at' ≤ 4321439) : ∃ U : List Stm, U.Pairwise ahead ∧ ∀ s, s ∈ U ↔ s ∈ l ∧ ofB k t ch s = true := by
  obtain ⟨U, hU⟩ := isSaid_ex k t ch 4321439 hn
  exact ⟨U, hU.ord, fun s => by rw [hU.mem]; exact ⟨fun h => ⟨h.1, h.2.1⟩, fun h => ⟨h.1, h.2, hr s h.1⟩⟩⟩
/-- the first moment is 0 -/
theorem rawR_head (tm : PTerm) (k : Int) (t : ByteArray) (ch : Int) (l : List Stm) (h : ∀ m ∈ momL (rawR tm k t ch l), 0 ≤ m) : ∃ r, momL (rawR tm k t ch l) = 0 :: r := by
  have h0 : (0 : Int) ∈ momL (rawR tm k t ch l) := (momL_mem _ 0).2 ⟨by simp [rawR], by decide⟩
  have ho := momL_ord (rawR tm k t ch l)
  generalize momL (rawR tm k t ch l) = M at *
  cases M with
  | nil => cases h0
  | cons x r =>
    rcases List.mem_cons.1 h0 with rfl | h1
    · exact ⟨r, rfl⟩
    · have := (List.pairwise_cons.1 ho).1 0 h1
      have := h x (by simp)
      omega
/-- all periods, and the next moment: one for every list that holds all turns -/
def perAns (f : Int → Ans) (L : List Int) : List Per := pers (0, f 0) (steps f (f 0) L)
theorem perAns_same {f : Int → Ans} {L M : List Int} (h : Moms f L) (k : Moms f M) : perAns f L = perAns f M := by
  rw [perAns, perAns, h.steps, k.steps, h.same k]
theorem nextP_same {f : Int → Ans} {L M : List Int} (h : Moms f L) (k : Moms f M) {at' : Int} (hat : 0 ≤ at') : nextP f at' L = nextP f at' M := by
  rw [h.next hat, k.next hat, h.same k]
end Go.Proofs.YtlnklkedpknbpaaGreatDoor
