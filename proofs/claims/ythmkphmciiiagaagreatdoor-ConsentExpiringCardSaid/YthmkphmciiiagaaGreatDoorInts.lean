/- Numbers in order, each once, below a bound: what slices.Sort, Compact and DeleteFunc make of them. -/
import Derived.Test.YthmkphmciiiagaaGreatDoorSortInt
import Derived.Test.YthmkphmciiiagaaGreatDoorPackD
import Derived.Test.YthmkphmciiiagaaGreatDoorTally
import Derived.Lib.SlicesCompact
namespace Go.Proofs.YthmkphmciiiagaaGreatDoor
open Go Go.RowKit Go.Sort
theorem compact_sorted (zs : List Int) (hs : zs.Pairwise (· ≤ ·)) : (Lib.compact zs).Pairwise (· < ·) ∧ ∀ x, x ∈ Lib.compact zs ↔ x ∈ zs := by
  have key : ∀ m, m ≤ zs.length → (Lib.compactUpTo zs.toArray m).Pairwise (· < ·) ∧ ∀ x, x ∈ Lib.compactUpTo zs.toArray m ↔ ∃ j, j < m ∧ zs[j]? = some x := fun m => by
    induction m with
    | zero => intro _; exact ⟨by simp [Lib.compactUpTo], fun x => by simp [Lib.compactUpTo]⟩
    | succ m ih =>
      intro hm
      obtain ⟨h1, h2⟩ := ih (by omega)
      have hd : zs.toArray[m]! = zs[m] := by rw [getElem!_pos zs.toArray m (by simp; omega)]; rfl
      have hzm : zs[m]? = some zs[m] := List.getElem?_eq_getElem hm
      rw [Lib.compactUpTo_succ, hd]
      by_cases hk : Lib.keeps zs.toArray m = true
      · rw [if_pos hk]
        refine ⟨List.pairwise_append.2 ⟨h1, List.pairwise_singleton _ _, fun a ha b hb => ?_⟩, fun x => ?_⟩
        · rw [List.mem_singleton.1 hb]
          obtain ⟨j, hj, hja⟩ := (h2 a).1 ha
          obtain ⟨hjl, rfl⟩ := List.getElem?_eq_some_iff.1 hja
          have hm1 : zs.toArray[m - 1]! = zs[m - 1] := by rw [getElem!_pos zs.toArray (m - 1) (by simp; omega)]; rfl
          have hne : zs[m] ≠ zs[m - 1] := by
            unfold Lib.keeps at hk
            rw [hd, hm1] at hk
            have := of_decide_eq_true hk
            rcases this with h | h
            · omega
            · exact h
          have hle : zs[m - 1] ≤ zs[m] := List.pairwise_iff_getElem.1 hs (m - 1) m (by omega) hm (by omega)
          have hle2 : zs[j] ≤ zs[m - 1] := by
            rcases Nat.lt_or_ge j (m - 1) with h | h
            · exact List.pairwise_iff_getElem.1 hs j (m - 1) hjl (by omega) h
            · have : j = m - 1 := by omega
              subst this; exact Int.le_refl _
          omega
        · rw [List.mem_append, h2, List.mem_singleton]
          constructor
          · rintro (⟨j, hj, e⟩ | rfl)
            · exact ⟨j, by omega, e⟩
            · exact ⟨m, by omega, hzm⟩
          · rintro ⟨j, hj, e⟩
            rcases Nat.lt_or_ge j m with h | h
            · exact .inl ⟨j, h, e⟩
            · obtain rfl : j = m := by omega
              rw [hzm] at e
              exact .inr (Option.some.inj e).symm
      · have hk' : Lib.keeps zs.toArray m = false := by simpa using hk
        rw [hk']
        simp only [Bool.false_eq_true, if_false, List.append_nil]
        refine ⟨h1, fun x => ?_⟩
        rw [h2]
        have hm0 : m ≠ 0 ∧ zs[m] = zs[m - 1]'(by omega) := by
          have hm1 : zs.toArray[m - 1]! = zs[m - 1]'(by omega) := by rw [getElem!_pos zs.toArray (m - 1) (by simp; omega)]; rfl
          unfold Lib.keeps at hk'
          rw [hd, hm1] at hk'
          have := of_decide_eq_false hk'
          exact ⟨fun h => this (.inl h), Decidable.byContradiction fun h => this (.inr h)⟩
        constructor
        · rintro ⟨j, hj, e⟩; exact ⟨j, by omega, e⟩
        · rintro ⟨j, hj, e⟩
          rcases Nat.lt_or_ge j m with h | h
          · exact ⟨j, h, e⟩
          · obtain rfl : j = m := by omega
            rw [hzm] at e
            refine ⟨j - 1, by omega, ?_⟩
            rw [List.getElem?_eq_getElem (by omega), ← hm0.2]
            exact e
  obtain ⟨h1, h2⟩ := key zs.length (Nat.le_refl _)
  refine ⟨h1, fun x => (h2 x).trans ?_⟩
  rw [List.mem_iff_getElem?]
  constructor
  · rintro ⟨j, _, e⟩; exact ⟨j, e⟩
  · rintro ⟨j, e⟩; exact ⟨j, lt_of_get e, e⟩
theorem compact_len (zs : List Int) : (Lib.compact zs).length ≤ zs.length := by
  unfold Lib.compact Lib.compactUpTo
  rw [List.length_map]
  exact Nat.le_trans (List.length_filter_le ..) (by simp)
def belowE (m : Int) : Bool := decide (m < 4321440)
/-- in order, each once, below the end -/
def momL (zs : List Int) : List Int := (Lib.compact (srtI zs)).filter belowE
theorem srtI_sorted (zs : List Int) : (srtI zs).Pairwise (· ≤ ·) := by
  have := List.pairwise_mergeSort (le := fun x y : Int => decide (x ≤ y)) (fun a b c h1 h2 => by simp at *; omega) (fun a b => by simp; omega) zs
  exact this.imp (fun h => by simpa using h)
theorem momL_ord (zs : List Int) : (momL zs).Pairwise (· < ·) := (compact_sorted _ (srtI_sorted zs)).1.filter _
theorem momL_mem (zs : List Int) (x : Int) : x ∈ momL zs ↔ x ∈ zs ∧ x < 4321440 := by
  rw [momL, List.mem_filter, (compact_sorted _ (srtI_sorted zs)).2, srtI, List.mem_mergeSort, belowE, decide_eq_true_eq]
theorem momL_len (zs : List Int) : (momL zs).length ≤ zs.length := Nat.le_trans (List.length_filter_le ..) (Nat.le_trans (compact_len _) (Nat.le_of_eq (srtI_len zs)))
set_option maxHeartbeats 4000000 in
set_option maxRecDepth 100000 in
theorem insNilI_any (w : World) : Calls Tryz.prog 163 #[.slice none 0 0, .int .i64 0, .int .i64 0] w fun e w' => e = .returned (.tuple #[]) ∧ w = w' := by
  go_enter Tryz.func163, Tryz.ntmps163
  go_wp2_with fail
  go_loopw [6] (fun i wr => i = .int .i64 1 ∧ w = wr) (fun _ _ => 0)
  case atStart => exact ⟨rfl, rfl⟩
  case round =>
    obtain ⟨rfl, rfl⟩ := hrel
    go_wp2_with fail
    go_end0
    exact ⟨rfl, rfl⟩
set_option maxHeartbeats 4000000 in
set_option maxRecDepth 100000 in
theorem pdqNil_any (n : Int) (w : World) : Calls Tryz.prog 81 #[.slice none 0 0, .int .i64 0, .int .i64 0, .int .i64 n] w fun e w' => e = .returned (.tuple #[]) ∧ w = w' := by
  have H := Lib.hid (insNilI_any w)
  go_enter Tryz.func81, Tryz.ntmps81
  go_wp2_with fail
  go_loopw [1, 2] (fun a b wr => a = .int .i64 0 ∧ b = .int .i64 0 ∧ w = wr) (fun _ _ _ => 0)
  case atStart => exact ⟨rfl, rfl, rfl⟩
  case round =>
    obtain ⟨rfl, rfl, rfl⟩ := hrel
    go_wp2_with fail
    ((with_reducible refine (H.out).mono ?_); rintro e w3 ⟨rfl, rfl⟩)
    go_wp2_with fail
    exact bodyPost_ret (results_none rfl _ _ _) rfl ⟨rfl, rfl⟩
set_option maxHeartbeats 4000000 in
set_option maxRecDepth 100000 in
theorem sortNilI_any (w : World) : Calls Tryz.prog 22 #[.slice none 0 0] w fun e w' => e = .returned (.tuple #[]) ∧ w = w' := by
  have HL := Lib.hid (Tryz.bits_Len 0 w (by decide) (by decide))
  have HP := Lib.hid (fun n => pdqNil_any n w)
  go_enter Tryz.func22, Tryz.ntmps22
  go_wp2_with fail
  ((with_reducible refine (HL.out).mono ?_); rintro e w3 ⟨rfl, rfl⟩)
  go_wp2_with fail
  ((with_reducible refine (HP.out _).mono ?_); rintro e w4 ⟨rfl, rfl⟩)
  go_wp2_with fail
  go_end0
  exact ⟨rfl, rfl⟩
set_option maxRecDepth 100000 in
theorem Mem.compI {w0 w : World} {cs : List Chunk} (S : Mem w0 w cs) (i : Nat) {B E g n cap : Nat} {xs : List Int} (hi : cs[i]? = some (.own rInt B E (.slice (some ⟨g, 0, none⟩) n cap) xs)) (hn : n = xs.length) (hl : xs.length ≤ 1000000) (hc : n ≤ cap) :
    Calls Tryz.prog 23 #[.slice (some ⟨g, 0, none⟩) n cap] w fun e w' => e = .returned (.slice (some ⟨g, 0, none⟩) (Lib.compact xs).length cap) ∧ Mem w0 w' (cs.set i (.own rInt B E (.slice (some ⟨g, 0, none⟩) (Lib.compact xs).length cap) (Lib.compact xs))) := by
  subst hn
  have hH := (S.ow i hi).holdsI rfl
  have hcl := compact_len xs
  refine (Tryz.slices_Compact_int g 0 cap xs w hH (by omega) hc).mono ?_
  rintro e w' ⟨rfl, q, rfl⟩
  refine ⟨rfl, ?_⟩
  have hlen : (Lib.compact xs ++ List.replicate (xs.length - (Lib.compact xs).length) 0).length = xs.length := by simp; omega
  have e1 : putRow (Value.int .i64) (Sort.ahead w q) g 0 (Lib.compact xs ++ List.replicate (xs.length - (Lib.compact xs).length) 0).toArray = sortWorldK (fun n : Int => [Value.int .i64 n]) 1 w g 0 q (Lib.compact xs ++ List.replicate (xs.length - (Lib.compact xs).length) 0).toArray #[] := by
    rw [← sortWorld_int, grow_empty]
  rw [e1]
  have S2 := S.sortedK flatInt (m := q) (os := #[]) (by decide) (fun _ => rfl) i hi hlen
  have S3 := S2.cut i (by rw [List.getElem?_set_self (lt_of_get hi)]) (Lib.compact xs).length (by rw [hlen]; exact hcl)
  rw [List.set_set, List.take_left'] at S3
  · exact S3
  · rfl
/-- what the closure is asked -/
def EndIs (F : Nat) : Prop := ∀ (m : Int) (w : World), Calls Tryz.prog F #[.int .i64 m] w fun e w' => e = .returned (.bool (!belowE m)) ∧ w = w'
def GivesIix (xs : List Int) (w : World) (e : Ending) (w' : World) : Prop :=
  ∃ i : Int, e = .returned (.int .i64 i) ∧ w = w' ∧ ((i = -1 ∧ ∀ y ∈ xs, belowE y = true) ∨ ∃ (j : Nat) (y : Int), i = j ∧ xs[j]? = some y ∧ belowE y = false ∧ ∀ z ∈ xs.take j, belowE z = true)
/-- the front that is settled, and the rest as it was -/
structure DelI (xs ys : List Int) (i j : Nat) : Prop where
  len : ys.length = xs.length
  front : ys.take i = (xs.take j).filter belowE
  rest : ys.drop j = xs.drop j
  le : i ≤ j
theorem DelI.get {xs ys : List Int} {i j : Nat} (h : DelI xs ys i j) {x : Int} (hx : ys[j]? = some x) : xs[j]? = some x := by
  have h1 := congrArg (fun l : List Int => l[0]?) h.rest
  simp only [List.getElem?_drop, Nat.add_zero] at h1
  rw [← h1]; exact hx
theorem DelI.skip {xs ys : List Int} {i j : Nat} (h : DelI xs ys i j) {x : Int} (hx : ys[j]? = some x) (hp : belowE x = false) : DelI xs ys i (j + 1) := by
  refine ⟨h.len, ?_, ?_, Nat.le_succ_of_le h.le⟩
  · rw [take_snoc (h.get hx), List.filter_append, h.front]
    simp [hp]
  · have h1 := congrArg (List.drop 1) h.rest
    rw [List.drop_drop, List.drop_drop] at h1
    exact h1
theorem DelI.put {xs ys : List Int} {i j : Nat} (h : DelI xs ys i j) (hij : i < j) {x : Int} (hx : ys[j]? = some x) (hp : belowE x = true) : DelI xs (ys.set i x) (i + 1) (j + 1) := by
  have hi : i < ys.length := by have := lt_of_get hx; omega
  refine ⟨by rw [List.length_set, h.len], ?_, ?_, by omega⟩
  · rw [take_snoc (h.get hx), List.filter_append, ← h.front, List.take_set, take_snoc (x := ys[i]) (List.getElem?_eq_getElem hi)]
    have hl : (ys.take i).length = i := by rw [List.length_take]; omega
    rw [List.set_append_right _ _ (by omega), hl, Nat.sub_self]
    simp [hp]
  · rw [List.drop_set_of_lt (by omega)]
    have h1 := congrArg (List.drop 1) h.rest
    rw [List.drop_drop, List.drop_drop] at h1
    exact h1
theorem zeroI (w : World) : (zeroValue 3).run Tryz.prog w = .ok (.int .i64 0) w := by kernel_rfl
theorem oneZI (j : Nat) (h : j < rInt.size) : (((Value.int .i64 0).cells)[j]!).oneCell' = true := by
  obtain rfl : j = 0 := by
    have : j < 1 := h
    omega
  rfl
def GivesDelI (xs : List Int) (B g cap : Nat) (w0 : World) (cs : List Chunk) (e : Ending) (w' : World) : Prop :=
  e = .returned (.slice (some ⟨g, 0, none⟩) (xs.filter belowE).length cap) ∧ Mem w0 w' (.own rInt B 3 (.slice (some ⟨g, 0, none⟩) (xs.filter belowE).length cap) (xs.filter belowE) :: cs)
set_option maxHeartbeats 4000000 in
set_option maxRecDepth 100000 in
theorem idxIP_any {w0 w : World} {cs : List Chunk} {B g n cap : Nat} {xs : List Int} (S : Mem w0 w (.own rInt B 3 (.slice (some ⟨g, 0, none⟩) n cap) xs :: cs)) (hn : n = xs.length) (hl : n ≤ 1000000) (hf : EndIs 199) :
    Calls Tryz.prog 258 #[.slice (some ⟨g, 0, none⟩) n cap, .func (.func 199) #[] #[]] w (GivesIix xs w) := by
  unfold EndIs at hf
  have HF := Lib.hid hf
  have Hn := Lib.hid hn
  have HS := Lib.hid S
  clear hf hn S
  go_enter Tryz.func258, Tryz.ntmps258
  go_wp2_with fail
  go_loopw [8] (fun i wr => ∃ j : Nat, j ≤ n ∧ i = .int .i64 j ∧ Hid (∀ z ∈ xs.take j, belowE z = true) ∧ w = wr) (fun i _ => n - (intOf i).toNat)
  case atStart => exact ⟨0, Nat.zero_le _, rfl, (by show ∀ z ∈ _, _; simp), rfl⟩
  case round =>
    obtain ⟨j, hj, rfl, HP, rfl⟩ := hrel
    by_cases hlt : j < n
    · obtain ⟨x, hx⟩ : ∃ x, xs[j]? = some x := ⟨_, List.getElem?_eq_getElem (by have := Hn.out; omega)⟩
      obtain ⟨d0, _⟩ := (HS.out.ow 0 rfl).intAt Hn.out j x hx
      have Hx := Lib.hid hx
      clear hx
      go_wp2_with fail
      ((with_reducible refine (HF.out x w).mono ?_); rintro e w2 ⟨rfl, rfl⟩)
      clear d0
      cases hp : belowE x with
      | true =>
        have HP2 : Hid (∀ z ∈ xs.take (j + 1), belowE z = true) := fun z hz => by
          rw [take_snoc Hx.out] at hz
          rcases List.mem_append.1 hz with hz | hz
          · exact HP.out z hz
          · rw [List.mem_singleton.1 hz]; exact hp
        clear hp
        go_wp2_with fail
        go_roundw
        case rel => exact ⟨j + 1, by omega, by go_num, HP2, (by first | rfl | trivial)⟩
        case measure => simp [intOf]; omega
      | false =>
        have Hp := Lib.hid hp
        clear hp
        go_wp2_with fail
        go_ret
        exact ⟨j, rfl, rfl, .inr ⟨j, x, rfl, Hx.out, Hp.out, HP.out⟩⟩
    · have HP2 : Hid (∀ z ∈ xs, belowE z = true) := by
        have h1 := HP.out
        rw [List.take_of_length_le (by have := Hn.out; omega)] at h1
        exact h1
      go_wp2_with fail
      go_ret
      exact ⟨-1, rfl, rfl, .inl ⟨rfl, HP2.out⟩⟩
set_option maxHeartbeats 8000000 in
set_option maxRecDepth 100000 in
theorem delIP_any {w0 w : World} {cs : List Chunk} {B g n cap : Nat} {xs : List Int} (S : Mem w0 w (.own rInt B 3 (.slice (some ⟨g, 0, none⟩) n cap) xs :: cs)) (hn : n = xs.length) (hl : n ≤ 1000000) (hcap : n ≤ cap) (hf : EndIs 199) :
    Calls Tryz.prog 198 #[.slice (some ⟨g, 0, none⟩) n cap, .func (.func 199) #[] #[]] w (GivesDelI xs B g cap w0 cs) := by
  have Hix := Lib.hid (idxIP_any S hn hl hf)
  unfold EndIs at hf
  have HF := Lib.hid hf
  have Hn := Lib.hid hn
  clear hf hn
  go_enter Tryz.func198, Tryz.ntmps198
  go_wp2_with fail
  ((with_reducible refine (Hix.out).mono ?_); rintro e w2 ⟨i, rfl, rfl, hc⟩)
  clear Hix
  rcases hc with ⟨rfl, hall⟩ | ⟨j0, y0, rfl, hy0, hp0, hbef⟩
  · have Hk : Hid (xs.filter belowE = xs) := List.filter_eq_self.2 hall
    clear hall
    go_wp2_with fail
    go_ret
    refine ⟨?_, ?_⟩
    · rw [Hk.out, ← Hn.out]; rfl
    · rw [Hk.out, ← Hn.out]; exact S
  · have hj0 : j0 < n := by have := lt_of_get hy0; have := Hn.out; omega
    have HD : Hid (DelI xs xs j0 (j0 + 1)) := by
      refine ⟨rfl, ?_, rfl, Nat.le_succ _⟩
      rw [take_snoc hy0, List.filter_append, List.filter_eq_self.2 hbef]
      simp [hp0]
    clear hy0 hp0 hbef
    go_wp2_with fail
    go_loopw [5, 6] (fun s5 s6 wr => ∃ (i j : Nat) (ys : List Int), s5 = .int .i64 i ∧ s6 = .int .i64 j ∧ i < j ∧ j ≤ n ∧ Hid (DelI xs ys i j) ∧ Mem w0 wr (.own rInt B 3 (.slice (some ⟨g, 0, none⟩) n cap) ys :: cs)) (fun _ s6 _ => n - (intOf s6).toNat)
    case atStart => exact ⟨j0, j0 + 1, xs, rfl, by go_num, by omega, by omega, HD, S⟩
    case round =>
      clear S HD
      obtain ⟨i, j, ys, rfl, rfl, hij, hj, HD, S⟩ := hrel
      have hyl : Hid (n = ys.length) := by show _ = _; have := Hn.out; have := HD.out.len; omega
      by_cases hlt : j < n
      · obtain ⟨x, hx⟩ : ∃ x, ys[j]? = some x := ⟨_, List.getElem?_eq_getElem (by have := hyl.out; omega)⟩
        obtain ⟨d0, _⟩ := (S.ow 0 rfl).intAt hyl.out j x hx
        have Hx := Lib.hid hx
        clear hx
        have HS := Lib.hid S
        clear S
        go_wp2_with fail
        ((with_reducible refine (HF.out x wr).mono ?_); rintro e w4 ⟨rfl, rfl⟩)
        clear d0
        cases hp : belowE x with
        | false =>
          have HD2 := Lib.hid (HD.out.skip Hx.out hp)
          clear hp HD
          go_wp2_with fail
          go_roundw
          case rel => first | exact ⟨i, j + 1, ys, rfl, by go_num, by omega, by omega, HD2, HS.out⟩ | (exact ⟨_, _, _, _, _, _, _, _, _, _, _, _, _, _, _, _, _, _, _, _, _, _, _, ⟨i, j + 1, ys, rfl, by go_num, by omega, by omega, HD2, HS.out⟩, rfl⟩)
          case measure => simp [intOf]; omega
        | true =>
          have HD2 := Lib.hid (HD.out.put hij Hx.out hp)
          clear hp HD
          obtain ⟨z, hz⟩ : ∃ z, ys[i]? = some z := ⟨_, List.getElem?_eq_getElem (by have := hyl.out; omega)⟩
          obtain ⟨e0, f0⟩ := (HS.out.ow 0 rfl).intAt hyl.out i z hz
          have S1 := Lib.hid (HS.out.putI 0 rfl hyl.out i z x hz)
          clear hz
          go_wp2_with fail
          go_roundw
          case rel => first | exact ⟨i + 1, j + 1, ys.set i x, by go_num, by go_num, by omega, by omega, HD2, S1.out⟩ | exact ⟨_, _, _, _, _, _, _, _, _, _, _, _, _, _, _, _, _, _, _, _, _, _, _, ⟨i + 1, j + 1, ys.set i x, by go_num, by go_num, by omega, by omega, HD2, S1.out⟩, rfl⟩
          case measure => simp [intOf]; omega
      · have HT : Hid (ys.take i = xs.filter belowE) := by
          show _ = _
          rw [HD.out.front, List.take_of_length_le (by have := Hn.out; omega)]
        have HTl : Hid (i = (xs.filter belowE).length) := by show _ = _; rw [← HT.out, List.length_take]; have := hyl.out; omega
        clear HD
        go_wp2_with (refine S.clearTail 0 rfl hyl.out tyIntP zeroI oneZI i (cap - i) (by omega) rfl _ rfl i (n - i) (by simp [rInt, Rep.flat]) rfl rfl ?_; intro w5 S5)
        go_ret
        refine ⟨?_, ?_⟩
        · rw [← HTl.out]; rfl
        · rw [HT.out] at S5
          rw [← HTl.out]
          exact S5
set_option maxHeartbeats 4000000 in
set_option maxRecDepth 100000 in
theorem idxIR_any {w0 w : World} {cs : List Chunk} {B g n cap : Nat} {xs : List Int} (S : Mem w0 w (.own rInt B 3 (.slice (some ⟨g, 0, none⟩) n cap) xs :: cs)) (hn : n = xs.length) (hl : n ≤ 1000000) (hf : EndIs 267) :
    Calls Tryz.prog 258 #[.slice (some ⟨g, 0, none⟩) n cap, .func (.func 267) #[] #[]] w (GivesIix xs w) := by
  unfold EndIs at hf
  have HF := Lib.hid hf
  have Hn := Lib.hid hn
  have HS := Lib.hid S
  clear hf hn S
  go_enter Tryz.func258, Tryz.ntmps258
  go_wp2_with fail
  go_loopw [8] (fun i wr => ∃ j : Nat, j ≤ n ∧ i = .int .i64 j ∧ Hid (∀ z ∈ xs.take j, belowE z = true) ∧ w = wr) (fun i _ => n - (intOf i).toNat)
  case atStart => exact ⟨0, Nat.zero_le _, rfl, (by show ∀ z ∈ _, _; simp), rfl⟩
  case round =>
    obtain ⟨j, hj, rfl, HP, rfl⟩ := hrel
    by_cases hlt : j < n
    · obtain ⟨x, hx⟩ : ∃ x, xs[j]? = some x := ⟨_, List.getElem?_eq_getElem (by have := Hn.out; omega)⟩
      obtain ⟨d0, _⟩ := (HS.out.ow 0 rfl).intAt Hn.out j x hx
      have Hx := Lib.hid hx
      clear hx
      go_wp2_with fail
      ((with_reducible refine (HF.out x w).mono ?_); rintro e w2 ⟨rfl, rfl⟩)
      clear d0
      cases hp : belowE x with
      | true =>
        have HP2 : Hid (∀ z ∈ xs.take (j + 1), belowE z = true) := fun z hz => by
          rw [take_snoc Hx.out] at hz
          rcases List.mem_append.1 hz with hz | hz
          · exact HP.out z hz
          · rw [List.mem_singleton.1 hz]; exact hp
        clear hp
        go_wp2_with fail
        go_roundw
        case rel => exact ⟨j + 1, by omega, by go_num, HP2, (by first | rfl | trivial)⟩
        case measure => simp [intOf]; omega
      | false =>
        have Hp := Lib.hid hp
        clear hp
        go_wp2_with fail
        go_ret
        exact ⟨j, rfl, rfl, .inr ⟨j, x, rfl, Hx.out, Hp.out, HP.out⟩⟩
    · have HP2 : Hid (∀ z ∈ xs, belowE z = true) := by
        have h1 := HP.out
        rw [List.take_of_length_le (by have := Hn.out; omega)] at h1
        exact h1
      go_wp2_with fail
      go_ret
      exact ⟨-1, rfl, rfl, .inl ⟨rfl, HP2.out⟩⟩
set_option maxHeartbeats 8000000 in
set_option maxRecDepth 100000 in
theorem delIR_any {w0 w : World} {cs : List Chunk} {B g n cap : Nat} {xs : List Int} (S : Mem w0 w (.own rInt B 3 (.slice (some ⟨g, 0, none⟩) n cap) xs :: cs)) (hn : n = xs.length) (hl : n ≤ 1000000) (hcap : n ≤ cap) (hf : EndIs 267) :
    Calls Tryz.prog 198 #[.slice (some ⟨g, 0, none⟩) n cap, .func (.func 267) #[] #[]] w (GivesDelI xs B g cap w0 cs) := by
  have Hix := Lib.hid (idxIR_any S hn hl hf)
  unfold EndIs at hf
  have HF := Lib.hid hf
  have Hn := Lib.hid hn
  clear hf hn
  go_enter Tryz.func198, Tryz.ntmps198
  go_wp2_with fail
  ((with_reducible refine (Hix.out).mono ?_); rintro e w2 ⟨i, rfl, rfl, hc⟩)
  clear Hix
  rcases hc with ⟨rfl, hall⟩ | ⟨j0, y0, rfl, hy0, hp0, hbef⟩
  · have Hk : Hid (xs.filter belowE = xs) := List.filter_eq_self.2 hall
    clear hall
    go_wp2_with fail
    go_ret
    refine ⟨?_, ?_⟩
    · rw [Hk.out, ← Hn.out]; rfl
    · rw [Hk.out, ← Hn.out]; exact S
  · have hj0 : j0 < n := by have := lt_of_get hy0; have := Hn.out; omega
    have HD : Hid (DelI xs xs j0 (j0 + 1)) := by
      refine ⟨rfl, ?_, rfl, Nat.le_succ _⟩
      rw [take_snoc hy0, List.filter_append, List.filter_eq_self.2 hbef]
      simp [hp0]
    clear hy0 hp0 hbef
    go_wp2_with fail
    go_loopw [5, 6] (fun s5 s6 wr => ∃ (i j : Nat) (ys : List Int), s5 = .int .i64 i ∧ s6 = .int .i64 j ∧ i < j ∧ j ≤ n ∧ Hid (DelI xs ys i j) ∧ Mem w0 wr (.own rInt B 3 (.slice (some ⟨g, 0, none⟩) n cap) ys :: cs)) (fun _ s6 _ => n - (intOf s6).toNat)
    case atStart => exact ⟨j0, j0 + 1, xs, rfl, by go_num, by omega, by omega, HD, S⟩
    case round =>
      clear S HD
      obtain ⟨i, j, ys, rfl, rfl, hij, hj, HD, S⟩ := hrel
      have hyl : Hid (n = ys.length) := by show _ = _; have := Hn.out; have := HD.out.len; omega
      by_cases hlt : j < n
      · obtain ⟨x, hx⟩ : ∃ x, ys[j]? = some x := ⟨_, List.getElem?_eq_getElem (by have := hyl.out; omega)⟩
        obtain ⟨d0, _⟩ := (S.ow 0 rfl).intAt hyl.out j x hx
        have Hx := Lib.hid hx
        clear hx
        have HS := Lib.hid S
        clear S
        go_wp2_with fail
        ((with_reducible refine (HF.out x wr).mono ?_); rintro e w4 ⟨rfl, rfl⟩)
        clear d0
        cases hp : belowE x with
        | false =>
          have HD2 := Lib.hid (HD.out.skip Hx.out hp)
          clear hp HD
          go_wp2_with fail
          go_roundw
          case rel => first | exact ⟨i, j + 1, ys, rfl, by go_num, by omega, by omega, HD2, HS.out⟩ | (exact ⟨_, _, _, _, _, _, _, _, _, _, _, _, _, _, _, _, _, _, _, _, _, _, _, ⟨i, j + 1, ys, rfl, by go_num, by omega, by omega, HD2, HS.out⟩, rfl⟩)
          case measure => simp [intOf]; omega
        | true =>
          have HD2 := Lib.hid (HD.out.put hij Hx.out hp)
          clear hp HD
          obtain ⟨z, hz⟩ : ∃ z, ys[i]? = some z := ⟨_, List.getElem?_eq_getElem (by have := hyl.out; omega)⟩
          obtain ⟨e0, f0⟩ := (HS.out.ow 0 rfl).intAt hyl.out i z hz
          have S1 := Lib.hid (HS.out.putI 0 rfl hyl.out i z x hz)
          clear hz
          go_wp2_with fail
          go_roundw
          case rel => first | exact ⟨i + 1, j + 1, ys.set i x, by go_num, by go_num, by omega, by omega, HD2, S1.out⟩ | exact ⟨_, _, _, _, _, _, _, _, _, _, _, _, _, _, _, _, _, _, _, _, _, _, _, ⟨i + 1, j + 1, ys.set i x, by go_num, by go_num, by omega, by omega, HD2, S1.out⟩, rfl⟩
          case measure => simp [intOf]; omega
      · have HT : Hid (ys.take i = xs.filter belowE) := by
          show _ = _
          rw [HD.out.front, List.take_of_length_le (by have := Hn.out; omega)]
        have HTl : Hid (i = (xs.filter belowE).length) := by show _ = _; rw [← HT.out, List.length_take]; have := hyl.out; omega
        clear HD
        go_wp2_with (refine S.clearTail 0 rfl hyl.out tyIntP zeroI oneZI i (cap - i) (by omega) rfl _ rfl i (n - i) (by simp [rInt, Rep.flat]) rfl rfl ?_; intro w5 S5)
        go_ret
        refine ⟨?_, ?_⟩
        · rw [← HTl.out]; rfl
        · rw [HT.out] at S5
          rw [← HTl.out]
          exact S5
set_option maxRecDepth 100000 in
theorem idxNilI_any (f : Value) (w : World) : Calls Tryz.prog 258 #[.slice none 0 0, f] w fun e w' => e = .returned (.int .i64 (-1)) ∧ w = w' := by
  go_enter Tryz.func258, Tryz.ntmps258
  go_wp2_with fail
  go_loopw [8] (fun i wr => i = .int .i64 0 ∧ w = wr) (fun _ _ => 0)
  case atStart => exact ⟨rfl, rfl⟩
  case round =>
    obtain ⟨rfl, rfl⟩ := hrel
    go_wp2_with fail
    go_ret
    exact ⟨rfl, rfl⟩
set_option maxRecDepth 100000 in
theorem delNilI_any (f : Value) (w : World) : Calls Tryz.prog 198 #[.slice none 0 0, f] w fun e w' => e = .returned (.slice none 0 0) ∧ w = w' := by
  have h := Lib.hid (idxNilI_any f w)
  go_enter Tryz.func198, Tryz.ntmps198
  go_wp2_with fail
  ((with_reducible refine (h.out).mono ?_); rintro e w2 ⟨rfl, rfl⟩)
  go_wp2_with fail
  go_ret
  exact ⟨rfl, rfl⟩
end Go.Proofs.YthmkphmciiiagaaGreatDoor
