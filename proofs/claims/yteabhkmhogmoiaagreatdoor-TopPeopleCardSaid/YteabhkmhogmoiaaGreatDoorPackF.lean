/- Several texts in one: IdxF, DelJ, PsnCat. -/
import Derived.Test.YteabhkmhogmoiaaGreatDoorPackX
import Derived.Test.YteabhkmhogmoiaaGreatDoorPackW
import Derived.Test.YteabhkmhogmoiaaGreatDoorPackQ
import Derived.Test.YteabhkmhogmoiaaGreatDoorPackJ
import Derived.Lib.AppendZerosOnto
/- slices.IndexFunc and ContainsFunc of numbers, ids and persons, for any closure that only reads. -/
namespace Go.Proofs.YteabhkmhogmoiaaGreatDoor
open Go Go.RowKit
def GivesIF {α : Type} (P : α → Bool) (xs : List α) (w : World) (e : Ending) (w' : World) : Prop :=
  ∃ i : Int, e = .returned (.int .i64 i) ∧ Below w.heap.size w w' ∧ ((i = -1 ∧ ∀ y ∈ xs, P y = false) ∨ ∃ (j : Nat) (y : α), i = j ∧ xs[j]? = some y ∧ P y = true ∧ ∀ z ∈ xs.take j, P z = false)
theorem GivesIF.has {α : Type} {P : α → Bool} {xs : List α} {i : Int} (h : (i = -1 ∧ ∀ y ∈ xs, P y = false) ∨ ∃ (j : Nat) (y : α), i = j ∧ xs[j]? = some y ∧ P y = true ∧ ∀ z ∈ xs.take j, P z = false) : decide (0 ≤ i) = xs.any P := by
  rcases h with ⟨rfl, h⟩ | ⟨j, y, rfl, hy, hp, _⟩
  · have : xs.any P = false := List.any_eq_false.2 (fun y hy => by rw [h y hy]; decide)
    rw [this]; decide
  · have : xs.any P = true := List.any_eq_true.2 ⟨y, List.mem_of_getElem? hy, hp⟩
    rw [this]
    simp
theorem Sl.psq {N : Nat → Prop} {w : World} {A : Option Addr} {xs : List PsQ} (h : Sl rPsQ N w A xs) (k : Nat) (x : PsQ) (hk : xs[k]? = some x) : ∃ blk off, A = some ⟨blk, off, none⟩ ∧ blk < w.heap.size ∧
    w.cell? ⟨blk, off + k * 4, none⟩ = some (.int .i64 x.p.key.k) ∧ w.cell? ⟨blk, off + k * 4 + 1, none⟩ = some (.string x.p.key.t) ∧ w.cell? ⟨blk, off + k * 4 + 2, none⟩ = some (.slice x.A x.p.tch.length x.a) ∧ w.cell? ⟨blk, off + k * 4 + 3, none⟩ = some (.slice x.B x.p.ids.length x.b) := by
  obtain ⟨blk, off, l, e, h1, _, h3, h4⟩ := h k x hk
  obtain rfl : l = PsQ.cells x := h3
  exact ⟨blk, off, e, h1, h4 0 _ rfl, h4 1 _ rfl, h4 2 _ rfl, h4 3 _ rfl⟩
set_option maxHeartbeats 4000000 in
set_option maxRecDepth 100000 in
theorem idxFI_any (f : Nat) (caps : Array Value) (ef : ∀ args w, (callFunc f args).run Tryz.prog w = .ok (.enter f args) w) (P : Int → Bool) (N : Nat → Prop) (A : Option Addr) (c : Nat) (xs : List Int) (w : World) (hS : Sl rInt N w A xs) (hl : xs.length ≤ 1000000)
    (hf : ∀ y ∈ xs, ∀ w', Below w.heap.size w w' → Calls Tryz.prog f (#[.int .i64 y] ++ caps) w' fun e w'' => e = .returned (.bool (P y)) ∧ Below w'.heap.size w' w'') :
    Calls Tryz.prog 75 #[.slice A xs.length c, .func (.func f) #[] caps] w (GivesIF P xs w) := by
  have HF := Lib.hid hf
  have HS := Lib.hid (fun w' (h : Below w.heap.size w w') => hS.keepB h)
  clear hf hS
  go_enter Tryz.func75, Tryz.ntmps75
  go_wp2_with fail
  go_loopw [8] (fun i wr => ∃ j : Nat, j ≤ xs.length ∧ i = .int .i64 j ∧ Hid (∀ z ∈ xs.take j, P z = false) ∧ Below w.heap.size w wr) (fun i _ => xs.length - (intOf i).toNat)
  case atStart => exact ⟨0, Nat.zero_le _, rfl, (by show ∀ z ∈ _, _; simp), Below.refl _ _⟩
  case round =>
    obtain ⟨j, hj, rfl, HP, hb⟩ := hrel
    by_cases hlt : j < xs.length
    · obtain ⟨x, hx⟩ : ∃ x, xs[j]? = some x := ⟨_, List.getElem?_eq_getElem hlt⟩
      obtain ⟨b1, o1, rfl, hb1, d0⟩ := (HS.out wr hb).int j x hx
      have Hx := Lib.hid hx
      clear hx
      go_wp2_with fail
      ((with_reducible refine (HF.out x (List.mem_of_getElem? Hx.out) wr hb).mono ?_); rintro e w2 ⟨rfl, hl2⟩)
      have hb2 := hb.trans (hl2.mono hb.size)
      clear hl2 d0 hb
      cases hp : P x with
      | false =>
        have HP2 : Hid (∀ z ∈ xs.take (j + 1), P z = false) := fun z hz => by
          rw [take_snoc Hx.out] at hz
          rcases List.mem_append.1 hz with hz | hz
          · exact HP.out z hz
          · rw [List.mem_singleton.1 hz]; exact hp
        clear hp
        go_wp2_with fail
        go_roundw
        case rel => exact ⟨j + 1, by omega, by go_num, HP2, hb2⟩
        case measure => simp [intOf]; omega
      | true =>
        have Hp := Lib.hid hp
        clear hp
        go_wp2_with fail
        go_ret
        exact ⟨j, rfl, hb2, .inr ⟨j, x, rfl, Hx.out, Hp.out, HP.out⟩⟩
    · have HP2 : Hid (∀ z ∈ xs, P z = false) := by
        have h1 := HP.out
        rw [List.take_of_length_le (by omega)] at h1
        exact h1
      go_wp2_with fail
      go_ret
      exact ⟨-1, rfl, hb, .inl ⟨rfl, HP2.out⟩⟩
set_option maxHeartbeats 4000000 in
theorem hasFI_any (f : Nat) (caps : Array Value) (ef : ∀ args w, (callFunc f args).run Tryz.prog w = .ok (.enter f args) w) (P : Int → Bool) (N : Nat → Prop) (A : Option Addr) (c : Nat) (xs : List Int) (w : World) (hS : Sl rInt N w A xs) (hl : xs.length ≤ 1000000)
    (hf : ∀ y ∈ xs, ∀ w', Below w.heap.size w w' → Calls Tryz.prog f (#[.int .i64 y] ++ caps) w' fun e w'' => e = .returned (.bool (P y)) ∧ Below w'.heap.size w' w'') :
    Calls Tryz.prog 11 #[.slice A xs.length c, .func (.func f) #[] caps] w fun e w' => e = .returned (.bool (xs.any P)) ∧ Below w.heap.size w w' := by
  have Hi := Lib.hid (idxFI_any f caps ef P N A c xs w hS hl hf)
  clear hS hf
  obtain ⟨R, HR⟩ : ∃ R, Hid (xs.any P = R) := ⟨_, Lib.hid rfl⟩
  rw [HR.out]
  go_enter Tryz.func11, Tryz.ntmps11
  go_wp2_with fail
  ((with_reducible refine (Hi.out).mono ?_); rintro e w2 ⟨i, rfl, hb, hc⟩)
  have Hr : Hid (R = decide (0 ≤ i)) := HR.out.symm.trans (GivesIF.has hc).symm
  clear HR hc
  go_wp2_with fail
  go_ret
  exact ⟨ret_b Hr.out.symm, hb⟩
set_option maxHeartbeats 4000000 in
set_option maxRecDepth 100000 in
theorem idxFJ_any (f : Nat) (caps : Array Value) (ef : ∀ args w, (callFunc f args).run Tryz.prog w = .ok (.enter f args) w) (P : IdV → Bool) (N : Nat → Prop) (A : Option Addr) (c : Nat) (xs : List IdV) (w : World) (hS : Sl rId N w A xs) (hl : xs.length ≤ 1000000)
    (hf : ∀ y ∈ xs, ∀ w', Below w.heap.size w w' → Calls Tryz.prog f (#[.agg #[.int .i64 y.k, .string y.t]] ++ caps) w' fun e w'' => e = .returned (.bool (P y)) ∧ Below w'.heap.size w' w'') :
    Calls Tryz.prog 79 #[.slice A xs.length c, .func (.func f) #[] caps] w (GivesIF P xs w) := by
  have HF := Lib.hid hf
  have HS := Lib.hid (fun w' (h : Below w.heap.size w w') => hS.keepB h)
  clear hf hS
  go_enter Tryz.func79, Tryz.ntmps79
  go_wp2_with fail
  go_loopw [8] (fun i wr => ∃ j : Nat, j ≤ xs.length ∧ i = .int .i64 j ∧ Hid (∀ z ∈ xs.take j, P z = false) ∧ Below w.heap.size w wr) (fun i _ => xs.length - (intOf i).toNat)
  case atStart => exact ⟨0, Nat.zero_le _, rfl, (by show ∀ z ∈ _, _; simp), Below.refl _ _⟩
  case round =>
    obtain ⟨j, hj, rfl, HP, hb⟩ := hrel
    by_cases hlt : j < xs.length
    · obtain ⟨x, hx⟩ : ∃ x, xs[j]? = some x := ⟨_, List.getElem?_eq_getElem hlt⟩
      obtain ⟨b1, o1, rfl, hb1, d0, d1⟩ := (HS.out wr hb).idv j x hx
      have Hx := Lib.hid hx
      clear hx
      go_wp2_with fail
      ((with_reducible refine (HF.out x (List.mem_of_getElem? Hx.out) wr hb).mono ?_); rintro e w2 ⟨rfl, hl2⟩)
      have hb2 := hb.trans (hl2.mono hb.size)
      clear hl2 d0 d1 hb
      cases hp : P x with
      | false =>
        have HP2 : Hid (∀ z ∈ xs.take (j + 1), P z = false) := fun z hz => by
          rw [take_snoc Hx.out] at hz
          rcases List.mem_append.1 hz with hz | hz
          · exact HP.out z hz
          · rw [List.mem_singleton.1 hz]; exact hp
        clear hp
        go_wp2_with fail
        go_roundw
        case rel => exact ⟨j + 1, by omega, by go_num, HP2, hb2⟩
        case measure => simp [intOf]; omega
      | true =>
        have Hp := Lib.hid hp
        clear hp
        go_wp2_with fail
        go_ret
        exact ⟨j, rfl, hb2, .inr ⟨j, x, rfl, Hx.out, Hp.out, HP.out⟩⟩
    · have HP2 : Hid (∀ z ∈ xs, P z = false) := by
        have h1 := HP.out
        rw [List.take_of_length_le (by omega)] at h1
        exact h1
      go_wp2_with fail
      go_ret
      exact ⟨-1, rfl, hb, .inl ⟨rfl, HP2.out⟩⟩
set_option maxHeartbeats 4000000 in
theorem hasFJ_any (f : Nat) (caps : Array Value) (ef : ∀ args w, (callFunc f args).run Tryz.prog w = .ok (.enter f args) w) (P : IdV → Bool) (N : Nat → Prop) (A : Option Addr) (c : Nat) (xs : List IdV) (w : World) (hS : Sl rId N w A xs) (hl : xs.length ≤ 1000000)
    (hf : ∀ y ∈ xs, ∀ w', Below w.heap.size w w' → Calls Tryz.prog f (#[.agg #[.int .i64 y.k, .string y.t]] ++ caps) w' fun e w'' => e = .returned (.bool (P y)) ∧ Below w'.heap.size w' w'') :
    Calls Tryz.prog 77 #[.slice A xs.length c, .func (.func f) #[] caps] w fun e w' => e = .returned (.bool (xs.any P)) ∧ Below w.heap.size w w' := by
  have Hi := Lib.hid (idxFJ_any f caps ef P N A c xs w hS hl hf)
  clear hS hf
  obtain ⟨R, HR⟩ : ∃ R, Hid (xs.any P = R) := ⟨_, Lib.hid rfl⟩
  rw [HR.out]
  go_enter Tryz.func77, Tryz.ntmps77
  go_wp2_with fail
  ((with_reducible refine (Hi.out).mono ?_); rintro e w2 ⟨i, rfl, hb, hc⟩)
  have Hr : Hid (R = decide (0 ≤ i)) := HR.out.symm.trans (GivesIF.has hc).symm
  clear HR hc
  go_wp2_with fail
  go_ret
  exact ⟨ret_b Hr.out.symm, hb⟩
set_option maxHeartbeats 4000000 in
set_option maxRecDepth 100000 in
theorem idxFP_any (f : Nat) (caps : Array Value) (ef : ∀ args w, (callFunc f args).run Tryz.prog w = .ok (.enter f args) w) (P : PsQ → Bool) (N : Nat → Prop) (A : Option Addr) (c : Nat) (xs : List PsQ) (w : World) (hS : Sl rPsQ N w A xs) (hl : xs.length ≤ 1000000)
    (hf : ∀ y ∈ xs, ∀ w', Below w.heap.size w w' → Calls Tryz.prog f (#[.agg (psCs y.p y.A y.a y.B y.b)] ++ caps) w' fun e w'' => e = .returned (.bool (P y)) ∧ Below w'.heap.size w' w'') :
    Calls Tryz.prog 55 #[.slice A xs.length c, .func (.func f) #[] caps] w (GivesIF P xs w) := by
  have HF := Lib.hid hf
  have HS := Lib.hid (fun w' (h : Below w.heap.size w w') => hS.keepB h)
  clear hf hS
  go_enter Tryz.func55, Tryz.ntmps55
  go_wp2_with fail
  go_loopw [8] (fun i wr => ∃ j : Nat, j ≤ xs.length ∧ i = .int .i64 j ∧ Hid (∀ z ∈ xs.take j, P z = false) ∧ Below w.heap.size w wr) (fun i _ => xs.length - (intOf i).toNat)
  case atStart => exact ⟨0, Nat.zero_le _, rfl, (by show ∀ z ∈ _, _; simp), Below.refl _ _⟩
  case round =>
    obtain ⟨j, hj, rfl, HP, hb⟩ := hrel
    by_cases hlt : j < xs.length
    · obtain ⟨x, hx⟩ : ∃ x, xs[j]? = some x := ⟨_, List.getElem?_eq_getElem hlt⟩
      obtain ⟨b1, o1, rfl, hb1, d0, d1, d2, d3⟩ := (HS.out wr hb).psq j x hx
      have Hx := Lib.hid hx
      clear hx
      go_wp2_with fail
      ((with_reducible refine (HF.out x (List.mem_of_getElem? Hx.out) wr hb).mono ?_); rintro e w2 ⟨rfl, hl2⟩)
      have hb2 := hb.trans (hl2.mono hb.size)
      clear hl2 d0 d1 d2 d3 hb
      cases hp : P x with
      | false =>
        have HP2 : Hid (∀ z ∈ xs.take (j + 1), P z = false) := fun z hz => by
          rw [take_snoc Hx.out] at hz
          rcases List.mem_append.1 hz with hz | hz
          · exact HP.out z hz
          · rw [List.mem_singleton.1 hz]; exact hp
        clear hp
        go_wp2_with fail
        go_roundw
        case rel => exact ⟨j + 1, by omega, by go_num, HP2, hb2⟩
        case measure => simp [intOf]; omega
      | true =>
        have Hp := Lib.hid hp
        clear hp
        go_wp2_with fail
        go_ret
        exact ⟨j, rfl, hb2, .inr ⟨j, x, rfl, Hx.out, Hp.out, HP.out⟩⟩
    · have HP2 : Hid (∀ z ∈ xs, P z = false) := by
        have h1 := HP.out
        rw [List.take_of_length_le (by omega)] at h1
        exact h1
      go_wp2_with fail
      go_ret
      exact ⟨-1, rfl, hb, .inl ⟨rfl, HP2.out⟩⟩
set_option maxHeartbeats 4000000 in
theorem hasFP_any (f : Nat) (caps : Array Value) (ef : ∀ args w, (callFunc f args).run Tryz.prog w = .ok (.enter f args) w) (P : PsQ → Bool) (N : Nat → Prop) (A : Option Addr) (c : Nat) (xs : List PsQ) (w : World) (hS : Sl rPsQ N w A xs) (hl : xs.length ≤ 1000000)
    (hf : ∀ y ∈ xs, ∀ w', Below w.heap.size w w' → Calls Tryz.prog f (#[.agg (psCs y.p y.A y.a y.B y.b)] ++ caps) w' fun e w'' => e = .returned (.bool (P y)) ∧ Below w'.heap.size w' w'') :
    Calls Tryz.prog 24 #[.slice A xs.length c, .func (.func f) #[] caps] w fun e w' => e = .returned (.bool (xs.any P)) ∧ Below w.heap.size w w' := by
  have Hi := Lib.hid (idxFP_any f caps ef P N A c xs w hS hl hf)
  clear hS hf
  obtain ⟨R, HR⟩ : ∃ R, Hid (xs.any P = R) := ⟨_, Lib.hid rfl⟩
  rw [HR.out]
  go_enter Tryz.func24, Tryz.ntmps24
  go_wp2_with fail
  ((with_reducible refine (Hi.out).mono ?_); rintro e w2 ⟨i, rfl, hb, hc⟩)
  have Hr : Hid (R = decide (0 ≤ i)) := HR.out.symm.trans (GivesIF.has hc).symm
  clear HR hc
  go_wp2_with fail
  go_ret
  exact ⟨ret_b Hr.out.symm, hb⟩
end Go.Proofs.YteabhkmhogmoiaaGreatDoor

/- slices.IndexFunc and DeleteFunc of ids, for any closure. -/
namespace Go.Proofs.YteabhkmhogmoiaaGreatDoor
open Go Go.RowKit
theorem Own.idAtQ {M : Nat → Prop} {B E g n cap : Nat} {w : World} {xs : List IdV} (h : Own rId M B E w (.slice (some ⟨g, 0, none⟩) n cap) xs) (hn : n = xs.length) (k : Nat) (x : IdV) (hk : xs[k]? = some x) :
    (w.cell? ⟨g, k * 2, none⟩ = some (.int .i64 x.k) ∧ w.cell? ⟨g, k * 2 + 1, none⟩ = some (.string x.t)) ∧ ∀ j, j < 2 → w.frozen? ⟨g, k * 2 + j, none⟩ = false :=
  ⟨⟨(h.cellP flatId hn k x hk 0 _ rfl).1, (h.cellP flatId hn k x hk 1 _ rfl).1⟩, fun j hj => by
    have : j = 0 ∨ j = 1 := by omega
    rcases this with rfl | rfl
    · exact (h.cellP flatId hn k x hk 0 _ rfl).2
    · exact (h.cellP flatId hn k x hk 1 _ rfl).2⟩
theorem Mem.putIdQ {w0 w : World} {cs : List Chunk} (S : Mem w0 w cs) (i : Nat) {B E g n cap : Nat} {ys : List IdV} (hi : cs[i]? = some (.own rId B E (.slice (some ⟨g, 0, none⟩) n cap) ys)) (hn : n = ys.length) (p : Nat) (z x : IdV) (hz : ys[p]? = some z) :
    Mem w0 ((w.setCell ⟨g, p * 2, none⟩ (.int .i64 x.k)).setCell ⟨g, p * 2 + 1, none⟩ (.string x.t)) (cs.set i (.own rId B E (.slice (some ⟨g, 0, none⟩) n cap) (ys.set p x))) := by
  have hp := lt_of_get hz
  have hci : i < cs.length := lt_of_get hi
  have S1 := S.put flatId i hi hn p z (⟨x.k, z.t⟩ : IdV) hz 0 (by decide) (.int .i64 x.k) rfl
  have S2 := S1.put flatId i (by rw [List.getElem?_set_self hci]) (by rw [List.length_set]; exact hn) p (⟨x.k, z.t⟩ : IdV) (⟨x.k, x.t⟩ : IdV) (by rw [List.getElem?_set_self hp]) 1 (by decide) (.string x.t) rfl
  simp only [List.set_set] at S2
  exact S2
theorem zeroIdS (w : World) : (zeroValue 35).run Tryz.prog w = .ok (.agg #[.int .i64 0, .string ⟨#[]⟩]) w := by kernel_rfl
theorem oneZI (j : Nat) (h : j < rId.size) : (((Value.agg #[.int .i64 0, .string ⟨#[]⟩]).cells)[j]!).oneCell' = true := by
  obtain rfl | rfl : j = 0 ∨ j = 1 := by
    have : j < 2 := h
    omega
  all_goals rfl
def CondJ (w0 : World) (cs : List Chunk) (B : Nat) (v : Value) (f : Nat) (caps : Array Value) (xs : List IdV) (P : IdV → Bool) : Prop :=
  ∀ (y : IdV) (w' : World) (ys : List IdV), y ∈ xs → Mem w0 w' (.own rId B 35 v ys :: cs) →
    Calls Tryz.prog f (#[.agg (#[.int .i64 y.k, .string y.t])] ++ caps) w' fun e w'' => e = .returned (.bool (P y)) ∧ Below w'.heap.size w' w''
def GivesIdxJ (P : IdV → Bool) (xs : List IdV) (w0 : World) (cs : List Chunk) (e : Ending) (w' : World) : Prop :=
  ∃ i : Int, e = .returned (.int .i64 i) ∧ Mem w0 w' cs ∧ ((i = -1 ∧ ∀ y ∈ xs, P y = false) ∨ ∃ (j : Nat) (y : IdV), i = j ∧ xs[j]? = some y ∧ P y = true ∧ ∀ z ∈ xs.take j, P z = false)
set_option maxHeartbeats 4000000 in
set_option maxRecDepth 100000 in
theorem idxJ_own {w0 w : World} {cs : List Chunk} {B g n cap : Nat} {xs : List IdV} (P : IdV → Bool) (f : Nat) (caps : Array Value) (ef : ∀ args w, (callFunc f args).run Tryz.prog w = .ok (.enter f args) w) (S : Mem w0 w (.own rId B 35 (.slice (some ⟨g, 0, none⟩) n cap) xs :: cs)) (hn : n = xs.length) (hl : n ≤ 1000000) (hf : CondJ w0 cs B (.slice (some ⟨g, 0, none⟩) n cap) f caps xs P) :
    Calls Tryz.prog 79 #[.slice (some ⟨g, 0, none⟩) n cap, .func (.func f) #[] caps] w (GivesIdxJ P xs w0 (.own rId B 35 (.slice (some ⟨g, 0, none⟩) n cap) xs :: cs)) := by
  unfold CondJ at hf
  have HF := Lib.hid hf
  have Hn := Lib.hid hn
  clear hf hn
  go_enter Tryz.func79, Tryz.ntmps79
  go_wp2_with fail
  go_loopw [8] (fun i wr => ∃ j : Nat, j ≤ n ∧ i = .int .i64 j ∧ Hid (∀ z ∈ xs.take j, P z = false) ∧ Mem w0 wr (.own rId B 35 (.slice (some ⟨g, 0, none⟩) n cap) xs :: cs)) (fun i _ => n - (intOf i).toNat)
  case atStart => exact ⟨0, Nat.zero_le _, rfl, (by show ∀ z ∈ _, _; simp), S⟩
  case round =>
    clear S
    obtain ⟨j, hj, rfl, HP, S⟩ := hrel
    by_cases hlt : j < n
    · obtain ⟨x, hx⟩ : ∃ x, xs[j]? = some x := ⟨_, List.getElem?_eq_getElem (by have := Hn.out; omega)⟩
      obtain ⟨⟨d0, d1⟩, _⟩ := (S.ow 0 rfl).idAtQ Hn.out j x hx
      have Hx := Lib.hid hx
      clear hx
      have HS := Lib.hid S
      clear S
      go_wp2_with fail
      ((with_reducible refine (HF.out x wr xs (List.mem_of_getElem? Hx.out) HS.out).mono ?_); rintro e w2 ⟨rfl, hl2⟩)
      have S := HS.out.below hl2
      clear hl2 d0 d1 HS
      cases hp : P x with
      | false =>
        have HP2 : Hid (∀ z ∈ xs.take (j + 1), P z = false) := fun z hz => by
          rw [take_snoc Hx.out] at hz
          rcases List.mem_append.1 hz with hz | hz
          · exact HP.out z hz
          · rw [List.mem_singleton.1 hz]; exact hp
        clear hp
        go_wp2_with fail
        go_roundw
        case rel => exact ⟨j + 1, by omega, by go_num, HP2, S⟩
        case measure => simp [intOf]; omega
      | true =>
        have Hp := Lib.hid hp
        clear hp
        go_wp2_with fail
        go_ret
        exact ⟨j, rfl, S, .inr ⟨j, x, rfl, Hx.out, Hp.out, HP.out⟩⟩
    · have HP2 : Hid (∀ z ∈ xs, P z = false) := by
        have h1 := HP.out
        rw [List.take_of_length_le (by have := Hn.out; omega)] at h1
        exact h1
      go_wp2_with fail
      go_ret
      exact ⟨-1, rfl, S, .inl ⟨rfl, HP2.out⟩⟩
theorem idxJ_nil (w : World) (f : Nat) (caps : Array Value) :
    Calls Tryz.prog 79 #[.slice none 0 0, .func (.func f) #[] caps] w fun e w' => e = .returned (.int .i64 (-1)) ∧ w = w' := by
  go_enter Tryz.func79, Tryz.ntmps79
  go_wp2_with fail
  go_loopw [8] (fun i wr => i = .int .i64 0 ∧ w = wr) (fun _ _ => 0)
  case atStart => exact ⟨rfl, rfl⟩
  case round =>
    obtain ⟨rfl, rfl⟩ := hrel
    go_wp2_with fail
    go_ret
    exact ⟨rfl, rfl⟩
def GivesDelJ (P : IdV → Bool) (xs : List IdV) (B : Nat) (w0 : World) (cs : List Chunk) (e : Ending) (w' : World) : Prop :=
  ∃ v, e = .returned v ∧ Mem w0 w' (.own rId B 35 v (xs.filter (keepE P)) :: cs)
set_option maxHeartbeats 8000000 in
set_option maxRecDepth 100000 in
theorem delJ_own {w0 w : World} {cs : List Chunk} {B g n cap : Nat} {xs : List IdV} (P : IdV → Bool) (f : Nat) (caps : Array Value) (ef : ∀ args w, (callFunc f args).run Tryz.prog w = .ok (.enter f args) w) (S : Mem w0 w (.own rId B 35 (.slice (some ⟨g, 0, none⟩) n cap) xs :: cs)) (hn : n = xs.length) (hl : n ≤ 1000000) (hf : CondJ w0 cs B (.slice (some ⟨g, 0, none⟩) n cap) f caps xs P) :
    Calls Tryz.prog 16 #[.slice (some ⟨g, 0, none⟩) n cap, .func (.func f) #[] caps] w (GivesDelJ P xs B w0 cs) := by
  have Hix := Lib.hid (idxJ_own P f caps ef S hn hl hf)
  unfold CondJ at hf
  have HF := Lib.hid hf
  have Hn := Lib.hid hn
  clear hf hn S
  go_enter Tryz.func16, Tryz.ntmps16
  go_wp2_with fail
  ((with_reducible refine (Hix.out).mono ?_); rintro e w2 ⟨i, rfl, S, hc⟩)
  clear Hix
  rcases hc with ⟨rfl, hall⟩ | ⟨j0, y0, rfl, hy0, hp0, hbef⟩
  · have Hk := Lib.hid (keepE_none hall)
    clear hall
    go_wp2_with fail
    go_ret
    refine ⟨_, rfl, ?_⟩
    rw [Hk.out]; exact S
  · have hj0 : j0 < n := by have := lt_of_get hy0; have := Hn.out; omega
    have HD : Hid (KeepAt P xs xs j0 (j0 + 1)) := by
      refine ⟨rfl, ?_, rfl, Nat.le_succ _⟩
      rw [take_snoc hy0, List.filter_append, keepE_none hbef]
      simp [keepE, hp0]
    clear hy0 hp0 hbef
    go_wp2_with fail
    go_loopw [5, 6] (fun s5 s6 wr => ∃ (i j : Nat) (ys : List IdV), s5 = .int .i64 i ∧ s6 = .int .i64 j ∧ i < j ∧ j ≤ n ∧ Hid (KeepAt P xs ys i j) ∧ Mem w0 wr (.own rId B 35 (.slice (some ⟨g, 0, none⟩) n cap) ys :: cs)) (fun _ s6 _ => n - (intOf s6).toNat)
    case atStart => exact ⟨j0, j0 + 1, xs, rfl, by go_num, by omega, by omega, HD, S⟩
    case round =>
      clear S HD
      obtain ⟨i, j, ys, rfl, rfl, hij, hj, HD, S⟩ := hrel
      by_cases hlt : j < n
      · obtain ⟨x, hx⟩ : ∃ x, ys[j]? = some x := ⟨_, List.getElem?_eq_getElem (by have := Hn.out; have := HD.out.len; omega)⟩
        have hyl : Hid (n = ys.length) := by show _ = _; have := Hn.out; have := HD.out.len; omega
        obtain ⟨⟨d0, d1⟩, _⟩ := (S.ow 0 rfl).idAtQ hyl.out j x hx
        have Hx := Lib.hid hx
        clear hx
        go_upto_region 8 with fail
        clear d0 d1
        obtain ⟨Y, hY⟩ : ∃ Y, Y = wr.heap.size := ⟨_, rfl⟩
        have Ly := LV.new wr wr.heap.size (#[.int .i64 x.k, .string x.t]) 35 rfl
        replace S := S.alloc (.cells (#[.int .i64 x.k, .string x.t]) 35)
        rw [← hY] at Ly ⊢
        have hYl : Y < (wr.alloc (.cells (#[.int .i64 x.k, .string x.t]) 35)).heap.size := by rw [hY]; simp
        clear hY
        generalize wr.alloc (.cells (#[.int .i64 x.k, .string x.t]) 35) = w3 at *
        have c0 := Ly.all
        have HS := Lib.hid S
        clear S
        go_wp2_with fail
        ((with_reducible refine (HF.out x w3 ys (List.mem_of_getElem? (HD.out.get Hx.out)) HS.out).mono ?_); rintro e w4 ⟨rfl, hl4⟩)
        have HS4 := Lib.hid (HS.out.below hl4)
        have Ly4 := LV.kb3 Ly hl4 hYl
        clear hl4 HS c0 Ly
        have c0 := Ly4.all
        cases hp : P x with
        | true =>
          have HD2 := Lib.hid (HD.out.skip Hx.out hp)
          clear hp HD
          go_wp2_with fail
          go_roundw
          case rel => exact ⟨_, _, _, _, _, _, _, _, _, _, _, _, _, _, _, _, _, _, _, _, _, _, _, ⟨i, j + 1, ys, rfl, by go_num, by omega, by omega, HD2, HS4.out⟩, rfl⟩
          case measure => simp [intOf]; omega
        | false =>
          have HD2 := Lib.hid (HD.out.put hij Hx.out hp)
          clear hp HD
          obtain ⟨z, hz⟩ : ∃ z, ys[i]? = some z := ⟨_, List.getElem?_eq_getElem (by have := hyl.out; omega)⟩
          obtain ⟨⟨e0, e1⟩, ff⟩ := (HS4.out.ow 0 rfl).idAtQ hyl.out i z hz
          have f0 : w4.frozen? ⟨g, i * 2, none⟩ = false := ff 0 (by omega)
          have f1 := ff 1 (by omega)
          have Hz := Lib.hid hz
          clear hz ff
          go_wp2_with fail
          have S1 := HS4.out.putIdQ 0 rfl hyl.out i z x Hz.out
          simp only [List.set_cons_zero] at S1
          go_roundw
          case rel => exact ⟨_, _, _, _, _, _, _, _, _, _, _, _, _, _, _, _, _, _, _, _, _, _, _, ⟨i + 1, j + 1, ys.set i x, by go_num, by go_num, by omega, by omega, HD2, S1⟩, rfl⟩
          case measure => simp [intOf]; omega
      · have hyl : Hid (n = ys.length) := by show _ = _; have := Hn.out; have := HD.out.len; omega
        have HT : Hid (ys.take i = xs.filter (keepE P)) := by
          show _ = _
          rw [HD.out.front, List.take_of_length_le (by have := Hn.out; omega)]
        have HTl : Hid (i = (xs.filter (keepE P)).length) := by show _ = _; rw [← HT.out, List.length_take]; have := hyl.out; omega
        clear HD
        have hcap : n ≤ cap := by
          obtain ⟨g2, cap2, e2, h2⟩ := (S.ow 0 rfl).form (by have := hyl.out; omega)
          have := hyl.out
          simp only [Value.slice.injEq] at e2
          omega
        go_wp2_with (refine S.clearTail 0 rfl hyl.out tyIdP zeroIdS oneZI i (cap - i) (by omega) rfl _ rfl (i * 2) (n - i) rfl rfl rfl ?_; intro w5 S5)
        go_ret
        refine ⟨_, rfl, ?_⟩
        rw [HT.out] at S5
        exact S5
theorem delJ_any {w0 w : World} {cs : List Chunk} {B : Nat} {v : Value} {xs : List IdV} (P : IdV → Bool) (f : Nat) (caps : Array Value) (ef : ∀ args w, (callFunc f args).run Tryz.prog w = .ok (.enter f args) w) (S : Mem w0 w (.own rId B 35 v xs :: cs)) (hl : xs.length ≤ 1000000) (hf : CondJ w0 cs B v f caps xs P) :
    Calls Tryz.prog 16 #[v, .func (.func f) #[] caps] w (GivesDelJ P xs B w0 cs) := by
  rcases (S.ow 0 rfl).shape2 with ⟨rfl, rfl⟩ | ⟨g, cap, rfl, hc⟩
  · clear hf
    go_enter Tryz.func16, Tryz.ntmps16
    go_wp2_with fail
    ((with_reducible refine (idxJ_nil w f caps).mono ?_); rintro e _ ⟨rfl, rfl⟩)
    go_wp2_with fail
    go_ret
    exact ⟨_, rfl, S⟩
  · exact delJ_own P f caps ef S rfl hl hf
end Go.Proofs.YteabhkmhogmoiaaGreatDoor

/- slices.Concat of two lists of persons: the rows, and what they stand for. -/
namespace Go.Proofs.YteabhkmhogmoiaaGreatDoor
open Go Go.RowKit
def sumP (a s : Nat) : Nat → Nat
  | 0 => 0
  | 1 => a
  | _ => s
def appP (l1 l2 : List PsQ) : Nat → List PsQ
  | 0 => []
  | 1 => l1
  | _ => l1 ++ l2
def GivesOwnP (l : List PsQ) (w : World) (e : Ending) (w' : World) : Prop := ∃ v, e = .returned v ∧ Mem w w' [.own rPsQ w.heap.size 38 v l]
theorem psq_of {N : Nat → Prop} {w : World} {A : Option Addr} {P : List Psn} (h : Sl rPsn N w A P) : ∃ qs : List PsQ, qs.map PsQ.p = P ∧ Sl rPsQ N w A qs ∧ PdOk N w qs := by
  have hx : ∀ i : Fin P.length, ∃ q : PsQ, q.p = P[i] ∧ ∃ blk off, A = some ⟨blk, off, none⟩ ∧ blk < w.heap.size ∧ ¬ N blk ∧ (∀ j u, q.cells[j]? = some u → w.cell? ⟨blk, off + i.1 * 4 + j, none⟩ = some u) ∧ Sl rInt N w q.A q.p.tch ∧ Sl rId N w q.B q.p.ids := fun i => by
    obtain ⟨blk, off, l, e1, h1, h2, h3, h4⟩ := h i.1 P[i] (List.getElem?_eq_getElem i.2)
    obtain ⟨At, a, Ai, b, rfl, hi, hf⟩ := rPsn_of h3
    exact ⟨⟨P[i], At, a, Ai, b⟩, rfl, blk, off, e1, h1, h2, h4, hi, hf⟩
  refine ⟨List.ofFn (fun i => (hx i).choose), ?_, fun i x hi => ?_, fun q hq => ?_⟩
  · apply List.ext_getElem
    · simp
    · intro i h1 h2
      rw [List.getElem_map, List.getElem_ofFn]
      exact (hx ⟨i, h2⟩).choose_spec.1
  · have hl : i < P.length := by have := lt_of_get hi; simpa using this
    rw [List.getElem?_eq_getElem (by simpa using hl), List.getElem_ofFn] at hi
    obtain ⟨_, blk, off, e1, h1, h2, h4, _⟩ := (hx ⟨i, hl⟩).choose_spec
    rw [Option.some.inj hi] at h4
    exact ⟨blk, off, _, e1, h1, h2, rfl, h4⟩
  · obtain ⟨i, rfl⟩ := List.mem_ofFn.1 hq
    obtain ⟨_, _, _, _, _, _, _, h5⟩ := (hx i).choose_spec
    exact h5
end Go.Proofs.YteabhkmhogmoiaaGreatDoor
