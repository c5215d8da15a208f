/- Several texts in one: DelS, CloneS, GenStm2, GenAsked2, ChgNo, AskP, ChgRef, LawChg. -/
import Derived.Test.YthmkphmciiiagaaGreatDoorPackH
import Derived.Test.YthmkphmciiiagaaGreatDoorPackD
import Derived.Lib.SliceRun
import Derived.Test.YthmkphmciiiagaaGreatDoorPackA
import Derived.Test.YthmkphmciiiagaaGreatDoorChgLaw
import Derived.Test.YthmkphmciiiagaaGreatDoorWanted
import Derived.Test.YthmkphmciiiagaaGreatDoorProof
import Derived.Test.YthmkphmciiiagaaGreatDoorAsked
import Derived.Test.YthmkphmciiiagaaGreatDoorLawAsk
/- What slices.Clone and slices.DeleteFunc make of statements, with the condition of handref2.AskOf. -/
namespace Go.Proofs.YthmkphmciiiagaaGreatDoor
open Go Go.RowKit
theorem Own.stmAt {M : Nat → Prop} {B E g n cap : Nat} {w : World} {xs : List Stm} (h : Own rStm M B E w (.slice (some ⟨g, 0, none⟩) n cap) xs) (hn : n = xs.length) (k : Nat) (x : Stm) (hk : xs[k]? = some x) :
    (w.cell? ⟨g, k * 8, none⟩ = some (.int .i64 x.no) ∧ w.cell? ⟨g, k * 8 + 1, none⟩ = some (.int .i64 x.at') ∧ w.cell? ⟨g, k * 8 + 2, none⟩ = some (.int .i64 x.kind) ∧ w.cell? ⟨g, k * 8 + 3, none⟩ = some (.string x.text) ∧ w.cell? ⟨g, k * 8 + 4, none⟩ = some (.string x.purpose) ∧ w.cell? ⟨g, k * 8 + 5, none⟩ = some (.string x.region) ∧ w.cell? ⟨g, k * 8 + 6, none⟩ = some (.int .i64 x.channel) ∧ w.cell? ⟨g, k * 8 + 7, none⟩ = some (.int .i64 x.what)) ∧ (w.frozen? ⟨g, k * 8, none⟩ = false ∧ w.frozen? ⟨g, k * 8 + 1, none⟩ = false ∧ w.frozen? ⟨g, k * 8 + 2, none⟩ = false ∧ w.frozen? ⟨g, k * 8 + 3, none⟩ = false ∧ w.frozen? ⟨g, k * 8 + 4, none⟩ = false ∧ w.frozen? ⟨g, k * 8 + 5, none⟩ = false ∧ w.frozen? ⟨g, k * 8 + 6, none⟩ = false ∧ w.frozen? ⟨g, k * 8 + 7, none⟩ = false) :=
  ⟨⟨(h.cellP flatStm hn k x hk 0 _ rfl).1, (h.cellP flatStm hn k x hk 1 _ rfl).1, (h.cellP flatStm hn k x hk 2 _ rfl).1, (h.cellP flatStm hn k x hk 3 _ rfl).1, (h.cellP flatStm hn k x hk 4 _ rfl).1, (h.cellP flatStm hn k x hk 5 _ rfl).1, (h.cellP flatStm hn k x hk 6 _ rfl).1, (h.cellP flatStm hn k x hk 7 _ rfl).1⟩, (h.cellP flatStm hn k x hk 0 _ rfl).2, (h.cellP flatStm hn k x hk 1 _ rfl).2, (h.cellP flatStm hn k x hk 2 _ rfl).2, (h.cellP flatStm hn k x hk 3 _ rfl).2, (h.cellP flatStm hn k x hk 4 _ rfl).2, (h.cellP flatStm hn k x hk 5 _ rfl).2, (h.cellP flatStm hn k x hk 6 _ rfl).2, (h.cellP flatStm hn k x hk 7 _ rfl).2⟩
abbrev objB (s : Stm) : Bool := decide (s.what = 4)
theorem askObj_any (y : Stm) (w : World) : Calls Tryz.prog 68 #[.agg (stmCs y)] w fun e w' => e = .returned (.bool (objB y)) ∧ Below w.heap.size w w' := by
  have S := (Mem.start w).new' (stmCs y) 38
  have c0 := (S.lv 0 rfl).all
  go_enter Tryz.func68, Tryz.ntmps68
  go_wp2_with fail
  go_ret
  refine ⟨ret_b ?_, S.b⟩
  unfold objB
  rw [Bool.eq_iff_iff]
  simp
def GivesSix (P : Stm → Bool) (xs : List Stm) (w0 : World) (cs : List Chunk) (e : Ending) (w' : World) : Prop :=
  ∃ i : Int, e = .returned (.int .i64 i) ∧ Mem w0 w' cs ∧ ((i = -1 ∧ ∀ y ∈ xs, P y = false) ∨ ∃ (j : Nat) (y : Stm), i = j ∧ xs[j]? = some y ∧ P y = true ∧ ∀ z ∈ xs.take j, P z = false)
set_option maxHeartbeats 4000000 in
set_option maxRecDepth 100000 in
theorem idxS_any {w0 w : World} {cs : List Chunk} {B g n cap : Nat} {xs : List Stm} (S : Mem w0 w (.own rStm B 38 (.slice (some ⟨g, 0, none⟩) n cap) xs :: cs)) (hn : n = xs.length) (hl : n ≤ 1000000) :
    Calls Tryz.prog 143 #[.slice (some ⟨g, 0, none⟩) n cap, .func (.func 68) #[] #[]] w (GivesSix objB xs w0 (.own rStm B 38 (.slice (some ⟨g, 0, none⟩) n cap) xs :: cs)) := by
  have Hn := Lib.hid hn
  clear hn
  go_enter Tryz.func143, Tryz.ntmps143
  go_wp2_with fail
  go_loopw [8] (fun i wr => ∃ j : Nat, j ≤ n ∧ i = .int .i64 j ∧ Hid (∀ z ∈ xs.take j, objB z = false) ∧ Mem w0 wr (.own rStm B 38 (.slice (some ⟨g, 0, none⟩) n cap) xs :: cs)) (fun i _ => n - (intOf i).toNat)
  case atStart => exact ⟨0, Nat.zero_le _, rfl, (by show ∀ z ∈ _, _; simp), S⟩
  case round =>
    clear S
    obtain ⟨j, hj, rfl, HP, S⟩ := hrel
    by_cases hlt : j < n
    · obtain ⟨x, hx⟩ : ∃ x, xs[j]? = some x := ⟨_, List.getElem?_eq_getElem (by have := Hn.out; omega)⟩
      obtain ⟨⟨d0, d1, d2, d3, d4, d5, d6, d7⟩, _⟩ := (S.ow 0 rfl).stmAt Hn.out j x hx
      have Hx := Lib.hid hx
      clear hx
      have HS := Lib.hid S
      clear S
      go_wp2_with fail
      ((with_reducible refine (askObj_any x wr).mono ?_); rintro e w2 ⟨rfl, hl2⟩)
      have S := HS.out.below hl2
      clear hl2 d0 d1 d2 d3 d4 d5 d6 d7 HS
      cases hp : objB x with
      | false =>
        have HP2 : Hid (∀ z ∈ xs.take (j + 1), objB z = false) := fun z hz => by
          rw [take_snoc Hx.out] at hz
          rcases List.mem_append.1 hz with hz | hz
          · exact HP.out z hz
          · rw [List.mem_singleton.1 hz]; exact hp
        clear hp
        go_wp2_with fail
        go_roundw
        case rel => exact ⟨j + 1, by omega, by go_num, HP2, S⟩
        case measure => simp [intOf]; omega
      | true =>
        have Hp := Lib.hid hp
        clear hp
        go_wp2_with fail
        go_ret
        exact ⟨j, rfl, S, .inr ⟨j, x, rfl, Hx.out, Hp.out, HP.out⟩⟩
    · have HP2 : Hid (∀ z ∈ xs, objB z = false) := by
        have h1 := HP.out
        rw [List.take_of_length_le (by have := Hn.out; omega)] at h1
        exact h1
      go_wp2_with fail
      go_ret
      exact ⟨-1, rfl, S, .inl ⟨rfl, HP2.out⟩⟩
theorem zeroStm (w : World) : (zeroValue 38).run Tryz.prog w = .ok (.agg #[.int .i64 0, .int .i64 0, .int .i64 0, .string ⟨#[]⟩, .string ⟨#[]⟩, .string ⟨#[]⟩, .int .i64 0, .int .i64 0]) w := by kernel_rfl
theorem oneZS (j : Nat) (h : j < rStm.size) : (((Value.agg #[.int .i64 0, .int .i64 0, .int .i64 0, .string ⟨#[]⟩, .string ⟨#[]⟩, .string ⟨#[]⟩, .int .i64 0, .int .i64 0]).cells)[j]!).oneCell' = true := by
  obtain rfl | rfl | rfl | rfl | rfl | rfl | rfl | rfl : j = 0 ∨ j = 1 ∨ j = 2 ∨ j = 3 ∨ j = 4 ∨ j = 5 ∨ j = 6 ∨ j = 7 := by
    have : j < 8 := h
    omega
  all_goals rfl
def keepS (P : Stm → Bool) (x : Stm) : Bool := !P x
theorem keepS_none {P : Stm → Bool} {xs : List Stm} (h : ∀ y ∈ xs, P y = false) : xs.filter (keepS P) = xs := List.filter_eq_self.2 fun y hy => by simp [keepS, h y hy]
/-- the front that is settled, and the rest as it was -/
structure SelAt (P : Stm → Bool) (xs ys : List Stm) (i j : Nat) : Prop where
  len : ys.length = xs.length
  front : ys.take i = (xs.take j).filter (keepS P)
  rest : ys.drop j = xs.drop j
  le : i ≤ j
theorem SelAt.get {P : Stm → Bool} {xs ys : List Stm} {i j : Nat} (h : SelAt P xs ys i j) {x : Stm} (hx : ys[j]? = some x) : xs[j]? = some x := by
  have h1 := congrArg (fun l : List Stm => l[0]?) h.rest
  simp only [List.getElem?_drop, Nat.add_zero] at h1
  rw [← h1]; exact hx
theorem SelAt.skip {P : Stm → Bool} {xs ys : List Stm} {i j : Nat} (h : SelAt P xs ys i j) {x : Stm} (hx : ys[j]? = some x) (hp : P x = true) : SelAt P xs ys i (j + 1) := by
  refine ⟨h.len, ?_, ?_, Nat.le_succ_of_le h.le⟩
  · rw [take_snoc (h.get hx), List.filter_append, h.front]
    simp [keepS, hp]
  · have h1 := congrArg (List.drop 1) h.rest
    rw [List.drop_drop, List.drop_drop] at h1
    exact h1
theorem SelAt.put {P : Stm → Bool} {xs ys : List Stm} {i j : Nat} (h : SelAt P xs ys i j) (hij : i < j) {x : Stm} (hx : ys[j]? = some x) (hp : P x = false) : SelAt P xs (ys.set i x) (i + 1) (j + 1) := by
  have hi : i < ys.length := by have := lt_of_get hx; omega
  refine ⟨by rw [List.length_set, h.len], ?_, ?_, by omega⟩
  · rw [take_snoc (h.get hx), List.filter_append, ← h.front, List.take_set, take_snoc (x := ys[i]) (List.getElem?_eq_getElem hi)]
    have hl : (ys.take i).length = i := by rw [List.length_take]; omega
    rw [List.set_append_right _ _ (by omega), hl, Nat.sub_self]
    simp [keepS, hp]
  · rw [List.drop_set_of_lt (by omega)]
    have h1 := congrArg (List.drop 1) h.rest
    rw [List.drop_drop, List.drop_drop] at h1
    exact h1
def GivesSel (P : Stm → Bool) (xs : List Stm) (B g cap : Nat) (w0 : World) (cs : List Chunk) (e : Ending) (w' : World) : Prop :=
  e = .returned (.slice (some ⟨g, 0, none⟩) (xs.filter (keepS P)).length cap) ∧ Mem w0 w' (.own rStm B 38 (.slice (some ⟨g, 0, none⟩) (xs.filter (keepS P)).length cap) (xs.filter (keepS P)) :: cs)
set_option maxHeartbeats 8000000 in
set_option maxRecDepth 100000 in
theorem delS_any {w0 w : World} {cs : List Chunk} {B g n cap : Nat} {xs : List Stm} (S : Mem w0 w (.own rStm B 38 (.slice (some ⟨g, 0, none⟩) n cap) xs :: cs)) (hn : n = xs.length) (hl : n ≤ 1000000) :
    Calls Tryz.prog 67 #[.slice (some ⟨g, 0, none⟩) n cap, .func (.func 68) #[] #[]] w (GivesSel objB xs B g cap w0 cs) := by
  have Hix := Lib.hid (idxS_any S hn hl)
  have Hn := Lib.hid hn
  clear hn S
  go_enter Tryz.func67, Tryz.ntmps67
  go_wp2_with fail
  ((with_reducible refine (Hix.out).mono ?_); rintro e w2 ⟨i, rfl, S, hc⟩)
  clear Hix
  rcases hc with ⟨rfl, hall⟩ | ⟨j0, y0, rfl, hy0, hp0, hbef⟩
  · have Hk := Lib.hid (keepS_none hall)
    clear hall
    go_wp2_with fail
    go_ret
    refine ⟨?_, ?_⟩
    · rw [Hk.out, ← Hn.out]; rfl
    · rw [Hk.out, ← Hn.out]; exact S
  · have hj0 : j0 < n := by have := lt_of_get hy0; have := Hn.out; omega
    have HD : Hid (SelAt objB xs xs j0 (j0 + 1)) := by
      refine ⟨rfl, ?_, rfl, Nat.le_succ _⟩
      rw [take_snoc hy0, List.filter_append, keepS_none hbef]
      simp [keepS, hp0]
    clear hy0 hp0 hbef
    go_wp2_with fail
    go_loopw [5, 6] (fun s5 s6 wr => ∃ (i j : Nat) (ys : List Stm), s5 = .int .i64 i ∧ s6 = .int .i64 j ∧ i < j ∧ j ≤ n ∧ Hid (SelAt objB xs ys i j) ∧ Mem w0 wr (.own rStm B 38 (.slice (some ⟨g, 0, none⟩) n cap) ys :: cs)) (fun _ s6 _ => n - (intOf s6).toNat)
    case atStart => exact ⟨j0, j0 + 1, xs, rfl, by go_num, by omega, by omega, HD, S⟩
    case round =>
      clear S HD
      obtain ⟨i, j, ys, rfl, rfl, hij, hj, HD, S⟩ := hrel
      by_cases hlt : j < n
      · obtain ⟨x, hx⟩ : ∃ x, ys[j]? = some x := ⟨_, List.getElem?_eq_getElem (by have := Hn.out; have := HD.out.len; omega)⟩
        have hyl : Hid (n = ys.length) := by show _ = _; have := Hn.out; have := HD.out.len; omega
        obtain ⟨⟨d0, d1, d2, d3, d4, d5, d6, d7⟩, _⟩ := (S.ow 0 rfl).stmAt hyl.out j x hx
        have Hx := Lib.hid hx
        clear hx
        go_upto_region 8 with fail
        clear d0 d1 d2 d3 d4 d5 d6 d7
        obtain ⟨Y, hY⟩ : ∃ Y, Y = wr.heap.size := ⟨_, rfl⟩
        have Ly := LV.new wr wr.heap.size (stmCs x) 38 rfl
        replace S := S.alloc (.cells (stmCs x) 38)
        rw [← hY] at Ly ⊢
        have hYl : Y < (wr.alloc (.cells (stmCs x) 38)).heap.size := by rw [hY]; simp
        clear hY
        generalize wr.alloc (.cells (stmCs x) 38) = w3 at *
        have c0 := Ly.all
        have HS := Lib.hid S
        clear S
        go_wp2_with fail
        ((with_reducible refine (askObj_any x w3).mono ?_); rintro e w4 ⟨rfl, hl4⟩)
        have HS4 := Lib.hid (HS.out.below hl4)
        have Ly4 := LV.kb3 Ly hl4 hYl
        clear hl4 HS c0 Ly
        have c0 := Ly4.all
        cases hp : objB x with
        | true =>
          have HD2 := Lib.hid (HD.out.skip Hx.out hp)
          clear hp HD
          go_wp2_with fail
          go_roundw
          case rel => exact ⟨_, _, _, _, _, _, _, _, _, _, _, _, _, _, _, _, _, _, _, _, _, _, _, ⟨i, j + 1, ys, rfl, by go_num, by omega, by omega, HD2, HS4.out⟩, rfl⟩
          case measure => simp [intOf]; omega
        | false =>
          have HD2 := Lib.hid (HD.out.put hij Hx.out hp)
          clear hp HD
          obtain ⟨z, hz⟩ : ∃ z, ys[i]? = some z := ⟨_, List.getElem?_eq_getElem (by have := hyl.out; omega)⟩
          obtain ⟨⟨e0, e1, e2, e3, e4, e5, e6, e7⟩, f0, f1, f2, f3, f4, f5, f6, f7⟩ := (HS4.out.ow 0 rfl).stmAt hyl.out i z hz
          have Hz := Lib.hid hz
          clear hz
          go_wp2_with fail
          have S1 := HS4.out.put flatStm 0 rfl hyl.out i z (⟨x.no, z.at', z.kind, z.text, z.purpose, z.region, z.channel, z.what⟩ : Stm) Hz.out 0 (by decide) (.int .i64 x.no) rfl
          simp only [List.set_cons_zero] at S1
          have S2 := S1.put flatStm 0 rfl (by rw [List.length_set]; exact hyl.out) i (⟨x.no, z.at', z.kind, z.text, z.purpose, z.region, z.channel, z.what⟩ : Stm) (⟨x.no, x.at', z.kind, z.text, z.purpose, z.region, z.channel, z.what⟩ : Stm) (by rw [List.getElem?_set_self (by have := hyl.out; omega)]) 1 (by decide) (.int .i64 x.at') rfl
          simp only [List.set_cons_zero, List.set_set] at S2
          have S3 := S2.put flatStm 0 rfl (by rw [List.length_set]; exact hyl.out) i (⟨x.no, x.at', z.kind, z.text, z.purpose, z.region, z.channel, z.what⟩ : Stm) (⟨x.no, x.at', x.kind, z.text, z.purpose, z.region, z.channel, z.what⟩ : Stm) (by rw [List.getElem?_set_self (by have := hyl.out; omega)]) 2 (by decide) (.int .i64 x.kind) rfl
          simp only [List.set_cons_zero, List.set_set] at S3
          have S4 := S3.put flatStm 0 rfl (by rw [List.length_set]; exact hyl.out) i (⟨x.no, x.at', x.kind, z.text, z.purpose, z.region, z.channel, z.what⟩ : Stm) (⟨x.no, x.at', x.kind, x.text, z.purpose, z.region, z.channel, z.what⟩ : Stm) (by rw [List.getElem?_set_self (by have := hyl.out; omega)]) 3 (by decide) (.string x.text) rfl
          simp only [List.set_cons_zero, List.set_set] at S4
          have S5 := S4.put flatStm 0 rfl (by rw [List.length_set]; exact hyl.out) i (⟨x.no, x.at', x.kind, x.text, z.purpose, z.region, z.channel, z.what⟩ : Stm) (⟨x.no, x.at', x.kind, x.text, x.purpose, z.region, z.channel, z.what⟩ : Stm) (by rw [List.getElem?_set_self (by have := hyl.out; omega)]) 4 (by decide) (.string x.purpose) rfl
          simp only [List.set_cons_zero, List.set_set] at S5
          have S6 := S5.put flatStm 0 rfl (by rw [List.length_set]; exact hyl.out) i (⟨x.no, x.at', x.kind, x.text, x.purpose, z.region, z.channel, z.what⟩ : Stm) (⟨x.no, x.at', x.kind, x.text, x.purpose, x.region, z.channel, z.what⟩ : Stm) (by rw [List.getElem?_set_self (by have := hyl.out; omega)]) 5 (by decide) (.string x.region) rfl
          simp only [List.set_cons_zero, List.set_set] at S6
          have S7 := S6.put flatStm 0 rfl (by rw [List.length_set]; exact hyl.out) i (⟨x.no, x.at', x.kind, x.text, x.purpose, x.region, z.channel, z.what⟩ : Stm) (⟨x.no, x.at', x.kind, x.text, x.purpose, x.region, x.channel, z.what⟩ : Stm) (by rw [List.getElem?_set_self (by have := hyl.out; omega)]) 6 (by decide) (.int .i64 x.channel) rfl
          simp only [List.set_cons_zero, List.set_set] at S7
          have S8 := S7.put flatStm 0 rfl (by rw [List.length_set]; exact hyl.out) i (⟨x.no, x.at', x.kind, x.text, x.purpose, x.region, x.channel, z.what⟩ : Stm) x (by rw [List.getElem?_set_self (by have := hyl.out; omega)]) 7 (by decide) (.int .i64 x.what) rfl
          simp only [List.set_cons_zero, List.set_set] at S8
          rw [show rStm.size = 8 from rfl] at S8
          go_roundw
          case rel => exact ⟨_, _, _, _, _, _, _, _, _, _, _, _, _, _, _, _, _, _, _, _, _, _, _, ⟨i + 1, j + 1, ys.set i x, by go_num, by go_num, by omega, by omega, HD2, S8⟩, rfl⟩
          case measure => simp [intOf]; omega
      · have hyl : Hid (n = ys.length) := by show _ = _; have := Hn.out; have := HD.out.len; omega
        have HT : Hid (ys.take i = xs.filter (keepS objB)) := by
          show _ = _
          rw [HD.out.front, List.take_of_length_le (by have := Hn.out; omega)]
        have HTl : Hid (i = (xs.filter (keepS objB)).length) := by show _ = _; rw [← HT.out, List.length_take]; have := hyl.out; omega
        clear HD
        have hcap : n ≤ cap := by
          obtain ⟨g2, cap2, e2, h2⟩ := (S.ow 0 rfl).form (by have := hyl.out; omega)
          have := hyl.out
          simp only [Value.slice.injEq] at e2
          omega
        go_wp2_with (refine S.clearTail 0 rfl hyl.out tyStmS zeroStm oneZS i (cap - i) (by omega) rfl _ rfl (i * 8) (n - i) rfl rfl rfl ?_; intro w5 S5)
        go_ret
        refine ⟨?_, ?_⟩
        · rw [← HTl.out]; rfl
        · rw [HT.out] at S5
          rw [← HTl.out]
          exact S5
end Go.Proofs.YthmkphmciiiagaaGreatDoor

/- What slices.Clone makes of statements. -/
namespace Go.Proofs.YthmkphmciiiagaaGreatDoor
open Go Go.RowKit
set_option maxHeartbeats 4000000 in
set_option maxRecDepth 100000 in
theorem cloneS_any (A : Option Addr) (l : List Stm) (c : Nat) (w : World) (hL : Sl rStm (fun _ => False) w A l) (hl : l.length ≤ 1000) (hc : A = none → c = 0) :
    Calls Tryz.prog 30 #[.slice A l.length c] w fun e w' => ∃ v, e = .returned v ∧ Mem w w' [.own rStm w.heap.size 38 v l] := by
  have he : ∀ (a : Option Addr) (n c : Nat) (w : World), (binOp .eql 27 (.slice a n c) (.slice none 0 0)).run Tryz.prog w = .ok (.bool a.isNone) w := fun a n c w => Lib.run_eql_slice_nil w _ _ a n c 0 0 tyStmS.under
  cases A with
  | none =>
    obtain rfl := sl_none hL
    obtain rfl := hc rfl
    go_enter Tryz.func30, Tryz.ntmps30
    go_wp2_with fail
    go_ret
    exact ⟨_, rfl, (Mem.start w).nil rStm w.heap.size 38⟩
  | some ad =>
    have S := (Mem.start w).newAt #[] 38 w.heap.size rfl
    have S1 : Mem w (w.alloc (.cells #[] 38)) [.own rStm w.heap.size 38 (.slice (some ⟨w.heap.size, 0, none⟩) 0 0) []] := S.room (r := rStm) 0 rfl rfl (by decide) rfl
    have Hc := Lib.hid (cells_sl (hL.keepB S1.b))
    have hsz := S1.b.size
    have HS := Lib.hid S1
    have Hl := Lib.hid hl
    clear S S1 hL hl hc
    go_enter Tryz.func30, Tryz.ntmps30
    go_wp2_with (at_builtin; refine HS.out.appN flatStm 0 rfl tyStmS rfl _ _ rfl l l.length c rfl rfl ad rfl Hc.out (fun y _ => oneStmS y) (fun _ => rfl) hsz (by simp only [List.length_nil]; have := Hl.out; omega) (by decide) ?_; intro v5 w5 S5)
    go_ret
    exact ⟨_, rfl, S5⟩
end Go.Proofs.YthmkphmciiiagaaGreatDoor

/- What the generators RightStatements and Statements make, with a word on the numbers: all but one are small. -/
namespace Go.Proofs.YthmkphmciiiagaaGreatDoor
open Go.RowKit
structure StmSn (s : Stm) : Prop where
  sm : StmSm s
  no : s.no ≤ 1000
/-- all numbers but one are small -/
def FewNo (l : List Stm) : Prop := ∃ k : Nat, ∀ i s, l[i]? = some s → i ≠ k → s.no ≤ 1000
theorem fewNo_all {l : List Stm} (h : ∀ s ∈ l, StmSn s) : FewNo l := ⟨0, fun _ s hs _ => (h s (List.mem_of_getElem? hs)).no⟩
theorem fewNo_set {l : List Stm} (h : ∀ s ∈ l, StmSn s) (k : Nat) (y : Stm) : FewNo (l.set k y) := ⟨k, fun i s hs hi => by
  rw [List.getElem?_set_ne (Ne.symm hi)] at hs
  exact (h s (List.mem_of_getElem? hs)).no⟩
theorem fewNo_app {l : List Stm} (h : ∀ s ∈ l, StmSn s) (y : Stm) (hy : StmSn y) : FewNo (l ++ [y]) := fewNo_all fun s hs => by
  rcases List.mem_append.1 hs with hs | hs
  · exact h s hs
  · rw [List.mem_singleton.1 hs]; exact hy
def DrawsStmsN (b m n : Nat) (w : World) (e : Ending) (w' : World) : Prop := ∃ (v : Value) (l : List Stm), e = .returned v ∧ l.length ≤ n ∧ (∀ s ∈ l, StmSn s) ∧ St b m w w' [.own rStm w.heap.size 38 v l]
def DrawsStms2 (b m n : Nat) (w : World) (e : Ending) (w' : World) : Prop := ∃ (v : Value) (l : List Stm), e = .returned v ∧ l.length ≤ n ∧ (∀ s ∈ l, StmSm s) ∧ FewNo l ∧ St b m w w' [.own rStm w.heap.size 38 v l]
set_option maxHeartbeats 8000000 in
set_option maxRecDepth 100000 in
theorem rightStms_any2 (b m n : Nat) (A : Option Addr) (xs : List Purp) (c : Nat) (w : World) (hs : Strm b m w) (hm : m ≤ 1000000000) (hn : n ≤ 100) (hP : Pool w) (hPb : 0 ≠ b) (hS : Sl rPurp (Off b) w A xs) (hsm : ∀ p ∈ xs, p.name.size ≤ 1000) (hl : xs.length ≤ 1000) :
    Calls Tryz.prog 31 #[.pointer (some ⟨b, 0, none⟩), .slice A xs.length c, .int .i64 n] w (DrawsStmsN b (m + 8 * n) n w) := by
  have S := (St.start hs).nil rStm w.heap.size 38
  have HP := Lib.hid hP
  have HS := Lib.hid hS
  have Hsm := Lib.hid hsm
  clear hs hP hS hsm
  go_enter Tryz.func31, Tryz.ntmps31
  go_wp2_with fail
  go_loopw [7, 8, 11] (fun s7 s8 i wr => ∃ (k : Nat) (At : Option Addr) (ca : Nat) (no : Int) (l : List Stm), k ≤ n ∧ i = .int .i64 k ∧ s8 = .int .i64 no ∧ 0 ≤ no ∧ no ≤ 2 * k ∧ s7 = .slice At l.length ca ∧ l.length ≤ k ∧ (∀ s ∈ l, StmSn s) ∧ St b (m + 8 * k) w wr [.own rStm w.heap.size 38 (.slice At l.length ca) l]) (fun _ _ i _ => n - (intOf i).toNat)
  case atStart => exact ⟨0, none, 0, 0, [], by omega, rfl, rfl, by omega, by omega, rfl, by simp, by simp, S.mono (by omega)⟩
  case round =>
    clear S
    obtain ⟨k, At, ca, no, l, hk, rfl, rfl, hno, hno2, rfl, hlk, hls, S⟩ := hrel
    have Hlk := Lib.hid hlk
    have Hls := Lib.hid hls
    clear hlk hls
    by_cases hkn : k < n
    · go_wp2_with fail
      ((with_reducible refine (pick_le b _ _ _ (1) (2) S.g.s (by first | rfl | simp) (by first | rfl | simp) (intsIn_of (by decide)) (by simp) (by simp) (by omega)).mono ?_); rintro e w1 ⟨d, d_lo, d_hi, rfl, hk_w1, hs_w1⟩)
      replace S := S.step hk_w1 hs_w1
      clear hk_w1 hs_w1
      have hwr : IntKind.i64.wrap (no + d) = no + d := IntWalk.i64_in _ (by omega)
      obtain ⟨no', hno'⟩ : ∃ no', no + d = no' := ⟨_, rfl⟩
      rw [hno'] at hwr
      go_wp2_with fail
      ((with_reducible refine (next_any b _ _ _ S.g.s (by omega) (by omega) (by omega)).mono ?_); rintro e w2 ⟨rn, rn_lo, rn_hi, rfl, hk_w2, hs_w2⟩)
      replace S := S.step hk_w2 hs_w2
      clear hk_w2 hs_w2
      go_wp2_with fail
      ((with_reducible refine (pick_le b _ _ _ 0 4000 S.g.s (by first | rfl | simp) (by first | rfl | simp) (by repeat (first | exact intsIn_nil | refine intsIn_cons (by omega) ?_)) (by simp) (by simp) (by omega)).mono ?_); rintro e w3 ⟨at', at_lo, at_hi, rfl, hk_w3, hs_w3⟩)
      replace S := S.step hk_w3 hs_w3
      clear hk_w3 hs_w3
      go_wp2_with fail
      ((with_reducible refine (few_any b _ _ S.g.s (by omega) (HP.out.keep S.g.k hPb) hPb).mono ?_); rintro e w4 ⟨ki, t, ht, rfl, hk4, hs4⟩)
      replace S := S.step hk4 hs4
      clear hk4 hs4
      go_wp2_with fail
      ((with_reducible refine (pick_le b _ _ _ (1) (4) S.g.s (by first | rfl | simp) (by first | rfl | simp) (intsIn_of (by decide)) (by simp) (by simp) (by omega)).mono ?_); rintro e w5 ⟨ch, ch_lo, ch_hi, rfl, hk_w5, hs_w5⟩)
      replace S := S.step hk_w5 hs_w5
      clear hk_w5 hs_w5
      go_wp2_with fail
      ((with_reducible refine (pick_le b _ _ _ (1) (5) S.g.s (by first | rfl | simp) (by first | rfl | simp) (intsIn_of (by decide)) (by simp) (by simp) (by omega)).mono ?_); rintro e w6 ⟨wh, wh_lo, wh_hi, rfl, hk_w6, hs_w6⟩)
      replace S := S.step hk_w6 hs_w6
      clear hk_w6 hs_w6
      go_wp2_with fail
      ((with_reducible refine (one_le b _ _ _ (10) S.g.s (by first | rfl | simp) (by first | rfl | simp) (strsLe_of (by decide)) (by simp) (by simp) (by omega)).mono ?_); rintro e w7 ⟨rg, rg_le, rfl, hk_w7, hs_w7⟩)
      replace S := S.step hk_w7 hs_w7
      clear hk_w7 hs_w7
      go_upto_region 7 with fail
      obtain ⟨X, hX⟩ : ∃ X, X = w7.heap.size := ⟨_, rfl⟩
      replace S := (S.newAt #[.int .i64 no', .int .i64 at', .int .i64 ki, .string t, .string ⟨#[]⟩, .string rg, .int .i64 ch, .int .i64 wh] 38 X hX).front
      rw [← hX]
      clear hX
      generalize w7.alloc (.cells #[.int .i64 no', .int .i64 at', .int .i64 ki, .string t, .string ⟨#[]⟩, .string rg, .int .i64 ch, .int .i64 wh] 38) = w8 at *
      have x7 : w8.cell? ⟨X, 7, none⟩ = some (.int .i64 wh) := (S.lv 0 rfl).cell 7 _ rfl
      obtain ⟨B, HB⟩ : ∃ B, Hid (decide (wh ≤ 3 ∧ 0 < xs.length) = B) := ⟨_, Lib.hid rfl⟩
      go_cut [43] (fun s43 wx => s43 = .bool B ∧ w8 = wx)
      case first =>
        by_cases h3 : wh ≤ 3
        · by_cases h0 : 0 < xs.length
          · obtain rfl : true = B := by rw [← HB.out]; simp [h3, h0]
            go_wp2_with fail
            go_meet
            exact ⟨rfl, rfl⟩
          · obtain rfl : false = B := by rw [← HB.out]; simp [h0]
            go_wp2_with fail
            go_meet
            exact ⟨rfl, rfl⟩
        · obtain rfl : false = B := by rw [← HB.out]; simp [h3]
          go_wp2_with fail
          go_meet
          exact ⟨rfl, rfl⟩
      case rest =>
        obtain ⟨rfl, rfl⟩ := hcut
        clear x7
        go_upto_if 43 with fail
        have HS0 := Lib.hid S
        clear S
        go_cut [9] (fun s9 wx => s9 = .pointer (some ⟨X, 0, none⟩) ∧ ∃ pu : ByteArray, pu.size ≤ 1000 ∧ St b (m + 8 * k + 8) w wx [.loc X #[.int .i64 no', .int .i64 at', .int .i64 ki, .string t, .string pu, .string rg, .int .i64 ch, .int .i64 wh] 38, .own rStm w.heap.size 38 (.slice At l.length ca) l])
        case first =>
          have S := HS0.out
          clear HS0
          cases B
          · go_wp2_with fail
            go_meet
            exact ⟨rfl, _, by decide, S.mono (by omega)⟩
          · have h0 : 0 < xs.length := (of_decide_eq_true HB.out).2
            go_wp2_with fail
            ((with_reducible refine (next_any b _ _ _ S.g.s (by omega) (by omega) (by omega)).mono ?_); rintro e w9 ⟨ri, ri_lo, ri_hi, rfl, hk_w9, hs_w9⟩)
            replace S := S.step hk_w9 hs_w9
            clear hk_w9 hs_w9
            obtain ⟨j, rfl⟩ := Int.eq_ofNat_of_zero_le (by omega : 0 ≤ ri)
            have hj : j < xs.length := by omega
            obtain ⟨p, hp⟩ : ∃ p, xs[j]? = some p := ⟨_, List.getElem?_eq_getElem hj⟩
            obtain ⟨blk, off, Ap, cp, rfl, _, d0, _, _⟩ := (HS.out.keep S.g.k.n).purp j p hp
            have hps := Hsm.out p (List.mem_of_getElem? hp)
            have x4 : w9.cell? ⟨X, 4, none⟩ = some (.string ⟨#[]⟩) := (S.lv 0 rfl).cell 4 _ rfl
            have f4 := (S.lv 0 rfl).free 4
            clear hp
            go_wp2_with fail
            go_meet
            exact ⟨rfl, p.name, hps, (S.set 0 4 (.string p.name) rfl).mono (by omega)⟩
        case rest =>
          clear HS0
          obtain ⟨rfl, pu, hpu, S⟩ := hcut
          have hsz := S.g.size
          have x0 : wc.cell? ⟨X, 0, none⟩ = some (.int .i64 no') := (S.lv 0 rfl).cell 0 _ rfl
          have x1 : wc.cell? ⟨X, 1, none⟩ = some (.int .i64 at') := (S.lv 0 rfl).cell 1 _ rfl
          have x2 : wc.cell? ⟨X, 2, none⟩ = some (.int .i64 ki) := (S.lv 0 rfl).cell 2 _ rfl
          have x3 : wc.cell? ⟨X, 3, none⟩ = some (.string t) := (S.lv 0 rfl).cell 3 _ rfl
          have x4 : wc.cell? ⟨X, 4, none⟩ = some (.string pu) := (S.lv 0 rfl).cell 4 _ rfl
          have x5 : wc.cell? ⟨X, 5, none⟩ = some (.string rg) := (S.lv 0 rfl).cell 5 _ rfl
          have x6 : wc.cell? ⟨X, 6, none⟩ = some (.int .i64 ch) := (S.lv 0 rfl).cell 6 _ rfl
          have x7 : wc.cell? ⟨X, 7, none⟩ = some (.int .i64 wh) := (S.lv 0 rfl).cell 7 _ rfl
          have hlt := Hlk.out
          go_wp2_with (at_builtin; refine S.app 1 rfl tyStm rfl _ _ rfl ⟨no', at', ki, t, pu, rg, ch, wh⟩ 1 rfl rfl rfl (oneStm ⟨no', at', ki, t, pu, rg, ch, wh⟩) hsz (by omega) (by decide) ?_; intro v' w10 S6; obtain ⟨A6, c6, rfl⟩ := (S6.ow 1 rfl).len)
          go_roundw
          case rel =>
            refine ⟨k + 1, A6, c6, no', l ++ [⟨no', at', ki, t, pu, rg, ch, wh⟩], by omega, by go_num, rfl, by omega, by omega, by simp, by simp; omega, (fun s hs => ?_), (S6.del 0).mono (by omega)⟩
            rcases List.mem_append.1 hs with hs | hs
            · exact Hls.out s hs
            · rw [List.mem_singleton.1 hs]; exact ⟨⟨ht, hpu, rg_le⟩, by show no' ≤ 1000; omega⟩
          case measure => simp [intOf]; omega
    · have hlt := Hlk.out
      go_wp2_with fail
      go_ret
      exact ⟨_, l, rfl, by omega, Hls.out, S.mono (by omega)⟩
set_option maxHeartbeats 8000000 in
set_option maxRecDepth 100000 in
theorem stms_any2 (b m n : Nat) (A : Option Addr) (xs : List Purp) (c : Nat) (w : World) (hs : Strm b m w) (hm : m ≤ 100000000) (hn : n ≤ 100) (hP : Pool w) (hPb : 0 ≠ b) (hS : Sl rPurp (Off b) w A xs) (hsm : ∀ p ∈ xs, p.name.size ≤ 1000) (hl : xs.length ≤ 1000) :
    Calls Tryz.prog 29 #[.pointer (some ⟨b, 0, none⟩), .slice A xs.length c, .int .i64 n] w (DrawsStms2 b (m + 8 * n + 20) (n + 1) w) := by
  have S0 := St.start hs
  have HP := Lib.hid hP
  have Hr := Lib.hid (rightStms_any2 b m n A xs c w hs (by omega) hn hP hPb hS hsm hl)
  clear hs hP hS hsm
  go_enter Tryz.func29, Tryz.ntmps29
  go_wp2_with fail
  ((with_reducible refine (Hr.out).mono ?_); rintro e w1 ⟨v, l, rfl, hln, hls, S⟩)
  clear S0 Hr
  have HQ := Lib.hid hls
  clear hls
  by_cases h0 : 0 < l.length
  · obtain ⟨g, cap, rfl, hcap⟩ := (S.ow 0 rfl).form h0
    go_wp2_with fail
    ((with_reducible refine (flip_any b _ _ _ S.g.s (by omega) (by omega) (by omega)).mono ?_); rintro e w2 ⟨r2, rfl, hk_w2, hs_w2⟩)
    replace S := S.step hk_w2 hs_w2
    clear hk_w2 hs_w2
    cases r2
    · go_wp2_with fail
      go_ret
      exact ⟨_, l, rfl, by omega, fun s hs => (HQ.out s hs).sm, fewNo_all HQ.out, S.mono (by omega)⟩
    · go_wp2_with fail
      ((with_reducible refine (next_any b _ _ _ S.g.s (by omega) (by omega) (by omega)).mono ?_); rintro e w3 ⟨kk, kk_lo, kk_hi, rfl, hk_w3, hs_w3⟩)
      replace S := S.step hk_w3 hs_w3
      clear hk_w3 hs_w3
      obtain ⟨k, rfl⟩ := Int.eq_ofNat_of_zero_le (by omega : 0 ≤ kk)
      have hk : k < l.length := by omega
      obtain ⟨x, hx⟩ : ∃ x, l[k]? = some x := ⟨_, List.getElem?_eq_getElem hk⟩
      have Hx := Lib.hid hx
      have Hsx := Lib.hid (HQ.out x (List.mem_of_getElem? hx)).sm
      clear hx
      go_wp2_with fail
      ((with_reducible refine (next_any b _ _ _ S.g.s (by omega) (by omega) (by omega)).mono ?_); rintro e w4 ⟨r4, r4_lo, r4_hi, rfl, hk_w4, hs_w4⟩)
      replace S := S.step hk_w4 hs_w4
      clear hk_w4 hs_w4
      have hr4 : r4 = 0 ∨ r4 = 1 ∨ r4 = 2 ∨ r4 = 3 ∨ r4 = 4 ∨ r4 = 5 := by omega
      clear r4_lo r4_hi
      rcases hr4 with h4 | h4 | h4 | h4 | h4 | h4
      all_goals subst h4
      · go_wp2_with fail
        ((with_reducible refine (odd_any b _ _ _ _ S.g.s (by omega) (by omega) (by omega) (by omega)).mono ?_); rintro e w5 ⟨no', no_lo, no_hi, rfl, hk_w5, hs_w5⟩)
        replace S := S.step hk_w5 hs_w5
        clear hk_w5 hs_w5
        go_wp2_with fail
        ((with_reducible refine (odd_any b _ _ _ _ S.g.s (by omega) (by omega) (by omega) (by omega)).mono ?_); rintro e w6 ⟨at', at_lo, at_hi, rfl, hk_w6, hs_w6⟩)
        replace S := S.step hk_w6 hs_w6
        clear hk_w6 hs_w6
        have c0' := Own.cellP flatStm (S.ow 0 rfl) rfl k x Hx.out 0 (.int .i64 x.no) rfl
        have c0 : w6.cell? ⟨g, k * 8, none⟩ = some (.int .i64 x.no) := c0'.1
        have fc0 : w6.frozen? ⟨g, k * 8, none⟩ = false := c0'.2
        clear c0'
        have c1' := Own.cellP flatStm (S.ow 0 rfl) rfl k x Hx.out 1 (.int .i64 x.at') rfl
        have c1 : w6.cell? ⟨g, k * 8 + 1, none⟩ = some (.int .i64 x.at') := c1'.1
        have fc1 : w6.frozen? ⟨g, k * 8 + 1, none⟩ = false := c1'.2
        clear c1'
        go_wp2_with fail
        go_ret
        have S5 := S.put flatStm 0 rfl rfl k x { x with no := no' } Hx.out 0 (by decide) (.int .i64 no') rfl
        have S6 := S5.put flatStm 0 rfl (by simp) k { x with no := no' } { x with no := no', at' := at' } (by rw [List.getElem?_set]; simp [hk]) 1 (by decide) (.int .i64 at') rfl
        simp only [List.set_set] at S6
        refine ⟨_, _, rfl, by simp; omega, fun e he => ?_, fewNo_set HQ.out _ _, S6.mono (by omega)⟩
        rcases mem_set2 he with rfl | he
        · exact ⟨Hsx.out.tx, Hsx.out.pu, Hsx.out.rg⟩
        · exact (HQ.out e he).sm
      · go_wp2_with fail
        ((with_reducible refine (spoiledId_any b _ _ S.g.s (by omega) (HP.out.keep S.g.k hPb) hPb).mono ?_); rintro e w5 ⟨k', t', ht', rfl, hk5, hs5⟩)
        replace S := S.step hk5 hs5
        clear hk5 hs5
        have c2' := Own.cellP flatStm (S.ow 0 rfl) rfl k x Hx.out 2 (.int .i64 x.kind) rfl
        have c2 : w5.cell? ⟨g, k * 8 + 2, none⟩ = some (.int .i64 x.kind) := c2'.1
        have fc2 : w5.frozen? ⟨g, k * 8 + 2, none⟩ = false := c2'.2
        clear c2'
        have c3' := Own.cellP flatStm (S.ow 0 rfl) rfl k x Hx.out 3 (.string x.text) rfl
        have c3 : w5.cell? ⟨g, k * 8 + 3, none⟩ = some (.string x.text) := c3'.1
        have fc3 : w5.frozen? ⟨g, k * 8 + 3, none⟩ = false := c3'.2
        clear c3'
        go_wp2_with fail
        go_ret
        have S5 := S.put flatStm 0 rfl rfl k x { x with kind := k' } Hx.out 2 (by decide) (.int .i64 k') rfl
        have S6 := S5.put flatStm 0 rfl (by simp) k { x with kind := k' } { x with kind := k', text := t' } (by rw [List.getElem?_set]; simp [hk]) 3 (by decide) (.string t') rfl
        simp only [List.set_set] at S6
        refine ⟨_, _, rfl, by simp; omega, fun e he => ?_, fewNo_set HQ.out _ _, S6.mono (by omega)⟩
        rcases mem_set2 he with rfl | he
        · exact ⟨ht', Hsx.out.pu, Hsx.out.rg⟩
        · exact (HQ.out e he).sm
      · go_wp2_with fail
        ((with_reducible refine (odd_any b _ _ _ _ S.g.s (by omega) (by omega) (by omega) (by omega)).mono ?_); rintro e w5 ⟨ch', ch_lo, ch_hi, rfl, hk_w5, hs_w5⟩)
        replace S := S.step hk_w5 hs_w5
        clear hk_w5 hs_w5
        go_wp2_with fail
        ((with_reducible refine (odd_any b _ _ _ _ S.g.s (by omega) (by omega) (by omega) (by omega)).mono ?_); rintro e w6 ⟨wh', wh_lo, wh_hi, rfl, hk_w6, hs_w6⟩)
        replace S := S.step hk_w6 hs_w6
        clear hk_w6 hs_w6
        have c0' := Own.cellP flatStm (S.ow 0 rfl) rfl k x Hx.out 6 (.int .i64 x.channel) rfl
        have c0 : w6.cell? ⟨g, k * 8 + 6, none⟩ = some (.int .i64 x.channel) := c0'.1
        have fc0 : w6.frozen? ⟨g, k * 8 + 6, none⟩ = false := c0'.2
        clear c0'
        have c1' := Own.cellP flatStm (S.ow 0 rfl) rfl k x Hx.out 7 (.int .i64 x.what) rfl
        have c1 : w6.cell? ⟨g, k * 8 + 7, none⟩ = some (.int .i64 x.what) := c1'.1
        have fc1 : w6.frozen? ⟨g, k * 8 + 7, none⟩ = false := c1'.2
        clear c1'
        go_wp2_with fail
        go_ret
        have S5 := S.put flatStm 0 rfl rfl k x { x with channel := ch' } Hx.out 6 (by decide) (.int .i64 ch') rfl
        have S6 := S5.put flatStm 0 rfl (by simp) k { x with channel := ch' } { x with channel := ch', what := wh' } (by rw [List.getElem?_set]; simp [hk]) 7 (by decide) (.int .i64 wh') rfl
        simp only [List.set_set] at S6
        refine ⟨_, _, rfl, by simp; omega, fun e he => ?_, fewNo_set HQ.out _ _, S6.mono (by omega)⟩
        rcases mem_set2 he with rfl | he
        · exact ⟨Hsx.out.tx, Hsx.out.pu, Hsx.out.rg⟩
        · exact (HQ.out e he).sm
      · go_wp2_with fail
        ((with_reducible refine (one_le b _ _ _ (10) S.g.s (by first | rfl | simp) (by first | rfl | simp) (strsLe_of (by decide)) (by simp) (by simp) (by omega)).mono ?_); rintro e w5 ⟨nm, nm_le, rfl, hk_w5, hs_w5⟩)
        replace S := S.step hk_w5 hs_w5
        clear hk_w5 hs_w5
        have c0' := Own.cellP flatStm (S.ow 0 rfl) rfl k x Hx.out 4 (.string x.purpose) rfl
        have c0 : w5.cell? ⟨g, k * 8 + 4, none⟩ = some (.string x.purpose) := c0'.1
        have fc0 : w5.frozen? ⟨g, k * 8 + 4, none⟩ = false := c0'.2
        clear c0'
        go_wp2_with fail
        go_ret
        have S6 := S.put flatStm 0 rfl rfl k x { x with purpose := nm } Hx.out 4 (by decide) (.string nm) rfl
        refine ⟨_, _, rfl, by simp; omega, fun e he => ?_, fewNo_set HQ.out _ _, S6.mono (by omega)⟩
        rcases mem_set2 he with rfl | he
        · exact ⟨Hsx.out.tx, Nat.le_trans nm_le (by decide), Hsx.out.rg⟩
        · exact (HQ.out e he).sm
      · go_wp2_with fail
        ((with_reducible refine (one_le b _ _ _ (10) S.g.s (by first | rfl | simp) (by first | rfl | simp) (strsLe_of (by decide)) (by simp) (by simp) (by omega)).mono ?_); rintro e w5 ⟨nm, nm_le, rfl, hk_w5, hs_w5⟩)
        replace S := S.step hk_w5 hs_w5
        clear hk_w5 hs_w5
        have c0' := Own.cellP flatStm (S.ow 0 rfl) rfl k x Hx.out 5 (.string x.region) rfl
        have c0 : w5.cell? ⟨g, k * 8 + 5, none⟩ = some (.string x.region) := c0'.1
        have fc0 : w5.frozen? ⟨g, k * 8 + 5, none⟩ = false := c0'.2
        clear c0'
        go_wp2_with fail
        go_ret
        have S6 := S.put flatStm 0 rfl rfl k x { x with region := nm } Hx.out 5 (by decide) (.string nm) rfl
        refine ⟨_, _, rfl, by simp; omega, fun e he => ?_, fewNo_set HQ.out _ _, S6.mono (by omega)⟩
        rcases mem_set2 he with rfl | he
        · exact ⟨Hsx.out.tx, Hsx.out.pu, nm_le⟩
        · exact (HQ.out e he).sm
      · obtain ⟨y, hy⟩ : ∃ y, l[0]? = some y := ⟨_, List.getElem?_eq_getElem h0⟩
        have Hsy := Lib.hid (HQ.out y (List.mem_of_getElem? hy))
        clear Hx Hsx
        obtain ⟨k, hk0⟩ : ∃ k, k = 0 := ⟨0, rfl⟩
        have cellY : ∀ (j : Nat) (u : Value), (Stm.cells y)[j]? = some u → w4.cell? ⟨g, 0 * rStm.size + j, none⟩ = some u := fun j u hu => (Own.cellP flatStm (S.ow 0 rfl) rfl 0 y hy j u hu).1
        have c0 : w4.cell? ⟨g, 0, none⟩ = some (.int .i64 y.no) := cellY 0 _ rfl
        have c1 : w4.cell? ⟨g, 1, none⟩ = some (.int .i64 y.at') := cellY 1 _ rfl
        have c2 : w4.cell? ⟨g, 2, none⟩ = some (.int .i64 y.kind) := cellY 2 _ rfl
        have c3 : w4.cell? ⟨g, 3, none⟩ = some (.string y.text) := cellY 3 _ rfl
        have c4 : w4.cell? ⟨g, 4, none⟩ = some (.string y.purpose) := cellY 4 _ rfl
        have c5 : w4.cell? ⟨g, 5, none⟩ = some (.string y.region) := cellY 5 _ rfl
        have c6 : w4.cell? ⟨g, 6, none⟩ = some (.int .i64 y.channel) := cellY 6 _ rfl
        have c7 : w4.cell? ⟨g, 7, none⟩ = some (.int .i64 y.what) := cellY 7 _ rfl
        have hsz := S.g.size
        have Hy := Lib.hid hy
        clear cellY hy
        go_wp2_with (at_builtin; refine S.app 0 rfl tyStm rfl _ _ rfl y 1 rfl rfl rfl (oneStm y) hsz (by omega) (by decide) ?_; intro v' w10 S6; obtain ⟨A6, c6, rfl⟩ := (S6.ow 0 rfl).len)
        go_ret
        refine ⟨_, l ++ [y], by simp, by simp; omega, fun e he => ?_, fewNo_app HQ.out y Hsy.out, S6.mono (by omega)⟩
        rcases List.mem_append.1 he with he | he
        · exact (HQ.out e he).sm
        · rw [List.mem_singleton.1 he]; exact Hsy.out.sm
  · obtain rfl : l = [] := List.length_eq_zero_iff.1 (by omega)
    obtain ⟨A2, c2, rfl⟩ := (S.ow 0 rfl).len
    go_wp2_with fail
    go_ret
    exact ⟨_, [], rfl, by simp, by simp, fewNo_all HQ.out, S.mono (by omega)⟩
end Go.Proofs.YthmkphmciiiagaaGreatDoor

/- What handlaw2.asked makes, with a word on the statements' numbers: all but one are small. -/
namespace Go.Proofs.YthmkphmciiiagaaGreatDoor
open Go Go.RowKit
def DrawsAsked2 (b m : Nat) (w : World) (e : Ending) (w' : World) : Prop :=
  ∃ (B B2 A c : _) (q : List PQ) (v2 : Value) (l : List Stm) (k : Int) (t pu rg : ByteArray) (ch at' : Int),
    e = .returned (.tuple #[.slice A q.length c, v2, qVal k t pu rg ch at', .int .i64 (stmsFault (q.map PQ.purp) l)]) ∧ QOk 10 q ∧ l.length ≤ 14 ∧ (∀ s ∈ l, StmSm s) ∧ QSm t pu rg ∧ w.heap.size ≤ B ∧ w.heap.size ≤ B2 ∧ FewNo l ∧
    St b m w w' (.own rStm B2 38 v2 l :: polC B (.slice A q.length c) q)
set_option maxHeartbeats 8000000 in
set_option maxRecDepth 100000 in
theorem asked_any2 (b m : Nat) (w : World) (hs : Strm b m w) (hm : m ≤ 1000000) (hP : Pool w) (hPb : 0 ≠ b) (hM : MaxL w) (hMb : 2 ≠ b) :
    Calls Tryz.prog 9 #[.pointer (some ⟨b, 0, none⟩)] w (DrawsAsked2 b (m + 440) w) := by
  have S := (St.start hs).new' qzCs 31
  have HP := Lib.hid hP
  have HM := Lib.hid hM
  have hb := hs.lt
  clear hs hP hM
  go_enter Tryz.func9, Tryz.ntmps9
  go_wp2_with fail
  generalize w.alloc (.cells qzCs 31) = w1 at *
  ((with_reducible refine (rightPolicy_any b m _ S.g.s (by omega)).mono ?_); rintro e w2 ⟨v, q, rfl, _, hq, S1⟩)
  have hsz1 := S.g.size
  replace S : St b (m + 110) w w2 (.loc w.heap.size qzCs 31 :: polC w1.heap.size v q) := S.join S1
  have HQ := Lib.hid (hq.mono (Nat.le_succ 9))
  clear hq S1
  go_wp2_with fail
  ((with_reducible refine (flip_any b _ _ _ S.g.s (by omega) (by omega) (by omega)).mono ?_); rintro e w3 ⟨r3, rfl, hk_w3, hs_w3⟩)
  replace S := S.step hk_w3 hs_w3
  clear hk_w3 hs_w3
  go_upto_if 11 with fail
  have HS0 := Lib.hid S
  clear S
  go_cut [6] (fun s6 wx => ∃ (B : Nat) (v : Value) (q : List PQ), s6 = v ∧ QOk 10 q ∧ w.heap.size ≤ B ∧ St b (m + 241) w wx (.loc w.heap.size qzCs 31 :: polC B v q))
  case first =>
    have S := HS0.out
    clear HS0
    cases r3
    · go_wp2_with fail
      go_meet
      exact ⟨_, v, q, rfl, HQ.out, hsz1, S.mono (by omega)⟩
    · go_wp2_with fail
      ((with_reducible refine (policy_any b _ _ S.g.s (by omega)).mono ?_); rintro e w4 ⟨v', q', rfl, hq', S1⟩)
      have hsz3 := S.g.size
      have S2 := S.join S1
      have S3 : St b (m + 110 + 1 + 130) w w4 (.loc w.heap.size qzCs 31 :: polC w3.heap.size v' q') := by
        exact S2.sublist ((List.sublist_append_right _ _).cons_cons _)
      clear S2 S1 S
      go_wp2_with fail
      go_meet
      exact ⟨_, v', q', rfl, hq', hsz3, S3.mono (by omega)⟩
  case rest =>
    clear HS0 HQ hsz1
    obtain ⟨B, v, q, rfl, hq, hB, S⟩ := hcut
    obtain ⟨A, c, rfl, hS⟩ := S.polFalse hB (List.mem_cons_of_mem _ (List.mem_cons_self ..)) (fun e he => List.mem_cons_of_mem _ (List.mem_cons_of_mem _ (List.mem_map.2 ⟨e, he, rfl⟩)))
    have HS : Hid (Sl rPurp (Off b) wc A (q.map PQ.purp)) := hS.mono (fun k _ e => by show k < _; rw [show k = b from e]; exact hb)
    have HQ := Lib.hid hq
    have hql := hq.len
    have hlen : (q.map PQ.purp).length = q.length := by simp
    have Hlen := Lib.hid hlen
    have hxl : (q.map PQ.purp).length ≤ 1000 := by omega
    have Hnm := Lib.hid (purp_small hq)
    have Hok := Lib.hid hq.polOk
    clear hS hq hlen
    go_wp2_with fail
    ((with_reducible refine (range_any b _ 0 14 _ S.g.s (by omega) (by omega) (by omega) (by omega)).mono ?_); rintro e w5 ⟨r, r0, r1, rfl, hk5, hs5⟩)
    replace S := S.step hk5 hs5
    obtain ⟨n, rfl⟩ := Int.eq_ofNat_of_zero_le r0
    have hn : n ≤ 14 := by omega
    have HS5 := Lib.hid (HS.out.keep hk5.n)
    have Hr := Lib.hid (rightStms_any2 b _ n A (q.map PQ.purp) c w5 S.g.s (by omega) (by omega) (HP.out.keep S.g.k hPb) hPb HS5.out Hnm.out hxl)
    rw [Hlen.out] at Hr
    clear hk5 hs5 r0 r1 HS
    go_wp2_with fail
    ((with_reducible refine (Hr.out).mono ?_); rintro e w6 ⟨v2, l, rfl, hl, hls, S1⟩)
    have hsz5 := S.g.size
    have HS6 := Lib.hid (HS5.out.keep S1.g.k.n)
    replace S := (S.join S1).perm (List.perm_append_comm)
    have hl14 : l.length ≤ 14 := by omega
    have Hfn := Lib.hid (fewNo_all hls)
    have Hls := Lib.hid (fun s hs => (hls s hs).sm)
    clear S1 Hr HS5 hls hl
    go_wp2_with fail
    ((with_reducible refine (flip_any b _ _ _ S.g.s (by omega) (by omega) (by omega)).mono ?_); rintro e w7 ⟨r7, rfl, hk7, hs7⟩)
    replace S := S.step hk7 hs7
    have HS7 := Lib.hid (HS6.out.keep hk7.n)
    clear hk7 hs7 HS6
    go_upto_if 20 with fail
    have HS0 := Lib.hid S
    clear S
    go_cut [7] (fun s7 wx => ∃ (B2 : Nat) (v2 : Value) (l : List Stm), s7 = v2 ∧ l.length ≤ 14 ∧ (∀ s ∈ l, StmSm s) ∧ FewNo l ∧ w.heap.size ≤ B2 ∧ Sl rPurp (Off b) wx A (q.map PQ.purp) ∧ St b (m + 420) w wx (.own rStm B2 38 v2 l :: .loc w.heap.size qzCs 31 :: polC B (.slice A q.length c) q))
    case first =>
      have S := HS0.out
      clear HS0
      cases r7
      · go_wp2_with fail
        go_meet
        exact ⟨_, v2, l, rfl, hl14, Hls.out, Hfn.out, hsz5, HS7.out, S.mono (by omega)⟩
      · have Hr := Lib.hid (stms_any2 b _ 5 A (q.map PQ.purp) c w7 S.g.s (by omega) (by omega) (HP.out.keep S.g.k hPb) hPb HS7.out Hnm.out hxl)
        rw [Hlen.out, show ((5 : Nat) : Int) = 5 from rfl] at Hr
        go_wp2_with fail
        ((with_reducible refine (Hr.out).mono ?_); rintro e w8 ⟨v3, l3, rfl, hl3, hls3, hfn3, S1⟩)
        have hsz7 := S.g.size
        have HS8 := Lib.hid (HS7.out.keep S1.g.k.n)
        have S3 := ((S.del 0).join S1).perm (List.perm_append_comm)
        have Hls3 := Lib.hid hls3
        have Hfn3 := Lib.hid hfn3
        clear S1 S Hr hls3 HS7 hfn3
        go_wp2_with fail
        go_meet
        exact ⟨_, v3, l3, rfl, by omega, Hls3.out, Hfn3.out, hsz7, HS8.out, S3.mono (by omega)⟩
    case rest =>
      clear HS0 HS7 Hls hl14 hsz5 Hfn
      obtain ⟨B2, v2, l, rfl, hl, hls, hfn, hB2, hS, S⟩ := hcut
      have Hfn := Lib.hid hfn
      clear hfn
      have HSc := Lib.hid hS
      have Hls := Lib.hid hls
      clear hS hls
      obtain ⟨Al, cl, rfl⟩ := (S.ow 0 rfl).len
      have Hqq := Lib.hid (question_any b _ A (q.map PQ.purp) c wc S.g.s (by omega) (HP.out.keep S.g.k hPb) hPb HSc.out Hnm.out hxl)
      rw [Hlen.out] at Hqq
      go_wp2_with fail
      ((with_reducible refine (Hqq.out).mono ?_); rintro e w9 ⟨k, t, pu, rg, ch, at', ht, hpu, hrg, rfl, hk9, hs9⟩)
      replace S := S.step hk9 hs9
      have HL9 : Hid (Sl rStm (fun _ => False) w9 Al l) := by
        obtain ⟨A', c', e', hS⟩ := ((S.ow 0 rfl).flatM flatStm (M' := fun _ => False)).toSlC (fun _ _ h => h)
        simp only [Value.slice.injEq] at e'
        obtain ⟨rfl, _, rfl⟩ := e'
        exact hS.2
      have HF := Lib.hid (refStms_any (fun _ => False) A Al (q.map PQ.purp) l c cl w9 ((HSc.out.keep hk9.n).mono (fun _ _ h => h.elim)) Hok.out HL9.out (StmSm.ok Hls.out (by omega)) (HM.out.sk S.g.k hMb))
      rw [Hlen.out] at HF
      clear hk9 hs9 Hqq HSc HL9
      go_wp2_with fail
      ((with_reducible refine (HF.out).mono ?_); rintro e w10 ⟨rfl, hl10⟩)
      replace S := S.below hl10
      clear hl10 HF
      have c0 := (S.lv 1 rfl).all
      go_wp2_with fail
      have S2 := (((((S.set 1 0 (.int .i64 k) rfl).set 1 1 (.string t) rfl).set 1 2 (.string pu) rfl).set 1 3 (.string rg) rfl).set 1 4 (.int .i64 ch) rfl).set 1 5 (.int .i64 at') rfl
      exact bodyPost_ret (results_ttct rfl rfl rfl rfl rfl (loadQ (S2.lv 1 rfl))) rfl ⟨B, B2, A, c, q, _, l, k, t, pu, rg, ch, at', rfl, HQ.out, hl, Hls.out, ⟨ht, hpu, hrg⟩, hB, hB2, Hfn.out, (S2.del 1).mono (by omega)⟩
end Go.Proofs.YthmkphmciiiagaaGreatDoor

/- The number of the last statement is laid anew: what was right stays right. -/
namespace Go.Proofs.YthmkphmciiiagaaGreatDoor
open Go Go.RowKit
theorem stmF_no {p : List Purp} {prev : Option Stm} {s : Stm} {n : Int} (h : stmF p prev s = 0) (hn : 1 ≤ n ∧ n ≤ 1000000) (hq : ∀ q, prev = some q → q.no < n) : stmF p prev { s with no := n } = 0 := by
  obtain ⟨h1, h2, _⟩ := stmF_ok h
  have e1 : (prev.any fun q => decide (s.no ≤ q.no)) = false := by
    cases prev with
    | none => rfl
    | some q => have := h2 q rfl; simp; omega
  have e2 : (prev.any fun q => decide (n ≤ q.no)) = false := by
    cases prev with
    | none => rfl
    | some q => have := hq q rfl; simp; omega
  unfold stmF at h ⊢
  rw [e1, decide_eq_true h1] at h
  show stmE (decide (1 ≤ n ∧ n ≤ 1000000)) (prev.any fun q => decide (n ≤ q.no)) _ _ _ _ _ _ _ _ = 0
  rw [e2, decide_eq_true hn]
  exact h
theorem stmsGo_cons {p : List Purp} {prev : Option Stm} {x : Stm} {r : List Stm} (h : stmsGo p prev (x :: r) = 0) : stmF p prev x = 0 ∧ stmsGo p (some x) r = 0 := by
  rw [stmsGo] at h
  split at h
  · rename_i h1; exact absurd h h1
  · rename_i h1; exact ⟨Decidable.not_not.1 h1, h⟩
theorem stmsGo_mk {p : List Purp} {prev : Option Stm} {x : Stm} {r : List Stm} (h1 : stmF p prev x = 0) (h2 : stmsGo p (some x) r = 0) : stmsGo p prev (x :: r) = 0 := by
  rw [stmsGo, if_neg (by simpa using h1)]; exact h2
theorem stmsGo_top {p : List Purp} : ∀ (a : List Stm) (prev : Option Stm) (s : Stm) (n : Int), stmsGo p prev (a ++ [s]) = 0 → (1 ≤ n ∧ n ≤ 1000000) → (∀ x ∈ a, x.no < n) → (∀ q, prev = some q → q.no < n) → stmsGo p prev (a ++ [{ s with no := n }]) = 0
  | [], prev, s, n, h, hn, _, hq => by
    rw [List.nil_append] at h ⊢
    exact stmsGo_mk (stmF_no (stmsGo_cons h).1 hn hq) rfl
  | x :: a, prev, s, n, h, hn, ha, hq => by
    rw [List.cons_append] at h ⊢
    obtain ⟨h1, h2⟩ := stmsGo_cons h
    exact stmsGo_mk h1 (stmsGo_top a (some x) s n h2 hn (fun y hy => ha y (by simp [hy])) (fun q e => by cases e; exact ha x (by simp)))
theorem stms_top {p : List Purp} {l : List Stm} {s : Stm} {n : Int} (h : stmsFault p l = 0) (hf : FewNo l) (hs : l[l.length - 1]? = some s) (hn : 1000 < n ∧ n ≤ 1000000) : stmsFault p (l.set (l.length - 1) { s with no := n }) = 0 := by
  obtain ⟨hj, rfl⟩ := List.getElem?_eq_some_iff.1 hs
  have hl : l = l.take (l.length - 1) ++ [l[l.length - 1]] := by
    have e := take_snoc hs
    rw [Nat.sub_add_cancel (by omega), List.take_of_length_le (Nat.le_refl _)] at e
    exact e
  have hset : l.set (l.length - 1) { l[l.length - 1] with no := n } = l.take (l.length - 1) ++ [{ l[l.length - 1] with no := n }] := by
    rw [List.set_eq_take_append_cons_drop, if_pos hj]
    congr 2
    rw [List.drop_eq_nil_iff]; omega
  have hgo : stmsGo p none l = 0 ∧ policyFault p = 0 ∧ ¬ 3000 < l.length := by
    unfold stmsFault at h
    split at h
    · rename_i h1; exact absurd h h1
    · rename_i h1
      split at h
      · cases h
      · rename_i h2; exact ⟨h, Decidable.not_not.1 h1, h2⟩
  obtain ⟨h1, h2, h3⟩ := hgo
  have hno := (stms_good h).2.no
  have hlow : ∀ x ∈ l.take (l.length - 1), x.no < n := fun x hx => by
    obtain ⟨k, hk⟩ := hf
    obtain ⟨i, hi, rfl⟩ := List.getElem_of_mem hx
    rw [List.length_take] at hi
    rw [List.getElem_take]
    by_cases hik : i = k
    · have hlast := hk (l.length - 1) _ hs (by omega)
      have := List.pairwise_iff_getElem.1 hno i (l.length - 1) (by omega) hj (by omega)
      omega
    · have := hk i _ (List.getElem?_eq_getElem (by omega)) hik
      omega
  rw [hl] at h1
  have h4 := stmsGo_top _ none _ n h1 (by omega) hlow (fun q e => by cases e)
  unfold stmsFault
  rw [if_neg (by simpa using h2), List.length_set, if_neg h3, hset]
  exact h4
end Go.Proofs.YthmkphmciiiagaaGreatDoor

/- What consent.Ask returns. -/
namespace Go.Proofs.YthmkphmciiiagaaGreatDoor
open Go Go.RowKit
theorem wantP_is {p : List Purp} {l U : List Stm} {k : Int} {t pu : ByteArray} {ch at' : Int} {tm : PTerm} (hgl : GoodL p l) (hU : IsOf k t ch l U) (hd : 0 ≤ tm.days) : wantP tm pu at' U = whatA (some tm) k t ch at' pu l true := by
  have h1 := ans_is (tm := some tm) (pu := pu) (hU.said at') (fun s hs => (hgl.at' s hs).1) hgl.wh (fun t ht => by cases ht; exact hd)
  have h2 := allow_calm (pu := pu) (hU.said at') (fun s hs => (hgl.at' s hs).1) hgl.wh hd
  unfold wantP whatA
  rw [h1, h2, if_neg (show ¬ (true = false) by decide)]
/-- what the operations of the drawn region lay -/
def askFact (B : Nat) (Al : Option Addr) (cl : Nat) (A7 : Option Addr) (c7 : Nat) (l ys : List Stm) (o : Option PTerm) (k : Int) (t : ByteArray) (ch : Int) (pu : ByteArray) (a2 : Ans) (i : Nat) (v : Value) (w : World) : Prop :=
  match i with
  | 3 => ∃ blk, v = .slice (some ⟨blk, 0, none⟩) 2 2 ∧ LV w blk #[.slice Al l.length cl, .slice A7 ys.length c7] 27 ∧ B ≤ blk
  | 4 => ∃ A2 c2, v = .slice A2 (l ++ ys).length c2 ∧ Sl rStm (fun _ => False) w A2 (l ++ ys)
  | 6 => ∃ Au U cu, v = .agg (askCs (o.getD tZero) o.isSome pu Au U.length cu) ∧ IsOf k t ch (l ++ ys) U ∧ (U.length ≤ cu ∧ (Au = none → cu = 0) ∧ ∀ a, Au = some a → a.spot = none) ∧ Sl rStm (fun _ => False) w Au U
  | 8 => v = aVal a2
  | 9 => ∃ blk, v = .pointer (some ⟨blk, 0, none⟩) ∧ LV w blk (aCs false 0 0) 105 ∧ B ≤ blk
  | _ => True
theorem Sl.oneW {N : Nat → Prop} {w : World} {A : Option Addr} {xs : List Int} (h : Sl rInt N w A xs) (k : Nat) (x : Int) (hk : xs[k]? = some x) : ∃ blk off, A = some ⟨blk, off, none⟩ ∧ w.cell? ⟨blk, off + k, none⟩ = some (.int .i64 x) := by
  obtain ⟨blk, off, l, e, _, _, h3, h4⟩ := h k x hk
  obtain rfl : l = [.int .i64 x] := h3
  refine ⟨blk, off, e, ?_⟩
  have h1 := h4 0 _ rfl
  rw [show rInt.size = 1 from rfl] at h1
  simpa using h1
def GivesChg2 (x : List Stm × Int) (w : World) (e : Ending) (w' : World) : Prop := GivesChg x.1 x.2 w e w'
set_option maxHeartbeats 16000000 in
set_option maxRecDepth 100000 in
theorem askP_any (A Al : Option Addr) (p : List Purp) (l : List Stm) (c cl : Nat) (k : Int) (t pu rg : ByteArray) (ch at' : Int) (want : Bool) (w : World) (hS : Sl rPurp (fun _ => False) w A p) (hok : PolOk p) (hL : Sl rStm (fun _ => False) w Al l) (hlo : StmOk l) (hl : l.length ≤ 14) (hrg : rg.size ≤ 1000000000) (ht : t.size ≤ 1000000) (hM : MaxL w) :
    Calls Tryz.prog 12 #[.slice A p.length c, .slice Al l.length cl, .agg #[.int .i64 k, .string t], .string pu, .string rg, .int .i64 ch, .int .i64 at', .bool want] w (GivesChg2 (if mayErr p l k t pu rg ch at' = 0 then chgAns (termAt p pu rg ch) k t pu rg ch at' l want else ([], mayErr p l k t pu rg ch at')) w) := by
  have HSp := Lib.hid (fun w' (h : Below w.heap.size w w') => hS.keepB h)
  have HL := Lib.hid (fun w' (h : Below w.heap.size w w') => hL.keepB h)
  have HF0 : Hid (mayErr p l k t pu rg ch at' = 0 → L.idFault k t = 0 ∧ ∀ s ∈ l, s.no ≤ 1000000) := fun h => by
    obtain ⟨h1, h2, _⟩ := first3_zero h
    exact ⟨h2, stms_no h1⟩
  have hl : l.length ≤ 19 := by omega
  have Hall := Lib.hid (fun X w' (h : Below w.heap.size w w') (hX : LV w' X (idCs k t) 29) => checkAll1_any (fun _ => False) A Al p l c cl pu rg ch at' X k t w' (hS.keepB h) hok (hL.keepB h) hlo hrg ht (hM.below h) hX)
  have Hgood : Hid (mayErr p l k t pu rg ch at' = 0 → GoodPol p ∧ GoodL p l ∧ (0 ≤ at' ∧ at' ≤ 4321439)) := fun h => by
    obtain ⟨h1, _, h3⟩ := first3_zero h
    obtain ⟨h4, h5⟩ := stms_good h1
    exact ⟨policy_good h4, h5, qErr_at h3⟩
  have Hask := Lib.hid (fun (hg : GoodPol p) (hn : l.Pairwise (fun a b => a.no < b.no)) w' (h : Below w.heap.size w w') => ask_any (fun _ => False) A Al p l c cl pu rg ch at' k t w' (hS.keepB h) hg (hL.keepB h) hl hn)
  have Hans := Lib.hid (fun (hg : GoodPol p) (hgl : GoodL p l) (U : List Stm) (hU : IsOf k t ch l U) (N : Nat → Prop) Au cu at' (hat : 0 ≤ at' ∧ at' ≤ 4321439) w' (hS : Sl rStm N w' Au U) hc => answerAt_any (pu := pu) (rg := rg) hg hgl hU hat (by omega) N Au cu w' hS hc)
  obtain ⟨F, HF⟩ : ∃ F, Hid (mayErr p l k t pu rg ch at' = F) := ⟨_, Lib.hid rfl⟩
  have Hall2 : Hid (∀ X w' (h : Below w.heap.size w w') (hX : LV w' X (idCs k t) 29), Calls Tryz.prog 57 #[.agg (qCs A p.length c pu rg ch at'), .slice Al l.length cl, .int .i64 1, .slice (some ⟨X, 0, none⟩) 1 1] w' fun e w'' => e = .returned (.int .i64 F) ∧ Below w'.heap.size w' w'') := fun X w' h hX => HF.out ▸ Hall.out X w' h hX
  rw [HF.out] at Hgood ⊢
  (try rw [HF.out] at HF0)
  obtain ⟨Rs, HRs⟩ : ∃ Rs, Hid ((if F = 0 then chgAns (termAt p pu rg ch) k t pu rg ch at' l want else ([], F)) = Rs) := ⟨_, Lib.hid rfl⟩
  rw [HRs.out]
  clear Hall HF
  clear hS hok hL hlo hM
  have S := ((Mem.start w).new' (idCs k t) 29).new' (qCs A p.length c pu rg ch at') 96
  replace S : Mem w ((w.alloc (.cells (idCs k t) 29)).alloc (.cells (qCs A p.length c pu rg ch at') 96)) [.loc w.heap.size (idCs k t) 29, .loc (w.heap.size + 1) (qCs A p.length c pu rg ch at') 96] := by simpa using S
  go_enter Tryz.func12, Tryz.ntmps12
  go_upto_region 2 with fail
  generalize (w.alloc (.cells (idCs k t) 29)).alloc (.cells (qCs A p.length c pu rg ch at') 96) = w1 at *
  have c0 := (S.lv 0 rfl).all
  have c1 := (S.lv 1 rfl).all
  have Hc := Lib.hid (Hall2.out w1.heap.size (w1.alloc (.cells (idCs k t) 29)) (S.alloc _).b (LV.new w1 w1.heap.size (idCs k t) 29 rfl))
  replace S := S.alloc (.cells (idCs k t) 29)
  clear Hall2
  go_wp2_with fail
  ((with_reducible refine (Hc.out).mono ?_); rintro e w3 ⟨rfl, hl3⟩)
  replace S := S.below hl3
  clear hl3 Hc c0 c1
  by_cases hF : F = 0
  · obtain ⟨hid, hno⟩ := HF0.out hF
    have HR : Hid (chgAns (termAt p pu rg ch) k t pu rg ch at' l want = Rs) := by show _ = _; rw [← HRs.out, if_pos hF]
    clear HRs HF0
    obtain ⟨hg, hgl, hat⟩ := Hgood.out hF
    have Ha := Lib.hid (Hask.out hg hgl.no)
    have Hb := Lib.hid (Hans.out hg hgl)
    subst hF
    clear Hask Hans Hgood
    have c0 := (S.lv 0 rfl).all
    have c1 := (S.lv 1 rfl).all
    go_wp2_with fail
    ((with_reducible refine (Ha.out w3 S.b).mono ?_); rintro e w4 ⟨Au, U, cu, rfl, hU, hc, hSU, hl4⟩)
    replace S := S.call hl4 (.sl rStm Au U) hSU (fun k e => by cases e)
    have Hd := Lib.hid (fun (at' : Int) (hat : 0 ≤ at' ∧ at' ≤ 4321439) (N : Nat → Prop) w' (hS : Sl rStm N w' Au U) => Hb.out U hU N Au cu at' hat w' hS hc)
    have HU := Lib.hid hU
    have Hcu := Lib.hid hc
    clear hl4 Ha Hb hU hc hSU c0 c1
    go_upto_region 6 with fail
    obtain ⟨K, hK⟩ : ∃ K, K = w4.heap.size := ⟨_, rfl⟩
    replace S := S.newAt (askCs ((termAt p pu rg ch).getD tZero) (termAt p pu rg ch).isSome pu Au U.length cu) 102 K hK
    rw [← hK]
    clear hK
    generalize w4.alloc (.cells (askCs ((termAt p pu rg ch).getD tZero) (termAt p pu rg ch).isSome pu Au U.length cu) 102) = w5 at *
    have Hg := Lib.hid hg
    have Hgl := Lib.hid hgl
    have Hno := Lib.hid hno
    have Hadd := Lib.hid (fun (ws : List Int) (h : ws.length ≤ 2) => hgl.add hno hid pu rg ch hat h)
    have HAns := Lib.hid (fun (l2 : List Stm) (h2 : GoodL p l2) (hl2 : l2.length ≤ 19) (U : List Stm) (hU : IsOf k t ch l2 U) (N : Nat → Prop) Au cu w' (hS : Sl rStm N w' Au U) hc => answerAt_any (pu := pu) (rg := rg) hg h2 hU hat (by omega) N Au cu w' hS hc)
    have HAsk := Lib.hid (fun (A2 : Option Addr) (l2 : List Stm) (c2 : Nat) (h2 : GoodL p l2) (hl2 : l2.length ≤ 19) w' (h : Below w.heap.size w w') (hL2 : Sl rStm (fun _ => False) w' A2 l2) => ask_any (fun _ => False) A A2 p l2 c c2 pu rg ch at' k t w' (HSp.out w' h) hg hL2 hl2 h2.no)
    have hday : ∀ tm, termAt p pu rg ch = some tm → (0 ≤ tm.days ∧ tm.days ≤ 2000) ∧ (0 ≤ tm.wait ∧ tm.wait ≤ 100000) := fun tm h => termAt_good hg h
    have HWn : Hid (∀ tm, termAt p pu rg ch = some tm → ∀ (N : Nat → Prop) w', Sl rStm N w' Au U → Calls Tryz.prog 60 #[.agg (askCs tm true pu Au U.length cu), .int .i64 at'] w' (GivesL (whatA (some tm) k t ch at' pu l true) w')) := fun tm h N w' hS => by
      have h1 := wanted_any N tm pu Au U cu at' w' hS (Nat.le_trans HU.out.len (by omega)) HU.out.ord Hcu.out (fun s hs => hgl.at' s ((HU.out.mem s).1 hs).1) (hday tm h) hat
      rw [wantP_is hgl HU.out (hday tm h).1.1] at h1
      exact h1
    have Hd1 : Hid (∀ (N : Nat → Prop) w', Sl rStm N w' Au U → Calls Tryz.prog 59 #[.agg (askCs ((termAt p pu rg ch).getD tZero) (termAt p pu rg ch).isSome pu Au U.length cu), .int .i64 at'] w' (GivesAns (askR (termAt p pu rg ch) k t ch at' pu l) w')) := fun N w' h => Hd.out at' hat N w' h
    clear Hd hday hg hgl hno hid HU
    simp only [mayAns] at HAns
    obtain ⟨o, ho⟩ : ∃ o, termAt p pu rg ch = o := ⟨_, rfl⟩
    rw [ho] at HAns HAsk HWn HR Hd1 S
    (try rw [ho])
    clear ho
    obtain ⟨a0, Ha0⟩ : ∃ a0, Hid (askR o k t ch at' pu l = a0) := ⟨_, Lib.hid rfl⟩
    rw [Ha0.out] at Hd1
    have c3 := (S.lv 3 rfl).all
    go_wp2_with fail
    ((with_reducible refine (Hd1.out _ w5 (S.slc 2 rfl)).mono ?_); rintro e w6 ⟨rfl, hl6⟩)
    replace S := S.below hl6
    rw [show aVal a0 = Value.agg #[.bool a0.1, .int .i64 a0.2.1, .int .i64 a0.2.2] from rfl]
    clear hl6 c3 Hd1
    have hfm := fieldMay
    by_cases h1 : a0.1 = want
    · obtain rfl : ([], 0) = Rs := by rw [← HR.out, chgAns, Ha0.out, if_pos h1]
      have h1' : (a0.1 == want) = true := by simpa using h1
      clear h1 HR
      go_wp2_with fail
      exact bodyPost_ret (results_tt rfl rfl rfl) rfl ⟨none, 0, rfl, Sl.nil, S.b⟩
    · have HR1 : Hid ((if want = true ∧ o.isSome = false then ([], 16)
        else if want = true ∧ (askR o k t ch at' pu (l ++ addS k t pu rg ch at' (topNo l) (whatA o k t ch at' pu l want))).1 = false ∧ (askR o k t ch at' pu (l ++ addS k t pu rg ch at' (topNo l) (whatA o k t ch at' pu l want))).2.1 ≠ 8 then ([], 13)
        else if 1000000 < topNo l + (whatA o k t ch at' pu l want).length then ([], 12)
        else (addS k t pu rg ch at' (topNo l) (whatA o k t ch at' pu l want), 0)) = Rs) := by show _ = _; rw [← HR.out, chgAns, Ha0.out, if_neg h1]
      have h1' : (a0.1 == want) = false := by simpa using h1
      have HWl := Lib.hid (whatA_ok o k t ch at' pu l want)
      clear h1 HR
      go_upto_region 9 with fail
      clear hfm h1'
      obtain ⟨Y, hY⟩ : ∃ Y, Y = w6.heap.size := ⟨_, rfl⟩
      replace S := (S.newAt #[.int .i64 3] 3 Y hY).asOwn flatInt 4 rfl [3] rfl rfl (by simp) rfl 1 rfl
      rw [← hY]
      clear hY
      generalize w6.alloc (.cells #[.int .i64 3] 3) = w7 at *
      obtain ⟨Aw0, cw0, ew, S⟩ := S.frz 4 rfl
      rw [ew]
      clear ew
      cases want with
      | false =>
        obtain ⟨ws, hws⟩ : ∃ ws : List Int, ws = [3] := ⟨_, rfl⟩
        have HW : Hid (whatA o k t ch at' pu l false = ws) := by show _ = _; rw [hws]; rfl
        rw [← hws] at S ⊢
        obtain ⟨Aw, rfl⟩ : ∃ z, z = Aw0 := ⟨_, rfl⟩
        obtain ⟨cw, rfl⟩ : ∃ z, z = cw0 := ⟨_, rfl⟩
        have HWl2 : Hid (ws.length ≤ 2) := by show _ ≤ _; rw [hws]; decide
        clear hws HWn
        obtain ⟨no, Hno0⟩ : ∃ no, Hid (topNo l = no) := ⟨_, Lib.hid rfl⟩
        have hnr : 0 ≤ no ∧ no ≤ 1000000 := by
          rw [← Hno0.out]
          rcases (topNo_top l Hgl.out.no).2 with ⟨_, e⟩ | ⟨x, _, hx, e⟩
          · omega
          · have := Hgl.out.pos x hx; have := Hno.out x hx; omega
        have Htop := Lib.hid (topNo_top l Hgl.out.no).2
        go_upto_if 62 with fail
        have HS0 := Lib.hid S
        clear S
        go_cut [22] (fun s22 wx => s22 = .int .i64 no ∧ Mem w wx [.loc w.heap.size (idCs k t) 29, .loc (w.heap.size + 1) (qCs A p.length c pu rg ch at') 96, .sl rStm Au U, .loc K (askCs (o.getD tZero) o.isSome pu Au U.length cu) 102, .sl rInt Aw ws])
        case first =>
          have S := HS0.out
          clear HS0
          by_cases h0 : l.length = 0
          · have e0 : no = 0 := by
              rw [← Hno0.out]
              rcases Htop.out with ⟨_, e⟩ | ⟨x, _, hx, e⟩
              · exact e
              · rw [List.length_eq_zero_iff.1 h0] at hx; cases hx
            have hd0 : ¬ 0 < l.length := by omega
            clear h0
            go_wp2_with fail
            go_meet
            exact ⟨by rw [e0], S⟩
          · obtain ⟨s, hs, e0⟩ : ∃ s, l[l.length - 1]? = some s ∧ no = s.no := by
              rcases Htop.out with ⟨e, _⟩ | ⟨x, hx1, _, e⟩
              · exact absurd (by rw [e]; rfl) h0
              · exact ⟨x, hx1, by rw [← Hno0.out, e]⟩
            have hd0 : 0 < l.length := by omega
            obtain ⟨blk, off, rfl, hblk, d0, _⟩ := (HL.out _ S.b).stm (l.length - 1) s hs
            have hwr : IntKind.i64.wrap ((l.length : Int) - 1) = ((l.length - 1 : Nat) : Int) := by rw [IntWalk.i64_in _ (by omega)]; omega
            have hlt : l.length - 1 < l.length := by omega
            clear hs h0
            go_wp2_with fail
            go_meet
            exact ⟨by rw [e0], S⟩
        case rest =>
          clear HS0
          obtain ⟨rfl, S⟩ := hcut
          generalize wc = w9 at *
          replace S : Mem w w9 [.loc w.heap.size (idCs k t) 29, .loc (w.heap.size + 1) (qCs A p.length c pu rg ch at') 96, .sl rStm Au U, .loc K (askCs (o.getD tZero) o.isSome pu Au U.length cu) 102, .sl rInt Aw ws, .own rStm w.heap.size 38 (.slice none 0 0) []] := S.nil rStm w.heap.size 38
          go_wp2_with fail
          go_loopw [23, 72] (fun v i wr => ∃ (j : Nat) (out : List Stm), j ≤ ws.length ∧ i = .int .i64 j ∧ Hid (addS k t pu rg ch at' no (ws.take j) = out) ∧ Hid (out.length = j) ∧ Mem w wr [.loc w.heap.size (idCs k t) 29, .loc (w.heap.size + 1) (qCs A p.length c pu rg ch at') 96, .sl rStm Au U, .loc K (askCs (o.getD tZero) o.isSome pu Au U.length cu) 102, .sl rInt Aw ws, .own rStm w.heap.size 38 v out]) (fun _ i _ => ws.length - (intOf i).toNat)
          case atStart => exact ⟨0, [], Nat.zero_le _, rfl, Lib.hid rfl, Lib.hid rfl, S⟩
          case round =>
            clear S
            obtain ⟨j0, out, hj, rfl, HO, hol, S⟩ := hrel
            have hwl := HWl2.out
            by_cases hlt : j0 < ws.length
            · obtain ⟨x, hx⟩ : ∃ x, ws[j0]? = some x := ⟨_, List.getElem?_eq_getElem hlt⟩
              obtain ⟨blk, off, rfl, d0⟩ := (S.slc 4 rfl).oneW j0 x hx
              have hno1 : IntKind.i64.wrap (no + 1) = no + 1 := IntWalk.i64_in _ (by omega)
              have hno2 : IntKind.i64.wrap (no + 1 + (j0 : Int)) = no + 1 + j0 := IntWalk.i64_in _ (by omega)
              have HO2 : Hid (addS k t pu rg ch at' no (ws.take (j0 + 1)) = out ++ [mkS k t pu rg ch at' (no + 1 + j0) x]) := by
                show _ = _
                rw [take_snoc hx, addS_app, HO.out, List.length_take, Nat.min_eq_left (by omega)]
                simp only [addS]
                rw [show no + ((j0 : Nat) : Int) + 1 = no + 1 + j0 by omega]
              have c0 := (S.lv 0 rfl).all
              clear hx HO
              go_upto_region 21 with fail
              clear d0 c0
              obtain ⟨Q, hQ⟩ : ∃ Q, Q = wr.heap.size := ⟨_, rfl⟩
              replace S := S.newAt (stmCs ⟨no + 1 + j0, at', k, t, pu, rg, ch, x⟩) 38 Q hQ
              rw [← hQ]
              clear hQ
              generalize wr.alloc (.cells (stmCs ⟨no + 1 + j0, at', k, t, pu, rg, ch, x⟩) 38) = w10 at *
              have hho := ofChannel_any x
              by_cases hw : whole x = true
              · have HO3 : Hid (addS k t pu rg ch at' no (ws.take (j0 + 1)) = out ++ [(⟨no + 1 + j0, at', k, t, ⟨#[]⟩, rg, ch, x⟩ : Stm)]) := by show _ = _; rw [HO2.out, mkS, if_pos hw]
                have c6 := (S.lv 6 rfl).all
                clear HO2
                go_wp2_with fail
                ((with_reducible refine (hho _).mono ?_); rintro e _ ⟨rfl, rfl⟩)
                go_upto_region 23 with fail
                replace S := S.set 6 4 (.string ⟨#[]⟩) rfl
                generalize w10.setCell ⟨Q, 4, none⟩ (.string ⟨#[]⟩) = w11 at *
                clear c6
                have c6 : (∀ j, w11.cell? ⟨Q, j, none⟩ = (stmCs ⟨no + 1 + j0, at', k, t, ⟨#[]⟩, rg, ch, x⟩)[j]?) ∧ ∀ j, w11.frozen? ⟨Q, j, none⟩ = false := (S.lv 6 rfl).all
                have hsz := S.b.size
                go_wp2_with (at_builtin; refine S.app 5 rfl tyStmS rfl _ _ rfl ⟨no + 1 + j0, at', k, t, ⟨#[]⟩, rg, ch, x⟩ 1 rfl rfl rfl (oneStmS ⟨no + 1 + j0, at', k, t, ⟨#[]⟩, rg, ch, x⟩) hsz (by have := hol.out; omega) (by decide) ?_; intro v' w12 S12)
                go_roundw
                case rel => exact ⟨j0 + 1, _, by omega, by go_num, HO3, (by show _ = _; rw [List.length_append, hol.out]; rfl), S12.del 6⟩
                case measure => simp [intOf]; omega
              · have HO3 : Hid (addS k t pu rg ch at' no (ws.take (j0 + 1)) = out ++ [(⟨no + 1 + j0, at', k, t, pu, rg, ch, x⟩ : Stm)]) := by show _ = _; rw [HO2.out, mkS, if_neg hw]
                have hw' : whole x = false := by simpa using hw
                have c6 := (S.lv 6 rfl).all
                clear HO2 hw
                have hsz := S.b.size
                go_wp2_with fail
                ((with_reducible refine (hho _).mono ?_); rintro e _ ⟨rfl, rfl⟩)
                go_wp2_with (at_builtin; refine S.app 5 rfl tyStmS rfl _ _ rfl ⟨no + 1 + j0, at', k, t, pu, rg, ch, x⟩ 1 rfl rfl rfl (oneStmS ⟨no + 1 + j0, at', k, t, pu, rg, ch, x⟩) hsz (by have := hol.out; omega) (by decide) ?_; intro v' w12 S12)
                go_roundw
                case rel => exact ⟨j0 + 1, _, by omega, by go_num, HO3, (by show _ = _; rw [List.length_append, hol.out]; rfl), S12.del 6⟩
                case measure => simp [intOf]; omega
            · have HO2 : Hid (addS k t pu rg ch at' no ws = out) := by show _ = _; rw [← HO.out, List.take_of_length_le (by omega)]
              have hxl : Hid (out.length = ws.length) := by show _ = _; rw [hol.out]; omega
              clear HO hol
              obtain ⟨A7, c7, rfl⟩ := (S.ow 5 rfl).len
              have HT : Hid ((if 1000000 < no + (out.length : Int) then ([], 12) else (out, 0)) = Rs) := by
                show _ = _
                rw [← HR1.out, HW.out, Hno0.out, HO2.out, hxl.out]
                simp
              have hol2 : out.length ≤ 2 := by have := hxl.out; omega
              clear HR1 HW HO2 hxl
              have hws : IntKind.i64.wrap ((l.length : Int) + (out.length : Int)) = (l.length : Int) + (out.length : Int) := IntWalk.i64_in _ (by omega)
              have hws2 : IntKind.i64.wrap (no + (out.length : Int)) = no + (out.length : Int) := IntWalk.i64_in _ (by omega)
              have hd3 : decide ((l.length : Int) + (out.length : Int) > 3000) = false := decide_eq_false (by omega)
              by_cases h12 : 1000000 < no + (out.length : Int)
              · obtain rfl : ([], 12) = Rs := by rw [← HT.out, if_pos h12]
                have hd : decide (no + (out.length : Int) > 1000000) = true := decide_eq_true h12
                clear h12 HT
                go_wp2_with fail
                exact bodyPost_ret (results_tt rfl rfl rfl) rfl ⟨none, 0, rfl, Sl.nil, S.b⟩
              · obtain rfl : (out, 0) = Rs := by rw [← HT.out, if_neg h12]
                have hd : decide (no + (out.length : Int) > 1000000) = false := decide_eq_false h12
                clear h12 HT
                obtain ⟨A2, c2, e2, hSS⟩ := ((S.ow 5 rfl).flatM flatStm (M' := Lt w.heap.size)).toSlC (fun k h1 h2 => by unfold Lt at h2; omega)
                simp only [Value.slice.injEq] at e2
                obtain ⟨rfl, _, rfl⟩ := e2
                have HSS := Lib.hid hSS.2
                clear hSS
                go_wp2_with fail
                exact bodyPost_ret (results_tt rfl rfl rfl) rfl ⟨A7, c7, rfl, HSS.out, S.b⟩
      | true =>
        cases hos : o.isSome with
        | false =>
          obtain rfl : ([], 16) = Rs := by rw [← HR1.out, hos]; simp
          have c3 := (S.lv 3 rfl).all
          clear HR1
          go_wp2_with fail
          exact bodyPost_ret (results_tt rfl rfl rfl) rfl ⟨none, 0, rfl, Sl.nil, S.b⟩
        | true =>
          have Hw : Hid (Calls Tryz.prog 60 #[.agg (askCs (o.getD tZero) true pu Au U.length cu), .int .i64 at'] w7 (GivesL (whatA o k t ch at' pu l true) w7)) := by
            obtain ⟨tm, rfl⟩ := Option.isSome_iff_exists.1 hos
            exact HWn.out tm rfl _ w7 (S.slc 2 rfl)
          have c3 := (S.lv 3 rfl).all
          clear HWn
          go_wp2_with fail
          ((with_reducible refine (Hw.out).mono ?_); rintro e w8 ⟨Aw2, cw2, rfl, hSw, hl8⟩)
          obtain ⟨ws, HW⟩ : ∃ ws, Hid (whatA o k t ch at' pu l true = ws) := ⟨_, Lib.hid rfl⟩
          have HWl2 : Hid (ws.length ≤ 2) := by show _ ≤ _; rw [← HW.out]; exact HWl.out.1
          rw [HW.out] at hSw ⊢
          replace S := (S.call hl8 (.sl rInt Aw2 ws) hSw (fun k e => by cases e)).del 4
          have Hos := Lib.hid hos
          clear hl8 hSw c3 Hw hos
          obtain ⟨Aw, rfl⟩ : ∃ z, z = Aw2 := ⟨_, rfl⟩
          obtain ⟨cw, rfl⟩ : ∃ z, z = cw2 := ⟨_, rfl⟩
          go_upto_region 13 with fail
          replace S : Mem w w8 [.loc w.heap.size (idCs k t) 29, .loc (w.heap.size + 1) (qCs A p.length c pu rg ch at') 96, .sl rStm Au U, .loc K (askCs (o.getD tZero) o.isSome pu Au U.length cu) 102, .sl rInt Aw ws] := S
          obtain ⟨no, Hno0⟩ : ∃ no, Hid (topNo l = no) := ⟨_, Lib.hid rfl⟩
          have hnr : 0 ≤ no ∧ no ≤ 1000000 := by
            rw [← Hno0.out]
            rcases (topNo_top l Hgl.out.no).2 with ⟨_, e⟩ | ⟨x, _, hx, e⟩
            · omega
            · have := Hgl.out.pos x hx; have := Hno.out x hx; omega
          have Htop := Lib.hid (topNo_top l Hgl.out.no).2
          go_upto_if 62 with fail
          have HS0 := Lib.hid S
          clear S
          go_cut [22] (fun s22 wx => s22 = .int .i64 no ∧ Mem w wx [.loc w.heap.size (idCs k t) 29, .loc (w.heap.size + 1) (qCs A p.length c pu rg ch at') 96, .sl rStm Au U, .loc K (askCs (o.getD tZero) o.isSome pu Au U.length cu) 102, .sl rInt Aw ws])
          case first =>
            have S := HS0.out
            clear HS0
            by_cases h0 : l.length = 0
            · have e0 : no = 0 := by
                rw [← Hno0.out]
                rcases Htop.out with ⟨_, e⟩ | ⟨x, _, hx, e⟩
                · exact e
                · rw [List.length_eq_zero_iff.1 h0] at hx; cases hx
              have hd0 : ¬ 0 < l.length := by omega
              clear h0
              go_wp2_with fail
              go_meet
              exact ⟨by rw [e0], S⟩
            · obtain ⟨s, hs, e0⟩ : ∃ s, l[l.length - 1]? = some s ∧ no = s.no := by
                rcases Htop.out with ⟨e, _⟩ | ⟨x, hx1, _, e⟩
                · exact absurd (by rw [e]; rfl) h0
                · exact ⟨x, hx1, by rw [← Hno0.out, e]⟩
              have hd0 : 0 < l.length := by omega
              obtain ⟨blk, off, rfl, hblk, d0, _⟩ := (HL.out _ S.b).stm (l.length - 1) s hs
              have hwr : IntKind.i64.wrap ((l.length : Int) - 1) = ((l.length - 1 : Nat) : Int) := by rw [IntWalk.i64_in _ (by omega)]; omega
              have hlt : l.length - 1 < l.length := by omega
              clear hs h0
              go_wp2_with fail
              go_meet
              exact ⟨by rw [e0], S⟩
          case rest =>
            clear HS0
            obtain ⟨rfl, S⟩ := hcut
            generalize wc = w9 at *
            replace S : Mem w w9 [.loc w.heap.size (idCs k t) 29, .loc (w.heap.size + 1) (qCs A p.length c pu rg ch at') 96, .sl rStm Au U, .loc K (askCs (o.getD tZero) o.isSome pu Au U.length cu) 102, .sl rInt Aw ws, .own rStm w.heap.size 38 (.slice none 0 0) []] := S.nil rStm w.heap.size 38
            go_wp2_with fail
            go_loopw [23, 72] (fun v i wr => ∃ (j : Nat) (out : List Stm), j ≤ ws.length ∧ i = .int .i64 j ∧ Hid (addS k t pu rg ch at' no (ws.take j) = out) ∧ Hid (out.length = j) ∧ Mem w wr [.loc w.heap.size (idCs k t) 29, .loc (w.heap.size + 1) (qCs A p.length c pu rg ch at') 96, .sl rStm Au U, .loc K (askCs (o.getD tZero) o.isSome pu Au U.length cu) 102, .sl rInt Aw ws, .own rStm w.heap.size 38 v out]) (fun _ i _ => ws.length - (intOf i).toNat)
            case atStart => exact ⟨0, [], Nat.zero_le _, rfl, Lib.hid rfl, Lib.hid rfl, S⟩
            case round =>
              clear S
              obtain ⟨j0, out, hj, rfl, HO, hol, S⟩ := hrel
              have hwl := HWl2.out
              by_cases hlt : j0 < ws.length
              · obtain ⟨x, hx⟩ : ∃ x, ws[j0]? = some x := ⟨_, List.getElem?_eq_getElem hlt⟩
                obtain ⟨blk, off, rfl, d0⟩ := (S.slc 4 rfl).oneW j0 x hx
                have hno1 : IntKind.i64.wrap (no + 1) = no + 1 := IntWalk.i64_in _ (by omega)
                have hno2 : IntKind.i64.wrap (no + 1 + (j0 : Int)) = no + 1 + j0 := IntWalk.i64_in _ (by omega)
                have HO2 : Hid (addS k t pu rg ch at' no (ws.take (j0 + 1)) = out ++ [mkS k t pu rg ch at' (no + 1 + j0) x]) := by
                  show _ = _
                  rw [take_snoc hx, addS_app, HO.out, List.length_take, Nat.min_eq_left (by omega)]
                  simp only [addS]
                  rw [show no + ((j0 : Nat) : Int) + 1 = no + 1 + j0 by omega]
                have c0 := (S.lv 0 rfl).all
                clear hx HO
                go_upto_region 21 with fail
                clear d0 c0
                obtain ⟨Q, hQ⟩ : ∃ Q, Q = wr.heap.size := ⟨_, rfl⟩
                replace S := S.newAt (stmCs ⟨no + 1 + j0, at', k, t, pu, rg, ch, x⟩) 38 Q hQ
                rw [← hQ]
                clear hQ
                generalize wr.alloc (.cells (stmCs ⟨no + 1 + j0, at', k, t, pu, rg, ch, x⟩) 38) = w10 at *
                have hho := ofChannel_any x
                by_cases hw : whole x = true
                · have HO3 : Hid (addS k t pu rg ch at' no (ws.take (j0 + 1)) = out ++ [(⟨no + 1 + j0, at', k, t, ⟨#[]⟩, rg, ch, x⟩ : Stm)]) := by show _ = _; rw [HO2.out, mkS, if_pos hw]
                  have c6 := (S.lv 6 rfl).all
                  clear HO2
                  go_wp2_with fail
                  ((with_reducible refine (hho _).mono ?_); rintro e _ ⟨rfl, rfl⟩)
                  go_upto_region 23 with fail
                  replace S := S.set 6 4 (.string ⟨#[]⟩) rfl
                  generalize w10.setCell ⟨Q, 4, none⟩ (.string ⟨#[]⟩) = w11 at *
                  clear c6
                  have c6 : (∀ j, w11.cell? ⟨Q, j, none⟩ = (stmCs ⟨no + 1 + j0, at', k, t, ⟨#[]⟩, rg, ch, x⟩)[j]?) ∧ ∀ j, w11.frozen? ⟨Q, j, none⟩ = false := (S.lv 6 rfl).all
                  have hsz := S.b.size
                  go_wp2_with (at_builtin; refine S.app 5 rfl tyStmS rfl _ _ rfl ⟨no + 1 + j0, at', k, t, ⟨#[]⟩, rg, ch, x⟩ 1 rfl rfl rfl (oneStmS ⟨no + 1 + j0, at', k, t, ⟨#[]⟩, rg, ch, x⟩) hsz (by have := hol.out; omega) (by decide) ?_; intro v' w12 S12)
                  go_roundw
                  case rel => exact ⟨j0 + 1, _, by omega, by go_num, HO3, (by show _ = _; rw [List.length_append, hol.out]; rfl), S12.del 6⟩
                  case measure => simp [intOf]; omega
                · have HO3 : Hid (addS k t pu rg ch at' no (ws.take (j0 + 1)) = out ++ [(⟨no + 1 + j0, at', k, t, pu, rg, ch, x⟩ : Stm)]) := by show _ = _; rw [HO2.out, mkS, if_neg hw]
                  have hw' : whole x = false := by simpa using hw
                  have c6 := (S.lv 6 rfl).all
                  clear HO2 hw
                  have hsz := S.b.size
                  go_wp2_with fail
                  ((with_reducible refine (hho _).mono ?_); rintro e _ ⟨rfl, rfl⟩)
                  go_wp2_with (at_builtin; refine S.app 5 rfl tyStmS rfl _ _ rfl ⟨no + 1 + j0, at', k, t, pu, rg, ch, x⟩ 1 rfl rfl rfl (oneStmS ⟨no + 1 + j0, at', k, t, pu, rg, ch, x⟩) hsz (by have := hol.out; omega) (by decide) ?_; intro v' w12 S12)
                  go_roundw
                  case rel => exact ⟨j0 + 1, _, by omega, by go_num, HO3, (by show _ = _; rw [List.length_append, hol.out]; rfl), S12.del 6⟩
                  case measure => simp [intOf]; omega
              · have HO2 : Hid (addS k t pu rg ch at' no ws = out) := by show _ = _; rw [← HO.out, List.take_of_length_le (by omega)]
                have hxl : Hid (out.length = ws.length) := by show _ = _; rw [hol.out]; omega
                clear HO hol
                obtain ⟨A7, c7, rfl⟩ := (S.ow 5 rfl).len
                have HT : Hid ((if (askR o k t ch at' pu (l ++ out)).1 = false ∧ (askR o k t ch at' pu (l ++ out)).2.1 ≠ 8 then ([], 13) else if 1000000 < no + (out.length : Int) then ([], 12) else (out, 0)) = Rs) := by
                  show _ = _
                  rw [← HR1.out, HW.out, Hno0.out, HO2.out, hxl.out, Hos.out]
                  simp
                have HG : Hid (GoodL p (l ++ out)) := by
                  have h2 := Hadd.out ws HWl2.out
                  rw [Hno0.out, HO2.out] at h2
                  exact h2
                have hol2 : out.length ≤ 2 := by have := hxl.out; omega
                clear HR1 HW HO2 hxl
                go_wp2_with fail
                refine wp_region_mixG 10 (fun w' => LV w' w.heap.size (idCs k t) 29 ∧ LV w' (w.heap.size + 1) (qCs A p.length c pu rg ch at') 96) [.q 0, .q 1, .q 2, .q 5, .q 7, .f [3, 4, 6, 8, 9], .e 10] (by kernel_rfl) (by kernel_rfl) (fun w' hd => ⟨(S.below (hd.below _)).lv 0 rfl, (S.below (hd.below _)).lv 1 rfl⟩) (fun KK hKK wd hd => ?_)
                have HSd := Lib.hid (S.below (hd.below _))
                clear hd S
                refine mixG_loadR (.agg (qCs A p.length c pu rg ch at')) rfl rfl rfl rfl (fun w' h => loadQC h.2) ?_
                repeat (refine mixG_p rfl (fun K hK => ?_); go_simp; (try go_bits); (try simp (disch := omega) only [if_pos]); (try simp (disch := omega) only [if_neg]); (try simp (disch := omega) only [dif_pos]); (try simp (disch := omega) only [dif_neg]); (try go_simp); (refine hK _ ?_; clear hK K))
                refine mixG_loadR (.agg #[.int .i64 k, .string t]) rfl rfl rfl rfl (fun w' h => loadIdL h.1) ?_
                repeat (refine mixG_p rfl (fun K hK => ?_); go_simp; (try go_bits); (try simp (disch := omega) only [if_pos]); (try simp (disch := omega) only [if_neg]); (try simp (disch := omega) only [dif_pos]); (try simp (disch := omega) only [dif_neg]); (try go_simp); (refine hK _ ?_; clear hK K))
                refine free_plan [(3, 100, []), (4, 101, [(3, 100)]), (6, 103, [(4, 101)]), (8, 105, [(6, 103)]), (9, 27, [])] rfl (by kernel_rfl) (fun _ w' => Below wd.heap.size wd w') (fun x y => Below x.heap.size x y) (askFact wd.heap.size Al cl A7 c7 l out o k t ch pu (askR o k t ch at' pu (l ++ out))) (Below.refl _ _) (fun _ w' h => ⟨(HSd.out.below h).lv 0 rfl, (HSd.out.below h).lv 1 rfl⟩) ?_ (by rfl) ?_ ?_
                · refine all_cons (fun v _ _ k h => ?_) (all_cons (fun v _ _ k h => ?_) (all_cons (fun v _ _ k h => ?_) (all_cons (fun _ _ _ _ h => h) (all_cons (fun v _ _ k h => ?_) all_nil))))
                  · obtain ⟨blk, e, lv, hb⟩ := h
                    exact ⟨blk, e, (k.block blk lv.lt).trans lv, hb⟩
                  · obtain ⟨A2, c2, e, h⟩ := h
                    exact ⟨A2, c2, e, h.keepB k⟩
                  · obtain ⟨A3, U3, c3, e, h1, h2, h3⟩ := h
                    exact ⟨A3, U3, c3, e, h1, h2, h3.keepB k⟩
                  · obtain ⟨blk, e, lv, hb⟩ := h
                    exact ⟨blk, e, (k.block blk lv.lt).trans lv, hb⟩
                · refine all_cons ?_ (all_cons ?_ (all_cons ?_ (all_cons ?_ (all_cons ?_ all_nil))))
                  all_goals (intro oo ho c' ν w2 hc hinv hp; cases ho; simp only [fillD, List.foldl_cons, List.foldl_nil]; clear hc)
                  · go_wp2_with fail
                    first | exact ⟨_, rfl, (Below.refl _ _).alloc (Nat.le_refl _) _, hinv.alloc hinv.size _, w2.heap.size, rfl, LV.new _ _ _ _ rfl, hinv.size⟩ | exact ⟨(Below.refl _ _).alloc (Nat.le_refl _) _, hinv.alloc hinv.size _, w2.heap.size, rfl, LV.new _ _ _ _ rfl, hinv.size⟩
                  · obtain ⟨blk, e1, lv, hb⟩ := (hp (3, 100) (by simp) : ∃ blk, ν 3 = .slice (some ⟨blk, 0, none⟩) 2 2 ∧ LV w2 blk #[.slice Al l.length cl, .slice A7 out.length c7] 27 ∧ wd.heap.size ≤ blk)
                    have HS2 := Lib.hid (HSd.out.below hinv)
                    have HY : Hid (Sl rStm (fun _ => False) w2 A7 out) := by
                      obtain ⟨A2, c2, e2, hSS⟩ := ((HS2.out.ow 5 rfl).flatM flatStm (M' := fun _ => False)).toSlC (fun _ _ h => h)
                      simp only [Value.slice.injEq] at e2
                      obtain ⟨rfl, _, rfl⟩ := e2
                      exact hSS.2
                    have HCc := Lib.hid (concat_any blk Al A7 l out cl c7 w2 lv (HL.out w2 HS2.out.b) HY.out (by omega) (by omega))
                    simp only [e1]
                    clear hp lv hb
                    go_wp2_with fail
                    ((with_reducible refine (HCc.out).mono ?_); rintro e w3 ⟨A2, c2, rfl, hSl, hl3⟩)
                    have HSl := Lib.hid hSl
                    clear hSl
                    go_wp2_with fail
                    first | exact ⟨_, rfl, hl3, hinv.trans (hl3.mono hinv.size), A2, c2, by rw [List.length_append], HSl.out.mono (fun _ _ h => h.elim)⟩ | exact ⟨hl3, hinv.trans (hl3.mono hinv.size), A2, c2, by rw [List.length_append], HSl.out.mono (fun _ _ h => h.elim)⟩
                  · obtain ⟨A2, c2, e1, hSl⟩ := (hp (4, 101) (by simp) : ∃ A2 c2, ν 4 = .slice A2 (l ++ out).length c2 ∧ Sl rStm (fun _ => False) w2 A2 (l ++ out))
                    have HAz := Lib.hid (HAsk.out A2 (l ++ out) c2 HG.out (by rw [List.length_append]; omega) w2 (HSd.out.below hinv).b hSl)
                    simp only [e1]
                    clear hp hSl
                    generalize (l ++ out).length = nl at *
                    go_wp2_with fail
                    ((with_reducible refine (HAz.out).mono ?_); rintro e w3 ⟨A3, U3, c3, rfl, hU3, hc3, hS3, hl3⟩)
                    have HU3 := Lib.hid hU3
                    have HC3 := Lib.hid hc3
                    have HS3 := Lib.hid hS3
                    clear hU3 hc3 hS3
                    go_wp2_with fail
                    first | exact ⟨_, rfl, hl3, hinv.trans (hl3.mono hinv.size), A3, U3, c3, rfl, HU3.out, HC3.out, HS3.out.mono (fun _ _ h => h.elim)⟩ | exact ⟨hl3, hinv.trans (hl3.mono hinv.size), A3, U3, c3, rfl, HU3.out, HC3.out, HS3.out.mono (fun _ _ h => h.elim)⟩
                  · obtain ⟨A3, U3, c3, e1, hU3, hc3, hS3⟩ := (hp (6, 103) (by simp) : ∃ A3 U3 c3, ν 6 = .agg (askCs (o.getD tZero) o.isSome pu A3 U3.length c3) ∧ IsOf k t ch (l ++ out) U3 ∧ (U3.length ≤ c3 ∧ (A3 = none → c3 = 0) ∧ ∀ a, A3 = some a → a.spot = none) ∧ Sl rStm (fun _ => False) w2 A3 U3)
                    have HAz := Lib.hid (HAns.out (l ++ out) HG.out (by rw [List.length_append]; omega) U3 hU3 _ A3 c3 w2 hS3 hc3)
                    simp only [e1]
                    clear hp hU3 hc3 hS3
                    generalize U3.length = nl at *
                    go_wp2_with fail
                    ((with_reducible refine (HAz.out).mono ?_); rintro e w3 ⟨rfl, hl3⟩)
                    go_wp2_with fail
                    first | exact ⟨_, rfl, hl3, hinv.trans (hl3.mono hinv.size), rfl⟩ | exact ⟨hl3, hinv.trans (hl3.mono hinv.size), rfl⟩
                  · go_wp2_with fail
                    first | exact ⟨_, rfl, (Below.refl _ _).alloc (Nat.le_refl _) _, hinv.alloc hinv.size _, w2.heap.size, rfl, LV.new _ _ _ _ rfl, hinv.size⟩ | exact ⟨(Below.refl _ _).alloc (Nat.le_refl _) _, hinv.alloc hinv.size _, w2.heap.size, rfl, LV.new _ _ _ _ rfl, hinv.size⟩
                · intro ν w2 hinv hf
                  obtain ⟨a2, Ha2⟩ : ∃ a2, Hid (askR o k t ch at' pu (l ++ out) = a2) := ⟨_, Lib.hid rfl⟩
                  have e8 : ν 8 = Value.agg #[.bool a2.1, .int .i64 a2.2.1, .int .i64 a2.2.2] := by
                    have := (hf (8, 105, [(6, 103)]) (by simp) : ν 8 = aVal (askR o k t ch at' pu (l ++ out)))
                    rw [this, Ha2.out]
                  obtain ⟨X, e9, lvX, hX⟩ := (hf (9, 27, []) (by simp) : ∃ blk, ν 9 = .pointer (some ⟨blk, 0, none⟩) ∧ LV w2 blk (aCs false 0 0) 105 ∧ wd.heap.size ≤ blk)
                  have S := HSd.out.call hinv (.loc X (aCs false 0 0) 105) lvX (fun k e => by cases e; exact hX)
                  simp only [fillD, List.map_cons, List.map_nil, List.foldl_cons, List.foldl_nil, e8, e9]
                  clear hf hinv lvX e8 e9
                  generalize ν 3 = q3
                  generalize ν 4 = q4
                  generalize ν 6 = q6
                  rw [Ha2.out] at HT
                  have x6 := (S.lv 6 rfl).all
                  refine mixG_l rfl rfl (fun K hK => ?_)
                  go_wp2_with fail
                  refine ⟨fun h => absurd rfl h, ?_⟩
                  refine mixG_nil ?_
                  simp only [Exit.then]
                  refine hKK _ _ ?_
                  have S12 : Mem w (fillA w2 X a2.1 a2.2.1 a2.2.2) _ := S.fillAns 6 rfl a2.1 a2.2.1 a2.2.2
                  clear S x6
                  obtain ⟨w12, hw12⟩ : ∃ w12, w12 = fillA w2 X a2.1 a2.2.1 a2.2.2 := ⟨_, rfl⟩
                  rw [← hw12] at S12
                  rw [show (((w2.setCell ⟨X, 0, none⟩ (.bool a2.1)).setCell ⟨X, 1, none⟩ (.int .i64 a2.2.1)).setCell ⟨X, 2, none⟩ (.int .i64 a2.2.2)) = w12 from hw12.symm]
                  clear hw12
                  have x6 := (S12.lv 6 rfl).all
                  obtain ⟨am, ay, ao⟩ := a2
                  cases am
                  · by_cases h8 : ay = 8
                    · have h8' : (ay != 8) = false := by simpa using h8
                      rw [if_neg (fun h => h.2 h8)] at HT
                      clear h8
                      have hws : IntKind.i64.wrap ((l.length : Int) + (out.length : Int)) = (l.length : Int) + (out.length : Int) := IntWalk.i64_in _ (by omega)
                      have hws2 : IntKind.i64.wrap (no + (out.length : Int)) = no + (out.length : Int) := IntWalk.i64_in _ (by omega)
                      have hd3 : decide ((l.length : Int) + (out.length : Int) > 3000) = false := decide_eq_false (by omega)
                      by_cases h12 : 1000000 < no + (out.length : Int)
                      · obtain rfl : ([], 12) = Rs := by rw [← HT.out, if_pos h12]
                        have hd : decide (no + (out.length : Int) > 1000000) = true := decide_eq_true h12
                        clear h12 HT
                        go_wp2_with fail
                        exact bodyPost_ret (results_tt rfl rfl rfl) rfl ⟨none, 0, rfl, Sl.nil, S12.b⟩
                      · obtain rfl : (out, 0) = Rs := by rw [← HT.out, if_neg h12]
                        have hd : decide (no + (out.length : Int) > 1000000) = false := decide_eq_false h12
                        clear h12 HT
                        obtain ⟨A2, c2, e2, hSS⟩ := ((S12.ow 5 rfl).flatM flatStm (M' := Lt w.heap.size)).toSlC (fun k h1 h2 => by unfold Lt at h2; omega)
                        simp only [Value.slice.injEq] at e2
                        obtain ⟨rfl, _, rfl⟩ := e2
                        have HSS := Lib.hid hSS.2
                        clear hSS
                        go_wp2_with fail
                        exact bodyPost_ret (results_tt rfl rfl rfl) rfl ⟨A7, c7, rfl, HSS.out, S12.b⟩
                    · have h8' : (ay != 8) = true := by simpa using h8
                      obtain rfl : ([], 13) = Rs := by rw [← HT.out, if_pos ⟨rfl, h8⟩]
                      clear h8 HT
                      go_wp2_with fail
                      exact bodyPost_ret (results_tt rfl rfl rfl) rfl ⟨none, 0, rfl, Sl.nil, S12.b⟩
                  · rw [if_neg (fun h => Bool.noConfusion (h.1 : true = false))] at HT
                    have hws : IntKind.i64.wrap ((l.length : Int) + (out.length : Int)) = (l.length : Int) + (out.length : Int) := IntWalk.i64_in _ (by omega)
                    have hws2 : IntKind.i64.wrap (no + (out.length : Int)) = no + (out.length : Int) := IntWalk.i64_in _ (by omega)
                    have hd3 : decide ((l.length : Int) + (out.length : Int) > 3000) = false := decide_eq_false (by omega)
                    by_cases h12 : 1000000 < no + (out.length : Int)
                    · obtain rfl : ([], 12) = Rs := by rw [← HT.out, if_pos h12]
                      have hd : decide (no + (out.length : Int) > 1000000) = true := decide_eq_true h12
                      clear h12 HT
                      go_wp2_with fail
                      exact bodyPost_ret (results_tt rfl rfl rfl) rfl ⟨none, 0, rfl, Sl.nil, S12.b⟩
                    · obtain rfl : (out, 0) = Rs := by rw [← HT.out, if_neg h12]
                      have hd : decide (no + (out.length : Int) > 1000000) = false := decide_eq_false h12
                      clear h12 HT
                      obtain ⟨A2, c2, e2, hSS⟩ := ((S12.ow 5 rfl).flatM flatStm (M' := Lt w.heap.size)).toSlC (fun k h1 h2 => by unfold Lt at h2; omega)
                      simp only [Value.slice.injEq] at e2
                      obtain ⟨rfl, _, rfl⟩ := e2
                      have HSS := Lib.hid hSS.2
                      clear hSS
                      go_wp2_with fail
                      exact bodyPost_ret (results_tt rfl rfl rfl) rfl ⟨A7, c7, rfl, HSS.out, S12.b⟩
  · obtain rfl : ([], F) = Rs := by rw [← HRs.out, if_neg hF]
    have hF' : (F != 0) = true := by simpa using hF
    clear hF Hask Hans Hgood HRs HF0
    go_wp2_with fail
    exact bodyPost_ret (results_tt rfl rfl rfl) rfl ⟨none, 0, rfl, Sl.nil, S.b⟩
end Go.Proofs.YthmkphmciiiagaaGreatDoor

/- What handref2.AskOf returns. -/
namespace Go.Proofs.YthmkphmciiiagaaGreatDoor
open Go Go.RowKit
theorem GoodL.filter {p : List Purp} {l : List Stm} (h : GoodL p l) (q : Stm → Bool) : GoodL p (l.filter q) :=
  ⟨h.no.filter _, fun s hs => h.at' s (List.mem_filter.1 hs).1, fun s hs => h.wh s (List.mem_filter.1 hs).1, fun s hs => h.pos s (List.mem_filter.1 hs).1, fun s hs => h.id s (List.mem_filter.1 hs).1⟩
theorem topNo_snoc : ∀ (l : List Stm) (s : Stm), topNo (l ++ [s]) = s.no
  | [], _ => rfl
  | [_], _ => rfl
  | _ :: u :: r, s => topNo_snoc (u :: r) s
theorem topNo_le {l : List Stm} (h : l.Pairwise (fun a b => a.no < b.no)) (hp : ∀ s ∈ l, 1 ≤ s.no ∧ s.no ≤ 2000000) {j : Nat} {s : Stm} (hs : l[j]? = some s) : topNo (l.take j) ≤ s.no ∧ 0 ≤ topNo (l.take j) := by
  obtain ⟨hj, rfl⟩ := List.getElem?_eq_some_iff.1 hs
  have ho : (l.take (j + 1)).Pairwise (fun a b => a.no < b.no) := h.sublist (List.take_sublist ..)
  rw [take_snoc hs, List.pairwise_append] at ho
  rcases (topNo_top (l.take j) ho.1).2 with ⟨_, e⟩ | ⟨x, _, hx, e⟩
  · have := hp _ (List.getElem_mem hj); omega
  · have h1 := ho.2.2 x hx l[j] (by simp)
    have h2 := hp x (List.mem_of_mem_take hx)
    omega
theorem idxNilS_any (f : Value) (w : World) : Calls Tryz.prog 143 #[.slice none 0 0, f] w fun e w' => e = .returned (.int .i64 (-1)) ∧ w = w' := by
  go_enter Tryz.func143, Tryz.ntmps143
  go_wp2_with fail
  go_loopw [8] (fun i wr => i = .int .i64 0 ∧ w = wr) (fun _ _ => 0)
  case atStart => exact ⟨rfl, rfl⟩
  case round =>
    obtain ⟨rfl, rfl⟩ := hrel
    go_wp2_with fail
    go_ret
    exact ⟨rfl, rfl⟩
theorem delNilS_any (f : Value) (w : World) : Calls Tryz.prog 67 #[.slice none 0 0, f] w fun e w' => e = .returned (.slice none 0 0) ∧ w = w' := by
  have h := Lib.hid (idxNilS_any f w)
  go_enter Tryz.func67, Tryz.ntmps67
  go_wp2_with fail
  ((with_reducible refine (h.out).mono ?_); rintro e w2 ⟨rfl, rfl⟩)
  go_wp2_with fail
  go_ret
  exact ⟨rfl, rfl⟩
/-- all but the objections, of a copy of the call's own -/
theorem calmS_any {w0 w : World} {cs : List Chunk} {B : Nat} {v : Value} {l : List Stm} (S : Mem w0 w (.own rStm B 38 v l :: cs)) (hl : l.length ≤ 1000) :
    Calls Tryz.prog 67 #[v, .func (.func 68) #[] #[]] w fun e w' => ∃ v', e = .returned v' ∧ Mem w0 w' (.own rStm B 38 v' (l.filter calmB) :: cs) := by
  rcases (S.ow 0 rfl).shape2 with ⟨rfl, rfl⟩ | ⟨g, cap, rfl, _⟩
  · refine (delNilS_any _ w).mono ?_
    rintro e w' ⟨rfl, rfl⟩
    exact ⟨_, rfl, S⟩
  · refine (delS_any S rfl (by omega)).mono ?_
    rintro e w' ⟨rfl, S'⟩
    exact ⟨_, rfl, S'⟩
/-- what the operations of the drawn region lay -/
def chgFact (B : Nat) (Al : Option Addr) (cl : Nat) (A7 : Option Addr) (c7 : Nat) (l ys : List Stm) (a2 : Ans) (i : Nat) (v : Value) (w : World) : Prop :=
  match i with
  | 3 => ∃ blk, v = .slice (some ⟨blk, 0, none⟩) 2 2 ∧ LV w blk #[.slice Al l.length cl, .slice A7 ys.length c7] 27 ∧ B ≤ blk
  | 4 => ∃ A2 c2, v = .slice A2 (l ++ ys).length c2 ∧ Sl rStm (fun _ => False) w A2 (l ++ ys)
  | 6 => v = aVal a2
  | 7 => ∃ blk, v = .pointer (some ⟨blk, 0, none⟩) ∧ LV w blk (aCs false 0 0) 105 ∧ B ≤ blk
  | _ => True
set_option maxHeartbeats 16000000 in
set_option maxRecDepth 100000 in
theorem refChg_any (A Al : Option Addr) (p : List Purp) (l : List Stm) (c cl : Nat) (k : Int) (t pu rg : ByteArray) (ch at' : Int) (want : Bool) (w : World) (hS : Sl rPurp (fun _ => False) w A p) (hg : GoodPol p) (hL : Sl rStm (fun _ => False) w Al l) (hgl : GoodL p l) (hno : ∀ s ∈ l, s.no ≤ 1000000) (hk : L.idFault k t = 0) (hl : l.length ≤ 500) (hcl : Al = none → cl = 0) (hat : 0 ≤ at' ∧ at' ≤ 4321439) :
    Calls Tryz.prog 15 #[.slice A p.length c, .slice Al l.length cl, .agg (qqCs k t pu rg ch at'), .bool want] w (GivesChg (chgAns (termAt p pu rg ch) k t pu rg ch at' l want).1 (chgAns (termAt p pu rg ch) k t pu rg ch at' l want).2 w) := by
  have HL := Lib.hid (fun w' (h : Below w.heap.size w w') => hL.keepB h)
  have HAs := Lib.hid (fun (B : Option Addr) (l' : List Stm) (c' : Nat) w' (h : Below w.heap.size w w') (hL' : Sl rStm (fun _ => False) w' B l') (hg' : GoodL p l') (hl' : l'.length ≤ 100000) => refAsked_any (fun _ => False) A B p l' c c' k t pu rg ch at' w' (hS.keepB h) hg hL' hg' hl' hat)
  have Hgl := Lib.hid hgl
  have Hno := Lib.hid hno
  have Hadd := Lib.hid (fun (ws : List Int) (h : ws.length ≤ 2) => hgl.add hno hk pu rg ch hat h)
  obtain ⟨o, ho⟩ : ∃ o, termAt p pu rg ch = o := ⟨_, rfl⟩
  have Ho := Lib.hid ho
  rw [ho]
  obtain ⟨R, HR⟩ : ∃ R, Hid (chgAns o k t pu rg ch at' l want = R) := ⟨_, Lib.hid rfl⟩
  rw [HR.out]
  have S := (Mem.start w).new' (qqCs k t pu rg ch at') 31
  replace S : Mem w (w.alloc (.cells (qqCs k t pu rg ch at') 31)) [.loc w.heap.size (qqCs k t pu rg ch at') 31] := S
  have HA1 := Lib.hid (fun w' h => HAs.out Al l cl w' h (HL.out w' h) hgl (by omega))
  obtain ⟨a0, Ha0⟩ : ∃ a0, Hid (askR o k t ch at' pu l = a0) := ⟨_, Lib.hid rfl⟩
  have HA0 : Hid (∀ w', Below w.heap.size w w' → Calls Tryz.prog 65 #[.slice A p.length c, .slice Al l.length cl, .agg (qqCs k t pu rg ch at')] w' (GivesAns a0 w')) := fun w' h => by
    have := HA1.out w' h
    rw [mayAns, ho, Ha0.out] at this
    exact this
  clear hS hg hL hgl hno hk HA1 ho
  go_enter Tryz.func15, Tryz.ntmps15
  go_upto_region 1 with fail
  generalize w.alloc (.cells (qqCs k t pu rg ch at') 31) = w1 at *
  have c0 := (S.lv 0 rfl).all
  go_wp2_with fail
  ((with_reducible refine (HA0.out w1 S.b).mono ?_); rintro e w2 ⟨rfl, hl2⟩)
  rw [show aVal a0 = Value.agg #[.bool a0.1, .int .i64 a0.2.1, .int .i64 a0.2.2] from rfl]
  replace S := S.below hl2
  clear hl2 HA0 c0
  go_upto_region 2 with fail
  obtain ⟨K, hK⟩ : ∃ K, K = w2.heap.size := ⟨_, rfl⟩
  replace S := S.newAt (aCs a0.1 a0.2.1 a0.2.2) 105 K hK
  rw [← hK]
  clear hK
  generalize w2.alloc (.cells (aCs a0.1 a0.2.1 a0.2.2) 105) = w3 at *
  have c1 := (S.lv 1 rfl).all
  by_cases h1 : a0.1 = want
  · obtain rfl : ([], 0) = R := by rw [← HR.out, chgAns, Ha0.out, if_pos h1]
    have h1' : (a0.1 == want) = true := by simpa using h1
    clear h1 HR
    go_wp2_with fail
    exact bodyPost_ret (results_tt rfl rfl rfl) rfl ⟨none, 0, rfl, Sl.nil, S.b⟩
  · have HR1 : Hid ((if want = true ∧ o.isSome = false then ([], 16)
      else if want = true ∧ (askR o k t ch at' pu (l ++ addS k t pu rg ch at' (topNo l) (whatA o k t ch at' pu l want))).1 = false ∧ (askR o k t ch at' pu (l ++ addS k t pu rg ch at' (topNo l) (whatA o k t ch at' pu l want))).2.1 ≠ 8 then ([], 13)
      else if 1000000 < topNo l + (whatA o k t ch at' pu l want).length then ([], 12)
      else (addS k t pu rg ch at' (topNo l) (whatA o k t ch at' pu l want), 0)) = R) := by show _ = _; rw [← HR.out, chgAns, Ha0.out, if_neg h1]
    have h1' : (a0.1 == want) = false := by simpa using h1
    clear h1 HR
    go_upto_region 5 with fail
    clear h1' c1
    obtain ⟨M, hM⟩ : ∃ M, M = w3.heap.size := ⟨_, rfl⟩
    replace S := S.newAt #[.int .i64 0] 3 M hM
    replace S : Mem w (w3.alloc (.cells #[.int .i64 0] 3)) [.loc w.heap.size (qqCs k t pu rg ch at') 31, .loc K (aCs a0.1 a0.2.1 a0.2.2) 105, .loc M #[.int .i64 0] 3] := S
    rw [← hM]
    clear hM
    generalize w3.alloc (.cells #[.int .i64 0] 3) = w4 at *
    go_wp2_with fail
    go_loopw [28] (fun i wr => ∃ (j : Nat) (m : Int), j ≤ l.length ∧ i = .int .i64 j ∧ Hid (topNo (l.take j) = m) ∧ Mem w wr [.loc w.heap.size (qqCs k t pu rg ch at') 31, .loc K (aCs a0.1 a0.2.1 a0.2.2) 105, .loc M #[.int .i64 m] 3]) (fun i _ => l.length - (intOf i).toNat)
    case atStart => exact ⟨0, 0, Nat.zero_le _, rfl, Lib.hid rfl, S⟩
    case round =>
      clear S
      obtain ⟨j, m, hj, rfl, Hm, S⟩ := hrel
      by_cases hlt : j < l.length
      · obtain ⟨s, hf⟩ : ∃ s, l[j]? = some s := ⟨_, List.getElem?_eq_getElem hlt⟩
        obtain ⟨blk, off, rfl, hblk, d0, d1, d2, d3, d4, d5, d6, d7⟩ := (HL.out wr S.b).stm j s hf
        have hle := topNo_le Hgl.out.no Hgl.out.pos hf
        rw [Hm.out] at hle
        have Hm2 : Hid (topNo (l.take (j + 1)) = s.no) := by show _ = _; rw [take_snoc hf, topNo_snoc]
        clear hf Hm
        go_upto_region 8 with fail
        clear d0 d1 d2 d3 d4 d5 d6 d7
        obtain ⟨Y, hY⟩ : ∃ Y, Y = wr.heap.size := ⟨_, rfl⟩
        replace S := S.newAt (stmCs s) 38 Y hY
        rw [← hY]
        clear hY
        generalize wr.alloc (.cells (stmCs s) 38) = w5 at *
        have c2 := (S.lv 2 rfl).all
        have c3 := (S.lv 3 rfl).all
        have hmx : max m s.no = s.no := Int.max_eq_right hle.1
        go_wp2_with fail
        go_roundw
        case rel => exact ⟨j + 1, s.no, by omega, by go_num, Hm2, (S.set 2 0 (.int .i64 s.no) rfl).del 3⟩
        case measure => simp [intOf]; omega
      · have hm0 : 0 ≤ m ∧ m ≤ 1000000 := by
          rw [← Hm.out, List.take_of_length_le (by omega)]
          rcases (topNo_top l Hgl.out.no).2 with ⟨_, e⟩ | ⟨x, _, hx, e⟩
          · omega
          · have := Hgl.out.pos x hx; have := Hno.out x hx; omega
        have Hm2 : Hid (topNo l = m) := by show _ = _; rw [← Hm.out, List.take_of_length_le (by omega)]
        rw [Hm2.out] at HR1
        clear Hm
        go_upto_region 11 with fail
        obtain ⟨O, hO⟩ : ∃ O, O = wr.heap.size := ⟨_, rfl⟩
        replace S := (S.newAt #[.slice none 0 0] 27 O hO).nil rStm w.heap.size 38
        replace S : Mem w (wr.alloc (.cells #[.slice none 0 0] 27)) [.loc M #[.int .i64 m] 3, .loc O #[.slice none 0 0] 27, .own rStm w.heap.size 38 (.slice none 0 0) [], .loc w.heap.size (qqCs k t pu rg ch at') 31, .loc K (aCs a0.1 a0.2.1 a0.2.2) 105] := S.perm (List.perm_append_comm (l₁ := [Chunk.loc w.heap.size (qqCs k t pu rg ch at') 31, Chunk.loc K (aCs a0.1 a0.2.1 a0.2.2) 105]))
        rw [← hO]
        clear hO
        generalize wr.alloc (.cells #[.slice none 0 0] 27) = w6 at *
        cases want with
        | false =>
          obtain ⟨xs, hxs⟩ : ∃ xs : List Stm, xs = [(⟨m + 1, at', k, t, pu, rg, ch, 3⟩ : Stm)] := ⟨_, rfl⟩
          have HT : Hid ((if 1000000 < m + 1 then ([], 12) else (xs, 0)) = R) := by
            show _ = _
            rw [← HR1.out, hxs]
            simp [whatA, addS, mkS, whole]
          have hxl : xs.length ≤ 2 := by rw [hxs]; simp
          clear HR1
          have c3 := (S.lv 3 rfl).all
          go_wp2_with fail
          ((with_reducible refine (askAdd_any w w6 M O w.heap.size w.heap.size m _ [] k t pu rg ch at' 3 pu [.loc K (aCs a0.1 a0.2.1 a0.2.2) 105] S (by omega) (by simp) rfl).mono ?_); rintro e w7 ⟨rfl, v7, S7⟩)
          rw [List.nil_append, ← hxs] at S7
          clear S c3 hxs
          obtain ⟨no, hno⟩ : ∃ no, m + 1 = no := ⟨_, rfl⟩
          rw [hno] at S7 HT
          obtain ⟨A7, c7, rfl⟩ := (S7.ow 2 rfl).len
          have c0 := (S7.lv 0 rfl).all
          have c1 := (S7.lv 1 rfl).all
          have hws : IntKind.i64.wrap ((l.length : Int) + (xs.length : Int)) = (l.length : Int) + (xs.length : Int) := IntWalk.i64_in _ (by omega)
          have hd3 : decide ((l.length : Int) + (xs.length : Int) > 3000) = false := decide_eq_false (by omega)
          by_cases h12 : 1000000 < no
          · obtain rfl : ([], 12) = R := by rw [← HT.out, if_pos h12]
            have hd : decide (no > 1000000) = true := decide_eq_true h12
            clear h12 HT
            go_wp2_with fail
            exact bodyPost_ret (results_tt rfl rfl rfl) rfl ⟨none, 0, rfl, Sl.nil, S7.b⟩
          · obtain rfl : (xs, 0) = R := by rw [← HT.out, if_neg h12]
            have hd : decide (no > 1000000) = false := decide_eq_false h12
            clear h12 HT
            obtain ⟨A2, c2, e2, hSS⟩ := ((S7.ow 2 rfl).flatM flatStm (M' := Lt w.heap.size)).toSlC (fun k h1 h2 => by unfold Lt at h2; omega)
            simp only [Value.slice.injEq] at e2
            obtain ⟨rfl, _, rfl⟩ := e2
            have HSS := Lib.hid hSS.2
            clear hSS
            go_wp2_with fail
            exact bodyPost_ret (results_tt rfl rfl rfl) rfl ⟨A7, c7, rfl, HSS.out, S7.b⟩
        | true =>
          have c4 := (S.lv 4 rfl).all
          cases o with
          | none =>
            obtain rfl : ([], 16) = R := by rw [← HR1.out]; simp
            have h3 : a0.2.1 = 3 := by rw [← Ha0.out]; rfl
            have h3' : (a0.2.1 == 3) = true := by simpa using h3
            clear HR1 h3
            go_wp2_with fail
            exact bodyPost_ret (results_tt rfl rfl rfl) rfl ⟨none, 0, rfl, Sl.nil, S.b⟩
          | some tm =>
            have h3 : a0.2.1 ≠ 3 := by rw [← Ha0.out]; exact askR_none tm k t ch at' pu l
            have h3' : (a0.2.1 == 3) = false := by simpa using h3
            clear h3
            have Hcl := Lib.hid (cloneS_any Al l cl w6 (HL.out w6 S.b) (by omega) hcl)
            go_wp2_with fail
            ((with_reducible refine (Hcl.out).mono ?_); rintro e w7 ⟨v, rfl, T⟩)
            clear Hcl c4 h3'
            have HB6 := Lib.hid S.b.size
            replace S := S.join T
            replace S : Mem w w7 [.loc M #[.int .i64 m] 3, .loc O #[.slice none 0 0] 27, .own rStm w.heap.size 38 (.slice none 0 0) [], .loc w.heap.size (qqCs k t pu rg ch at') 31, .loc K (aCs a0.1 a0.2.1 a0.2.2) 105, .own rStm w6.heap.size 38 v l] := S
            clear T
            have SF : Mem w w7 (.own rStm w6.heap.size 38 v l :: [.loc M #[.int .i64 m] 3, .loc O #[.slice none 0 0] 27, .own rStm w.heap.size 38 (.slice none 0 0) [], .loc w.heap.size (qqCs k t pu rg ch at') 31, .loc K (aCs a0.1 a0.2.1 a0.2.2) 105]) := Mem.front (cs := [.loc M #[.int .i64 m] 3, .loc O #[.slice none 0 0] 27, .own rStm w.heap.size 38 (.slice none 0 0) [], .loc w.heap.size (qqCs k t pu rg ch at') 31, .loc K (aCs a0.1 a0.2.1 a0.2.2) 105]) S
            have Hcm := Lib.hid (calmS_any SF (by omega))
            go_wp2_with fail
            ((with_reducible refine (Hcm.out).mono ?_); rintro e w8 ⟨vC, rfl, S8⟩)
            clear Hcm S SF
            replace S8 : Mem w w8 [.loc M #[.int .i64 m] 3, .loc O #[.slice none 0 0] 27, .own rStm w.heap.size 38 (.slice none 0 0) [], .loc w.heap.size (qqCs k t pu rg ch at') 31, .loc K (aCs a0.1 a0.2.1 a0.2.2) 105, .own rStm w6.heap.size 38 vC (l.filter calmB)] := S8.back
            have c4 := (S8.lv 4 rfl).all
            by_cases h6 : a0.2.1 = 6
            · have h6' : (a0.2.1 == 6) = true := by simpa using h6
              obtain ⟨xs, hxs⟩ : ∃ xs : List Stm, xs = [(⟨m + 1, at', k, t, ⟨#[]⟩, rg, ch, 5⟩ : Stm)] := ⟨_, rfl⟩
              have Hx : Hid (xs = addS k t pu rg ch at' m [5]) := by show _ = _; rw [hxs]; simp [addS, mkS, whole]
              go_wp2_with fail
              ((with_reducible refine (askAdd_any w w8 M O w.heap.size w.heap.size m _ [] k t pu rg ch at' 5 ⟨#[]⟩ [.loc K (aCs a0.1 a0.2.1 a0.2.2) 105, .own rStm w6.heap.size 38 vC (l.filter calmB)] S8 (by omega) (by simp) rfl).mono ?_); rintro e w9 ⟨rfl, v9, S⟩)
              rw [List.nil_append, ← hxs] at S
              have hxl : xs.length ≤ 1 := by rw [hxs]; exact Nat.le_refl _
              clear S8 c4 hxs h6'
              obtain ⟨ws, hws⟩ : ∃ ws : List Int, ws = [5] := ⟨_, rfl⟩
              have Hn : Hid (m + 1 = m + ((ws.length : Nat) : Int)) := by show _ = _; rw [hws]; rfl
              have hno : 0 ≤ m + 1 ∧ m + 1 ≤ 1000001 := by omega
              have HW : Hid (whatA (some tm) k t ch at' pu l true = ws ++ (if (askR (some tm) k t ch at' pu (l.filter calmB)).1 = false then [1] else [])) := by
                show _ = _
                unfold whatA
                rw [if_neg (by simp), Ha0.out, if_pos h6, hws]
              rw [← hws] at Hx
              generalize m + 1 = no at *
              clear h6 hws
              obtain ⟨AC, cC, rfl⟩ := (S.ow 5 rfl).len
              have HAC : Hid (Calls Tryz.prog 65 #[.slice A p.length c, .slice AC (l.filter calmB).length cC, .agg (qqCs k t pu rg ch at')] w9 (GivesAns (askR (some tm) k t ch at' pu (l.filter calmB)) w9)) := by
                obtain ⟨A2, c2, e2, hSS⟩ := ((S.ow 5 rfl).flatM flatStm (M' := fun _ => False)).toSlC (fun _ _ h => h)
                simp only [Value.slice.injEq] at e2
                obtain ⟨rfl, _, rfl⟩ := e2
                have := HAs.out AC (l.filter calmB) cC w9 S.b hSS.2 (Hgl.out.filter _) (Nat.le_trans (List.length_filter_le ..) (by omega))
                rw [mayAns, Ho.out] at this
                exact this
              generalize askR (some tm) k t ch at' pu (l.filter calmB) = a1 at *
              have c3 := (S.lv 3 rfl).all
              go_wp2_with fail
              ((with_reducible refine (HAC.out).mono ?_); rintro e w10 ⟨rfl, hl10⟩)
              replace S := S.below hl10
              clear hl10 HAC c3
              obtain ⟨m1, y1, n1⟩ := a1
              rw [show aVal (m1, y1, n1) = Value.agg #[.bool m1, .int .i64 y1, .int .i64 n1] from rfl]
              have hfm := fieldMay
              have c3 := (S.lv 3 rfl).all
              cases m1
              · obtain ⟨ys, hys⟩ : ∃ ys : List Stm, ys = xs ++ [(⟨no + 1, at', k, t, pu, rg, ch, 1⟩ : Stm)] := ⟨_, rfl⟩
                have HT : Hid ((if (askR (some tm) k t ch at' pu (l ++ ys)).1 = false ∧ (askR (some tm) k t ch at' pu (l ++ ys)).2.1 ≠ 8 then ([], 13) else if 1000000 < no + 1 then ([], 12) else (ys, 0)) = R) := by
                  have e1 : addS k t pu rg ch at' m (ws ++ [1]) = ys := by
                    rw [addS_app, ← Hx.out, ← Hn.out, hys]
                    simp [addS, mkS, whole]
                  have e2 : m + (((ws ++ [1]).length : Nat) : Int) = no + 1 := by rw [Hn.out, List.length_append]; simp; omega
                  show _ = _
                  rw [← HR1.out, HW.out]
                  simp only [if_true, e1, e2]
                  simp
                have HG : Hid (GoodL p (l ++ ys)) := by
                  have h1 := congrArg List.length Hx.out
                  rw [addS_len] at h1
                  have h2 := Hadd.out (ws ++ [1]) (by rw [List.length_append, List.length_singleton]; omega)
                  have e1 : addS k t pu rg ch at' m (ws ++ [1]) = ys := by
                    rw [addS_app, ← Hx.out, ← Hn.out, hys]
                    simp [addS, mkS, whole]
                  rw [Hm2.out, e1] at h2
                  exact h2
                have hyl : ys.length ≤ 2 := by rw [hys, List.length_append, List.length_singleton]; omega
                go_wp2_with fail
                ((with_reducible refine (askAdd_any w w10 M O w.heap.size w.heap.size no _ xs k t pu rg ch at' 1 pu [.loc K (aCs a0.1 a0.2.1 a0.2.2) 105, .own rStm w6.heap.size 38 (.slice AC (l.filter calmB).length cC) (l.filter calmB)] S (by omega) (by omega) rfl).mono ?_); rintro e w11 ⟨rfl, v11, S11⟩)
                rw [← hys] at S11
                clear S c3 hys HR1 HW Hx Hn hfm
                obtain ⟨no1, hno1⟩ : ∃ z, no + 1 = z := ⟨_, rfl⟩
                rw [hno1] at S11 HT
                clear hno1
                go_wp2_with fail
                obtain ⟨A7, c7, rfl⟩ := (S11.ow 2 rfl).len
                refine wp_region_mixG 8 (fun w' => LV w' O #[.slice A7 ys.length c7] 27 ∧ LV w' w.heap.size (qqCs k t pu rg ch at') 31) [.q 0, .q 1, .q 2, .q 5, .f [3, 4, 6, 7], .e 8] (by kernel_rfl) (by kernel_rfl) (fun w' hd => ⟨(S11.below (hd.below _)).lv 1 rfl, (S11.below (hd.below _)).lv 3 rfl⟩) (fun KK hKK wd hd => ?_)
                have HSd := Lib.hid (S11.below (hd.below _))
                clear hd S11
                repeat (refine mixG_p rfl (fun K hK => ?_); go_simp; (try go_bits); (try simp (disch := omega) only [if_pos]); (try simp (disch := omega) only [if_neg]); (try simp (disch := omega) only [dif_pos]); (try simp (disch := omega) only [dif_neg]); (try go_simp); (refine hK _ ?_; clear hK K))
                refine mixG_load (.slice A7 ys.length c7) rfl rfl rfl rfl (fun _ => rfl) (fun w' h => h.1.cell 0 _ rfl) ?_
                refine mixG_loadR (.agg (qqCs k t pu rg ch at')) rfl rfl rfl rfl (fun w' h => loadQQ h.2) ?_
                refine free_plan [(3, 68, []), (4, 69, [(3, 68)]), (6, 71, [(4, 69)]), (7, 17, [])] rfl (by kernel_rfl) (fun _ w' => Below wd.heap.size wd w') (fun x y => Below x.heap.size x y) (chgFact wd.heap.size Al cl A7 c7 l ys (askR (some tm) k t ch at' pu (l ++ ys))) (Below.refl _ _) (fun _ w' h => ⟨(HSd.out.below h).lv 1 rfl, (HSd.out.below h).lv 3 rfl⟩) ?_ (by rfl) ?_ ?_
                · refine all_cons (fun v _ _ k h => ?_) (all_cons (fun v _ _ k h => ?_) (all_cons (fun _ _ _ _ h => h) (all_cons (fun v _ _ k h => ?_) all_nil)))
                  · obtain ⟨blk, e, lv, hb⟩ := h
                    exact ⟨blk, e, (k.block blk lv.lt).trans lv, hb⟩
                  · obtain ⟨A2, c2, e, h⟩ := h
                    exact ⟨A2, c2, e, h.keepB k⟩
                  · obtain ⟨blk, e, lv, hb⟩ := h
                    exact ⟨blk, e, (k.block blk lv.lt).trans lv, hb⟩
                · refine all_cons ?_ (all_cons ?_ (all_cons ?_ (all_cons ?_ all_nil)))
                  all_goals (intro o ho c' ν w2 hc hinv hp; cases ho; simp only [fillD, List.foldl_cons, List.foldl_nil]; clear hc)
                  · go_wp2_with fail
                    first | exact ⟨_, rfl, (Below.refl _ _).alloc (Nat.le_refl _) _, hinv.alloc hinv.size _, w2.heap.size, rfl, LV.new _ _ _ _ rfl, hinv.size⟩ | exact ⟨(Below.refl _ _).alloc (Nat.le_refl _) _, hinv.alloc hinv.size _, w2.heap.size, rfl, LV.new _ _ _ _ rfl, hinv.size⟩
                  · obtain ⟨blk, e1, lv, hb⟩ := (hp (3, 68) (by simp) : ∃ blk, ν 3 = .slice (some ⟨blk, 0, none⟩) 2 2 ∧ LV w2 blk #[.slice Al l.length cl, .slice A7 ys.length c7] 27 ∧ wd.heap.size ≤ blk)
                    have HS2 := Lib.hid (HSd.out.below hinv)
                    have HY : Hid (Sl rStm (fun _ => False) w2 A7 ys) := by
                      obtain ⟨A2, c2, e2, hSS⟩ := ((HS2.out.ow 2 rfl).flatM flatStm (M' := fun _ => False)).toSlC (fun _ _ h => h)
                      simp only [Value.slice.injEq] at e2
                      obtain ⟨rfl, _, rfl⟩ := e2
                      exact hSS.2
                    have HCc := Lib.hid (concat_any blk Al A7 l ys cl c7 w2 lv (HL.out w2 HS2.out.b) HY.out (by omega) (by omega))
                    simp only [e1]
                    clear hp lv hb
                    go_wp2_with fail
                    ((with_reducible refine (HCc.out).mono ?_); rintro e w3 ⟨A2, c2, rfl, hSl, hl3⟩)
                    have HSl := Lib.hid hSl
                    clear hSl
                    go_wp2_with fail
                    first | exact ⟨_, rfl, hl3, hinv.trans (hl3.mono hinv.size), A2, c2, by rw [List.length_append], HSl.out.mono (fun _ _ h => h.elim)⟩ | exact ⟨hl3, hinv.trans (hl3.mono hinv.size), A2, c2, by rw [List.length_append], HSl.out.mono (fun _ _ h => h.elim)⟩
                  · obtain ⟨A2, c2, e1, hSl⟩ := (hp (4, 69) (by simp) : ∃ A2 c2, ν 4 = .slice A2 (l ++ ys).length c2 ∧ Sl rStm (fun _ => False) w2 A2 (l ++ ys))
                    have HAz : Hid (Calls Tryz.prog 65 #[.slice A p.length c, .slice A2 (l ++ ys).length c2, .agg (qqCs k t pu rg ch at')] w2 (GivesAns (askR (some tm) k t ch at' pu (l ++ ys)) w2)) := by
                      have := HAs.out A2 (l ++ ys) c2 w2 (HSd.out.below hinv).b hSl HG.out (by rw [List.length_append]; omega)
                      rw [mayAns, Ho.out] at this
                      exact this
                    simp only [e1]
                    clear hp hSl
                    generalize (l ++ ys).length = nl at *
                    go_wp2_with fail
                    ((with_reducible refine (HAz.out).mono ?_); rintro e w3 ⟨rfl, hl3⟩)
                    go_wp2_with fail
                    first | exact ⟨_, rfl, hl3, hinv.trans (hl3.mono hinv.size), rfl⟩ | exact ⟨hl3, hinv.trans (hl3.mono hinv.size), rfl⟩
                  · go_wp2_with fail
                    first | exact ⟨_, rfl, (Below.refl _ _).alloc (Nat.le_refl _) _, hinv.alloc hinv.size _, w2.heap.size, rfl, LV.new _ _ _ _ rfl, hinv.size⟩ | exact ⟨(Below.refl _ _).alloc (Nat.le_refl _) _, hinv.alloc hinv.size _, w2.heap.size, rfl, LV.new _ _ _ _ rfl, hinv.size⟩
                · intro ν w2 hinv hf
                  obtain ⟨a2, Ha2⟩ : ∃ a2, Hid (askR (some tm) k t ch at' pu (l ++ ys) = a2) := ⟨_, Lib.hid rfl⟩
                  have e6 : ν 6 = Value.agg #[.bool a2.1, .int .i64 a2.2.1, .int .i64 a2.2.2] := by
                    have := (hf (6, 71, [(4, 69)]) (by simp) : ν 6 = aVal (askR (some tm) k t ch at' pu (l ++ ys)))
                    rw [this, Ha2.out]
                  obtain ⟨X, e7, lvX, hX⟩ := (hf (7, 17, []) (by simp) : ∃ blk, ν 7 = .pointer (some ⟨blk, 0, none⟩) ∧ LV w2 blk (aCs false 0 0) 105 ∧ wd.heap.size ≤ blk)
                  have S := HSd.out.call hinv (.loc X (aCs false 0 0) 105) lvX (fun k e => by cases e; exact hX)
                  simp only [fillD, List.map_cons, List.map_nil, List.foldl_cons, List.foldl_nil, e6, e7]
                  clear hf hinv lvX e6 e7
                  generalize ν 3 = q3
                  generalize ν 4 = q4
                  rw [Ha2.out] at HT
                  have x6 := (S.lv 6 rfl).all
                  refine mixG_l rfl rfl (fun K hK => ?_)
                  go_wp2_with fail
                  refine ⟨fun h => absurd rfl h, ?_⟩
                  refine mixG_nil ?_
                  simp only [Exit.then]
                  refine hKK _ _ ?_
                  have S12 : Mem w (fillA w2 X a2.1 a2.2.1 a2.2.2) _ := S.fillAns 6 rfl a2.1 a2.2.1 a2.2.2
                  clear S x6
                  obtain ⟨w12, hw12⟩ : ∃ w12, w12 = fillA w2 X a2.1 a2.2.1 a2.2.2 := ⟨_, rfl⟩
                  rw [← hw12] at S12
                  rw [show (((w2.setCell ⟨X, 0, none⟩ (.bool a2.1)).setCell ⟨X, 1, none⟩ (.int .i64 a2.2.1)).setCell ⟨X, 2, none⟩ (.int .i64 a2.2.2)) = w12 from hw12.symm]
                  clear hw12
                  have x6 := (S12.lv 6 rfl).all
                  obtain ⟨am, ay, ao⟩ := a2
                  cases am
                  · by_cases h8 : ay = 8
                    · have h8' : (ay != 8) = false := by simpa using h8
                      rw [if_neg (fun h => h.2 h8)] at HT
                      clear h8
                      have c0 := (S12.lv 0 rfl).all
                      have c1 := (S12.lv 1 rfl).all
                      have hws : IntKind.i64.wrap ((l.length : Int) + (ys.length : Int)) = (l.length : Int) + (ys.length : Int) := IntWalk.i64_in _ (by omega)
                      have hd3 : decide ((l.length : Int) + (ys.length : Int) > 3000) = false := decide_eq_false (by omega)
                      by_cases h12 : 1000000 < no1
                      · obtain rfl : ([], 12) = R := by rw [← HT.out, if_pos h12]
                        have hd : decide (no1 > 1000000) = true := decide_eq_true h12
                        clear h12 HT
                        go_wp2_with fail
                        exact bodyPost_ret (results_tt rfl rfl rfl) rfl ⟨none, 0, rfl, Sl.nil, S12.b⟩
                      · obtain rfl : (ys, 0) = R := by rw [← HT.out, if_neg h12]
                        have hd : decide (no1 > 1000000) = false := decide_eq_false h12
                        clear h12 HT
                        obtain ⟨A2, c2, e2, hSS⟩ := ((S12.ow 2 rfl).flatM flatStm (M' := Lt w.heap.size)).toSlC (fun k h1 h2 => by unfold Lt at h2; omega)
                        simp only [Value.slice.injEq] at e2
                        obtain ⟨rfl, _, rfl⟩ := e2
                        have HSS := Lib.hid hSS.2
                        clear hSS
                        go_wp2_with fail
                        exact bodyPost_ret (results_tt rfl rfl rfl) rfl ⟨A7, c7, rfl, HSS.out, S12.b⟩
                    · have h8' : (ay != 8) = true := by simpa using h8
                      obtain rfl : ([], 13) = R := by rw [← HT.out, if_pos ⟨rfl, h8⟩]
                      clear h8 HT
                      go_wp2_with fail
                      exact bodyPost_ret (results_tt rfl rfl rfl) rfl ⟨none, 0, rfl, Sl.nil, S12.b⟩
                  · rw [if_neg (fun h => Bool.noConfusion (h.1 : true = false))] at HT
                    have c0 := (S12.lv 0 rfl).all
                    have c1 := (S12.lv 1 rfl).all
                    have hws : IntKind.i64.wrap ((l.length : Int) + (ys.length : Int)) = (l.length : Int) + (ys.length : Int) := IntWalk.i64_in _ (by omega)
                    have hd3 : decide ((l.length : Int) + (ys.length : Int) > 3000) = false := decide_eq_false (by omega)
                    by_cases h12 : 1000000 < no1
                    · obtain rfl : ([], 12) = R := by rw [← HT.out, if_pos h12]
                      have hd : decide (no1 > 1000000) = true := decide_eq_true h12
                      clear h12 HT
                      go_wp2_with fail
                      exact bodyPost_ret (results_tt rfl rfl rfl) rfl ⟨none, 0, rfl, Sl.nil, S12.b⟩
                    · obtain rfl : (ys, 0) = R := by rw [← HT.out, if_neg h12]
                      have hd : decide (no1 > 1000000) = false := decide_eq_false h12
                      clear h12 HT
                      obtain ⟨A2, c2, e2, hSS⟩ := ((S12.ow 2 rfl).flatM flatStm (M' := Lt w.heap.size)).toSlC (fun k h1 h2 => by unfold Lt at h2; omega)
                      simp only [Value.slice.injEq] at e2
                      obtain ⟨rfl, _, rfl⟩ := e2
                      have HSS := Lib.hid hSS.2
                      clear hSS
                      go_wp2_with fail
                      exact bodyPost_ret (results_tt rfl rfl rfl) rfl ⟨A7, c7, rfl, HSS.out, S12.b⟩
              · have HT : Hid ((if (askR (some tm) k t ch at' pu (l ++ xs)).1 = false ∧ (askR (some tm) k t ch at' pu (l ++ xs)).2.1 ≠ 8 then ([], 13) else if 1000000 < no then ([], 12) else (xs, 0)) = R) := by
                  show _ = _
                  rw [← HR1.out, HW.out]
                  simp only [Bool.true_eq_false, if_false, List.append_nil, ← Hx.out, ← Hn.out]
                  simp
                have HG : Hid (GoodL p (l ++ xs)) := by
                  have h1 := congrArg List.length Hx.out
                  rw [addS_len] at h1
                  have h2 := Hadd.out ws (by omega)
                  rw [Hm2.out, ← Hx.out] at h2
                  exact h2
                go_wp2_with fail
                obtain ⟨A7, c7, rfl⟩ := (S.ow 2 rfl).len
                refine wp_region_mixG 8 (fun w' => LV w' O #[.slice A7 xs.length c7] 27 ∧ LV w' w.heap.size (qqCs k t pu rg ch at') 31) [.q 0, .q 1, .q 2, .q 5, .f [3, 4, 6, 7], .e 8] (by kernel_rfl) (by kernel_rfl) (fun w' hd => ⟨(S.below (hd.below _)).lv 1 rfl, (S.below (hd.below _)).lv 3 rfl⟩) (fun KK hKK wd hd => ?_)
                have HSd := Lib.hid (S.below (hd.below _))
                clear hd S
                repeat (refine mixG_p rfl (fun K hK => ?_); go_simp; (try go_bits); (try simp (disch := omega) only [if_pos]); (try simp (disch := omega) only [if_neg]); (try simp (disch := omega) only [dif_pos]); (try simp (disch := omega) only [dif_neg]); (try go_simp); (refine hK _ ?_; clear hK K))
                refine mixG_load (.slice A7 xs.length c7) rfl rfl rfl rfl (fun _ => rfl) (fun w' h => h.1.cell 0 _ rfl) ?_
                refine mixG_loadR (.agg (qqCs k t pu rg ch at')) rfl rfl rfl rfl (fun w' h => loadQQ h.2) ?_
                refine free_plan [(3, 68, []), (4, 69, [(3, 68)]), (6, 71, [(4, 69)]), (7, 17, [])] rfl (by kernel_rfl) (fun _ w' => Below wd.heap.size wd w') (fun x y => Below x.heap.size x y) (chgFact wd.heap.size Al cl A7 c7 l xs (askR (some tm) k t ch at' pu (l ++ xs))) (Below.refl _ _) (fun _ w' h => ⟨(HSd.out.below h).lv 1 rfl, (HSd.out.below h).lv 3 rfl⟩) ?_ (by rfl) ?_ ?_
                · refine all_cons (fun v _ _ k h => ?_) (all_cons (fun v _ _ k h => ?_) (all_cons (fun _ _ _ _ h => h) (all_cons (fun v _ _ k h => ?_) all_nil)))
                  · obtain ⟨blk, e, lv, hb⟩ := h
                    exact ⟨blk, e, (k.block blk lv.lt).trans lv, hb⟩
                  · obtain ⟨A2, c2, e, h⟩ := h
                    exact ⟨A2, c2, e, h.keepB k⟩
                  · obtain ⟨blk, e, lv, hb⟩ := h
                    exact ⟨blk, e, (k.block blk lv.lt).trans lv, hb⟩
                · refine all_cons ?_ (all_cons ?_ (all_cons ?_ (all_cons ?_ all_nil)))
                  all_goals (intro o ho c' ν w2 hc hinv hp; cases ho; simp only [fillD, List.foldl_cons, List.foldl_nil]; clear hc)
                  · go_wp2_with fail
                    first | exact ⟨_, rfl, (Below.refl _ _).alloc (Nat.le_refl _) _, hinv.alloc hinv.size _, w2.heap.size, rfl, LV.new _ _ _ _ rfl, hinv.size⟩ | exact ⟨(Below.refl _ _).alloc (Nat.le_refl _) _, hinv.alloc hinv.size _, w2.heap.size, rfl, LV.new _ _ _ _ rfl, hinv.size⟩
                  · obtain ⟨blk, e1, lv, hb⟩ := (hp (3, 68) (by simp) : ∃ blk, ν 3 = .slice (some ⟨blk, 0, none⟩) 2 2 ∧ LV w2 blk #[.slice Al l.length cl, .slice A7 xs.length c7] 27 ∧ wd.heap.size ≤ blk)
                    have HS2 := Lib.hid (HSd.out.below hinv)
                    have HY : Hid (Sl rStm (fun _ => False) w2 A7 xs) := by
                      obtain ⟨A2, c2, e2, hSS⟩ := ((HS2.out.ow 2 rfl).flatM flatStm (M' := fun _ => False)).toSlC (fun _ _ h => h)
                      simp only [Value.slice.injEq] at e2
                      obtain ⟨rfl, _, rfl⟩ := e2
                      exact hSS.2
                    have HCc := Lib.hid (concat_any blk Al A7 l xs cl c7 w2 lv (HL.out w2 HS2.out.b) HY.out (by omega) (by omega))
                    simp only [e1]
                    clear hp lv hb
                    go_wp2_with fail
                    ((with_reducible refine (HCc.out).mono ?_); rintro e w3 ⟨A2, c2, rfl, hSl, hl3⟩)
                    have HSl := Lib.hid hSl
                    clear hSl
                    go_wp2_with fail
                    first | exact ⟨_, rfl, hl3, hinv.trans (hl3.mono hinv.size), A2, c2, by rw [List.length_append], HSl.out.mono (fun _ _ h => h.elim)⟩ | exact ⟨hl3, hinv.trans (hl3.mono hinv.size), A2, c2, by rw [List.length_append], HSl.out.mono (fun _ _ h => h.elim)⟩
                  · obtain ⟨A2, c2, e1, hSl⟩ := (hp (4, 69) (by simp) : ∃ A2 c2, ν 4 = .slice A2 (l ++ xs).length c2 ∧ Sl rStm (fun _ => False) w2 A2 (l ++ xs))
                    have HAz : Hid (Calls Tryz.prog 65 #[.slice A p.length c, .slice A2 (l ++ xs).length c2, .agg (qqCs k t pu rg ch at')] w2 (GivesAns (askR (some tm) k t ch at' pu (l ++ xs)) w2)) := by
                      have := HAs.out A2 (l ++ xs) c2 w2 (HSd.out.below hinv).b hSl HG.out (by rw [List.length_append]; omega)
                      rw [mayAns, Ho.out] at this
                      exact this
                    simp only [e1]
                    clear hp hSl
                    generalize (l ++ xs).length = nl at *
                    go_wp2_with fail
                    ((with_reducible refine (HAz.out).mono ?_); rintro e w3 ⟨rfl, hl3⟩)
                    go_wp2_with fail
                    first | exact ⟨_, rfl, hl3, hinv.trans (hl3.mono hinv.size), rfl⟩ | exact ⟨hl3, hinv.trans (hl3.mono hinv.size), rfl⟩
                  · go_wp2_with fail
                    first | exact ⟨_, rfl, (Below.refl _ _).alloc (Nat.le_refl _) _, hinv.alloc hinv.size _, w2.heap.size, rfl, LV.new _ _ _ _ rfl, hinv.size⟩ | exact ⟨(Below.refl _ _).alloc (Nat.le_refl _) _, hinv.alloc hinv.size _, w2.heap.size, rfl, LV.new _ _ _ _ rfl, hinv.size⟩
                · intro ν w2 hinv hf
                  obtain ⟨a2, Ha2⟩ : ∃ a2, Hid (askR (some tm) k t ch at' pu (l ++ xs) = a2) := ⟨_, Lib.hid rfl⟩
                  have e6 : ν 6 = Value.agg #[.bool a2.1, .int .i64 a2.2.1, .int .i64 a2.2.2] := by
                    have := (hf (6, 71, [(4, 69)]) (by simp) : ν 6 = aVal (askR (some tm) k t ch at' pu (l ++ xs)))
                    rw [this, Ha2.out]
                  obtain ⟨X, e7, lvX, hX⟩ := (hf (7, 17, []) (by simp) : ∃ blk, ν 7 = .pointer (some ⟨blk, 0, none⟩) ∧ LV w2 blk (aCs false 0 0) 105 ∧ wd.heap.size ≤ blk)
                  have S := HSd.out.call hinv (.loc X (aCs false 0 0) 105) lvX (fun k e => by cases e; exact hX)
                  simp only [fillD, List.map_cons, List.map_nil, List.foldl_cons, List.foldl_nil, e6, e7]
                  clear hf hinv lvX e6 e7
                  generalize ν 3 = q3
                  generalize ν 4 = q4
                  rw [Ha2.out] at HT
                  have x6 := (S.lv 6 rfl).all
                  refine mixG_l rfl rfl (fun K hK => ?_)
                  go_wp2_with fail
                  refine ⟨fun h => absurd rfl h, ?_⟩
                  refine mixG_nil ?_
                  simp only [Exit.then]
                  refine hKK _ _ ?_
                  have S12 : Mem w (fillA w2 X a2.1 a2.2.1 a2.2.2) _ := S.fillAns 6 rfl a2.1 a2.2.1 a2.2.2
                  clear S x6
                  obtain ⟨w12, hw12⟩ : ∃ w12, w12 = fillA w2 X a2.1 a2.2.1 a2.2.2 := ⟨_, rfl⟩
                  rw [← hw12] at S12
                  rw [show (((w2.setCell ⟨X, 0, none⟩ (.bool a2.1)).setCell ⟨X, 1, none⟩ (.int .i64 a2.2.1)).setCell ⟨X, 2, none⟩ (.int .i64 a2.2.2)) = w12 from hw12.symm]
                  clear hw12
                  have x6 := (S12.lv 6 rfl).all
                  obtain ⟨am, ay, ao⟩ := a2
                  cases am
                  · by_cases h8 : ay = 8
                    · have h8' : (ay != 8) = false := by simpa using h8
                      rw [if_neg (fun h => h.2 h8)] at HT
                      clear h8
                      have c0 := (S12.lv 0 rfl).all
                      have c1 := (S12.lv 1 rfl).all
                      have hws : IntKind.i64.wrap ((l.length : Int) + (xs.length : Int)) = (l.length : Int) + (xs.length : Int) := IntWalk.i64_in _ (by omega)
                      have hd3 : decide ((l.length : Int) + (xs.length : Int) > 3000) = false := decide_eq_false (by omega)
                      by_cases h12 : 1000000 < no
                      · obtain rfl : ([], 12) = R := by rw [← HT.out, if_pos h12]
                        have hd : decide (no > 1000000) = true := decide_eq_true h12
                        clear h12 HT
                        go_wp2_with fail
                        exact bodyPost_ret (results_tt rfl rfl rfl) rfl ⟨none, 0, rfl, Sl.nil, S12.b⟩
                      · obtain rfl : (xs, 0) = R := by rw [← HT.out, if_neg h12]
                        have hd : decide (no > 1000000) = false := decide_eq_false h12
                        clear h12 HT
                        obtain ⟨A2, c2, e2, hSS⟩ := ((S12.ow 2 rfl).flatM flatStm (M' := Lt w.heap.size)).toSlC (fun k h1 h2 => by unfold Lt at h2; omega)
                        simp only [Value.slice.injEq] at e2
                        obtain ⟨rfl, _, rfl⟩ := e2
                        have HSS := Lib.hid hSS.2
                        clear hSS
                        go_wp2_with fail
                        exact bodyPost_ret (results_tt rfl rfl rfl) rfl ⟨A7, c7, rfl, HSS.out, S12.b⟩
                    · have h8' : (ay != 8) = true := by simpa using h8
                      obtain rfl : ([], 13) = R := by rw [← HT.out, if_pos ⟨rfl, h8⟩]
                      clear h8 HT
                      go_wp2_with fail
                      exact bodyPost_ret (results_tt rfl rfl rfl) rfl ⟨none, 0, rfl, Sl.nil, S12.b⟩
                  · rw [if_neg (fun h => Bool.noConfusion (h.1 : true = false))] at HT
                    have c0 := (S12.lv 0 rfl).all
                    have c1 := (S12.lv 1 rfl).all
                    have hws : IntKind.i64.wrap ((l.length : Int) + (xs.length : Int)) = (l.length : Int) + (xs.length : Int) := IntWalk.i64_in _ (by omega)
                    have hd3 : decide ((l.length : Int) + (xs.length : Int) > 3000) = false := decide_eq_false (by omega)
                    by_cases h12 : 1000000 < no
                    · obtain rfl : ([], 12) = R := by rw [← HT.out, if_pos h12]
                      have hd : decide (no > 1000000) = true := decide_eq_true h12
                      clear h12 HT
                      go_wp2_with fail
                      exact bodyPost_ret (results_tt rfl rfl rfl) rfl ⟨none, 0, rfl, Sl.nil, S12.b⟩
                    · obtain rfl : (xs, 0) = R := by rw [← HT.out, if_neg h12]
                      have hd : decide (no > 1000000) = false := decide_eq_false h12
                      clear h12 HT
                      obtain ⟨A2, c2, e2, hSS⟩ := ((S12.ow 2 rfl).flatM flatStm (M' := Lt w.heap.size)).toSlC (fun k h1 h2 => by unfold Lt at h2; omega)
                      simp only [Value.slice.injEq] at e2
                      obtain ⟨rfl, _, rfl⟩ := e2
                      have HSS := Lib.hid hSS.2
                      clear hSS
                      go_wp2_with fail
                      exact bodyPost_ret (results_tt rfl rfl rfl) rfl ⟨A7, c7, rfl, HSS.out, S12.b⟩
            · have h6' : (a0.2.1 == 6) = false := by simpa using h6
              obtain ⟨ws, hws⟩ : ∃ ws : List Int, ws = [] := ⟨_, rfl⟩
              obtain ⟨xs, hxs⟩ : ∃ xs : List Stm, xs = [] := ⟨_, rfl⟩
              have Hx : Hid (xs = addS k t pu rg ch at' m ws) := by show _ = _; rw [hxs, hws]; rfl
              have hxl : xs.length ≤ 1 := by rw [hxs]; exact Nat.zero_le _
              obtain ⟨no, hnm⟩ : ∃ no, no = m := ⟨_, rfl⟩
              have Hn : Hid (no = m + ((ws.length : Nat) : Int)) := by show _ = _; rw [hnm, hws]; simp
              have hno : 0 ≤ no ∧ no ≤ 1000001 := by omega
              obtain ⟨v9, hv9⟩ : ∃ v, v = Value.slice none 0 0 := ⟨_, rfl⟩
              obtain ⟨w9, rfl⟩ : ∃ w9, w9 = w8 := ⟨_, rfl⟩
              have S := S8
              rw [← hv9, ← hxs, ← hnm] at S
              have HW : Hid (whatA (some tm) k t ch at' pu l true = ws ++ (if (askR (some tm) k t ch at' pu (l.filter calmB)).1 = false then [1] else [])) := by
                show _ = _
                unfold whatA
                rw [if_neg (by simp), Ha0.out, if_neg h6, hws]
              clear S8 h6 hxs hws hv9
              have c0' := (S.lv 0 rfl).all
              have Hnm := Lib.hid hnm
              clear hnm
              obtain ⟨AC, cC, rfl⟩ := (S.ow 5 rfl).len
              have HAC : Hid (Calls Tryz.prog 65 #[.slice A p.length c, .slice AC (l.filter calmB).length cC, .agg (qqCs k t pu rg ch at')] w9 (GivesAns (askR (some tm) k t ch at' pu (l.filter calmB)) w9)) := by
                obtain ⟨A2, c2, e2, hSS⟩ := ((S.ow 5 rfl).flatM flatStm (M' := fun _ => False)).toSlC (fun _ _ h => h)
                simp only [Value.slice.injEq] at e2
                obtain ⟨rfl, _, rfl⟩ := e2
                have := HAs.out AC (l.filter calmB) cC w9 S.b hSS.2 (Hgl.out.filter _) (Nat.le_trans (List.length_filter_le ..) (by omega))
                rw [mayAns, Ho.out] at this
                exact this
              generalize askR (some tm) k t ch at' pu (l.filter calmB) = a1 at *
              have c3 := (S.lv 3 rfl).all
              go_wp2_with fail
              ((with_reducible refine (HAC.out).mono ?_); rintro e w10 ⟨rfl, hl10⟩)
              replace S := S.below hl10
              clear hl10 HAC c3
              obtain ⟨m1, y1, n1⟩ := a1
              rw [show aVal (m1, y1, n1) = Value.agg #[.bool m1, .int .i64 y1, .int .i64 n1] from rfl]
              have hfm := fieldMay
              have c3 := (S.lv 3 rfl).all
              cases m1
              · obtain ⟨ys, hys⟩ : ∃ ys : List Stm, ys = xs ++ [(⟨no + 1, at', k, t, pu, rg, ch, 1⟩ : Stm)] := ⟨_, rfl⟩
                have HT : Hid ((if (askR (some tm) k t ch at' pu (l ++ ys)).1 = false ∧ (askR (some tm) k t ch at' pu (l ++ ys)).2.1 ≠ 8 then ([], 13) else if 1000000 < no + 1 then ([], 12) else (ys, 0)) = R) := by
                  have e1 : addS k t pu rg ch at' m (ws ++ [1]) = ys := by
                    rw [addS_app, ← Hx.out, ← Hn.out, hys]
                    simp [addS, mkS, whole]
                  have e2 : m + (((ws ++ [1]).length : Nat) : Int) = no + 1 := by rw [Hn.out, List.length_append]; simp; omega
                  show _ = _
                  rw [← HR1.out, HW.out]
                  simp only [if_true, e1, e2]
                  simp
                have HG : Hid (GoodL p (l ++ ys)) := by
                  have h1 := congrArg List.length Hx.out
                  rw [addS_len] at h1
                  have h2 := Hadd.out (ws ++ [1]) (by rw [List.length_append, List.length_singleton]; omega)
                  have e1 : addS k t pu rg ch at' m (ws ++ [1]) = ys := by
                    rw [addS_app, ← Hx.out, ← Hn.out, hys]
                    simp [addS, mkS, whole]
                  rw [Hm2.out, e1] at h2
                  exact h2
                have hyl : ys.length ≤ 2 := by rw [hys, List.length_append, List.length_singleton]; omega
                go_wp2_with fail
                ((with_reducible refine (askAdd_any w w10 M O w.heap.size w.heap.size no _ xs k t pu rg ch at' 1 pu [.loc K (aCs a0.1 a0.2.1 a0.2.2) 105, .own rStm w6.heap.size 38 (.slice AC (l.filter calmB).length cC) (l.filter calmB)] S (by omega) (by omega) rfl).mono ?_); rintro e w11 ⟨rfl, v11, S11⟩)
                rw [← hys] at S11
                clear S c3 hys HR1 HW Hx Hn hfm
                obtain ⟨no1, hno1⟩ : ∃ z, no + 1 = z := ⟨_, rfl⟩
                rw [hno1] at S11 HT
                clear hno1
                go_wp2_with fail
                obtain ⟨A7, c7, rfl⟩ := (S11.ow 2 rfl).len
                refine wp_region_mixG 8 (fun w' => LV w' O #[.slice A7 ys.length c7] 27 ∧ LV w' w.heap.size (qqCs k t pu rg ch at') 31) [.q 0, .q 1, .q 2, .q 5, .f [3, 4, 6, 7], .e 8] (by kernel_rfl) (by kernel_rfl) (fun w' hd => ⟨(S11.below (hd.below _)).lv 1 rfl, (S11.below (hd.below _)).lv 3 rfl⟩) (fun KK hKK wd hd => ?_)
                have HSd := Lib.hid (S11.below (hd.below _))
                clear hd S11
                repeat (refine mixG_p rfl (fun K hK => ?_); go_simp; (try go_bits); (try simp (disch := omega) only [if_pos]); (try simp (disch := omega) only [if_neg]); (try simp (disch := omega) only [dif_pos]); (try simp (disch := omega) only [dif_neg]); (try go_simp); (refine hK _ ?_; clear hK K))
                refine mixG_load (.slice A7 ys.length c7) rfl rfl rfl rfl (fun _ => rfl) (fun w' h => h.1.cell 0 _ rfl) ?_
                refine mixG_loadR (.agg (qqCs k t pu rg ch at')) rfl rfl rfl rfl (fun w' h => loadQQ h.2) ?_
                refine free_plan [(3, 68, []), (4, 69, [(3, 68)]), (6, 71, [(4, 69)]), (7, 17, [])] rfl (by kernel_rfl) (fun _ w' => Below wd.heap.size wd w') (fun x y => Below x.heap.size x y) (chgFact wd.heap.size Al cl A7 c7 l ys (askR (some tm) k t ch at' pu (l ++ ys))) (Below.refl _ _) (fun _ w' h => ⟨(HSd.out.below h).lv 1 rfl, (HSd.out.below h).lv 3 rfl⟩) ?_ (by rfl) ?_ ?_
                · refine all_cons (fun v _ _ k h => ?_) (all_cons (fun v _ _ k h => ?_) (all_cons (fun _ _ _ _ h => h) (all_cons (fun v _ _ k h => ?_) all_nil)))
                  · obtain ⟨blk, e, lv, hb⟩ := h
                    exact ⟨blk, e, (k.block blk lv.lt).trans lv, hb⟩
                  · obtain ⟨A2, c2, e, h⟩ := h
                    exact ⟨A2, c2, e, h.keepB k⟩
                  · obtain ⟨blk, e, lv, hb⟩ := h
                    exact ⟨blk, e, (k.block blk lv.lt).trans lv, hb⟩
                · refine all_cons ?_ (all_cons ?_ (all_cons ?_ (all_cons ?_ all_nil)))
                  all_goals (intro o ho c' ν w2 hc hinv hp; cases ho; simp only [fillD, List.foldl_cons, List.foldl_nil]; clear hc)
                  · go_wp2_with fail
                    first | exact ⟨_, rfl, (Below.refl _ _).alloc (Nat.le_refl _) _, hinv.alloc hinv.size _, w2.heap.size, rfl, LV.new _ _ _ _ rfl, hinv.size⟩ | exact ⟨(Below.refl _ _).alloc (Nat.le_refl _) _, hinv.alloc hinv.size _, w2.heap.size, rfl, LV.new _ _ _ _ rfl, hinv.size⟩
                  · obtain ⟨blk, e1, lv, hb⟩ := (hp (3, 68) (by simp) : ∃ blk, ν 3 = .slice (some ⟨blk, 0, none⟩) 2 2 ∧ LV w2 blk #[.slice Al l.length cl, .slice A7 ys.length c7] 27 ∧ wd.heap.size ≤ blk)
                    have HS2 := Lib.hid (HSd.out.below hinv)
                    have HY : Hid (Sl rStm (fun _ => False) w2 A7 ys) := by
                      obtain ⟨A2, c2, e2, hSS⟩ := ((HS2.out.ow 2 rfl).flatM flatStm (M' := fun _ => False)).toSlC (fun _ _ h => h)
                      simp only [Value.slice.injEq] at e2
                      obtain ⟨rfl, _, rfl⟩ := e2
                      exact hSS.2
                    have HCc := Lib.hid (concat_any blk Al A7 l ys cl c7 w2 lv (HL.out w2 HS2.out.b) HY.out (by omega) (by omega))
                    simp only [e1]
                    clear hp lv hb
                    go_wp2_with fail
                    ((with_reducible refine (HCc.out).mono ?_); rintro e w3 ⟨A2, c2, rfl, hSl, hl3⟩)
                    have HSl := Lib.hid hSl
                    clear hSl
                    go_wp2_with fail
                    first | exact ⟨_, rfl, hl3, hinv.trans (hl3.mono hinv.size), A2, c2, by rw [List.length_append], HSl.out.mono (fun _ _ h => h.elim)⟩ | exact ⟨hl3, hinv.trans (hl3.mono hinv.size), A2, c2, by rw [List.length_append], HSl.out.mono (fun _ _ h => h.elim)⟩
                  · obtain ⟨A2, c2, e1, hSl⟩ := (hp (4, 69) (by simp) : ∃ A2 c2, ν 4 = .slice A2 (l ++ ys).length c2 ∧ Sl rStm (fun _ => False) w2 A2 (l ++ ys))
                    have HAz : Hid (Calls Tryz.prog 65 #[.slice A p.length c, .slice A2 (l ++ ys).length c2, .agg (qqCs k t pu rg ch at')] w2 (GivesAns (askR (some tm) k t ch at' pu (l ++ ys)) w2)) := by
                      have := HAs.out A2 (l ++ ys) c2 w2 (HSd.out.below hinv).b hSl HG.out (by rw [List.length_append]; omega)
                      rw [mayAns, Ho.out] at this
                      exact this
                    simp only [e1]
                    clear hp hSl
                    generalize (l ++ ys).length = nl at *
                    go_wp2_with fail
                    ((with_reducible refine (HAz.out).mono ?_); rintro e w3 ⟨rfl, hl3⟩)
                    go_wp2_with fail
                    first | exact ⟨_, rfl, hl3, hinv.trans (hl3.mono hinv.size), rfl⟩ | exact ⟨hl3, hinv.trans (hl3.mono hinv.size), rfl⟩
                  · go_wp2_with fail
                    first | exact ⟨_, rfl, (Below.refl _ _).alloc (Nat.le_refl _) _, hinv.alloc hinv.size _, w2.heap.size, rfl, LV.new _ _ _ _ rfl, hinv.size⟩ | exact ⟨(Below.refl _ _).alloc (Nat.le_refl _) _, hinv.alloc hinv.size _, w2.heap.size, rfl, LV.new _ _ _ _ rfl, hinv.size⟩
                · intro ν w2 hinv hf
                  obtain ⟨a2, Ha2⟩ : ∃ a2, Hid (askR (some tm) k t ch at' pu (l ++ ys) = a2) := ⟨_, Lib.hid rfl⟩
                  have e6 : ν 6 = Value.agg #[.bool a2.1, .int .i64 a2.2.1, .int .i64 a2.2.2] := by
                    have := (hf (6, 71, [(4, 69)]) (by simp) : ν 6 = aVal (askR (some tm) k t ch at' pu (l ++ ys)))
                    rw [this, Ha2.out]
                  obtain ⟨X, e7, lvX, hX⟩ := (hf (7, 17, []) (by simp) : ∃ blk, ν 7 = .pointer (some ⟨blk, 0, none⟩) ∧ LV w2 blk (aCs false 0 0) 105 ∧ wd.heap.size ≤ blk)
                  have S := HSd.out.call hinv (.loc X (aCs false 0 0) 105) lvX (fun k e => by cases e; exact hX)
                  simp only [fillD, List.map_cons, List.map_nil, List.foldl_cons, List.foldl_nil, e6, e7]
                  clear hf hinv lvX e6 e7
                  generalize ν 3 = q3
                  generalize ν 4 = q4
                  rw [Ha2.out] at HT
                  have x6 := (S.lv 6 rfl).all
                  refine mixG_l rfl rfl (fun K hK => ?_)
                  go_wp2_with fail
                  refine ⟨fun h => absurd rfl h, ?_⟩
                  refine mixG_nil ?_
                  simp only [Exit.then]
                  refine hKK _ _ ?_
                  have S12 : Mem w (fillA w2 X a2.1 a2.2.1 a2.2.2) _ := S.fillAns 6 rfl a2.1 a2.2.1 a2.2.2
                  clear S x6
                  obtain ⟨w12, hw12⟩ : ∃ w12, w12 = fillA w2 X a2.1 a2.2.1 a2.2.2 := ⟨_, rfl⟩
                  rw [← hw12] at S12
                  rw [show (((w2.setCell ⟨X, 0, none⟩ (.bool a2.1)).setCell ⟨X, 1, none⟩ (.int .i64 a2.2.1)).setCell ⟨X, 2, none⟩ (.int .i64 a2.2.2)) = w12 from hw12.symm]
                  clear hw12
                  have x6 := (S12.lv 6 rfl).all
                  obtain ⟨am, ay, ao⟩ := a2
                  cases am
                  · by_cases h8 : ay = 8
                    · have h8' : (ay != 8) = false := by simpa using h8
                      rw [if_neg (fun h => h.2 h8)] at HT
                      clear h8
                      have c0 := (S12.lv 0 rfl).all
                      have c1 := (S12.lv 1 rfl).all
                      have hws : IntKind.i64.wrap ((l.length : Int) + (ys.length : Int)) = (l.length : Int) + (ys.length : Int) := IntWalk.i64_in _ (by omega)
                      have hd3 : decide ((l.length : Int) + (ys.length : Int) > 3000) = false := decide_eq_false (by omega)
                      by_cases h12 : 1000000 < no1
                      · obtain rfl : ([], 12) = R := by rw [← HT.out, if_pos h12]
                        have hd : decide (no1 > 1000000) = true := decide_eq_true h12
                        clear h12 HT
                        go_wp2_with fail
                        exact bodyPost_ret (results_tt rfl rfl rfl) rfl ⟨none, 0, rfl, Sl.nil, S12.b⟩
                      · obtain rfl : (ys, 0) = R := by rw [← HT.out, if_neg h12]
                        have hd : decide (no1 > 1000000) = false := decide_eq_false h12
                        clear h12 HT
                        obtain ⟨A2, c2, e2, hSS⟩ := ((S12.ow 2 rfl).flatM flatStm (M' := Lt w.heap.size)).toSlC (fun k h1 h2 => by unfold Lt at h2; omega)
                        simp only [Value.slice.injEq] at e2
                        obtain ⟨rfl, _, rfl⟩ := e2
                        have HSS := Lib.hid hSS.2
                        clear hSS
                        go_wp2_with fail
                        exact bodyPost_ret (results_tt rfl rfl rfl) rfl ⟨A7, c7, rfl, HSS.out, S12.b⟩
                    · have h8' : (ay != 8) = true := by simpa using h8
                      obtain rfl : ([], 13) = R := by rw [← HT.out, if_pos ⟨rfl, h8⟩]
                      clear h8 HT
                      go_wp2_with fail
                      exact bodyPost_ret (results_tt rfl rfl rfl) rfl ⟨none, 0, rfl, Sl.nil, S12.b⟩
                  · rw [if_neg (fun h => Bool.noConfusion (h.1 : true = false))] at HT
                    have c0 := (S12.lv 0 rfl).all
                    have c1 := (S12.lv 1 rfl).all
                    have hws : IntKind.i64.wrap ((l.length : Int) + (ys.length : Int)) = (l.length : Int) + (ys.length : Int) := IntWalk.i64_in _ (by omega)
                    have hd3 : decide ((l.length : Int) + (ys.length : Int) > 3000) = false := decide_eq_false (by omega)
                    by_cases h12 : 1000000 < no1
                    · obtain rfl : ([], 12) = R := by rw [← HT.out, if_pos h12]
                      have hd : decide (no1 > 1000000) = true := decide_eq_true h12
                      clear h12 HT
                      go_wp2_with fail
                      exact bodyPost_ret (results_tt rfl rfl rfl) rfl ⟨none, 0, rfl, Sl.nil, S12.b⟩
                    · obtain rfl : (ys, 0) = R := by rw [← HT.out, if_neg h12]
                      have hd : decide (no1 > 1000000) = false := decide_eq_false h12
                      clear h12 HT
                      obtain ⟨A2, c2, e2, hSS⟩ := ((S12.ow 2 rfl).flatM flatStm (M' := Lt w.heap.size)).toSlC (fun k h1 h2 => by unfold Lt at h2; omega)
                      simp only [Value.slice.injEq] at e2
                      obtain ⟨rfl, _, rfl⟩ := e2
                      have HSS := Lib.hid hSS.2
                      clear hSS
                      go_wp2_with fail
                      exact bodyPost_ret (results_tt rfl rfl rfl) rfl ⟨A7, c7, rfl, HSS.out, S12.b⟩
              · have HT : Hid ((if (askR (some tm) k t ch at' pu (l ++ xs)).1 = false ∧ (askR (some tm) k t ch at' pu (l ++ xs)).2.1 ≠ 8 then ([], 13) else if 1000000 < no then ([], 12) else (xs, 0)) = R) := by
                  show _ = _
                  rw [← HR1.out, HW.out]
                  simp only [Bool.true_eq_false, if_false, List.append_nil, ← Hx.out, ← Hn.out]
                  simp
                have HG : Hid (GoodL p (l ++ xs)) := by
                  have h1 := congrArg List.length Hx.out
                  rw [addS_len] at h1
                  have h2 := Hadd.out ws (by omega)
                  rw [Hm2.out, ← Hx.out] at h2
                  exact h2
                go_wp2_with fail
                obtain ⟨A7, c7, rfl⟩ := (S.ow 2 rfl).len
                refine wp_region_mixG 8 (fun w' => LV w' O #[.slice A7 xs.length c7] 27 ∧ LV w' w.heap.size (qqCs k t pu rg ch at') 31) [.q 0, .q 1, .q 2, .q 5, .f [3, 4, 6, 7], .e 8] (by kernel_rfl) (by kernel_rfl) (fun w' hd => ⟨(S.below (hd.below _)).lv 1 rfl, (S.below (hd.below _)).lv 3 rfl⟩) (fun KK hKK wd hd => ?_)
                have HSd := Lib.hid (S.below (hd.below _))
                clear hd S
                repeat (refine mixG_p rfl (fun K hK => ?_); go_simp; (try go_bits); (try simp (disch := omega) only [if_pos]); (try simp (disch := omega) only [if_neg]); (try simp (disch := omega) only [dif_pos]); (try simp (disch := omega) only [dif_neg]); (try go_simp); (refine hK _ ?_; clear hK K))
                refine mixG_load (.slice A7 xs.length c7) rfl rfl rfl rfl (fun _ => rfl) (fun w' h => h.1.cell 0 _ rfl) ?_
                refine mixG_loadR (.agg (qqCs k t pu rg ch at')) rfl rfl rfl rfl (fun w' h => loadQQ h.2) ?_
                refine free_plan [(3, 68, []), (4, 69, [(3, 68)]), (6, 71, [(4, 69)]), (7, 17, [])] rfl (by kernel_rfl) (fun _ w' => Below wd.heap.size wd w') (fun x y => Below x.heap.size x y) (chgFact wd.heap.size Al cl A7 c7 l xs (askR (some tm) k t ch at' pu (l ++ xs))) (Below.refl _ _) (fun _ w' h => ⟨(HSd.out.below h).lv 1 rfl, (HSd.out.below h).lv 3 rfl⟩) ?_ (by rfl) ?_ ?_
                · refine all_cons (fun v _ _ k h => ?_) (all_cons (fun v _ _ k h => ?_) (all_cons (fun _ _ _ _ h => h) (all_cons (fun v _ _ k h => ?_) all_nil)))
                  · obtain ⟨blk, e, lv, hb⟩ := h
                    exact ⟨blk, e, (k.block blk lv.lt).trans lv, hb⟩
                  · obtain ⟨A2, c2, e, h⟩ := h
                    exact ⟨A2, c2, e, h.keepB k⟩
                  · obtain ⟨blk, e, lv, hb⟩ := h
                    exact ⟨blk, e, (k.block blk lv.lt).trans lv, hb⟩
                · refine all_cons ?_ (all_cons ?_ (all_cons ?_ (all_cons ?_ all_nil)))
                  all_goals (intro o ho c' ν w2 hc hinv hp; cases ho; simp only [fillD, List.foldl_cons, List.foldl_nil]; clear hc)
                  · go_wp2_with fail
                    first | exact ⟨_, rfl, (Below.refl _ _).alloc (Nat.le_refl _) _, hinv.alloc hinv.size _, w2.heap.size, rfl, LV.new _ _ _ _ rfl, hinv.size⟩ | exact ⟨(Below.refl _ _).alloc (Nat.le_refl _) _, hinv.alloc hinv.size _, w2.heap.size, rfl, LV.new _ _ _ _ rfl, hinv.size⟩
                  · obtain ⟨blk, e1, lv, hb⟩ := (hp (3, 68) (by simp) : ∃ blk, ν 3 = .slice (some ⟨blk, 0, none⟩) 2 2 ∧ LV w2 blk #[.slice Al l.length cl, .slice A7 xs.length c7] 27 ∧ wd.heap.size ≤ blk)
                    have HS2 := Lib.hid (HSd.out.below hinv)
                    have HY : Hid (Sl rStm (fun _ => False) w2 A7 xs) := by
                      obtain ⟨A2, c2, e2, hSS⟩ := ((HS2.out.ow 2 rfl).flatM flatStm (M' := fun _ => False)).toSlC (fun _ _ h => h)
                      simp only [Value.slice.injEq] at e2
                      obtain ⟨rfl, _, rfl⟩ := e2
                      exact hSS.2
                    have HCc := Lib.hid (concat_any blk Al A7 l xs cl c7 w2 lv (HL.out w2 HS2.out.b) HY.out (by omega) (by omega))
                    simp only [e1]
                    clear hp lv hb
                    go_wp2_with fail
                    ((with_reducible refine (HCc.out).mono ?_); rintro e w3 ⟨A2, c2, rfl, hSl, hl3⟩)
                    have HSl := Lib.hid hSl
                    clear hSl
                    go_wp2_with fail
                    first | exact ⟨_, rfl, hl3, hinv.trans (hl3.mono hinv.size), A2, c2, by rw [List.length_append], HSl.out.mono (fun _ _ h => h.elim)⟩ | exact ⟨hl3, hinv.trans (hl3.mono hinv.size), A2, c2, by rw [List.length_append], HSl.out.mono (fun _ _ h => h.elim)⟩
                  · obtain ⟨A2, c2, e1, hSl⟩ := (hp (4, 69) (by simp) : ∃ A2 c2, ν 4 = .slice A2 (l ++ xs).length c2 ∧ Sl rStm (fun _ => False) w2 A2 (l ++ xs))
                    have HAz : Hid (Calls Tryz.prog 65 #[.slice A p.length c, .slice A2 (l ++ xs).length c2, .agg (qqCs k t pu rg ch at')] w2 (GivesAns (askR (some tm) k t ch at' pu (l ++ xs)) w2)) := by
                      have := HAs.out A2 (l ++ xs) c2 w2 (HSd.out.below hinv).b hSl HG.out (by rw [List.length_append]; omega)
                      rw [mayAns, Ho.out] at this
                      exact this
                    simp only [e1]
                    clear hp hSl
                    generalize (l ++ xs).length = nl at *
                    go_wp2_with fail
                    ((with_reducible refine (HAz.out).mono ?_); rintro e w3 ⟨rfl, hl3⟩)
                    go_wp2_with fail
                    first | exact ⟨_, rfl, hl3, hinv.trans (hl3.mono hinv.size), rfl⟩ | exact ⟨hl3, hinv.trans (hl3.mono hinv.size), rfl⟩
                  · go_wp2_with fail
                    first | exact ⟨_, rfl, (Below.refl _ _).alloc (Nat.le_refl _) _, hinv.alloc hinv.size _, w2.heap.size, rfl, LV.new _ _ _ _ rfl, hinv.size⟩ | exact ⟨(Below.refl _ _).alloc (Nat.le_refl _) _, hinv.alloc hinv.size _, w2.heap.size, rfl, LV.new _ _ _ _ rfl, hinv.size⟩
                · intro ν w2 hinv hf
                  obtain ⟨a2, Ha2⟩ : ∃ a2, Hid (askR (some tm) k t ch at' pu (l ++ xs) = a2) := ⟨_, Lib.hid rfl⟩
                  have e6 : ν 6 = Value.agg #[.bool a2.1, .int .i64 a2.2.1, .int .i64 a2.2.2] := by
                    have := (hf (6, 71, [(4, 69)]) (by simp) : ν 6 = aVal (askR (some tm) k t ch at' pu (l ++ xs)))
                    rw [this, Ha2.out]
                  obtain ⟨X, e7, lvX, hX⟩ := (hf (7, 17, []) (by simp) : ∃ blk, ν 7 = .pointer (some ⟨blk, 0, none⟩) ∧ LV w2 blk (aCs false 0 0) 105 ∧ wd.heap.size ≤ blk)
                  have S := HSd.out.call hinv (.loc X (aCs false 0 0) 105) lvX (fun k e => by cases e; exact hX)
                  simp only [fillD, List.map_cons, List.map_nil, List.foldl_cons, List.foldl_nil, e6, e7]
                  clear hf hinv lvX e6 e7
                  generalize ν 3 = q3
                  generalize ν 4 = q4
                  rw [Ha2.out] at HT
                  have x6 := (S.lv 6 rfl).all
                  refine mixG_l rfl rfl (fun K hK => ?_)
                  go_wp2_with fail
                  refine ⟨fun h => absurd rfl h, ?_⟩
                  refine mixG_nil ?_
                  simp only [Exit.then]
                  refine hKK _ _ ?_
                  have S12 : Mem w (fillA w2 X a2.1 a2.2.1 a2.2.2) _ := S.fillAns 6 rfl a2.1 a2.2.1 a2.2.2
                  clear S x6
                  obtain ⟨w12, hw12⟩ : ∃ w12, w12 = fillA w2 X a2.1 a2.2.1 a2.2.2 := ⟨_, rfl⟩
                  rw [← hw12] at S12
                  rw [show (((w2.setCell ⟨X, 0, none⟩ (.bool a2.1)).setCell ⟨X, 1, none⟩ (.int .i64 a2.2.1)).setCell ⟨X, 2, none⟩ (.int .i64 a2.2.2)) = w12 from hw12.symm]
                  clear hw12
                  have x6 := (S12.lv 6 rfl).all
                  obtain ⟨am, ay, ao⟩ := a2
                  cases am
                  · by_cases h8 : ay = 8
                    · have h8' : (ay != 8) = false := by simpa using h8
                      rw [if_neg (fun h => h.2 h8)] at HT
                      clear h8
                      have c0 := (S12.lv 0 rfl).all
                      have c1 := (S12.lv 1 rfl).all
                      have hws : IntKind.i64.wrap ((l.length : Int) + (xs.length : Int)) = (l.length : Int) + (xs.length : Int) := IntWalk.i64_in _ (by omega)
                      have hd3 : decide ((l.length : Int) + (xs.length : Int) > 3000) = false := decide_eq_false (by omega)
                      by_cases h12 : 1000000 < no
                      · obtain rfl : ([], 12) = R := by rw [← HT.out, if_pos h12]
                        have hd : decide (no > 1000000) = true := decide_eq_true h12
                        clear h12 HT
                        go_wp2_with fail
                        exact bodyPost_ret (results_tt rfl rfl rfl) rfl ⟨none, 0, rfl, Sl.nil, S12.b⟩
                      · obtain rfl : (xs, 0) = R := by rw [← HT.out, if_neg h12]
                        have hd : decide (no > 1000000) = false := decide_eq_false h12
                        clear h12 HT
                        obtain ⟨A2, c2, e2, hSS⟩ := ((S12.ow 2 rfl).flatM flatStm (M' := Lt w.heap.size)).toSlC (fun k h1 h2 => by unfold Lt at h2; omega)
                        simp only [Value.slice.injEq] at e2
                        obtain ⟨rfl, _, rfl⟩ := e2
                        have HSS := Lib.hid hSS.2
                        clear hSS
                        go_wp2_with fail
                        exact bodyPost_ret (results_tt rfl rfl rfl) rfl ⟨A7, c7, rfl, HSS.out, S12.b⟩
                    · have h8' : (ay != 8) = true := by simpa using h8
                      obtain rfl : ([], 13) = R := by rw [← HT.out, if_pos ⟨rfl, h8⟩]
                      clear h8 HT
                      go_wp2_with fail
                      exact bodyPost_ret (results_tt rfl rfl rfl) rfl ⟨none, 0, rfl, Sl.nil, S12.b⟩
                  · rw [if_neg (fun h => Bool.noConfusion (h.1 : true = false))] at HT
                    have c0 := (S12.lv 0 rfl).all
                    have c1 := (S12.lv 1 rfl).all
                    have hws : IntKind.i64.wrap ((l.length : Int) + (xs.length : Int)) = (l.length : Int) + (xs.length : Int) := IntWalk.i64_in _ (by omega)
                    have hd3 : decide ((l.length : Int) + (xs.length : Int) > 3000) = false := decide_eq_false (by omega)
                    by_cases h12 : 1000000 < no
                    · obtain rfl : ([], 12) = R := by rw [← HT.out, if_pos h12]
                      have hd : decide (no > 1000000) = true := decide_eq_true h12
                      clear h12 HT
                      go_wp2_with fail
                      exact bodyPost_ret (results_tt rfl rfl rfl) rfl ⟨none, 0, rfl, Sl.nil, S12.b⟩
                    · obtain rfl : (xs, 0) = R := by rw [← HT.out, if_neg h12]
                      have hd : decide (no > 1000000) = false := decide_eq_false h12
                      clear h12 HT
                      obtain ⟨A2, c2, e2, hSS⟩ := ((S12.ow 2 rfl).flatM flatStm (M' := Lt w.heap.size)).toSlC (fun k h1 h2 => by unfold Lt at h2; omega)
                      simp only [Value.slice.injEq] at e2
                      obtain ⟨rfl, _, rfl⟩ := e2
                      have HSS := Lib.hid hSS.2
                      clear hSS
                      go_wp2_with fail
                      exact bodyPost_ret (results_tt rfl rfl rfl) rfl ⟨A7, c7, rfl, HSS.out, S12.b⟩
end Go.Proofs.YthmkphmciiiagaaGreatDoor

/- The law ConsentChanges walked: it returns true, and nothing that was there has turned. -/
namespace Go.Proofs.YthmkphmciiiagaaGreatDoor
open Go Go.RowKit
set_option maxHeartbeats 4000000 in
set_option maxRecDepth 100000 in
theorem eqStm_any (N : Nat → Prop) (A A2 : Option Addr) (xs : List Stm) (c c2 : Nat) (w : World) (h1 : Sl rStm N w A xs) (h2 : Sl rStm N w A2 xs) (hl : xs.length ≤ 1000000000) :
    Calls Tryz.prog 16 #[.slice A xs.length c, .slice A2 xs.length c2] w fun e w' => e = .returned (.bool true) ∧ Below w.heap.size w w' := by
  have H1 := Lib.hid h1
  have H2 := Lib.hid h2
  clear h1 h2
  go_enter Tryz.func16, Tryz.ntmps16
  go_wp2_with fail
  go_loopw [13] (fun i wr => ∃ j : Nat, j ≤ xs.length ∧ i = .int .i64 j ∧ Below w.heap.size w wr) (fun i _ => xs.length - (intOf i).toNat)
  case atStart => exact ⟨0, Nat.zero_le _, rfl, Below.refl _ _⟩
  case round =>
    obtain ⟨j, hj, rfl, hb⟩ := hrel
    by_cases hlt : j < xs.length
    · obtain ⟨e, hf⟩ : ∃ e, xs[j]? = some e := ⟨_, List.getElem?_eq_getElem hlt⟩
      obtain ⟨b1, o1, rfl, _, d0, d1, d2, d3, d4, d5, d6, d7⟩ := (H1.out.keepB hb).stm j e hf
      obtain ⟨b2, o2, rfl, _, f0, f1, f2, f3, f4, f5, f6, f7⟩ := (H2.out.keepB hb).stm j e hf
      clear hf
      go_wp2_with fail
      go_quiet (fail)
      go_wp2_with fail
      go_roundw
      case rel => exact ⟨j + 1, by omega, by go_num, hb.trans (below_drewN _ _ _)⟩
      case measure => simp [intOf]; omega
    · go_wp2_with fail
      go_ret
      exact ⟨rfl, hb⟩
theorem chgAns_len (o : Option PTerm) (k : Int) (t pu rg : ByteArray) (ch at' : Int) (l : List Stm) (want : Bool) : (chgAns o k t pu rg ch at' l want).1.length ≤ 2 := by
  have h := (whatA_ok o k t ch at' pu l want).1
  unfold chgAns
  split
  · simp
  · split
    · simp
    · split
      · simp
      · split
        · simp
        · show (addS _ _ _ _ _ _ _ _).length ≤ 2
          rw [addS_len]; exact h
set_option maxHeartbeats 16000000 in
set_option maxRecDepth 100000 in
theorem consentChanges_any (v : Value) (w : World) (hv : IntsIn v w) (hP : Pool w) (hM : MaxL w) :
    Calls Tryz.prog 3 #[v] w fun e w' => e = .returned (.bool true) ∧ Below w.heap.size w w' := by
  obtain ⟨va, vn, vc, rfl⟩ : ∃ a n c, v = .slice a n c := by
    rcases hv with ⟨a, c, rfl⟩ | ⟨k, off, len, cap, rfl, _⟩
    · exact ⟨_, _, _, rfl⟩
    · exact ⟨_, _, _, rfl⟩
  have g0 := G.start (Strm.start hv)
  clear hv
  have hPn : 0 ≠ w.heap.size := Nat.ne_of_lt hP.lt
  have hMl : 2 < w.heap.size := by
    obtain ⟨m, h⟩ := hM
    exact World.block_lt_of_cell? w _ h
  have hMn : 2 ≠ w.heap.size := Nat.ne_of_lt hMl
  have hk0 := (SK.refl w.heap.size w).alloc (.cells #[.slice va vn vc, .int .i64 0] 25)
  have HA := Lib.hid (asked_any2 w.heap.size 0 _ g0.s (by omega) (hP.keep hk0 hPn) hPn (hM.sk hk0 hMn) hMn)
  have HM := Lib.hid hM
  clear hP hM hk0 hMl
  go_enter Tryz.func3, Tryz.ntmps3
  go_wp2_with fail
  ((with_reducible refine (HA.out).mono ?_); rintro e w1 ⟨B, B2, A, c, q, v2, l, k, t, pu, rg, ch, at', rfl, hq, hl, hls, hqs, hB, hB2, hfn, S⟩)
  generalize hw0 : w.alloc (.cells #[.slice va vn vc, .int .i64 0] 25) = w0 at *
  have Hw0 := Lib.hid hw0
  have HB := Lib.hid hB
  have Hq := Lib.hid hq
  have Hls := Lib.hid hls
  have Hqs := Lib.hid hqs
  have Hfn := Lib.hid hfn
  clear HA hB hB2 hls hqs hfn hw0
  obtain ⟨Al, cl, rfl⟩ := (S.ow 0 rfl).len
  go_upto_region 3 with fail
  obtain ⟨Q, hQ⟩ : ∃ Q, Q = w1.heap.size := ⟨_, rfl⟩
  replace S : St w.heap.size (0 + 440) w0 (w1.alloc (.cells (qqCs k t pu rg ch at') 31)) (.own rStm B2 38 (.slice Al l.length cl) l :: .loc Q (qqCs k t pu rg ch at') 31 :: polC B (.slice A q.length c) q) := by
    rw [hQ]
    exact (S.new' (qqCs k t pu rg ch at') 31).perm (List.Perm.cons _ List.perm_append_comm)
  rw [← hQ]
  clear hQ
  generalize w1.alloc (.cells (qqCs k t pu rg ch at') 31) = w2 at *
  go_wp2_with fail
  ((with_reducible refine (flip_any w.heap.size _ _ _ S.g.s (by omega) (by omega) (by omega)).mono ?_); rintro e w3 ⟨want, rfl, hk_w3, hs_w3⟩)
  replace S := S.step hk_w3 hs_w3
  clear hk_w3 hs_w3
  obtain ⟨F0, HF0⟩ : ∃ F0, Hid (stmsFault (q.map PQ.purp) l = F0) := ⟨_, Lib.hid rfl⟩
  rw [HF0.out]
  go_upto_region 5 with fail
  have HS0 := Lib.hid S
  clear S
  go_cut [37] (fun s37 wx => ∃ r : Bool, s37 = .bool r ∧ (r = true → 0 < l.length ∧ F0 = 0) ∧ St w.heap.size 442 w0 wx (.own rStm B2 38 (.slice Al l.length cl) l :: .loc Q (qqCs k t pu rg ch at') 31 :: polC B (.slice A q.length c) q))
  case first =>
    have S := HS0.out
    clear HS0
    by_cases h0 : 0 < l.length
    · go_wp2_with fail
      ((with_reducible refine (flip_any w.heap.size _ _ _ S.g.s (by omega) (by omega) (by omega)).mono ?_); rintro e w4 ⟨r4, rfl, hk_w4, hs_w4⟩)
      replace S := S.step hk_w4 hs_w4
      clear hk_w4 hs_w4
      by_cases hF : F0 = 0
      · have hF' : (F0 == 0) = true := by simpa using hF
        have HFz := Lib.hid hF
        clear hF
        cases r4
        · go_wp2_with fail
          go_meet
          exact ⟨false, rfl, by simp, S.mono (by omega)⟩
        · go_wp2_with fail
          go_meet
          exact ⟨true, rfl, fun _ => ⟨h0, HFz.out⟩, S.mono (by omega)⟩
      · have hF' : (F0 == 0) = false := by simpa using hF
        cases r4
        · go_wp2_with fail
          go_meet
          exact ⟨false, rfl, by simp, S.mono (by omega)⟩
        · go_wp2_with fail
          go_meet
          exact ⟨false, rfl, by simp, S.mono (by omega)⟩
    · go_wp2_with fail
      go_meet
      exact ⟨false, rfl, by simp, S.mono (by omega)⟩
  case rest =>
    clear HS0
    obtain ⟨r5, rfl, hr5, S⟩ := hcut
    generalize wc = w5 at *
    go_upto_if 37 with fail
    have HS0 := Lib.hid S
    clear S
    go_cut [8] (fun s8 wx => s8 = .bool want ∧ ∃ l2 : List Stm, Hid (l2.length = l.length) ∧ Hid (stmsFault (q.map PQ.purp) l2 = F0) ∧ Hid (∀ s ∈ l2, StmSm s) ∧ St w.heap.size 443 w0 wx (.own rStm B2 38 (.slice Al l.length cl) l2 :: .loc Q (qqCs k t pu rg ch at') 31 :: polC B (.slice A q.length c) q))
    case first =>
      have S := HS0.out
      clear HS0
      cases r5
      · go_wp2_with fail
        go_meet
        exact ⟨rfl, l, Lib.hid rfl, HF0, Hls, S.mono (by omega)⟩
      · obtain ⟨h0, hF⟩ := hr5 rfl
        have HFz := Lib.hid hF
        clear hF hr5
        obtain ⟨g, cap, e1, _⟩ := (S.ow 0 rfl).form h0
        simp only [Value.slice.injEq] at e1
        obtain ⟨rfl, _, rfl⟩ := e1
        go_wp2_with fail
        ((with_reducible refine (pick_lit w.heap.size _ 2 [1000000, 999999] S.g.s (by decide) (by simp) (by omega) (by omega) (by omega)).mono ?_); rintro e w6 ⟨n, hn, rfl, hk6, hs6⟩)
        replace S := S.step hk6 hs6
        have Hn : Hid (1000 < n ∧ n ≤ 1000000) := by
          simp only [List.mem_cons, List.not_mem_nil, or_false] at hn
          show _ ∧ _
          omega
        obtain ⟨s, hs⟩ : ∃ s, l[l.length - 1]? = some s := ⟨_, List.getElem?_eq_getElem (by omega)⟩
        have S2 := S.put flatStm 0 rfl rfl (l.length - 1) s { s with no := n } hs 0 (by decide) (.int .i64 n) rfl
        have HF2 := Lib.hid (stms_top (HF0.out.trans HFz.out) Hfn.out hs Hn.out)
        have Hl2 : Hid (∀ x ∈ l.set (l.length - 1) { s with no := n }, StmSm x) := fun x hx => by
          rcases List.mem_or_eq_of_mem_set hx with hx | rfl
          · exact Hls.out x hx
          · have h1 := Hls.out s (List.mem_of_getElem? hs)
            exact ⟨h1.tx, h1.pu, h1.rg⟩
        have hc := (S.ow 0 rfl).cellP flatStm rfl (l.length - 1) s hs 0 _ rfl
        rw [show rStm.size = 8 from rfl, Nat.add_zero] at S2 hc
        clear hk6 hs6 hn
        go_wp2_with fail
        go_meet
        exact ⟨rfl, _, Lib.hid (List.length_set ..), by rw [HFz.out]; exact HF2, Hl2, S2.mono (by omega)⟩
    case rest =>
      clear HS0 HF0 Hls Hfn hr5
      obtain ⟨rfl, l2, hl2, HF2, Hls, S⟩ := hcut
      generalize wc = w6 at *
      have HSB := Lib.hid S
      have Hb1 : Hid (Below w.heap.size w w6) := by
        have g := g0.step S.g.k S.g.s
        rw [← Hw0.out] at g
        exact Gg.toBelow g
      have HLq : Hid (LV w6 Q (qqCs k t pu rg ch at') 31) := S.lv 1 rfl
      obtain ⟨hSp, Al', cl', e', hSl⟩ := DrawsAsked.mem HB.out (S.del 1)
      simp only [Value.slice.injEq] at e'
      obtain ⟨rfl, _, rfl⟩ := e'
      have hcl : Al = none → cl = 0 := by
        rcases (S.ow 0 rfl).shape2 with ⟨e, _⟩ | ⟨g, cap, e, _⟩
        · simp only [Value.slice.injEq] at e
          exact fun _ => e.2.2
        · simp only [Value.slice.injEq] at e
          exact fun h => by rw [h] at e; cases e.1
      have HM1 := Lib.hid (HM.out.below Hb1.out)
      have Hok := Lib.hid Hq.out.polOk
      have hlen : (q.map PQ.purp).length = q.length := by simp
      have hql : (q.map PQ.purp).length ≤ 1000000 := by have := Hq.out.len; omega
      have hl14 : l2.length ≤ 14 := by have := hl2.out; omega
      have Hlo := Lib.hid (StmSm.ok Hls.out (by omega))
      have HSp := Lib.hid hSp
      have HSl := Lib.hid hSl
      rw [← hlen, ← hl2.out]
      rw [← HF2.out]
      clear S HSB hlen hl hl2 HF2 hSp hSl HB Hls Hq
      generalize q.map PQ.purp = xs at *
      have hrg : rg.size ≤ 1000000000 := Nat.le_trans Hqs.out.2.2 (by decide)
      have htt : t.size ≤ 1000000 := Nat.le_trans Hqs.out.1 (by decide)
      clear Hqs
      have S := Mem.start w6
      have HPr := Lib.hid (fun w' (h : Below w6.heap.size w6 w') => askP_any A Al xs l2 c cl k t pu rg ch at' want w' (HSp.out.keepB h) Hok.out (HSl.out.keepB h) Hlo.out hl14 hrg htt (HM1.out.below h))
      have HQ := Lib.hid (fun w' (h : Below w6.heap.size w6 w') => questionOr_any (fun _ => False) A xs c (stmsFault xs l2) k t pu rg ch at' w' (HSp.out.keepB h) hql htt hrg (HM1.out.below h))
      have HAs := Lib.hid (fun (hF : mayErr xs l2 k t pu rg ch at' = 0) w' (h : Below w6.heap.size w6 w') => refChg_any A Al xs l2 c cl k t pu rg ch at' want w' (HSp.out.keepB h) (policy_good (stms_good (first3_zero hF).1).1) (HSl.out.keepB h) (stms_good (first3_zero hF).1).2 (stms_no (first3_zero hF).1) (first3_zero hF).2.1 (by omega) hcl (qErr_at (first3_zero hF).2.2))
      rw [show first3 (stmsFault xs l2) (L.idFault k t) (qErr xs pu rg ch at') = mayErr xs l2 k t pu rg ch at' from rfl] at HQ
      have HLen : Hid ((chgAns (termAt xs pu rg ch) k t pu rg ch at' l2 want).1.length ≤ 2) := chgAns_len ..
      generalize stmsFault xs l2 = F0 at *
      generalize mayErr xs l2 k t pu rg ch at' = F at *
      generalize chgAns (termAt xs pu rg ch) k t pu rg ch at' l2 want = R at *
      clear HSp HSl Hok Hlo hcl
      have HC := Lib.hid (fun w' (h : Below w6.heap.size w6 w') => consents_any w' (HM1.out.below h))
      have c0 := HLq.out.all
      go_wp2_with fail
      ((with_reducible refine (HPr.out w6 S.b).mono ?_); rintro e w7 ⟨Ac, cc, rfl, hSc, hl7⟩)
      obtain ⟨Rs, HRs⟩ : ∃ Rs, Hid ((if F = 0 then R else ([], F)) = Rs) := ⟨_, Lib.hid rfl⟩
      rw [HRs.out] at hSc ⊢
      replace S := S.call hl7 (.sl rStm Ac Rs.1) hSc (fun k e => by cases e)
      clear hl7 HPr c0 hSc
      have c0 := (LV.kb3 HLq.out S.b HLq.out.lt).all
      go_wp2_with fail
      ((with_reducible refine (HQ.out w7 S.b).mono ?_); rintro e w8 ⟨rfl, hl8⟩)
      replace S := S.below hl8
      clear hl8 HQ c0
      by_cases hF : F = 0
      · have e1 : Rs = R := by rw [← HRs.out, if_pos hF]
        have HAs1 := Lib.hid (HAs.out hF)
        subst e1
        subst hF
        clear HAs HRs
        obtain ⟨r1, r2⟩ := Rs
        have c0 := (LV.kb3 HLq.out S.b HLq.out.lt).all
        go_wp2_with fail
        ((with_reducible refine (HAs1.out w8 S.b).mono ?_); rintro e w9 ⟨A2, c2, rfl, hS2, hl9⟩)
        replace S := S.below hl9
        have HE := Lib.hid (eqStm_any (fun _ => False) Ac A2 r1 cc c2 w9 ((S.slc 0 rfl).mono (fun _ _ h => h.elim)) (hS2.mono (fun _ _ h => h.elim)) (Nat.le_trans HLen.out (by decide)))
        clear hl9 HAs1 hS2 c0
        go_wp2_with fail
        ((with_reducible refine (HE.out).mono ?_); rintro e w10 ⟨rfl, hl10⟩)
        replace S := S.below hl10
        clear hl10 HE
        go_wp2_with fail
        ((with_reducible refine (HC.out w10 S.b).mono ?_); rintro e w11 ⟨rfl, hl11⟩)
        replace S := S.below hl11
        go_wp2_with fail
        go_ret
        exact ⟨rfl, Hb1.out.trans (S.b.mono Hb1.out.size)⟩
      · have hF' : (F != 0) = true := by simpa using hF
        obtain rfl : ([], F) = Rs := by rw [← HRs.out, if_neg hF]
        clear HAs HRs hF
        simp only [List.length_nil]
        go_wp2_with fail
        ((with_reducible refine (HC.out w8 S.b).mono ?_); rintro e w9 ⟨rfl, hl9⟩)
        replace S := S.below hl9
        go_wp2_with fail
        go_ret
        exact ⟨rfl, Hb1.out.trans (S.b.mono Hb1.out.size)⟩
end Go.Proofs.YthmkphmciiiagaaGreatDoor
