/- Several texts in one: FarMap, MapF, PlcF, ChnRef, ChnRfW. -/
import Derived.Test.YtfdcgedcfafmcaaGreatDoorPackA
import Derived.Test.YtfdcgedcfafmcaaGreatDoorPackP
import Derived.Test.YtfdcgedcfafmcaaGreatDoorPackT
import Derived.Test.YtfdcgedcfafmcaaGreatDoorPackO
import Derived.Test.YtfdcgedcfafmcaaGreatDoorPackV
import Derived.Test.YtfdcgedcfafmcaaGreatDoorPackH
/- How far places are, as a map of numbers to numbers: the reference's levels. No program is in sight. -/
namespace Go.Proofs.YtfdcgedcfafmcaaGreatDoor
open Go Go.RowKit
structure FarM (L : List (Int × Value)) (f : Nat → Option Nat) : Prop where
  nd : (L.map Prod.fst).Nodup
  is : ∀ (z : Int) (v : Value), getG z L = some v ↔ ∃ j k : Nat, z = j ∧ v = .int .i64 k ∧ f j = some k
theorem FarM.some' {L : List (Int × Value)} {f : Nat → Option Nat} (h : FarM L f) {j k : Nat} (e : f j = some k) : getG (j : Int) L = some (.int .i64 k) := (h.is _ _).2 ⟨j, k, rfl, rfl, e⟩
theorem FarM.none' {L : List (Int × Value)} {f : Nat → Option Nat} (h : FarM L f) {j : Nat} (e : f j = none) : getG (j : Int) L = none := by
  cases hg : getG (j : Int) L with
  | none => rfl
  | some v =>
    obtain ⟨i, k, h1, _, h2⟩ := (h.is _ _).1 hg
    obtain rfl : j = i := by omega
    rw [e] at h2; cases h2
theorem FarM.mem {L : List (Int × Value)} {f : Nat → Option Nat} (h : FarM L f) {z : Int} {v : Value} (hm : (z, v) ∈ L) : ∃ j k : Nat, z = j ∧ v = .int .i64 k ∧ f j = some k := by
  obtain ⟨i, hi⟩ := List.mem_iff_getElem?.1 hm
  exact (h.is z v).1 (getG_at h.nd hi).1
theorem FarM.start (s : Nat) : FarM [((s : Int), Value.int .i64 (0 : Int))] (fun j => if j = s then some 0 else none) := by
  refine ⟨by simp, fun z v => ?_⟩
  rw [getG]
  constructor
  · intro h
    split at h
    · rename_i e
      exact ⟨s, 0, e.symm, (Option.some.inj h).symm, by simp⟩
    · simp [getG] at h
  · rintro ⟨j, k, rfl, rfl, h⟩
    split at h
    · rename_i e
      obtain rfl := Option.some.inj h
      subst e
      rw [if_pos rfl]; rfl
    · cases h
theorem FarM.put {L : List (Int × Value)} {f : Nat → Option Nat} (h : FarM L f) (i k : Nat) : FarM (updG (i : Int) (Value.int .i64 (k : Int)) L) (fun j => if j = i then some k else f j) := by
  refine ⟨updG_keys h.nd, fun z v => ?_⟩
  rw [getG_upd]
  by_cases e : z = (i : Int)
  · subst e
    rw [if_pos rfl]
    constructor
    · intro h1
      exact ⟨i, k, rfl, (Option.some.inj h1).symm, by simp⟩
    · rintro ⟨j, m, h1, rfl, h2⟩
      obtain rfl : i = j := by omega
      rw [if_pos rfl] at h2
      rw [Option.some.inj h2]
  · rw [if_neg e, h.is]
    constructor
    · rintro ⟨j, m, rfl, rfl, h2⟩
      exact ⟨j, m, rfl, rfl, by rw [if_neg (by omega)]; exact h2⟩
    · rintro ⟨j, m, rfl, rfl, h2⟩
      rw [if_neg (by omega)] at h2
      exact ⟨j, m, rfl, rfl, h2⟩
theorem FarM.ext {L : List (Int × Value)} {f g : Nat → Option Nat} (h : FarM L f) (e : ∀ j, f j = g j) : FarM L g := by
  obtain rfl : f = g := funext e
  exact h
theorem FarM.noone {L done : List (Int × Value)} {f : Nat → Option Nat} (h : FarM L f) (hp : done.Perm L) {R : Nat → Nat → Prop} {i st : Nat} (hd : ∀ p ∈ done, ∀ j : Nat, p.1 = j → ¬ (p.2 = .int .i64 st ∧ R i j)) (hs : ∀ a b, R a b → R b a) : ¬ ∃ p, f p = some st ∧ R p i := by
  rintro ⟨p, hf, hr⟩
  have h1 : ((p : Int), Value.int .i64 (st : Int)) ∈ done := hp.mem_iff.2 (getG_mem (h.some' hf))
  exact hd _ h1 p rfl ⟨rfl, hs _ _ hr⟩
theorem Lev.clean {n : Nat} {R : Nat → Nat → Prop} {s : Nat} {f : Nat → Option Nat} {st : Nat} (h : Lev n R s f st 0) (j : Nat) : f j ≠ some (st + 1) := fun e => by
  obtain ⟨_, h1⟩ := (h j (st + 1)).1 e
  omega
theorem nxtL_range {r : Rul} {ts : List Tch} {s at' : Nat} : nxtL r ts s at' = (List.range ts.length).find? (fun j => edgeB r ts at' j && decide (farI ts.length (Edge r ts) s j = farI ts.length (Edge r ts) s at' - 1)) := by
  unfold nxtL nbL
  rw [List.find?_filter]
  congr 1
  funext j
  rw [Bool.eq_iff_iff]
  simp [Bool.and_eq_true]
end Go.Proofs.YtfdcgedcfafmcaaGreatDoor

/- A map of the call's own that is looped over and written afterwards: its entries by name. -/
namespace Go.Proofs.YtfdcgedcfafmcaaGreatDoor
open Go Go.RowKit Go.MapKept
def Chunk.mapF (X : Nat) (es : Array MapEntry) (clock : Nat) : Chunk :=
  ⟨some X, fun _ w => w.heap[X]? = some (.map es clock), fun k _ hd h => (k.block X (Array.getElem?_eq_some_iff.1 h).1 (hd X rfl)).trans h, fun _ h => h, fun h _ e => by cases e; exact (Array.getElem?_eq_some_iff.1 h).1⟩
section
variable {κ : Type} {w0 w : World} {cs : List Chunk}
theorem Mem.openG {K : KeyL κ} (S : Mem w0 w cs) (i : Nat) {X : Nat} {L : List (κ × Value)} (hi : cs[i]? = some (.mapG K X L)) : ∃ es clock, EsOk K es clock L ∧ Mem w0 w (cs.set i (.mapF X es clock)) := by
  obtain ⟨es, clock, hb, he⟩ := S.ok _ (List.mem_of_getElem? hi)
  exact ⟨es, clock, he, S.upd i hi (.mapF X es clock) ⟨Nat.le_refl _, fun _ _ _ => rfl⟩ S.b (fun _ e => .inl e) hb⟩
theorem Mem.closeG {K : KeyL κ} (S : Mem w0 w cs) (i : Nat) {X : Nat} {L : List (κ × Value)} {es : Array MapEntry} {clock : Nat} (hi : cs[i]? = some (.mapF X es clock)) (he : EsOk K es clock L) : Mem w0 w (cs.set i (.mapG K X L)) :=
  S.upd i hi (.mapG K X L) ⟨Nat.le_refl _, fun _ _ _ => rfl⟩ S.b (fun _ e => .inl e) ⟨es, clock, S.ok _ (List.mem_of_getElem? hi), he⟩
theorem Mem.atF (S : Mem w0 w cs) (i : Nat) {X : Nat} {es : Array MapEntry} {clock : Nat} (hi : cs[i]? = some (.mapF X es clock)) : w.heap[X]? = some (.map es clock) := S.ok _ (List.mem_of_getElem? hi)
end
end Go.Proofs.YtfdcgedcfafmcaaGreatDoor

/- handref2.ChainOf's place: the position of the first touch with a number. -/
namespace Go.Proofs.YtfdcgedcfafmcaaGreatDoor
open Go Go.RowKit
def tchIs (no : Int) (t : Tch) : Bool := decide (t.no = no)
theorem plc2_any (U : Nat) (no : Int) (t : Tch) (Ai Af : Option Addr) (ni ci nf cf : Nat) (w : World) (hU : LV w U #[.int .i64 no] 3) : Calls Tryz.prog 45 #[.agg #[.int .i64 t.no, .int .i64 t.at', .string t.src, .slice Ai ni ci, .slice Af nf cf], .pointer (some ⟨U, 0, none⟩)] w fun e w' => e = .returned (.bool (tchIs no t)) ∧ Below w.heap.size w w' := by
  have hb := (Below.refl w.heap.size w).alloc (Nat.le_refl _) (.cells #[.int .i64 t.no, .int .i64 t.at', .string t.src, .slice Ai ni ci, .slice Af nf cf] 85)
  have c0 := (LV.kb3 hU hb hU.lt).all
  unfold tchIs
  go_enter Tryz.func45, Tryz.ntmps45
  go_wp2_with fail
  go_ret
  exact ⟨by first | rfl | simp, hb⟩
set_option maxHeartbeats 4000000 in
set_option maxRecDepth 100000 in
theorem idxTch_any (U : Nat) (no : Int) (N : Nat → Prop) (A : Option Addr) (xs : List Tch) (c : Nat) (w : World) (hS : Sl rTch N w A xs) (hl : xs.length ≤ 1000000) (hU : LV w U #[.int .i64 no] 3) :
    Calls Tryz.prog 44 #[.slice A xs.length c, .func (.func 45) #[] #[.pointer (some ⟨U, 0, none⟩)]] w fun e w' => e = .returned (.int .i64 (idxGo (tchIs no) 0 xs)) ∧ Below w.heap.size w w' := by
  have HS := Lib.hid hS
  clear hS
  obtain ⟨R, HR⟩ : ∃ R, Hid (idxGo (tchIs no) 0 xs = R) := ⟨_, Lib.hid rfl⟩
  rw [HR.out]
  go_enter Tryz.func44, Tryz.ntmps44
  go_wp2_with fail
  go_loopw [8] (fun i wr => ∃ k : Nat, k ≤ xs.length ∧ i = .int .i64 k ∧ idxGo (tchIs no) k (xs.drop k) = R ∧ Below w.heap.size w wr) (fun i _ => xs.length - (intOf i).toNat)
  case atStart => exact ⟨0, Nat.zero_le _, rfl, HR.out, Below.refl _ _⟩
  case round =>
    clear HR
    obtain ⟨k, hk, rfl, hr, hbl⟩ := hrel
    have Hr := Lib.hid hr
    clear hr
    by_cases hlt : k < xs.length
    · obtain ⟨q, hq⟩ : ∃ q, xs[k]? = some q := ⟨_, List.getElem?_eq_getElem (by omega)⟩
      obtain ⟨blk, off, Ai, ci, Af, cf, rfl, hblk, d0, d1, d2, d3, d4, _, _⟩ := (HS.out.keepB hbl).tch k q hq
      have Hs : Hid ((if tchIs no q = true then (k : Int) else idxGo (tchIs no) (k + 1) (xs.drop (k + 1))) = R) := by
        show _ = _
        rw [← Hr.out, drop_at3 hq]
        rfl
      have Hc := Lib.hid (plc2_any U no q Ai Af q.ids.length ci q.flds.length cf wr (LV.kb3 hU hbl hU.lt))
      clear Hr hq
      generalize tchIs no q = b at *
      go_wp2_with fail
      ((with_reducible refine (Hc.out).mono ?_); rintro e w1 ⟨rfl, hl1⟩)
      have Hb1 := Lib.hid (hbl.trans (hl1.mono hbl.size))
      clear d0 d1 d2 d3 d4
      clear hl1 Hc
      cases b
      · have Hn : Hid (idxGo (tchIs no) (k + 1) (xs.drop (k + 1)) = R) := Hs.out
        go_wp2_with fail
        go_roundw
        case rel => exact ⟨k + 1, by omega, by go_num, Hn.out, Hb1.out⟩
        case measure => simp [intOf]; omega
      · have Hn : Hid ((k : Int) = R) := Hs.out
        go_wp2_with fail
        go_ret
        exact ⟨ret_i Hn.out, Hb1.out⟩
    · have Hn : Hid (-1 = R) := by show _ = _; rw [← Hr.out, List.drop_eq_nil_of_le (by omega)]; rfl
      clear Hr
      go_wp2_with fail
      go_ret
      exact ⟨ret_i Hn.out, hbl⟩
theorem idxGo_plc {no : Int} : ∀ (l : List Tch) (k : Nat), (idxGo (tchIs no) k l = -1 ∧ ∀ t ∈ l, t.no ≠ no) ∨ ∃ (j : Nat) (s : Tch), idxGo (tchIs no) k l = ((k + j : Nat) : Int) ∧ l[j]? = some s ∧ s.no = no
  | [], k => .inl ⟨rfl, fun t ht => by cases ht⟩
  | x :: r, k => by
    rw [idxGo]
    by_cases hx : x.no = no
    · exact .inr ⟨0, x, by rw [if_pos (by unfold tchIs; exact decide_eq_true hx)]; rfl, rfl, hx⟩
    · rw [if_neg (by unfold tchIs; simpa using hx)]
      rcases idxGo_plc r (k + 1) with ⟨h1, h2⟩ | ⟨j, s, h1, h2, h3⟩
      · exact .inl ⟨h1, fun t ht => by
          rcases List.mem_cons.1 ht with rfl | ht
          · exact hx
          · exact h2 t ht⟩
      · exact .inr ⟨j + 1, s, by rw [h1]; congr 1; omega, by simpa using h2, h3⟩
def plcI (ts : List Tch) (no : Int) : Int := match plcL ts no with | some i => (i : Int) | none => -1
theorem plcI_is {ts : List Tch} {no : Int} (hu : NoUp ts) : idxGo (tchIs no) 0 ts = plcI ts no := by
  unfold plcI
  rcases idxGo_plc ts 0 (no := no) with ⟨h1, h2⟩ | ⟨j, s, h1, h2, h3⟩
  · rw [h1, plcL_none (fun i hi => by rw [noAt_is (List.getElem?_eq_getElem hi)]; exact h2 _ (List.getElem_mem hi))]
  · rw [h1, plcL_some hu (lt_of_get h2) (by rw [noAt_is h2]; exact h3), Nat.zero_add]
theorem place_any (Z : Nat) (no : Int) (N : Nat → Prop) (A : Option Addr) (xs : List Tch) (c : Nat) (w : World) (hS : Sl rTch N w A xs) (hl : xs.length ≤ 1000000) (hZ : LV w Z #[.slice A xs.length c] 30) (hu : NoUp xs) :
    Calls Tryz.prog 43 #[.int .i64 no, .pointer (some ⟨Z, 0, none⟩)] w fun e w' => e = .returned (.int .i64 (plcI xs no)) ∧ Below w.heap.size w w' := by
  obtain ⟨U, hU⟩ : ∃ U, U = w.heap.size := ⟨_, rfl⟩
  have T : Mem w (w.alloc (.cells #[.int .i64 no] 3)) [.loc U #[.int .i64 no] 3] := (Mem.start w).newAt #[.int .i64 no] 3 U hU
  have Hi := Lib.hid (idxTch_any U no N A xs c _ (hS.keepB T.b) hl (T.lv 0 rfl))
  rw [plcI_is hu] at Hi
  have z0 := (LV.kb3 hZ T.b hZ.lt).all
  clear hS hZ
  go_enter Tryz.func43, Tryz.ntmps43
  go_upto_region 1 with fail
  rw [← hU]
  clear hU
  generalize w.alloc (.cells #[.int .i64 no] 3) = w1 at *
  go_wp2_with fail
  ((with_reducible refine (Hi.out).mono ?_); rintro e w2 ⟨rfl, hl2⟩)
  have Hb := Lib.hid (T.below hl2).b
  clear T hl2 z0 Hi
  go_wp2_with fail
  go_ret
  exact ⟨rfl, Hb.out⟩
end Go.Proofs.YtfdcgedcfafmcaaGreatDoor

/- handref2.ChainOf: why two touches are of one person, by levels. -/
namespace Go.Proofs.YtfdcgedcfafmcaaGreatDoor
open Go Go.RowKit Go.MapKept
section
variable {κ : Type} [DecidableEq κ] {w0 w : World} {cs : List Chunk} {ops : Array Oper} {rest : List Oper} {o : Oper} {a : Act} {Q : Exit → Act → World → Prop}
theorem Mem.insG {K : KeyL κ} (S : Mem w0 w cs) (i : Nat) {X : Nat} {L : List (κ × Value)} (hi : cs[i]? = some (.mapG K X L)) {T E : TypeId} (hT : Tryz.prog.underlying T = some (.map K.ty E))
    (hgd : o.guard = none) (m x v : Operand) (hop : o.op = .insert T m x v) (hm : a.eval m = .map (some X)) (y : κ) (hx : a.eval x = K.kv y) (u : Value) (hv : a.eval v = u)
    (h : ∀ w', Mem w0 w' (cs.set i (.mapG K X (updG y u L))) → wpList Tryz.prog ops Q rest (a.put o.dst undef) w') : wpList Tryz.prog ops Q (o :: rest) a w := by
  obtain ⟨w', hrun, hm', hgr⟩ := put_g (S.ok _ (List.mem_of_getElem? hi)) hT y u
  have hX := S.new _ (List.mem_of_getElem? hi) X rfl
  have hbl : Below w0.heap.size w w' := (Below.refl _ w).grown hgr S.b.size (fun k hk => by cases hk; exact hX)
  have S2 := S.upd i hi (.mapG K X (updG y u L)) ⟨hgr.size, fun k hk hn => hgr.block k hk (fun e => hn e.symm)⟩ (S.b.trans hbl) (fun k e => .inl e) hm'
  refine wpList_plain hgd fun K' hK' => ?_
  unfold Oper.wp
  simp [execOp, hop, hm, hx, hv, hrun, Result.andThen]
  exact hK' _ _ (h w' S2)
end
theorem pair_any {r : Rul} {bt ot X3 : Nat} {ts : List Tch} {L3 : List (IdV × Value)} {w : World} (hM : MapG keyId w X3 L3) (hL : ∀ y, getG y L3 = if hav ts y = [] then none else some (.bool (joinsP r ts y))) (hT : Sl rTch (fun _ => False) w (some ⟨bt, ot, none⟩) ts) (ho : RtOk r ts) (i j : Nat) (hi : i < ts.length) (hj : j < ts.length) :
    ∃ va vb : Value, (∀ w', Below w.heap.size w w' → (Instr.loadAt 85 (.pointer (some ⟨bt, ot + i * 5, none⟩))).run Tryz.prog w' = .ok va w') ∧ (∀ w', Below w.heap.size w w' → (Instr.loadAt 85 (.pointer (some ⟨bt, ot + j * 5, none⟩))).run Tryz.prog w' = .ok vb w') ∧
      ∀ w', Below w.heap.size w w' → Calls Tryz.prog 47 #[.map (some X3), va, vb] w' (GivesSh (shL r ts i j) w') := by
  have ld : ∀ (i : Nat) (hi : i < ts.length), ∃ t A1 c1 B1 d1, ts[i]? = some t ∧ Sl rId (fun _ => False) w A1 t.ids ∧ ∀ w', Below w.heap.size w w' → (Instr.loadAt 85 (.pointer (some ⟨bt, ot + i * 5, none⟩))).run Tryz.prog w' = .ok (.agg (tcCs t A1 c1 B1 d1)) w' := fun i hi => by
    obtain ⟨t, ht⟩ : ∃ t, ts[i]? = some t := ⟨_, List.getElem?_eq_getElem hi⟩
    obtain ⟨blk, off, Ai, ci, Af, cf, e, hblk, d0, d1, d2, d3, d4, hsi, hsf⟩ := hT.tch i t ht
    simp only [Option.some.injEq, Addr.mk.injEq, and_true] at e
    obtain ⟨rfl, rfl⟩ := e
    refine ⟨t, Ai, ci, Af, cf, ht, hsi, fun w' h => ?_⟩
    have e0 := (h.cell (p := ⟨bt, ot + i * 5, none⟩) hblk).trans d0
    have e1 := (h.cell (p := ⟨bt, ot + i * 5 + 1, none⟩) hblk).trans d1
    have e2 := (h.cell (p := ⟨bt, ot + i * 5 + 2, none⟩) hblk).trans d2
    have e3 := (h.cell (p := ⟨bt, ot + i * 5 + 3, none⟩) hblk).trans d3
    have e4 := (h.cell (p := ⟨bt, ot + i * 5 + 4, none⟩) hblk).trans d4
    clear d0 d1 d2 d3 d4
    go_simp
  obtain ⟨ta, A1, c1, B1, d1, h1, s1, l1⟩ := ld i hi
  obtain ⟨tb, A2, c2, B2, d2, h2, s2, l2⟩ := ld j hj
  refine ⟨_, _, l1, l2, fun w' h => ?_⟩
  have hM' : MapG keyId w' X3 L3 := by
    obtain ⟨es, cl, hb, he⟩ := hM
    exact ⟨es, cl, (h.block X3 (Array.getElem?_eq_some_iff.1 hb).1).trans hb, he⟩
  have e : shL r ts i j = shT r ts ta.ids tb.ids := by unfold shL; rw [idsAt_is h1, idsAt_is h2]
  rw [e]
  refine refShared_any (fun _ => False) r ts X3 L3 ta tb A1 B1 A2 B2 c1 d1 c2 d2 w' hM' hL (s1.keepB h) (s2.keepB h) (fun y hy e => ?_) (ho.il ta (List.mem_of_getElem? h1)) (ho.il tb (List.mem_of_getElem? h2))
  rw [← idsAt_is h1] at hy
  have := mem_idsAt.1 hy
  rw [e] at this; cases this
theorem zeroI (w : World) : (zeroValue 3).run Tryz.prog w = .ok (.int .i64 0) w := by kernel_rfl
theorem look_far {w : World} {X : Nat} {L : List (Int × Value)} (h : MapG keyInt w X L) (k : Int) (ok : Bool) :
    (Instr.lookup 93 (.map (some X)) (.int .i64 k) ok).run Tryz.prog w = .ok (if ok then .tuple #[(getG k L).getD (.int .i64 0), .bool (getG k L).isSome] else (getG k L).getD (.int .i64 0)) w :=
  look_g (K := keyInt) (T := 93) (E := 3) h (by kernel_rfl) (zeroI w) k ok
theorem len_far {w : World} {X : Nat} {es : Array MapEntry} {clock : Nat} (hb : w.heap[X]? = some (.map es clock)) (ty : TypeId) : (Builtin.len_ #[93] ty #[.map (some X)]).run Tryz.prog w = .ok (.int .i64 es.size) w := by
  have h : Tryz.prog.underlying 93 = some (.map 3 3) := by kernel_rfl
  simp [Builtin.len_, run_underlying h, Go.MapKept.run_getObj_map hb, goInt]
theorem lev_lt {r : Rul} {ts : List Tch} {s st : Nat} (hs : s < ts.length) (hy : ∃ y, farD ts.length (Edge r ts) s y = some st) : st < ts.length := by
  obtain ⟨y, hy⟩ := hy
  exact far_small hs st y hy
end Go.Proofs.YtfdcgedcfafmcaaGreatDoor

/- handref2.ChainOf walked. -/
namespace Go.Proofs.YtfdcgedcfafmcaaGreatDoor
open Go Go.RowKit Go.MapKept
set_option maxHeartbeats 16000000 in
set_option maxRecDepth 100000 in
theorem refChain_any (r : Rul) (K W S A : Option Addr) (ck cw cs c : Nat) (ts : List Tch) (a b : Int) (w : World) (hR : RulIn (fun _ => False) w r K W S) (hT : Sl rTch (fun _ => False) w A ts) (ho : RtOk r ts) (hu : NoUp ts) :
    Calls Tryz.prog 10 #[.agg (ruCs r K ck W cw S cs), .slice A ts.length c, .int .i64 a, .int .i64 b] w (GivesChn r ts a b w) := by
  obtain ⟨Y, hY⟩ : ∃ Y, Y = w.heap.size := ⟨_, rfl⟩
  have T0 := (Mem.start w).newAt (ruCs r K ck W cw S cs) 29 Y hY
  have T : Mem w _ [.loc Y (ruCs r K ck W cw S cs) 29, .loc (Y + 1) #[.slice A ts.length c] 30] := T0.newAt #[.slice A ts.length c] 30 (Y + 1) (by rw [hY, World.size_alloc])
  have HR := Lib.hid (fun w' (h : Below w.heap.size w w') => hR.keepB h)
  have HT := Lib.hid (fun w' (h : Below w.heap.size w w') => hT.keepB h)
  have Ho := Lib.hid ho
  have Hu := Lib.hid hu
  have htb := ho.tb
  have hmm := @run_makeMap Tryz.prog
  clear hR hT ho hu T0
  go_enter Tryz.func10, Tryz.ntmps10
  go_upto_region 1 with fail
  rw [← hY]
  clear hY
  generalize (w.alloc (.cells (ruCs r K ck W cw S cs) 29)).alloc (.cells #[.slice A ts.length c] 30) = w1 at *
  obtain ⟨Z, hZ⟩ : ∃ Z, Z = Y + 1 := ⟨_, rfl⟩
  rw [← hZ] at T ⊢
  clear hZ
  obtain ⟨pa, hpa⟩ : ∃ pa, plcI ts a = pa := ⟨_, rfl⟩
  obtain ⟨pb, hpb⟩ : ∃ pb, plcI ts b = pb := ⟨_, rfl⟩
  have Hp := Lib.hid (fun w' (z : Int) (h : Below w.heap.size w w') (hl : LV w' Z #[.slice A ts.length c] 30) => place_any Z z (fun _ => False) A ts c w' (HT.out w' h) (by omega) hl Hu.out)
  have Hp1 := Lib.hid (Hp.out w1 a T.b (T.lv 1 rfl))
  rw [hpa] at Hp1
  go_wp2_with fail
  ((with_reducible refine (Hp1.out).mono ?_); rintro e w2 ⟨rfl, hl2⟩)
  have T2 := T.below hl2
  have Hp2 := Lib.hid (Hp.out w2 b T2.b (T2.lv 1 rfl))
  rw [hpb] at Hp2
  clear T hl2 Hp1 Hp
  go_wp2_with fail
  ((with_reducible refine (Hp2.out).mono ?_); rintro e w3 ⟨rfl, hl3⟩)
  have T3 := T2.below hl3
  clear T2 hl3 Hp2
  have hpaN : plcL ts a = none ∧ pa = -1 ∨ ∃ i : Nat, plcL ts a = some i ∧ pa = i := by
    unfold plcI at hpa
    cases h : plcL ts a with
    | none => rw [h] at hpa; exact .inl ⟨rfl, hpa.symm⟩
    | some i => rw [h] at hpa; exact .inr ⟨i, rfl, hpa.symm⟩
  have hpbN : plcL ts b = none ∧ pb = -1 ∨ ∃ i : Nat, plcL ts b = some i ∧ pb = i := by
    unfold plcI at hpb
    cases h : plcL ts b with
    | none => rw [h] at hpb; exact .inl ⟨rfl, hpb.symm⟩
    | some i => rw [h] at hpb; exact .inr ⟨i, rfl, hpb.symm⟩
  clear hpa hpb
  rcases hpaN with ⟨hn, rfl⟩ | ⟨i, hpi, rfl⟩
  · have Hw : Hid (Mem w w3 [.sl rLnk none []]) := ((T3.del 1).del 0).call (Below.refl _ _) _ Sl.nil (fun k e => by cases e)
    have Hn := Lib.hid hn
    clear T3 hn hpbN
    go_wp2_with fail
    exact bodyPost_ret (results_two rfl rfl rfl) rfl ⟨none, 0, [], 8, rfl, .inl ⟨.inl Hn.out, rfl, rfl⟩, Hw.out⟩
  rcases hpbN with ⟨hn, rfl⟩ | ⟨s, hps, rfl⟩
  · have Hw : Hid (Mem w w3 [.sl rLnk none []]) := ((T3.del 1).del 0).call (Below.refl _ _) _ Sl.nil (fun k e => by cases e)
    have Hn := Lib.hid hn
    have h0 : ¬ ((i : Int) < 0) := by omega
    clear T3 hn
    go_wp2_with fail
    exact bodyPost_ret (results_two rfl rfl rfl) rfl ⟨none, 0, [], 8, rfl, .inl ⟨.inr Hn.out, rfl, rfl⟩, Hw.out⟩
  have hi := (plcL_at hpi).1
  have hs := (plcL_at hps).1
  have Hpi := Lib.hid hpi
  have Hps := Lib.hid hps
  clear hpi hps
  obtain ⟨bt, ot, rfl⟩ : ∃ bt ot, A = some ⟨bt, ot, none⟩ := by
    obtain ⟨bt, ot, _, _, _, _, e, _⟩ := (HT.out w (Below.refl _ _)).tch i _ (List.getElem?_eq_getElem hi)
    exact ⟨bt, ot, e⟩
  have Hj := Lib.hid (refJoins_any (fun _ => False) r K W S (some ⟨bt, ot, none⟩) ck cw cs c ts w3 (HR.out w3 T3.b) (HT.out w3 T3.b) Ho.out)
  have y0 := (T3.lv 0 rfl).all
  have y1 := (T3.lv 1 rfl).all
  have h0 : ¬ ((i : Int) < 0) := by omega
  have h9 : ¬ ((s : Int) < 0) := by omega
  go_wp2_with fail
  ((with_reducible refine (Hj.out).mono ?_); rintro e w5 ⟨X3, L3, rfl, hL3, T5⟩)
  have T6 := T3.below T5.b
  have HT6 : Hid (Mem w w5 []) := (T6.del 1).del 0
  have HlZ := Lib.hid (T6.lv 1 rfl)
  have HZ : Hid (∀ w', Below w5.heap.size w5 w' → (Instr.loadAt 30 (.pointer (some ⟨Z, 0, none⟩))).run Tryz.prog w' = .ok (.slice (some ⟨bt, ot, none⟩) ts.length c) w') := fun w' h => loadC rfl ((LV.kb3 HlZ.out h HlZ.out.lt).cell 0 _ rfl)
  have HP := Lib.hid (fun x y (hx : x < ts.length) (hy : y < ts.length) => pair_any (T5.ok _ (.head _)) hL3 (HT.out w5 T6.b) Ho.out x y hx hy)
  have HTw : Hid (∀ z t, ts[z]? = some t → ∀ w', Below w5.heap.size w5 w' → w'.cell? ⟨bt, ot + z * 5, none⟩ = some (.int .i64 t.no)) := fun z t ht w' h => by
    obtain ⟨blk, off, Ai, ci, Af, cf, e, hblk, d0, _⟩ := (HT.out w5 T6.b).tch z t ht
    simp only [Option.some.injEq, Addr.mk.injEq, and_true] at e
    obtain ⟨rfl, rfl⟩ := e
    exact (h.cell (p := ⟨bt, ot + z * 5, none⟩) hblk).trans d0
  have S0 : Mem w5 (w5.alloc (.map #[] 0)) [.mapG keyInt w5.heap.size []] := (Mem.start w5).newMapG keyInt w5.heap.size rfl
  clear T3 T5 T6 y0 y1 hL3 HR HT Hj h0 h9
  go_upto_region 7 with (refine S0.insG 0 rfl (T := 93) (E := 3) (by kernel_rfl) rfl _ _ _ rfl rfl (s : Int) rfl (.int .i64 0) rfl ?_; intro w6 S6)
  obtain ⟨XF, hXF⟩ : ∃ XF, XF = w5.heap.size := ⟨_, rfl⟩
  replace S6 : Mem w5 w6 [.mapG keyInt w5.heap.size [((s : Int), Value.int .i64 (0 : Int))]] := S6
  rw [← hXF] at S6 ⊢
  have HF0 := Lib.hid (FarM.start s)
  have HL0 : Hid (Lev ts.length (Edge r ts) s (fun j => if j = s then some 0 else none) 0 0) := Lev.start (fun j => rfl)
  have Hb5 := Lib.hid hXF
  clear hmm S0 hXF
  go_wp2_with fail
  go_loopw [15] (fun v wr => ∃ (sp st : Nat) (L : List (Int × Value)) (f : Nat → Option Nat), v = .int .i64 sp ∧ Hid (sp = st + 1) ∧ Hid (FarM L f) ∧ Hid (Lev ts.length (Edge r ts) s f st 0) ∧ Hid (∃ y, farD ts.length (Edge r ts) s y = some st) ∧ Mem w5 wr [.mapG keyInt XF L]) (fun v _ => ts.length + 1 - (intOf v).toNat)
  case atStart => exact ⟨1, 0, _, _, rfl, rfl, HF0, HL0, ⟨s, far_self⟩, S6⟩
  case round =>
    clear S6 HF0 HL0
    obtain ⟨sp, st, L, f, rfl, Hsp, HF, HL, Hex, S⟩ := hrel
    have hst : st < ts.length := lev_lt hs Hex.out
    have hsp : sp ≤ ts.length := by have := Hsp.out; omega
    obtain ⟨es, clock, hmb, hme⟩ : MapG keyInt wr XF L := S.ok _ (.head _)
    have hes : 0 < es.size := by
      have h1 := congrArg List.length hme.kv
      rw [List.length_map, List.length_map, Array.length_toList] at h1
      have h2 : L ≠ [] := fun e => by
        have h3 := HF.out.some' (j := s) (k := 0) ((HL.out s 0).2 ⟨far_self, .inl (Nat.zero_le _)⟩)
        rw [e] at h3; cases h3
      have h3 := List.length_pos_iff.2 h2
      omega
    have y1 := (LV.kb3 HlZ.out S.b HlZ.out.lt).all
    have HFc : Hid (∀ y, f y ≠ some (st + 1)) := fun y => HL.out.clean y
    have hln := len_far hmb
    obtain ⟨z9, hz9⟩ : ∃ z : Int, (es.size : Int) = z := ⟨_, rfl⟩
    have hz8 : decide (0 < z9) = true := by rw [← hz9]; simp; omega
    rw [hz9] at hln
    clear hme hmb hes hz9
    go_wp2_with fail
    clear hln hz8
    go_loopw [16, 58] (fun ad ix wr => ∃ (j : Nat) (bb : Bool) (L : List (Int × Value)) (f : Nat → Option Nat), ad = .bool bb ∧ ix = .int .i64 j ∧ j ≤ ts.length ∧ Hid (bb = true ↔ ∃ y, f y = some (st + 1)) ∧ Hid (FarM L f) ∧ Hid (Lev ts.length (Edge r ts) s f st j) ∧ Mem w5 wr [.mapG keyInt XF L]) (fun _ ix _ => ts.length - (intOf ix).toNat)
    case atStart => exact ⟨0, false, L, f, rfl, rfl, Nat.zero_le _, ⟨fun h => (by cases h), fun ⟨y, hy⟩ => absurd hy (HFc.out y)⟩, HF, HL, S⟩
    case round =>
      clear S HF HL HFc y1
      obtain ⟨j, bb, L, f, rfl, rfl, hj, Hbb, HF, HL, S⟩ := hrel
      by_cases hlt : j < ts.length
      · have hlk := look_far (S.ok _ (.head _)) (j : Int) true
        rw [if_pos rfl] at hlk
        cases hf : f j with
        | some ky =>
          rw [HF.out.some' hf] at hlk
          replace hlk : (Instr.lookup 93 (.map (some XF)) (.int .i64 j) true).run Tryz.prog wr = .ok (.tuple #[.int .i64 ky, .bool true]) wr := hlk
          have HL2 : Hid (Lev ts.length (Edge r ts) s f st (j + 1)) := HL.out.skip (.inl (by rw [hf]; rfl))
          clear hf HL
          go_wp2_with fail
          go_roundw
          case rel => exact ⟨j + 1, bb, L, f, rfl, by go_num, by omega, Hbb, HF, HL2, S⟩
          case measure => simp [intOf]; omega
        | none =>
          rw [HF.out.none' hf] at hlk
          replace hlk : (Instr.lookup 93 (.map (some XF)) (.int .i64 j) true).run Tryz.prog wr = .ok (.tuple #[.int .i64 0, .bool false]) wr := hlk
          have Hf := Lib.hid hf
          obtain ⟨es, clock, hE, S3⟩ := S.openG 0 rfl
          have HE := Lib.hid hE
          obtain ⟨hrg, S4⟩ := S3.rangeO (S3.atF 0 rfl) (T := 93) (k := 3) (e := 3) (by kernel_rfl)
          obtain ⟨Zr, hZr⟩ : ∃ Zr, Zr = wr.heap.size := ⟨_, rfl⟩
          rw [← hZr] at hrg S4
          replace S4 : Mem w5 (wr.alloc (.mapIter (some XF) clock #[] clock)) [.mapF XF es clock, .iter Zr XF clock #[] clock] := S4
          clear hZr S S3 hE hf
          go_wp2_with fail
          clear hrg hlk
          generalize wr.alloc (.mapIter (some XF) clock #[] clock) = w7 at *
          have HR0 : Hid (RngOk keyInt es clock #[] L [] L) := RngOk.start HE.out
          go_loopw [16] (fun ad wr => ∃ (seen : Array Nat) (dq left : List (Int × Value)), ad = .bool bb ∧ Hid (RngOk keyInt es clock seen L dq left) ∧ Hid (∀ p ∈ dq, ∀ y : Nat, p.1 = y → ¬ (p.2 = .int .i64 st ∧ Edge r ts j y)) ∧ Mem w5 wr [.mapF XF es clock, .iter Zr XF clock seen clock]) (fun _ wr => iterLeft es Zr wr)
          case atStart => exact ⟨#[], [], L, rfl, HR0, (fun p hp => by cases hp), S4⟩
          case round =>
            clear S4 HR0
            obtain ⟨seen, dq, left, rfl, HRg, Hdq, S3⟩ := hrel
            have hsz3 : Hid (iterLeft es Zr wr = left.length) := S3.iterSize 1 rfl HRg.out
            rcases S3.nextO 1 (S3.atF 0 rfl) rfl (Nat.le_refl _) HRg.out with ⟨hl0, hp0, hnx⟩ | ⟨pq, left', seen', w8, hpm, hll, hrg, hnx, hen, S5⟩
            · have S6 : Mem w5 wr [.mapG keyInt XF L] := (S3.del 1).closeG 0 rfl HE.out
              have HL2 : Hid (Lev ts.length (Edge r ts) s f st (j + 1)) := HL.out.skip (.inr (HF.out.noone hp0 Hdq.out (fun x y h => h.symm)))
              clear hp0 hl0 S3 hsz3 HRg Hdq HL
              go_wp2_with fail
              go_roundw
              case rel => exact ⟨j + 1, bb, L, f, rfl, by go_num, by omega, Hbb, HF, HL2, S6⟩
              case measure => simp [intOf]; omega
            · obtain ⟨zk, val⟩ := pq
              obtain ⟨y, ky, e1, e2, hfy⟩ := HF.out.mem (HRg.out.perm.mem_iff.1 (List.mem_append_right _ hpm))
              have e1' : zk = (y : Int) := e1
              have e2' : val = .int .i64 ky := e2
              subst e1' e2'
              have hyn : y < ts.length := far_lt hs ((HL.out y ky).1 hfy).1
              have hkn : ky < ts.length := far_small hs ky y ((HL.out y ky).1 hfy).1
              have Hfy := Lib.hid hfy
              have Hrg := Lib.hid hrg
              have Hll := Lib.hid hll
              have hnx2 : ∀ ty, (Instr.next (.pointer (some ⟨Zr, 0, none⟩)) false ty).run Tryz.prog wr = .ok (.tuple #[.bool true, .int .i64 y, .int .i64 ky]) w8 := hnx
              have hen2 : (Instr.entry (.pointer (some ⟨Zr, 0, none⟩))).run Tryz.prog w8 = .ok (.tuple #[.int .i64 y, .int .i64 ky]) w8 := hen
              have T : Mem w5 w8 [.mapF XF es clock, .iter Zr XF clock seen' clock] := S5
              obtain ⟨va, vb, hva, hvb, hsh⟩ := HP.out j y hlt hyn
              obtain ⟨y9, hy9⟩ : ∃ y9, (shL r ts j y).getD zId = y9 := ⟨_, rfl⟩
              obtain ⟨b9, hb9⟩ : ∃ b9, (shL r ts j y).isSome = b9 := ⟨_, rfl⟩
              have Hva := Lib.hid hva
              have Hvb := Lib.hid hvb
              have Hsh := Lib.hid hsh
              unfold GivesSh at Hsh
              rw [hy9, hb9] at Hsh
              have Heg : Hid (b9 = true ↔ Edge r ts j y) := by show _ ↔ _; rw [← hb9]; exact shL_some
              clear hnx hen S3 S5 hpm hll hrg hfy e1 e2 hva hvb hsh hy9 hb9
              go_upto_region 19 with fail
              clear hnx2 hen2
              go_cut [22, 23] (fun s22 s23 wx => ∃ V : Nat, s22 = .pointer (some ⟨V, 0, none⟩) ∧ s23 = .bool b9 ∧ Mem w5 wx (.loc V #[.int .i64 y9.k, .string y9.t] 41 :: [.mapF XF es clock, .iter Zr XF clock seen' clock]))
              case first =>
                refine wp_region_mixT [] (fun w' => Below w5.heap.size w5 w') (.p 0 (.q 1 (.p 2 (.p 3 (.q 4 (.q 5 (.p 6 (.p 7 (.q 8 (.e2 9 (.p 10 (.p 11 (.p 12 (.e 13 (.e 14 (.p 15 .z)))))) 13 (.e 9 (.p 10 (.p 11 (.p 12 (.e 14 (.p 15 .z)))))))))))))))) (by kernel_rfl) (by kernel_rfl) (fun w' hd => (T.below (hd.below _)).b) (fun KK hKK wd hd => ?_)
                replace T := T.below (hd.below _)
                clear hd
                repeat ((first | refine mixT_pp rfl (fun K hK => ?_) | refine mixT_p rfl (fun K hK => ?_)); go_simp; (try go_bits); (try simp (disch := omega) only [if_pos]); (try simp (disch := omega) only [if_neg]); (try simp (disch := omega) only [dif_pos]); (try simp (disch := omega) only [dif_neg]); (try go_simp); (refine hK _ ?_; clear hK K))
                refine mixT_loadR (.slice (some ⟨bt, ot, none⟩) ts.length c) rfl rfl rfl rfl (fun w' h => HZ.out w' h) ?_
                repeat ((first | refine mixT_pp rfl (fun K hK => ?_) | refine mixT_p rfl (fun K hK => ?_)); go_simp; (try go_bits); (try simp (disch := omega) only [if_pos]); (try simp (disch := omega) only [if_neg]); (try simp (disch := omega) only [dif_pos]); (try simp (disch := omega) only [dif_neg]); (try go_simp); (refine hK _ ?_; clear hK K))
                refine mixT_loadR va rfl rfl rfl rfl (fun w' h => Hva.out w' h) ?_
                refine mixT_loadR (.slice (some ⟨bt, ot, none⟩) ts.length c) rfl rfl rfl rfl (fun w' h => HZ.out w' h) ?_
                repeat ((first | refine mixT_pp rfl (fun K hK => ?_) | refine mixT_p rfl (fun K hK => ?_)); go_simp; (try go_bits); (try simp (disch := omega) only [if_pos]); (try simp (disch := omega) only [if_neg]); (try simp (disch := omega) only [dif_pos]); (try simp (disch := omega) only [dif_neg]); (try go_simp); (refine hK _ ?_; clear hK K))
                refine mixT_loadR vb rfl rfl rfl rfl (fun w' h => Hvb.out w' h) ?_
                refine mixT_2 (mixT_one rfl rfl (fun K9 hK9 => ?_)) (mixT_one rfl rfl (fun K9 hK9 => ?_))
                · go_wp2_with fail
                  ((with_reducible refine (Hsh.out _ T.b).mono ?_); rintro e wa ⟨rfl, hlwa⟩)
                  replace T := T.below hlwa
                  clear hlwa
                  have hC := T.b
                  go_wp2_with fail
                  refine ⟨hC, ?_⟩
                  clear hC
                  repeat ((first | refine mixT_pp rfl (fun K hK => ?_) | refine mixT_p rfl (fun K hK => ?_)); go_simp; (try go_bits); (try simp (disch := omega) only [if_pos]); (try simp (disch := omega) only [if_neg]); (try simp (disch := omega) only [dif_pos]); (try simp (disch := omega) only [dif_neg]); (try go_simp); (refine hK _ ?_; clear hK K))
                  refine mixT_l rfl rfl (fun K9 hK9 => ?_)
                  go_wp2_with fail
                  obtain ⟨V, hV⟩ : ∃ V, V = (wa).heap.size := ⟨_, rfl⟩
                  replace T : Mem w5 _ (.loc V #[.int .i64 0, .string ⟨#[]⟩] 41 :: [.mapF XF es clock, .iter Zr XF clock seen' clock]) := (T.newAt #[.int .i64 0, .string ⟨#[]⟩] 41 V hV).front
                  rw [← hV]
                  clear hV
                  generalize (wa).alloc (.cells #[.int .i64 0, .string ⟨#[]⟩] 41) = we at *
                  refine ⟨T.b, ?_⟩
                  refine mixT_l rfl rfl (fun K9 hK9 => ?_)
                  have l0 := (T.lv 0 rfl).all
                  have S9 : Mem w5 _ (.loc V #[.int .i64 y9.k, .string y9.t] 41 :: [.mapF XF es clock, .iter Zr XF clock seen' clock]) := (T.set 0 0 (.int .i64 y9.k) rfl).set 0 1 (.string y9.t) rfl
                  go_wp2_with fail
                  refine ⟨S9.b, ?_⟩
                  repeat ((first | refine mixT_pp rfl (fun K hK => ?_) | refine mixT_p rfl (fun K hK => ?_)); go_simp; (try go_bits); (try simp (disch := omega) only [if_pos]); (try simp (disch := omega) only [if_neg]); (try simp (disch := omega) only [dif_pos]); (try simp (disch := omega) only [dif_neg]); (try go_simp); (refine hK _ ?_; clear hK K))
                  refine mixT_nil ?_
                  simp only [Exit.then]
                  refine hKK _ _ ?_
                  clear hKK KK
                  go_wp2_with fail
                  go_meet
                  exact ⟨V, rfl, rfl, S9⟩
                · go_wp2_with fail
                  obtain ⟨V, hV⟩ : ∃ V, V = (wd).heap.size := ⟨_, rfl⟩
                  replace T : Mem w5 _ (.loc V #[.int .i64 0, .string ⟨#[]⟩] 41 :: [.mapF XF es clock, .iter Zr XF clock seen' clock]) := (T.newAt #[.int .i64 0, .string ⟨#[]⟩] 41 V hV).front
                  rw [← hV]
                  clear hV
                  generalize (wd).alloc (.cells #[.int .i64 0, .string ⟨#[]⟩] 41) = we at *
                  refine ⟨T.b, ?_⟩
                  refine mixT_l rfl rfl (fun K9 hK9 => ?_)
                  go_wp2_with fail
                  ((with_reducible refine (Hsh.out _ T.b).mono ?_); rintro e wa ⟨rfl, hlwa⟩)
                  replace T := T.below hlwa
                  clear hlwa
                  have hC := T.b
                  go_wp2_with fail
                  refine ⟨hC, ?_⟩
                  clear hC
                  repeat ((first | refine mixT_pp rfl (fun K hK => ?_) | refine mixT_p rfl (fun K hK => ?_)); go_simp; (try go_bits); (try simp (disch := omega) only [if_pos]); (try simp (disch := omega) only [if_neg]); (try simp (disch := omega) only [dif_pos]); (try simp (disch := omega) only [dif_neg]); (try go_simp); (refine hK _ ?_; clear hK K))
                  refine mixT_l rfl rfl (fun K9 hK9 => ?_)
                  have l0 := (T.lv 0 rfl).all
                  have S9 : Mem w5 _ (.loc V #[.int .i64 y9.k, .string y9.t] 41 :: [.mapF XF es clock, .iter Zr XF clock seen' clock]) := (T.set 0 0 (.int .i64 y9.k) rfl).set 0 1 (.string y9.t) rfl
                  go_wp2_with fail
                  refine ⟨S9.b, ?_⟩
                  repeat ((first | refine mixT_pp rfl (fun K hK => ?_) | refine mixT_p rfl (fun K hK => ?_)); go_simp; (try go_bits); (try simp (disch := omega) only [if_pos]); (try simp (disch := omega) only [if_neg]); (try simp (disch := omega) only [dif_pos]); (try simp (disch := omega) only [dif_neg]); (try go_simp); (refine hK _ ?_; clear hK K))
                  refine mixT_nil ?_
                  simp only [Exit.then]
                  refine hKK _ _ ?_
                  clear hKK KK
                  go_wp2_with fail
                  go_meet
                  exact ⟨V, rfl, rfl, S9⟩
              case rest =>
                obtain ⟨V, rfl, rfl, S6⟩ := hcut
                clear T Hva Hvb Hsh
                have hwr : IntKind.i64.wrap ((sp : Int) - 1) = (st : Int) := by
                  have := Hsp.out
                  simp [IntKind.wrap, IntKind.bits, IntKind.signed]
                  omega
                by_cases hc : b9 = true ∧ ky = st
                · obtain ⟨rfl, rfl⟩ := hc
                  have T2 : Mem w5 wc [.mapG keyInt XF L] := ((S6.del 2).del 0).closeG 0 rfl HE.out
                  have hlp := HL.out.put (g := fun x => if x = j then some sp else f x) hlt Hf.out Hfy.out (Heg.out.1 rfl).symm (fun x => by show (if x = j then some sp else f x) = _; rw [Hsp.out])
                  have HL2 := Lib.hid hlp.1
                  have HF2 := Lib.hid (HF.out.put j sp)
                  have Hb2 : Hid (true = true ↔ ∃ y, (fun x => if x = j then some sp else f x) y = some (ky + 1)) := ⟨fun _ => ⟨j, by show (if j = j then some sp else f j) = _; rw [if_pos rfl, Hsp.out]⟩, fun _ => rfl⟩
                  clear S6 hlp HL HF Hbb Heg Hf Hfy
                  go_wp2_with (first | (at_mapUpdate; refine T2.putG 0 rfl (T := 93) (E := 3) (by kernel_rfl) rfl _ _ _ rfl rfl (j : Int) rfl (.int .i64 sp) rfl ?_; intro w11 T3))
                  go_roundw
                  case rel => exact ⟨j + 1, true, updG (j : Int) (.int .i64 sp) L, _, rfl, by go_num, by omega, Hb2, HF2, HL2, T3⟩
                  case measure => simp [intOf]; omega
                · have Hd2 : Hid (∀ p ∈ dq ++ [((y : Int), Value.int .i64 (ky : Int))], ∀ x : Nat, p.1 = x → ¬ (p.2 = .int .i64 st ∧ Edge r ts j x)) := fun p hp x ex ⟨h1, h2⟩ => by
                    rcases List.mem_append.1 hp with hp | hp
                    · exact Hdq.out p hp x ex ⟨h1, h2⟩
                    · rw [List.mem_singleton.1 hp] at ex h1
                      have e3 : (y : Int) = x := ex
                      have e4 : (ky : Int) = st := by simpa using h1
                      obtain rfl : y = x := by omega
                      exact hc ⟨Heg.out.2 h2, by omega⟩
                  have T2 : Mem w5 wc [.mapF XF es clock, .iter Zr XF clock seen' clock] := S6.del 0
                  have Hms : Hid (iterLeft es Zr wc < left.length) := by
                    show _ < _
                    rw [T2.iterSize 1 rfl Hrg.out]
                    have := Hll.out; omega
                  have hc2 : b9 = false ∨ (b9 = true ∧ ¬ (ky : Int) = (st : Int)) := by
                    cases b9
                    · exact .inl rfl
                    · exact .inr ⟨rfl, fun e => hc ⟨rfl, by omega⟩⟩
                  clear S6 hc
                  rcases hc2 with rfl | ⟨rfl, hky⟩
                  · go_wp2_with fail
                    go_roundw
                    case rel => exact ⟨seen', _, left', rfl, Hrg, Hd2, T2⟩
                    case measure => rw [hsz3.out]; exact Hms.out
                  · go_wp2_with fail
                    go_roundw
                    case rel => exact ⟨seen', _, left', rfl, Hrg, Hd2, T2⟩
                    case measure => rw [hsz3.out]; exact Hms.out
      · obtain rfl : j = ts.length := by omega
        cases bb with
        | true =>
          have HL2 : Hid (Lev ts.length (Edge r ts) s f (st + 1) 0) := HL.out.next hs
          have Hex2 : Hid (∃ y, farD ts.length (Edge r ts) s y = some (st + 1)) := by
            obtain ⟨y, hy⟩ := Hbb.out.1 rfl
            exact ⟨y, ((HL.out y (st + 1)).1 hy).1⟩
          have Hsp2 : Hid (sp + 1 = st + 1 + 1) := by show _ = _; rw [Hsp.out]
          clear HL Hbb Hex
          go_wp2_with fail
          go_roundw
          case rel => exact ⟨sp + 1, st + 1, L, f, by go_num, Hsp2, HF, HL2, Hex2, S⟩
          case measure => simp [intOf]; omega
        | false =>
          have HFD : Hid (FarM L (farD ts.length (Edge r ts) s)) := HF.out.ext (HL.out.fin hs (fun y hy => by
            have := Hbb.out.2 ⟨y, hy⟩
            cases this))
          clear HF HL Hbb Hex Hsp hst hsp
          have hlk := look_far (S.ok _ (.head _)) (i : Int) true
          rw [if_pos rfl] at hlk
          cases hk : farD ts.length (Edge r ts) s i with
          | none =>
            rw [HFD.out.none' hk] at hlk
            replace hlk : (Instr.lookup 93 (.map (some XF)) (.int .i64 i) true).run Tryz.prog wr = .ok (.tuple #[.int .i64 0, .bool false]) wr := hlk
            have Hk := Lib.hid hk
            have Hw : Hid (Mem w wr [.sl rLnk none []]) := HT6.out.join ((S.del 0).call (Below.refl _ _) _ Sl.nil (fun k e => by cases e))
            clear S hk
            go_wp2_with fail
            exact bodyPost_ret (results_two rfl rfl rfl) rfl ⟨none, 0, [], 16, rfl, .inr ⟨i, s, Hpi.out, Hps.out, .inl ⟨Hk.out, rfl, rfl⟩⟩, Hw.out⟩
          | some k =>
            rw [HFD.out.some' hk] at hlk
            replace hlk : (Instr.lookup 93 (.map (some XF)) (.int .i64 i) true).run Tryz.prog wr = .ok (.tuple #[.int .i64 k, .bool true]) wr := hlk
            have HC := Lib.hid (ChnSt.start (a := a) hs hi hk)
            have Hans : Hid (ChnAns r ts a b 0 (⟨a, zId⟩ :: chnL r ts s k i)) := .inr ⟨i, s, Hpi.out, Hps.out, .inr ⟨k, hk, rfl, rfl⟩⟩
            obtain ⟨full, hfull⟩ : ∃ full, (⟨a, zId⟩ : Lnk) :: chnL r ts s k i = full := ⟨_, rfl⟩
            rw [hfull] at HC Hans
            clear hk hfull
            go_upto_region 28 with fail
            clear hlk
            obtain ⟨Q, hQ⟩ : ∃ Q, Q = wr.heap.size := ⟨_, rfl⟩
            have T9 : Mem w5 (wr.alloc (.cells #[.int .i64 a, .int .i64 0, .string ⟨#[]⟩] 43)) [.mapG keyInt XF L, .own rLnk XF 43 (.slice (some ⟨Q, 0, none⟩) 1 1) [⟨a, zId⟩]] := (S.newAt (lkCs ⟨a, zId⟩) 43 Q hQ).asOwn flatLnk 1 rfl [⟨a, zId⟩] rfl rfl (by simp) Hb5.out 1 rfl
            rw [← hQ]
            clear hQ S
            generalize wr.alloc (.cells #[.int .i64 a, .int .i64 0, .string ⟨#[]⟩] 43) = w7 at *
            go_wp2_with fail
            go_loopw [11, 26] (fun fr v wr => ∃ (x k : Nat) (l : List Lnk), fr = .int .i64 x ∧ x < ts.length ∧ Hid (ChnSt r ts s full x k l) ∧ Mem w5 wr [.mapG keyInt XF L, .own rLnk XF 43 v l]) (fun fr _ _ => (farI ts.length (Edge r ts) s (intOf fr).toNat).toNat)
            case atStart => exact ⟨i, k, [⟨a, zId⟩], rfl, hi, HC, T9⟩
            case round =>
              clear T9 HC
              obtain ⟨x, k, l, rfl, hx, HC, T⟩ := hrel
              by_cases hxs : x = s
              · subst hxs
                have Hl : Hid (l = full) := HC.out.fin
                obtain ⟨A9, c9, rfl, T2⟩ := T.frz 1 rfl
                have HT2 : Hid (Mem w wr [.sl rLnk A9 l]) := HT6.out.join (T2.del 0)
                clear T T2
                go_wp2_with fail
                exact bodyPost_ret (results_two rfl rfl rfl) rfl ⟨A9, c9, l, 0, rfl, by rw [Hl.out]; exact Hans.out, HT2.out⟩
              · obtain ⟨m, j, rfl, hnx, hjn, hC2⟩ := HC.out.next hs hxs
                have HC2 := Lib.hid hC2
                have Hms : Hid ((farI ts.length (Edge r ts) s j).toNat < (farI ts.length (Edge r ts) s x).toNat) := by
                  show _ < _
                  rw [farI_is HC2.out.far, farI_is HC.out.far]
                  omega
                have hlm : l.length ≤ 2000 := by have := HC.out.sm; omega
                have hmb : m ≤ 2000 := by have := HC.out.sm; omega
                have hxc : ((x : Int) != (s : Int)) = true := by
                  rw [bne_iff_ne]
                  omega
                have Hfnd : Hid ((List.range ts.length).find? (fun z => edgeB r ts x z && decide (farI ts.length (Edge r ts) s z = (m : Int))) = some j) := by
                  have h := hnx
                  rw [nxtL_range, farI_is HC.out.far, show (((m + 1 : Nat) : Int) - 1) = (m : Int) by omega] at h
                  exact h
                have y1 := (LV.kb3 HlZ.out T.b HlZ.out.lt).all
                clear hC2 hnx
                go_wp2_with fail
                clear y1
                go_loopw [11, 26, 117] (fun fr v ix wr => ∃ p : Nat, fr = .int .i64 x ∧ ix = .int .i64 p ∧ p ≤ ts.length ∧ Hid (((List.range ts.length).drop p).find? (fun z => edgeB r ts x z && decide (farI ts.length (Edge r ts) s z = (m : Int))) = some j) ∧ Mem w5 wr [.mapG keyInt XF L, .own rLnk XF 43 v l]) (fun _ _ ix _ => ts.length - (intOf ix).toNat)
                case atStart => exact ⟨0, rfl, rfl, Nat.zero_le _, Hfnd, T⟩
                case round =>
                  clear T Hfnd
                  obtain ⟨p, rfl, rfl, hp, Hfnd, T⟩ := hrel
                  by_cases hlt2 : p < ts.length
                  · have Hst := Lib.hid (find_at (p := fun z => edgeB r ts x z && decide (farI ts.length (Edge r ts) s z = (m : Int))) (show (List.range ts.length)[p]? = some p from List.getElem?_range hlt2))
                    obtain ⟨va, vb, hva, hvb, hsh⟩ := HP.out x p hx hlt2
                    obtain ⟨y9, hy9⟩ : ∃ y9, (shL r ts x p).getD zId = y9 := ⟨_, rfl⟩
                    obtain ⟨b9, hb9⟩ : ∃ b9, (shL r ts x p).isSome = b9 := ⟨_, rfl⟩
                    have Hva := Lib.hid hva
                    have Hvb := Lib.hid hvb
                    have Hsh := Lib.hid hsh
                    unfold GivesSh at Hsh
                    rw [hy9, hb9] at Hsh
                    have Heg : Hid (edgeB r ts x p = b9) := by
                      show _ = _
                      rw [Bool.eq_iff_iff, edgeB_iff, ← hb9]
                      exact shL_some.symm
                    have hlk := look_far (T.ok _ (.head _)) (p : Int) true
                    rw [if_pos rfl] at hlk
                    obtain ⟨kp, hkp⟩ : ∃ kp, (getG (p : Int) L).getD (.int .i64 0) = kp := ⟨_, rfl⟩
                    obtain ⟨bp, hbp⟩ : ∃ bp, (getG (p : Int) L).isSome = bp := ⟨_, rfl⟩
                    rw [hkp, hbp] at hlk
                    have Hfp : Hid ((bp = false ∧ farI ts.length (Edge r ts) s p = -1) ∨ ∃ q : Nat, bp = true ∧ kp = .int .i64 q ∧ farI ts.length (Edge r ts) s p = q) := by
                      cases hk : farD ts.length (Edge r ts) s p with
                      | none =>
                        rw [HFD.out.none' hk] at hbp
                        exact .inl ⟨hbp.symm, by unfold farI; rw [hk]⟩
                      | some q =>
                        rw [HFD.out.some' hk] at hbp hkp
                        exact .inr ⟨q, hbp.symm, hkp.symm, farI_is hk⟩
                    have Hy9 := Lib.hid hy9
                    clear hva hvb hsh hy9 hb9 hkp hbp
                    go_upto_region 33 with fail
                    clear hlk
                    go_cut [30, 31] (fun s22 s23 wx => ∃ V : Nat, s22 = .pointer (some ⟨V, 0, none⟩) ∧ s23 = .bool b9 ∧ Mem w5 wx (.loc V #[.int .i64 y9.k, .string y9.t] 41 :: [.mapG keyInt XF L, .own rLnk XF 43 u26 l]))
                    case first =>
                      refine wp_region_mixT [] (fun w' => Below w5.heap.size w5 w') (.p 0 (.q 1 (.p 2 (.p 3 (.q 4 (.q 5 (.p 6 (.p 7 (.q 8 (.e2 9 (.p 10 (.p 11 (.p 12 (.e 13 (.e 14 (.p 15 .z)))))) 13 (.e 9 (.p 10 (.p 11 (.p 12 (.e 14 (.p 15 .z)))))))))))))))) (by kernel_rfl) (by kernel_rfl) (fun w' hd => (T.below (hd.below _)).b) (fun KK hKK wd hd => ?_)
                      replace T := T.below (hd.below _)
                      clear hd
                      repeat ((first | refine mixT_pp rfl (fun K hK => ?_) | refine mixT_p rfl (fun K hK => ?_)); go_simp; (try go_bits); (try simp (disch := omega) only [if_pos]); (try simp (disch := omega) only [if_neg]); (try simp (disch := omega) only [dif_pos]); (try simp (disch := omega) only [dif_neg]); (try go_simp); (refine hK _ ?_; clear hK K))
                      refine mixT_loadR (.slice (some ⟨bt, ot, none⟩) ts.length c) rfl rfl rfl rfl (fun w' h => HZ.out w' h) ?_
                      repeat ((first | refine mixT_pp rfl (fun K hK => ?_) | refine mixT_p rfl (fun K hK => ?_)); go_simp; (try go_bits); (try simp (disch := omega) only [if_pos]); (try simp (disch := omega) only [if_neg]); (try simp (disch := omega) only [dif_pos]); (try simp (disch := omega) only [dif_neg]); (try go_simp); (refine hK _ ?_; clear hK K))
                      refine mixT_loadR va rfl rfl rfl rfl (fun w' h => Hva.out w' h) ?_
                      refine mixT_loadR (.slice (some ⟨bt, ot, none⟩) ts.length c) rfl rfl rfl rfl (fun w' h => HZ.out w' h) ?_
                      repeat ((first | refine mixT_pp rfl (fun K hK => ?_) | refine mixT_p rfl (fun K hK => ?_)); go_simp; (try go_bits); (try simp (disch := omega) only [if_pos]); (try simp (disch := omega) only [if_neg]); (try simp (disch := omega) only [dif_pos]); (try simp (disch := omega) only [dif_neg]); (try go_simp); (refine hK _ ?_; clear hK K))
                      refine mixT_loadR vb rfl rfl rfl rfl (fun w' h => Hvb.out w' h) ?_
                      refine mixT_2 (mixT_one rfl rfl (fun K9 hK9 => ?_)) (mixT_one rfl rfl (fun K9 hK9 => ?_))
                      · go_wp2_with fail
                        ((with_reducible refine (Hsh.out _ T.b).mono ?_); rintro e wa ⟨rfl, hlwa⟩)
                        replace T := T.below hlwa
                        clear hlwa
                        have hC := T.b
                        go_wp2_with fail
                        refine ⟨hC, ?_⟩
                        clear hC
                        repeat ((first | refine mixT_pp rfl (fun K hK => ?_) | refine mixT_p rfl (fun K hK => ?_)); go_simp; (try go_bits); (try simp (disch := omega) only [if_pos]); (try simp (disch := omega) only [if_neg]); (try simp (disch := omega) only [dif_pos]); (try simp (disch := omega) only [dif_neg]); (try go_simp); (refine hK _ ?_; clear hK K))
                        refine mixT_l rfl rfl (fun K9 hK9 => ?_)
                        go_wp2_with fail
                        obtain ⟨V, hV⟩ : ∃ V, V = (wa).heap.size := ⟨_, rfl⟩
                        replace T : Mem w5 _ (.loc V #[.int .i64 0, .string ⟨#[]⟩] 41 :: [.mapG keyInt XF L, .own rLnk XF 43 u26 l]) := (T.newAt #[.int .i64 0, .string ⟨#[]⟩] 41 V hV).front
                        rw [← hV]
                        clear hV
                        generalize (wa).alloc (.cells #[.int .i64 0, .string ⟨#[]⟩] 41) = we at *
                        refine ⟨T.b, ?_⟩
                        refine mixT_l rfl rfl (fun K9 hK9 => ?_)
                        have l0 := (T.lv 0 rfl).all
                        have S9 : Mem w5 _ (.loc V #[.int .i64 y9.k, .string y9.t] 41 :: [.mapG keyInt XF L, .own rLnk XF 43 u26 l]) := (T.set 0 0 (.int .i64 y9.k) rfl).set 0 1 (.string y9.t) rfl
                        go_wp2_with fail
                        refine ⟨S9.b, ?_⟩
                        repeat ((first | refine mixT_pp rfl (fun K hK => ?_) | refine mixT_p rfl (fun K hK => ?_)); go_simp; (try go_bits); (try simp (disch := omega) only [if_pos]); (try simp (disch := omega) only [if_neg]); (try simp (disch := omega) only [dif_pos]); (try simp (disch := omega) only [dif_neg]); (try go_simp); (refine hK _ ?_; clear hK K))
                        refine mixT_nil ?_
                        simp only [Exit.then]
                        refine hKK _ _ ?_
                        clear hKK KK
                        go_wp2_with fail
                        go_meet
                        exact ⟨V, rfl, rfl, S9⟩
                      · go_wp2_with fail
                        obtain ⟨V, hV⟩ : ∃ V, V = (wd).heap.size := ⟨_, rfl⟩
                        replace T : Mem w5 _ (.loc V #[.int .i64 0, .string ⟨#[]⟩] 41 :: [.mapG keyInt XF L, .own rLnk XF 43 u26 l]) := (T.newAt #[.int .i64 0, .string ⟨#[]⟩] 41 V hV).front
                        rw [← hV]
                        clear hV
                        generalize (wd).alloc (.cells #[.int .i64 0, .string ⟨#[]⟩] 41) = we at *
                        refine ⟨T.b, ?_⟩
                        refine mixT_l rfl rfl (fun K9 hK9 => ?_)
                        go_wp2_with fail
                        ((with_reducible refine (Hsh.out _ T.b).mono ?_); rintro e wa ⟨rfl, hlwa⟩)
                        replace T := T.below hlwa
                        clear hlwa
                        have hC := T.b
                        go_wp2_with fail
                        refine ⟨hC, ?_⟩
                        clear hC
                        repeat ((first | refine mixT_pp rfl (fun K hK => ?_) | refine mixT_p rfl (fun K hK => ?_)); go_simp; (try go_bits); (try simp (disch := omega) only [if_pos]); (try simp (disch := omega) only [if_neg]); (try simp (disch := omega) only [dif_pos]); (try simp (disch := omega) only [dif_neg]); (try go_simp); (refine hK _ ?_; clear hK K))
                        refine mixT_l rfl rfl (fun K9 hK9 => ?_)
                        have l0 := (T.lv 0 rfl).all
                        have S9 : Mem w5 _ (.loc V #[.int .i64 y9.k, .string y9.t] 41 :: [.mapG keyInt XF L, .own rLnk XF 43 u26 l]) := (T.set 0 0 (.int .i64 y9.k) rfl).set 0 1 (.string y9.t) rfl
                        go_wp2_with fail
                        refine ⟨S9.b, ?_⟩
                        repeat ((first | refine mixT_pp rfl (fun K hK => ?_) | refine mixT_p rfl (fun K hK => ?_)); go_simp; (try go_bits); (try simp (disch := omega) only [if_pos]); (try simp (disch := omega) only [if_neg]); (try simp (disch := omega) only [dif_pos]); (try simp (disch := omega) only [dif_neg]); (try go_simp); (refine hK _ ?_; clear hK K))
                        refine mixT_nil ?_
                        simp only [Exit.then]
                        refine hKK _ _ ?_
                        clear hKK KK
                        go_wp2_with fail
                        go_meet
                        exact ⟨V, rfl, rfl, S9⟩
                    case rest =>
                      obtain ⟨V, rfl, rfl, S6⟩ := hcut
                      clear T Hva Hvb Hsh
                      have hlk0 : Hid (∀ w', MapG keyInt w' XF L → (Instr.lookup 93 (.map (some XF)) (.int .i64 x) false).run Tryz.prog w' = .ok (.int .i64 ((m + 1 : Nat) : Int)) w') := fun w' h => by
                        have h2 := look_far h (x : Int) false
                        rw [if_neg (by decide), HFD.out.some' HC.out.far] at h2
                        exact h2
                      have hlk := hlk0.out wc (S6.ok _ (.tail _ (.head _)))
                      obtain ⟨m1, hm1⟩ : ∃ m1 : Int, ((m + 1 : Nat) : Int) = m1 := ⟨_, rfl⟩
                      have hwr : IntKind.i64.wrap (m1 - 1) = (m : Int) := by
                        rw [← hm1]
                        simp [IntKind.wrap, IntKind.bits, IntKind.signed]
                        omega
                      rw [hm1] at hlk
                      clear hlk0 hm1
                      by_cases hc : bp = true ∧ b9 = true ∧ kp = .int .i64 m
                      · obtain ⟨rfl, rfl, rfl⟩ := hc
                        have Hpj : Hid (p = j) := by
                          have h1 := Hst.out
                          rw [if_pos (by
                            rcases Hfp.out with ⟨h, _⟩ | ⟨q, _, h, h2⟩
                            · cases h
                            · have e : (m : Int) = q := by simpa using h
                              rw [Heg.out, h2, ← e]
                              simp), Hfnd.out] at h1
                          exact (Option.some.inj h1).symm
                        obtain rfl : p = j := Hpj.out
                        obtain ⟨tz, htz⟩ : ∃ tz, ts[p]? = some tz := ⟨_, List.getElem?_eq_getElem hlt2⟩
                        obtain ⟨no, hno⟩ : ∃ no, noAt ts p = no := ⟨_, rfl⟩
                        have hnz : tz.no = no := by rw [← hno, noAt_is htz]
                        have Ht0 := Lib.hid (HTw.out p tz htz)
                        rw [hnz] at Ht0
                        have HC3 : Hid (ChnSt r ts s full p m (l ++ [⟨no, y9⟩])) := by
                          have h := HC2.out
                          rw [hno, Hy9.out] at h
                          exact h
                        clear hno htz hnz Hst Hfnd HC2 Hpj Heg Hfp Hy9
                        go_wp2_with fail
                        clear hlk hwr
                        refine wp_region_mixT [] (fun w' => Below w5.heap.size w5 w' ∧ LV w' V #[.int .i64 y9.k, .string y9.t] 41) (.p 0 (.q 1 (.p 2 (.p 3 (.p 4 (.q 5 (.q 6 (.p 7 (.e 8 (.e 9 (.p 10 .z))))))))))) (by kernel_rfl) (by kernel_rfl) (fun w' hd => ⟨(S6.below (hd.below _)).b, (S6.below (hd.below _)).lv 0 rfl⟩) (fun KK hKK wd hd => ?_)
                        have T4 := S6.below (hd.below _)
                        clear hd S6
                        repeat ((first | refine mixT_pp rfl (fun K hK => ?_) | refine mixT_p rfl (fun K hK => ?_)); go_simp; (try go_bits); (try simp (disch := omega) only [if_pos]); (try simp (disch := omega) only [if_neg]); (try simp (disch := omega) only [dif_pos]); (try simp (disch := omega) only [dif_neg]); (try go_simp); (refine hK _ ?_; clear hK K))
                        refine mixT_loadR (.slice (some ⟨bt, ot, none⟩) ts.length c) rfl rfl rfl rfl (fun w' h => HZ.out w' h.1) ?_
                        repeat ((first | refine mixT_pp rfl (fun K hK => ?_) | refine mixT_p rfl (fun K hK => ?_)); go_simp; (try go_bits); (try simp (disch := omega) only [if_pos]); (try simp (disch := omega) only [if_neg]); (try simp (disch := omega) only [dif_pos]); (try simp (disch := omega) only [dif_neg]); (try go_simp); (refine hK _ ?_; clear hK K))
                        refine mixT_loadR (.int .i64 no) rfl rfl rfl rfl (fun w' h => loadC rfl (Ht0.out w' h.1)) ?_
                        refine mixT_loadR (.agg #[.int .i64 y9.k, .string y9.t]) rfl rfl rfl rfl (fun w' h => loadAtI (h.2.cell 0 _ rfl) (h.2.cell 1 _ rfl)) ?_
                        repeat ((first | refine mixT_pp rfl (fun K hK => ?_) | refine mixT_p rfl (fun K hK => ?_)); go_simp; (try go_bits); (try simp (disch := omega) only [if_pos]); (try simp (disch := omega) only [if_neg]); (try simp (disch := omega) only [dif_pos]); (try simp (disch := omega) only [dif_neg]); (try go_simp); (refine hK _ ?_; clear hK K))
                        refine mixT_l rfl rfl (fun K9 hK9 => ?_)
                        have hsz : XF ≤ wd.heap.size := by rw [Hb5.out]; exact T4.b.size
                        have hC8 : Below w5.heap.size w5 (wd.alloc (.cells #[.int .i64 no, .int .i64 y9.k, .string y9.t] 43)) ∧ LV (wd.alloc (.cells #[.int .i64 no, .int .i64 y9.k, .string y9.t] 43)) V #[.int .i64 y9.k, .string y9.t] 41 := ⟨(T4.alloc _).b, (T4.alloc _).lv 0 rfl⟩
                        go_wp2_with fail
                        refine ⟨hC8, ?_⟩
                        clear hC8
                        refine mixT_l rfl rfl (fun K9 hK9 => ?_)
                        refine T4.app 2 rfl tyLnk rfl _ _ rfl ⟨no, y9⟩ 1 rfl rfl rfl (oneLnk ⟨no, y9⟩) hsz (by omega) (by decide) ?_
                        intro v5 w12 T5
                        have hC9 : Below w5.heap.size w5 w12 ∧ LV w12 V #[.int .i64 y9.k, .string y9.t] 41 := ⟨T5.b, T5.lv 0 rfl⟩
                        clear T4
                        go_wp2_with fail
                        refine ⟨hC9, ?_⟩
                        clear hC9
                        repeat ((first | refine mixT_pp rfl (fun K hK => ?_) | refine mixT_p rfl (fun K hK => ?_)); go_simp; (try go_bits); (try simp (disch := omega) only [if_pos]); (try simp (disch := omega) only [if_neg]); (try simp (disch := omega) only [dif_pos]); (try simp (disch := omega) only [dif_neg]); (try go_simp); (refine hK _ ?_; clear hK K))
                        refine mixT_nil ?_
                        simp only [Exit.then]
                        refine hKK _ _ ?_
                        clear hKK KK
                        have HT7 : Hid (Mem w5 w12 [.mapG keyInt XF L, .own rLnk XF 43 v5 (l ++ [⟨no, y9⟩])]) := T5.del 0
                        clear T5
                        go_wp2_with fail
                        go_roundw
                        case rel => exact ⟨p, m, l ++ [⟨no, y9⟩], rfl, hlt2, HC3, HT7.out⟩
                        case measure => exact Hms.out
                      · have Hcn : Hid ((edgeB r ts x p && decide (farI ts.length (Edge r ts) s p = (m : Int))) = false) := by
                          show _ = _
                          rw [Heg.out]
                          rcases Hfp.out with ⟨h, h2⟩ | ⟨q, h0, h, h2⟩
                          · rw [h2]
                            have : ¬ ((-1 : Int) = (m : Int)) := by omega
                            simp [this]
                          · rw [h2]
                            cases b9
                            · rfl
                            · have : ¬ ((q : Int) = (m : Int)) := fun e => hc ⟨h0, rfl, by rw [h, e]⟩
                              simp [this]
                        have Hfn2 : Hid (((List.range ts.length).drop (p + 1)).find? (fun z => edgeB r ts x z && decide (farI ts.length (Edge r ts) s z = (m : Int))) = some j) := by
                          show _ = _
                          have h1 := Hst.out
                          rw [if_neg (by rw [Hcn.out]; decide), Hfnd.out] at h1
                          exact h1.symm
                        have T2 : Mem w5 wc [.mapG keyInt XF L, .own rLnk XF 43 u26 l] := S6.del 0
                        have Hc3 : Hid (bp = false ∨ (bp = true ∧ b9 = false) ∨ ∃ q : Nat, bp = true ∧ b9 = true ∧ kp = .int .i64 q ∧ ¬ (q : Int) = (m : Int)) := by
                          rcases Hfp.out with ⟨h, h2⟩ | ⟨q, h0, h, h2⟩
                          · exact .inl h
                          · cases b9
                            · exact .inr (.inl ⟨h0, rfl⟩)
                            · exact .inr (.inr ⟨q, h0, rfl, h, fun e => hc ⟨h0, rfl, by rw [h, e]⟩⟩)
                        clear S6 hc Hst Hfnd Hcn Hfp Heg
                        rcases Hc3.out with rfl | ⟨rfl, rfl⟩ | ⟨q, rfl, rfl, rfl, hq⟩
                        · clear Hc3
                          go_wp2_with fail
                          go_roundw
                          case rel => exact ⟨p + 1, rfl, by go_num, by omega, Hfn2, T2⟩
                          case measure => simp [intOf]; omega
                        · clear Hc3
                          go_wp2_with fail
                          go_roundw
                          case rel => exact ⟨p + 1, rfl, by go_num, by omega, Hfn2, T2⟩
                          case measure => simp [intOf]; omega
                        · clear Hc3
                          go_wp2_with fail
                          go_roundw
                          case rel => exact ⟨p + 1, rfl, by go_num, by omega, Hfn2, T2⟩
                          case measure => simp [intOf]; omega
                  · exfalso
                    have h1 := Hfnd.out
                    rw [List.drop_eq_nil_of_le (by rw [List.length_range]; omega)] at h1
                    cases h1
end Go.Proofs.YtfdcgedcfafmcaaGreatDoor
