/- Proved: the law LogJoins (Join is as specified for all logs) returns true for every list of numbers, and leaves that list as it was. No condition; what the row lists of unicode/utf8's tables and of handmake's variables is tied to the program's text by the given tie. -/
import Derived.Test.YtmlpkejeglpciaaGreatDoorCards
import Derived.Test.YtmlpkejeglpciaaGreatDoorTie
import Derived.WalkKit
import Derived.ProofKit
import Derived.OpenShut
import Derived.ChangeSlices
import Derived.Carry
import Derived.Deep.DeepHandedRow
import Derived.Lib.LaidIn
import Derived.Lib.LaidU8T
import Derived.PinnedBridge
import Derived.Test.YtmlpkejeglpciaaGreatDoorPkBA
namespace Go.Proofs.YtmlpkejeglpciaaGreatDoor
open Go.ChangeShapes Go.WideShapes Go.ChangeAt Go.RowKit Go.Shelf Go.Lib

theorem own : ownKnob Tryz.prog.godebug = none := by kernel_rfl
theorem laidOut : laidOutB Tryz.prog = true := by kernel_rfl
theorem cellsInt : Tryz.prog.cellsOf 3 = 1 := by kernel_rfl
theorem cellsOne {v : Value} {a : Option Addr} {n c : Nat} (h : v.cells.toList = [.slice a n c]) : v = .slice a n c ∨ ∃ cs, v = .agg cs := by
  cases v <;> simp [Value.cells] at h <;> simp_all

set_option maxRecDepth 100000 in
theorem ints_of {H : Type} {enc : TypeId × Value → H} {W : World} {v : Value} {d : DataW H} {p : List MemPlace} (hok : Value.okWide Tryz.prog W .any 0 22 v ∨ ∃ base, Value.okWide Tryz.prog W .any base 22 v)
    (h : DataW.Trod enc Tryz.prog W 0 (fun _ => true) true 22 v d p) : IntsIn v W := by
  obtain ⟨a0, len, cap, rfl⟩ : ∃ a n c, v = .slice a n c := by
    rcases hok with h | ⟨b, h⟩ <;> exact okWide_slice Tryz.underlying22 h
  obtain ⟨fuel, hf⟩ := h
  rcases open_ints Tryz.underlying22 Tryz.underlying3 cellsInt hf with ⟨hcs, _⟩ | ⟨a, len', cap', zs, hcs, _, hl, hm, hz, _, hcell, _⟩
  · simp [Value.cells] at hcs
    obtain ⟨rfl, rfl, rfl⟩ := hcs
    exact .inl ⟨none, 0, rfl⟩
  · simp [Value.cells] at hcs
    obtain ⟨rfl, rfl, rfl⟩ := hcs
    simp only [if_true] at hz
    by_cases hl0 : len = 0
    · subst hl0; exact .inl ⟨_, _, rfl⟩
    · obtain ⟨b, off, spot⟩ := a
      have hspot : spot = none := by simpa [Addr.add] using World.cell?_spot (hcell 0 (by omega))
      subst hspot
      refine .inr ⟨b, off, len, cap, rfl, by unfold maxLen at hm; omega, ?_, fun i hi => ?_⟩
      · exact World.block_lt_of_cell? W _ (hcell 0 (by omega))
      · have := hcell i (by omega)
        rw [add_plain] at this
        exact ⟨_, this⟩

theorem lays_accept : Rows.laid_unicode_utf8_acceptRanges = Lib.acceptData := by kernel_rfl
theorem lays_first : Rows.laid_unicode_utf8_first = Lib.firstData := by kernel_rfl
theorem strs_of_array {W : World} {n fuel : Nat} {t e : TypeId} {cs : List Value} {p : List MemPlace} {ds : List (List UInt8)} (ht : Tryz.prog.underlying t = some (.array n e)) (he : Tryz.prog.underlying e = some .string) (hc : Tryz.prog.cellsOf e = 1)
    (h : DataW.trod (fun _ => ()) Tryz.prog W 0 (fun _ => true) false fuel t cs = some (.agg (ds.map fun l => .lit (.string l)), p)) (i : Nat) (hi : i < n) (l : List UInt8) (hl : ds[i]? = some l) : cs[i]? = some (.string ⟨l.toArray⟩) := by
  obtain ⟨fuel', d, q, hdi, hx⟩ := Lib.array_elem ht h i hi
  simp only [List.getElem?_map, hl, Option.map_some, Option.some.injEq] at hdi
  subst hdi
  rw [hc] at hx
  obtain ⟨s, hs, hd, _⟩ := DataW.trod_string he hx
  simp only [Prod.mk.injEq, DataW.lit.injEq, Lit.string.injEq] at hd
  have := congrArg (·[0]?) hs
  simp only [List.getElem?_take, List.getElem?_drop] at this
  rw [hd.1]
  simpa using this
theorem names_of {W : World} {nm : String} (hn : Tryz.prog.globalNamed nm = some 1) (h : VarReads Tryz.prog W nm Rows.laid_handbill_handmake_fieldNames) : Names W := by
  obtain ⟨g, t, cs, fuel, p, hg, hty, hvar, hd⟩ := h
  obtain rfl : g = 1 := Option.some.inj (hg.symm.trans hn)
  obtain rfl : 74 = t := Option.some.inj ((show (Tryz.prog.globals[1]?).map (·.type) = some 74 by kernel_rfl).symm.trans hty)
  have key : ∀ (i : Nat) (hi : i < 6) (l : List UInt8), [[97, 103, 101], [99, 105, 116, 121], [106, 111, 105, 110, 101, 100], [110, 97, 109, 101], [112, 108, 97, 110], [118, 105, 112]][i]? = some l → W.cell? ⟨1, i, none⟩ = some (.string ⟨l.toArray⟩) := fun i hi l hl => by
    rw [World.var?_cell hg hvar i, ← Array.getElem?_toList]
    exact strs_of_array Tryz.underlying74 Tryz.underlying9 (by kernel_rfl) hd i hi l hl
  exact ⟨key 0 (by omega) _ rfl, key 1 (by omega) _ rfl, key 2 (by omega) _ rfl, key 3 (by omega) _ rfl, key 4 (by omega) _ rfl, key 5 (by omega) _ rfl⟩
theorem enames_of {W : World} {nm : String} (hn : Tryz.prog.globalNamed nm = some 0) (h : VarReads Tryz.prog W nm Rows.laid_handbill_handmake_eventNames) : ENames W := by
  obtain ⟨g, t, cs, fuel, p, hg, hty, hvar, hd⟩ := h
  obtain rfl : g = 0 := Option.some.inj (hg.symm.trans hn)
  obtain rfl : 70 = t := Option.some.inj ((show (Tryz.prog.globals[0]?).map (·.type) = some 70 by kernel_rfl).symm.trans hty)
  have key : ∀ (i : Nat) (hi : i < 4) (l : List UInt8), [[98, 117, 121], [111, 112, 101, 110], [113, 117, 105, 116], [118, 105, 101, 119]][i]? = some l → W.cell? ⟨0, i, none⟩ = some (.string ⟨l.toArray⟩) := fun i hi l hl => by
    rw [World.var?_cell hg hvar i, ← Array.getElem?_toList]
    exact strs_of_array Tryz.underlying70 Tryz.underlying9 (by kernel_rfl) hd i hi l hl
  intro i hi
  obtain rfl | rfl | rfl | rfl : i = 0 ∨ i = 1 ∨ i = 2 ∨ i = 3 := by omega
  · exact ⟨_, by decide, key 0 (by omega) _ rfl⟩
  · exact ⟨_, by decide, key 1 (by omega) _ rfl⟩
  · exact ⟨_, by decide, key 2 (by omega) _ rfl⟩
  · exact ⟨_, by decide, key 3 (by omega) _ rfl⟩
set_option maxRecDepth 100000 in
theorem pool_of {W : World} {nm : String} (hn : Tryz.prog.globalNamed nm = some 2) (h : VarReads Tryz.prog W nm Rows.laid_handbill_handmake_idPool) : Pool W := by
  obtain ⟨g, t, cs, fuel, p, hg, hty, hvar, hd⟩ := h
  obtain rfl : g = 2 := Option.some.inj (hg.symm.trans hn)
  obtain rfl : 194 = t := Option.some.inj ((show (Tryz.prog.globals[2]?).map (·.type) = some 194 by kernel_rfl).symm.trans hty)
  intro i hi
  unfold Rows.laid_handbill_handmake_idPool at hd
  obtain ⟨fuel', d, q, hdi, hx⟩ := Lib.array_elem Tryz.underlying194 hd i hi
  obtain ⟨kk, l, hdl, hll⟩ : ∃ (kk : Int) (l : List UInt8), d = .agg [.lit (.int .i64 kk), .lit (.string l)] ∧ l.length ≤ 100 := by
    obtain rfl | rfl | rfl | rfl | rfl | rfl | rfl | rfl | rfl | rfl : i = 0 ∨ i = 1 ∨ i = 2 ∨ i = 3 ∨ i = 4 ∨ i = 5 ∨ i = 6 ∨ i = 7 ∨ i = 8 ∨ i = 9 := by omega
    all_goals exact ⟨_, _, (Option.some.inj hdi).symm, by decide⟩
  subst hdl
  rw [show Tryz.prog.cellsOf 44 = 2 by kernel_rfl] at hx
  obtain ⟨xs, n, _, hx2, hlen, hxl, hall⟩ := DataW.trod_struct Tryz.underlying44 hx
  have h0 := hall 0 _ rfl
  have h1 := hall 1 _ rfl
  match xs, hxl with
  | [x0, x1], _ =>
    have hx3 := congrArg Prod.fst hx2
    simp only [List.map_cons, List.map_nil, DataW.agg.injEq, List.cons.injEq, and_true] at hx3
    have c0 := DataW.trod_int Tryz.underlying3 h0
    have c1 := DataW.trod_string Tryz.underlying9 h1
    obtain ⟨z, hz, hz2, _⟩ := c0
    obtain ⟨s, hs, hs2, _⟩ := c1
    have e0 := congrArg (·[0]?) hz
    have e1 := congrArg (·[0]?) hs
    have k0 : Tryz.prog.cellsOf 3 = 1 := by kernel_rfl
    have k1 : Tryz.prog.cellsOf 9 = 1 := by kernel_rfl
    simp [List.getElem?_drop, k0, k1] at e0 e1
    have hsl : s.data.toList = l := by
      have := hx3.2
      rw [hs2] at this
      simpa using this.symm
    refine ⟨z, s, ?_, ?_, ?_⟩
    · show s.data.toList.length ≤ 100
      rw [hsl]; exact hll
    · rw [World.var?_cell hg hvar (i * 2)]
      simpa using e0
    · rw [World.var?_cell hg hvar (i * 2 + 1)]
      simpa using e1
theorem law_any (v : Value) (w : World) (hv : IntsIn v w) (hL : laidMetH Tryz.prog Rows.logJoinsRow.laid w) (hSh : w.ShapedOpen Tryz.prog) :
    Calls Tryz.prog 4 #[v] w fun e w' => e = .returned (.bool true) ∧ Below w.heap.size w w' := by
  have h1 := Lib.laidMet.reads (l := Rows.logJoinsRow.laid) (d := Rows.laid_unicode_utf8_acceptRanges) hL (.head _)
  have h2 := Lib.laidMet.reads (l := Rows.logJoinsRow.laid) (d := Rows.laid_handbill_handmake_eventNames) hL (.tail _ (.head _))
  have h3 := Lib.laidMet.reads (l := Rows.logJoinsRow.laid) (d := Rows.laid_handbill_handmake_idPool) hL (.tail _ (.tail _ (.head _)))
  have h4 := Lib.laidMet.reads (l := Rows.logJoinsRow.laid) (d := Rows.laid_handbill_handmake_fieldNames) hL (.tail _ (.tail _ (.tail _ (.head _))))
  have h5 := Lib.laidMet.reads (l := Rows.logJoinsRow.laid) (d := Rows.laid_unicode_utf8_first) hL (.tail _ (.tail _ (.tail _ (.tail _ (.head _)))))
  rw [lays_accept] at h1
  rw [lays_first] at h5
  exact logJoins_any v w hv (utf8Tabs_of_readsT (ρ := Tryz.lays260_ren) (U8Types.of260 Tryz.lays260) ⟨by kernel_rfl, by kernel_rfl, by kernel_rfl, by kernel_rfl, by kernel_rfl, by kernel_rfl, by kernel_rfl⟩ h5 h1) (Tryz.laysM144.s1_3 w hSh) (names_of (by kernel_rfl) h4) (enames_of (by kernel_rfl) h2) (pool_of (by kernel_rfl) h3)

noncomputable def laidWorld (os : Os) : World :=
  let w0 := World.holding Tryz.prog os ⟨#[], #[], []⟩
  let put (h : Array Obj) (g : Nat) (cs : Array Value) : Array Obj := h.modify g fun
    | .cells _ t frozen => .cells cs t frozen
    | o => o
  let h1 := put w0.heap 7 (Lib.firstTab.map fun z => Value.int .u8 z).toArray
  let h2 := put h1 8 ((List.range 16).flatMap fun i => [Value.int .u8 (Lib.accLo i), Value.int .u8 (Lib.accHi i)]).toArray
  let h3 := put h2 2 #[.int .i64 1, .string ⟨#[97, 64, 98, 46, 100, 101]⟩, .int .i64 1, .string ⟨#[97, 110, 110, 46, 98, 64, 120, 45, 121, 46, 111, 114, 103]⟩, .int .i64 1, .string ⟨#[98, 111, 98, 95, 49, 64, 98, 46, 100, 101]⟩, .int .i64 1, .string ⟨#[122, 45, 64, 48, 46, 97]⟩, .int .i64 2, .string ⟨#[43, 52, 57, 51, 48, 49, 50, 51, 52, 53, 54]⟩, .int .i64 2, .string ⟨#[43, 49, 53, 53, 53, 48, 48, 48, 49, 49, 49]⟩, .int .i64 3, .string ⟨#[65, 66, 49, 51]⟩, .int .i64 3, .string ⟨#[48, 48, 48, 48, 48, 48, 48, 48, 48, 48, 48, 48, 48, 48, 48, 48, 48, 48, 48, 48]⟩, .int .i64 4, .string ⟨#[48, 49, 50, 51, 52, 53, 54, 55, 56, 57, 97, 98, 99, 100, 101, 102, 48, 49, 50, 51, 52, 53, 54, 55, 56, 57, 97, 98, 99, 100, 101, 102]⟩, .int .i64 4, .string ⟨#[102, 102, 102, 102, 102, 102, 102, 102, 102, 102, 102, 102, 102, 102, 102, 102, 102, 102, 102, 102, 102, 102, 102, 102, 102, 102, 102, 102, 102, 102, 102, 102]⟩]
  let h4 := put h3 1 #[.string ⟨#[97, 103, 101]⟩, .string ⟨#[99, 105, 116, 121]⟩, .string ⟨#[106, 111, 105, 110, 101, 100]⟩, .string ⟨#[110, 97, 109, 101]⟩, .string ⟨#[112, 108, 97, 110]⟩, .string ⟨#[118, 105, 112]⟩]
  let h5 := put h4 0 #[.string ⟨#[98, 117, 121]⟩, .string ⟨#[111, 112, 101, 110]⟩, .string ⟨#[113, 117, 105, 116]⟩, .string ⟨#[118, 105, 101, 119]⟩]
  { w0 with heap := h5 }
theorem laid_met (os : Os) (args : Array Value) : laidMet Tryz.prog Rows.logJoinsRow.laid ((laidWorld os).forCall (fun _ _ => 0) ⟨#[], args, []⟩).memory :=
  (LaidIn.of_run [8, 0, 2, 1, 7] 8 (by kernel_rfl) (by kernel_rfl) (by kernel_rfl) (by kernel_rfl)).met

set_option maxRecDepth 100000 in
theorem contract (H : Type) (enc : TypeId × Value → H) (W : World) (base : Nat) (args : Array Value) (ds gs : List (DataW H)) (before : List MemPlace)
    (hval : ∀ (j : Nat) t v, Tryz.f4.params[j]? = some t → args[j]? = some v → Value.okWide Tryz.prog W .any base t v)
    (hW : DataW.Whole enc Tryz.prog Tryz.f4.params.toList Rows.logJoinsSpec.vars false W args.toList ds gs before) (hL : laidMetH Tryz.prog Rows.logJoinsRow.laid W) (hSh : W.ShapedOpen Tryz.prog) :
    Calls Tryz.prog 4 args W fun e W' => ∃ v, e = .returned v ∧ Rows.logJoinsSpec.post enc Tryz.prog Tryz.f4 false true false false W args v W' := by
  have hW' := hW
  obtain ⟨p, q, hA0, hV, rfl, hfz, hnd⟩ := hW
  have hA : DataW.TrodAll enc Tryz.prog W 0 (fun _ => true) true Tryz.f4.params.toList args.toList ds p := hA0
  rw [Tryz.params4] at hA hval
  obtain ⟨v0, d0, rfl, rfl, h0⟩ := trodAll_one hA
  obtain ⟨rfl, rfl⟩ := trodVars_none hV
  clear hA0
  have hv := ints_of (.inr ⟨base, hval 0 22 v0 rfl rfl⟩) h0
  refine (law_any v0 W hv hL hSh).mono fun e W' ⟨he, hg⟩ => ?_
  subst he
  have hlt : ∀ x ∈ p, x.block < W.heap.size := fun x hx => hW'.lt x (by simpa using hx)
  refine ⟨_, rfl, _, _, _, [], p, [], hW', ?_, ?_, ?_, ?_, fun h => by cases h⟩
  · exact trodAll_mk1 (shut_bool Tryz.underlying4 _)
  · exact trodAll_mk1 (Below.trod laidOut (by kernel_rfl) (of_decide_eq_true (by kernel_rfl)) h0 hg hlt)
  · rfl
  · exact World.keptBut_mono (fun x hx => ⟨hx, by simpa using hx⟩) (hg.frame _)

set_option maxRecDepth 100000 in
theorem reads (os : Os) {H : Type} (enc : TypeId × Value → H) : ∃ places, DataW.whole enc Tryz.prog ((laidWorld os).forCall (fun _ _ => 0) ⟨#[], #[.slice none 0 0], []⟩).memory Tryz.f4.params.toList Rows.logJoinsSpec.vars false #[Value.slice none 0 0].toList 8 = some ([.nil], [], places) :=
  ⟨[], by kernel_rfl⟩

set_option maxRecDepth 100000 in
theorem lifted (os : Os) (started : os.Started) (H : Type) (enc : TypeId × Value → H) (F : Stop.Interp) :
    ReturnsInHanded {} Tryz.checked os 4 .any ((OpenSpec.ofChange Rows.logJoinsSpec).preRow enc Tryz.prog Tryz.f4 Rows.logJoinsRow.domain false Rows.logJoinsRow.laid) (((OpenSpec.ofChange Rows.logJoinsSpec).at F).post enc Tryz.prog Tryz.f4 false true false false) := by
  obtain ⟨places, hx⟩ := reads os enc
  refine returnsInHanded_of_row (C := Tryz.checked) (s := OpenSpec.ofChange Rows.logJoinsSpec) own started (by kernel_rfl) Tryz.func4
    (witness_row_at (enc := enc) (C := Tryz.checked) false (laidWorld os) #[.slice none 0 0] rfl (by kernel_rfl) (by kernel_rfl) (by kernel_rfl)
      (OpenSpec.preRow_of_cond 8 hx (by kernel_rfl) (fun k hk => by cases hk) (by kernel_rfl) (laid_met os _))) ?_
  intro W base args ds gs before hval hW _ _ _ hL hSh _
  exact contract H enc W base args ds gs before hval hW hL hSh

set_option maxRecDepth 100000 in
theorem j_laid : laidOutB Tryz.pinned.checked.prog = true := by kernel_rfl
set_option maxRecDepth 100000 in
theorem j_maps : mapsRowed Tryz.pinned.checked.prog = true := by kernel_rfl
set_option maxRecDepth 100000 in
theorem j_inPlace : (Rows.logJoinsRow.inPlace == Tryz.pinned.checked.prog.inPlace 4) = true := by kernel_rfl
set_option maxRecDepth 100000 in
theorem j_unfollowed : (Rows.logJoinsRow.unfollowed == Tryz.pinned.checked.prog.unfollowed 4) = true := by kernel_rfl
set_option maxRecDepth 100000 in
theorem j_recurses : (Rows.logJoinsRow.recurses == Tryz.pinned.checked.prog.recurses 4) = true := by kernel_rfl
set_option maxRecDepth 100000 in
theorem j_named : (Rows.logJoinsRow.named == Tryz.pinned.checked.prog.varsNamed 4) = true := by kernel_rfl
set_option maxRecDepth 100000 in
theorem j_heard : Tryz.pinned.checked.prog.stopsHeard = true := by kernel_rfl
set_option maxRecDepth 100000 in
theorem j_enter : Tryz.pinned.checked.prog.mayEnter = true := by kernel_rfl
set_option maxRecDepth 100000 in
theorem j_lifted : (Rows.logJoinsRow.lifted == Tryz.pinned.checked.prog.liftsFinal) = true := by kernel_rfl
set_option maxRecDepth 100000 in
theorem j_make : (Tryz.pinned.checked.prog.make == some Rows.logJoinsRow.make) = true := by kernel_rfl
set_option maxRecDepth 100000 in
theorem closed : joinedFacts Tryz.pinned.checked.prog 4 Tryz.f4 (OpenSpec.ofChange Rows.logJoinsSpec).bare Rows.logJoinsRow = true := by
  unfold joinedFacts
  rw [j_laid, j_maps, j_inPlace, j_unfollowed, j_recurses, j_named, j_heard, j_enter, j_lifted, j_make]
  kernel_rfl
set_option maxRecDepth 100000 in
theorem said : Rows.LogJoinsSaid :=
  OpenClaim.holds_of_cond 4 Tryz.f4 rfl rfl rfl rfl rfl rfl rfl ⟨rfl, rfl, rfl, rfl, rfl⟩ rfl rfl rfl rfl rfl (by kernel_rfl) Tryz.func4 closed
    (of_decide_eq_true (by kernel_rfl)) (by unfold Func.isWrapper; first | (rw [if_pos (by decide +kernel)]; kernel_rfl) | (rw [if_neg (by decide +kernel)]; exact ⟨rfl, rfl⟩))
    (fun os started H enc _ F => by rw [OpenClaim.pre_eq_preRow]; exact lifted os started H enc F)

set_option maxRecDepth 100000 in
theorem plain (f : FuncId) (fn : Func) (hf : Tryz.pinned.checked.prog.funcNamed Rows.logJoinsRow.func = some f) (hfn : Tryz.pinned.checked.prog.funcs[f]? = some fn) :
    true = Tryz.pinned.checked.prog.looks [] ∧ ∀ (j : Nat) t, fn.params[j]? = some t → Tryz.pinned.checked.prog.wantsStandIn t = false := by
  obtain rfl : f = 4 := Option.some.inj ((show Tryz.prog.funcNamed Rows.logJoinsRow.func = some 4 by kernel_rfl).symm.trans hf) |>.symm
  obtain rfl : fn = Tryz.f4 := (Option.some.inj (Tryz.func4.symm.trans hfn)).symm
  refine ⟨by kernel_rfl, fun j t ht => ?_⟩
  rw [Tryz.params4] at ht
  obtain rfl : t = 22 := by simpa using Array.mem_of_getElem? ht
  exact (show Tryz.prog.wantsStandIn 22 = false by kernel_rfl)

set_option maxRecDepth 100000 in
theorem logJoins_holds : Rows.LogJoinsCardSaid :=
  Claim7.holds_tied_plain_at .later [] _ _ _ _ said (fun _ h => by cases h) (by kernel_rfl) (fun _ h => by cases h) logJoins_row_tie rfl ⟨rfl, rfl⟩ (by kernel_rfl) rfl plain (by kernel_rfl)
end Go.Proofs.YtmlpkejeglpciaaGreatDoor
