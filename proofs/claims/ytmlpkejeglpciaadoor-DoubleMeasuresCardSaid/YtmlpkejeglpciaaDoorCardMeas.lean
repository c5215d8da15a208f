/- Proved: the law DoubleMeasures (CheckMeasures and Points are as specified for all records) returns true for every list of numbers, and leaves that list as it was. No condition; what the row lists of unicode/utf8's tables and of handmake.fieldNames is tied to the program's text by the given tie. -/
import Derived.Test.YtmlpkejeglpciaaDoorCards
import Derived.Test.YtmlpkejeglpciaaDoorTie
import Derived.WalkKit
import Derived.ProofKit
import Derived.OpenShut
import Derived.ChangeSlices
import Derived.Carry
import Derived.Deep.DeepHandedRow
import Derived.Lib.LaidIn
import Derived.Lib.LaidU8T
import Derived.PinnedBridge
import Derived.Test.YtmlpkejeglpciaaDoorLawMeas
namespace Go.Proofs.YtmlpkejeglpciaaDoor
open Go.ChangeShapes Go.WideShapes Go.ChangeAt Go.RowKit Go.Shelf Go.Lib

theorem own : ownKnob Tryd.prog.godebug = none := by kernel_rfl
theorem laidOut : laidOutB Tryd.prog = true := by kernel_rfl
theorem cellsInt : Tryd.prog.cellsOf 3 = 1 := by kernel_rfl
theorem cellsOne {v : Value} {a : Option Addr} {n c : Nat} (h : v.cells.toList = [.slice a n c]) : v = .slice a n c ∨ ∃ cs, v = .agg cs := by
  cases v <;> simp [Value.cells] at h <;> simp_all

set_option maxRecDepth 100000 in
/-- what a reading of the argument says of it -/
theorem ints_of {H : Type} {enc : TypeId × Value → H} {W : World} {v : Value} {d : DataW H} {p : List MemPlace} (hok : Value.okWide Tryd.prog W .any 0 22 v ∨ ∃ base, Value.okWide Tryd.prog W .any base 22 v)
    (h : DataW.Trod enc Tryd.prog W 0 (fun _ => true) true 22 v d p) : IntsIn v W := by
  obtain ⟨a0, len, cap, rfl⟩ : ∃ a n c, v = .slice a n c := by
    rcases hok with h | ⟨b, h⟩ <;> exact okWide_slice Tryd.underlying22 h
  obtain ⟨fuel, hf⟩ := h
  rcases open_ints Tryd.underlying22 Tryd.underlying3 cellsInt hf with ⟨hcs, _⟩ | ⟨a, len', cap', zs, hcs, _, hl, hm, hz, _, hcell, _⟩
  · simp [Value.cells] at hcs
    obtain ⟨rfl, rfl, rfl⟩ := hcs
    exact .inl ⟨none, 0, rfl⟩
  · simp [Value.cells] at hcs
    obtain ⟨rfl, rfl, rfl⟩ := hcs
    simp only [if_true] at hz
    by_cases hl0 : len = 0
    · subst hl0; exact .inl ⟨_, _, rfl⟩
    · obtain ⟨b, off, spot⟩ := a
      have hspot : spot = none := by simpa [Addr.add] using World.cell?_spot (hcell 0 (by omega))
      subst hspot
      refine .inr ⟨b, off, len, cap, rfl, by unfold maxLen at hm; omega, ?_, fun i hi => ?_⟩
      · exact World.block_lt_of_cell? W _ (hcell 0 (by omega))
      · have := hcell i (by omega)
        rw [add_plain] at this
        exact ⟨_, this⟩

theorem lays_accept : Rows.laid_unicode_utf8_acceptRanges = Lib.acceptData := by kernel_rfl
theorem lays_first : Rows.laid_unicode_utf8_first = Lib.firstData := by kernel_rfl
theorem strs_of_array {W : World} {n fuel : Nat} {t e : TypeId} {cs : List Value} {p : List MemPlace} {ds : List (List UInt8)} (ht : Tryd.prog.underlying t = some (.array n e)) (he : Tryd.prog.underlying e = some .string) (hc : Tryd.prog.cellsOf e = 1)
    (h : DataW.trod (fun _ => ()) Tryd.prog W 0 (fun _ => true) false fuel t cs = some (.agg (ds.map fun l => .lit (.string l)), p)) (i : Nat) (hi : i < n) (l : List UInt8) (hl : ds[i]? = some l) : cs[i]? = some (.string ⟨l.toArray⟩) := by
  obtain ⟨fuel', d, q, hdi, hx⟩ := Lib.array_elem ht h i hi
  simp only [List.getElem?_map, hl, Option.map_some, Option.some.injEq] at hdi
  subst hdi
  rw [hc] at hx
  obtain ⟨s, hs, hd, _⟩ := DataW.trod_string he hx
  simp only [Prod.mk.injEq, DataW.lit.injEq, Lit.string.injEq] at hd
  have := congrArg (·[0]?) hs
  simp only [List.getElem?_take, List.getElem?_drop] at this
  rw [hd.1]
  simpa using this
theorem names_of {W : World} {nm : String} (hn : Tryd.prog.globalNamed nm = some 0) (h : VarReads Tryd.prog W nm Rows.laid_handbill_handmake_fieldNames) : Names W := by
  obtain ⟨g, t, cs, fuel, p, hg, hty, hvar, hd⟩ := h
  obtain rfl : g = 0 := Option.some.inj (hg.symm.trans hn)
  obtain rfl : 41 = t := Option.some.inj ((show (Tryd.prog.globals[0]?).map (·.type) = some 41 by kernel_rfl).symm.trans hty)
  have key : ∀ (i : Nat) (hi : i < 6) (l : List UInt8), [[97, 103, 101], [99, 105, 116, 121], [106, 111, 105, 110, 101, 100], [110, 97, 109, 101], [112, 108, 97, 110], [118, 105, 112]][i]? = some l → W.cell? ⟨0, i, none⟩ = some (.string ⟨l.toArray⟩) := fun i hi l hl => by
    rw [World.var?_cell hg hvar i, ← Array.getElem?_toList]
    exact strs_of_array Tryd.underlying41 Tryd.underlying9 (by kernel_rfl) hd i hi l hl
  exact ⟨key 0 (by omega) _ rfl, key 1 (by omega) _ rfl, key 2 (by omega) _ rfl, key 3 (by omega) _ rfl, key 4 (by omega) _ rfl, key 5 (by omega) _ rfl⟩
theorem law_any (v : Value) (w : World) (hv : IntsIn v w) (hL : laidMetH Tryd.prog Rows.doubleMeasuresRow.laid w) :
    Calls Tryd.prog 3 #[v] w fun e w' => e = .returned (.bool true) ∧ Below w.heap.size w w' := by
  have h1 := Lib.laidMet.reads (l := Rows.doubleMeasuresRow.laid) (d := Rows.laid_unicode_utf8_acceptRanges) hL (.head _)
  have h2 := Lib.laidMet.reads (l := Rows.doubleMeasuresRow.laid) (d := Rows.laid_handbill_handmake_fieldNames) hL (.tail _ (.head _))
  have h3 := Lib.laidMet.reads (l := Rows.doubleMeasuresRow.laid) (d := Rows.laid_unicode_utf8_first) hL (.tail _ (.tail _ (.head _)))
  rw [lays_accept] at h1
  rw [lays_first] at h3
  exact doubleMeasures_any v w hv (utf8Tabs_of_readsT (ρ := Tryd.lays260_ren) (U8Types.of260 Tryd.lays260) ⟨by kernel_rfl, by kernel_rfl, by kernel_rfl, by kernel_rfl, by kernel_rfl, by kernel_rfl, by kernel_rfl⟩ h3 h1) (names_of (by kernel_rfl) h2)

/-- A world in which the listed variables hold what their initialisers lay. -/
noncomputable def laidWorld (os : Os) : World :=
  let w0 := World.holding Tryd.prog os ⟨#[], #[], []⟩
  let put (h : Array Obj) (g : Nat) (cs : Array Value) : Array Obj := h.modify g fun
    | .cells _ t frozen => .cells cs t frozen
    | o => o
  let h1 := put w0.heap 2 (Lib.firstTab.map fun z => Value.int .u8 z).toArray
  let h2 := put h1 3 ((List.range 16).flatMap fun i => [Value.int .u8 (Lib.accLo i), Value.int .u8 (Lib.accHi i)]).toArray
  let h3 := put h2 0 #[.string ⟨#[97, 103, 101]⟩, .string ⟨#[99, 105, 116, 121]⟩, .string ⟨#[106, 111, 105, 110, 101, 100]⟩, .string ⟨#[110, 97, 109, 101]⟩, .string ⟨#[112, 108, 97, 110]⟩, .string ⟨#[118, 105, 112]⟩]
  { w0 with heap := h3 }
theorem laid_met (os : Os) (args : Array Value) : laidMet Tryd.prog Rows.doubleMeasuresRow.laid ((laidWorld os).forCall (fun _ _ => 0) ⟨#[], args, []⟩).memory :=
  (LaidIn.of_run [3, 0, 2] 8 (by kernel_rfl) (by kernel_rfl) (by kernel_rfl) (by kernel_rfl)).met

set_option maxRecDepth 100000 in
theorem contract (H : Type) (enc : TypeId × Value → H) (W : World) (base : Nat) (args : Array Value) (ds gs : List (DataW H)) (before : List MemPlace)
    (hval : ∀ (j : Nat) t v, Tryd.f3.params[j]? = some t → args[j]? = some v → Value.okWide Tryd.prog W .any base t v)
    (hW : DataW.Whole enc Tryd.prog Tryd.f3.params.toList Rows.doubleMeasuresSpec.vars false W args.toList ds gs before) (hL : laidMetH Tryd.prog Rows.doubleMeasuresRow.laid W) :
    Calls Tryd.prog 3 args W fun e W' => ∃ v, e = .returned v ∧ Rows.doubleMeasuresSpec.post enc Tryd.prog Tryd.f3 false true false false W args v W' := by
  have hW' := hW
  obtain ⟨p, q, hA0, hV, rfl, hfz, hnd⟩ := hW
  have hA : DataW.TrodAll enc Tryd.prog W 0 (fun _ => true) true Tryd.f3.params.toList args.toList ds p := hA0
  rw [Tryd.params3] at hA hval
  obtain ⟨v0, d0, rfl, rfl, h0⟩ := trodAll_one hA
  obtain ⟨rfl, rfl⟩ := trodVars_none hV
  clear hA0
  have hv := ints_of (.inr ⟨base, hval 0 22 v0 rfl rfl⟩) h0
  refine (law_any v0 W hv hL).mono fun e W' ⟨he, hg⟩ => ?_
  subst he
  have hlt : ∀ x ∈ p, x.block < W.heap.size := fun x hx => hW'.lt x (by simpa using hx)
  refine ⟨_, rfl, _, _, _, [], p, [], hW', ?_, ?_, ?_, ?_, fun h => by cases h⟩
  · exact trodAll_mk1 (shut_bool Tryd.underlying4 _)
  · exact trodAll_mk1 (Below.trod laidOut (by kernel_rfl) (of_decide_eq_true (by kernel_rfl)) h0 hg hlt)
  · rfl
  · exact World.keptBut_mono (fun x hx => ⟨hx, by simpa using hx⟩) (hg.frame _)

set_option maxRecDepth 100000 in
theorem reads (os : Os) {H : Type} (enc : TypeId × Value → H) : ∃ places, DataW.whole enc Tryd.prog ((laidWorld os).forCall (fun _ _ => 0) ⟨#[], #[.slice none 0 0], []⟩).memory Tryd.f3.params.toList Rows.doubleMeasuresSpec.vars false #[Value.slice none 0 0].toList 8 = some ([.nil], [], places) :=
  ⟨[], by kernel_rfl⟩

set_option maxRecDepth 100000 in
theorem lifted (os : Os) (started : os.Started) (H : Type) (enc : TypeId × Value → H) (F : Stop.Interp) :
    ReturnsInHanded {} Tryd.checked os 3 .any ((OpenSpec.ofChange Rows.doubleMeasuresSpec).preRow enc Tryd.prog Tryd.f3 Rows.doubleMeasuresRow.domain false Rows.doubleMeasuresRow.laid) (((OpenSpec.ofChange Rows.doubleMeasuresSpec).at F).post enc Tryd.prog Tryd.f3 false true false false) := by
  obtain ⟨places, hx⟩ := reads os enc
  refine returnsInHanded_of_row (C := Tryd.checked) (s := OpenSpec.ofChange Rows.doubleMeasuresSpec) own started (by kernel_rfl) Tryd.func3
    (witness_row_at (enc := enc) (C := Tryd.checked) false (laidWorld os) #[.slice none 0 0] rfl (by kernel_rfl) (by kernel_rfl) (by kernel_rfl)
      (OpenSpec.preRow_of_cond 8 hx (by kernel_rfl) (fun k hk => by cases hk) (by kernel_rfl) (laid_met os _))) ?_
  intro W base args ds gs before hval hW _ _ _ hL _ _
  exact contract H enc W base args ds gs before hval hW hL

set_option maxRecDepth 100000 in
theorem j_laid : laidOutB Tryd.pinned.checked.prog = true := by kernel_rfl
set_option maxRecDepth 100000 in
theorem j_maps : mapsRowed Tryd.pinned.checked.prog = true := by kernel_rfl
set_option maxRecDepth 100000 in
theorem j_inPlace : (Rows.doubleMeasuresRow.inPlace == Tryd.pinned.checked.prog.inPlace 3) = true := by kernel_rfl
set_option maxRecDepth 100000 in
theorem j_unfollowed : (Rows.doubleMeasuresRow.unfollowed == Tryd.pinned.checked.prog.unfollowed 3) = true := by kernel_rfl
set_option maxRecDepth 100000 in
theorem j_recurses : (Rows.doubleMeasuresRow.recurses == Tryd.pinned.checked.prog.recurses 3) = true := by kernel_rfl
set_option maxRecDepth 100000 in
theorem j_named : (Rows.doubleMeasuresRow.named == Tryd.pinned.checked.prog.varsNamed 3) = true := by kernel_rfl
set_option maxRecDepth 100000 in
theorem j_heard : Tryd.pinned.checked.prog.stopsHeard = true := by kernel_rfl
set_option maxRecDepth 100000 in
theorem j_enter : Tryd.pinned.checked.prog.mayEnter = true := by kernel_rfl
set_option maxRecDepth 100000 in
theorem j_lifted : (Rows.doubleMeasuresRow.lifted == Tryd.pinned.checked.prog.liftsFinal) = true := by kernel_rfl
set_option maxRecDepth 100000 in
theorem j_make : (Tryd.pinned.checked.prog.make == some Rows.doubleMeasuresRow.make) = true := by kernel_rfl
set_option maxRecDepth 100000 in
/-- the closed facts of the row, each by itself -/
theorem closed : joinedFacts Tryd.pinned.checked.prog 3 Tryd.f3 (OpenSpec.ofChange Rows.doubleMeasuresSpec).bare Rows.doubleMeasuresRow = true := by
  unfold joinedFacts
  rw [j_laid, j_maps, j_inPlace, j_unfollowed, j_recurses, j_named, j_heard, j_enter, j_lifted, j_make]
  kernel_rfl
set_option maxRecDepth 100000 in
theorem said : Rows.DoubleMeasuresSaid :=
  OpenClaim.holds_of_cond 3 Tryd.f3 rfl rfl rfl rfl rfl rfl rfl ⟨rfl, rfl, rfl, rfl, rfl⟩ rfl rfl rfl rfl rfl (by kernel_rfl) Tryd.func3 closed
    (of_decide_eq_true (by kernel_rfl)) (by unfold Func.isWrapper; first | (rw [if_pos (by decide +kernel)]; kernel_rfl) | (rw [if_neg (by decide +kernel)]; exact ⟨rfl, rfl⟩))
    (fun os started H enc _ F => by rw [OpenClaim.pre_eq_preRow]; exact lifted os started H enc F)

set_option maxRecDepth 100000 in
/-- No parameter wants a stand-in; the program's own looks are as told. -/
theorem plain (f : FuncId) (fn : Func) (hf : Tryd.pinned.checked.prog.funcNamed Rows.doubleMeasuresRow.func = some f) (hfn : Tryd.pinned.checked.prog.funcs[f]? = some fn) :
    false = Tryd.pinned.checked.prog.looks [] ∧ ∀ (j : Nat) t, fn.params[j]? = some t → Tryd.pinned.checked.prog.wantsStandIn t = false := by
  obtain rfl : f = 3 := Option.some.inj ((show Tryd.prog.funcNamed Rows.doubleMeasuresRow.func = some 3 by kernel_rfl).symm.trans hf) |>.symm
  obtain rfl : fn = Tryd.f3 := (Option.some.inj (Tryd.func3.symm.trans hfn)).symm
  refine ⟨by kernel_rfl, fun j t ht => ?_⟩
  rw [Tryd.params3] at ht
  obtain rfl : t = 22 := by simpa using Array.mem_of_getElem? ht
  exact (show Tryd.prog.wantsStandIn 22 = false by kernel_rfl)

set_option maxRecDepth 100000 in
theorem doubleMeasures_holds : Rows.DoubleMeasuresCardSaid :=
  Claim7.holds_tied_plain_at .later [] _ _ _ _ said (fun _ h => by cases h) (by kernel_rfl) (fun _ h => by cases h) doubleMeasures_row_tie rfl ⟨rfl, rfl⟩ (by kernel_rfl) rfl plain (by kernel_rfl)
end Go.Proofs.YtmlpkejeglpciaaDoor
