/- What the card of ConsentExpiring needs of the program alone. For: the law ConsentExpiring (Expiring is as specified for all windows) returns true for every list of numbers, and leaves that list as it was. No condition; what the row lists of unicode/utf8's tables and of handmake.idPool is tied to the program's text by the given tie. -/
import Derived.Test.YthmkphmciiiagaaGreatDoorCards
import Derived.Test.YthmkphmciiiagaaGreatDoorTie
import Derived.WalkKit
import Derived.ProofKit
import Derived.OpenShut
import Derived.ChangeSlices
import Derived.Carry
import Derived.Deep.DeepHandedRow
import Derived.Lib.LaidIn
import Derived.Lib.LaidU8T
import Derived.PinnedBridge
import Derived.Test.YthmkphmciiiagaaGreatDoorPackA
namespace Go.Proofs.YthmkphmciiiagaaGreatDoor
open Go.ChangeShapes Go.WideShapes Go.ChangeAt Go.RowKit Go.Shelf Go.Lib

theorem own : ownKnob Tryz.prog.godebug = none := by kernel_rfl
theorem laidOut : laidOutB Tryz.prog = true := by kernel_rfl
theorem cellsInt : Tryz.prog.cellsOf 3 = 1 := by kernel_rfl
theorem cellsOne {v : Value} {a : Option Addr} {n c : Nat} (h : v.cells.toList = [.slice a n c]) : v = .slice a n c ∨ ∃ cs, v = .agg cs := by
  cases v <;> simp [Value.cells] at h <;> simp_all

set_option maxRecDepth 100000 in
/-- what a reading of the argument says of it -/
theorem ints_of {H : Type} {enc : TypeId × Value → H} {W : World} {v : Value} {d : DataW H} {p : List MemPlace} (hok : Value.okWide Tryz.prog W .any 0 22 v ∨ ∃ base, Value.okWide Tryz.prog W .any base 22 v)
    (h : DataW.Trod enc Tryz.prog W 0 (fun _ => true) true 22 v d p) : IntsIn v W := by
  obtain ⟨a0, len, cap, rfl⟩ : ∃ a n c, v = .slice a n c := by
    rcases hok with h | ⟨b, h⟩ <;> exact okWide_slice Tryz.underlying22 h
  obtain ⟨fuel, hf⟩ := h
  rcases open_ints Tryz.underlying22 Tryz.underlying3 cellsInt hf with ⟨hcs, _⟩ | ⟨a, len', cap', zs, hcs, _, hl, hm, hz, _, hcell, _⟩
  · simp [Value.cells] at hcs
    obtain ⟨rfl, rfl, rfl⟩ := hcs
    exact .inl ⟨none, 0, rfl⟩
  · simp [Value.cells] at hcs
    obtain ⟨rfl, rfl, rfl⟩ := hcs
    simp only [if_true] at hz
    by_cases hl0 : len = 0
    · subst hl0; exact .inl ⟨_, _, rfl⟩
    · obtain ⟨b, off, spot⟩ := a
      have hspot : spot = none := by simpa [Addr.add] using World.cell?_spot (hcell 0 (by omega))
      subst hspot
      refine .inr ⟨b, off, len, cap, rfl, by unfold maxLen at hm; omega, ?_, fun i hi => ?_⟩
      · exact World.block_lt_of_cell? W _ (hcell 0 (by omega))
      · have := hcell i (by omega)
        rw [add_plain] at this
        exact ⟨_, this⟩

theorem lays_accept : Rows.laid_unicode_utf8_acceptRanges = Lib.acceptData := by kernel_rfl
theorem lays_first : Rows.laid_unicode_utf8_first = Lib.firstData := by kernel_rfl
set_option maxRecDepth 100000 in
theorem pool_of {W : World} {nm : String} (hn : Tryz.prog.globalNamed nm = some 0) (h : VarReads Tryz.prog W nm Rows.laid_handbill_handmake_idPool) : Pool W := by
  obtain ⟨g, t, cs, fuel, p, hg, hty, hvar, hd⟩ := h
  obtain rfl : g = 0 := Option.some.inj (hg.symm.trans hn)
  obtain rfl : 116 = t := Option.some.inj ((show (Tryz.prog.globals[0]?).map (·.type) = some 116 by kernel_rfl).symm.trans hty)
  intro i hi
  unfold Rows.laid_handbill_handmake_idPool at hd
  obtain ⟨fuel', d, q, hdi, hx⟩ := Lib.array_elem Tryz.underlying116 hd i hi
  obtain ⟨kk, l, hdl, hll⟩ : ∃ (kk : Int) (l : List UInt8), d = .agg [.lit (.int .i64 kk), .lit (.string l)] ∧ l.length ≤ 100 := by
    obtain rfl | rfl | rfl | rfl | rfl | rfl | rfl | rfl | rfl | rfl : i = 0 ∨ i = 1 ∨ i = 2 ∨ i = 3 ∨ i = 4 ∨ i = 5 ∨ i = 6 ∨ i = 7 ∨ i = 8 ∨ i = 9 := by omega
    all_goals exact ⟨_, _, (Option.some.inj hdi).symm, by decide⟩
  subst hdl
  rw [show Tryz.prog.cellsOf 29 = 2 by kernel_rfl] at hx
  obtain ⟨xs, n, _, hx2, hlen, hxl, hall⟩ := DataW.trod_struct Tryz.underlying29 hx
  have h0 := hall 0 _ rfl
  have h1 := hall 1 _ rfl
  match xs, hxl with
  | [x0, x1], _ =>
    have hx3 := congrArg Prod.fst hx2
    simp only [List.map_cons, List.map_nil, DataW.agg.injEq, List.cons.injEq, and_true] at hx3
    have c0 := DataW.trod_int Tryz.underlying3 h0
    have c1 := DataW.trod_string Tryz.underlying9 h1
    obtain ⟨z, hz, hz2, _⟩ := c0
    obtain ⟨s, hs, hs2, _⟩ := c1
    have e0 := congrArg (·[0]?) hz
    have e1 := congrArg (·[0]?) hs
    have k0 : Tryz.prog.cellsOf 3 = 1 := by kernel_rfl
    have k1 : Tryz.prog.cellsOf 9 = 1 := by kernel_rfl
    simp [List.getElem?_drop, k0, k1] at e0 e1
    have hsl : s.data.toList = l := by
      have := hx3.2
      rw [hs2] at this
      simpa using this.symm
    refine ⟨z, s, ?_, ?_, ?_⟩
    · show s.data.toList.length ≤ 100
      rw [hsl]; exact hll
    · rw [World.var?_cell hg hvar (i * 2)]
      simpa using e0
    · rw [World.var?_cell hg hvar (i * 2 + 1)]
      simpa using e1
/-- A world in which the listed variables hold what their initialisers lay. -/
noncomputable def laidWorld (os : Os) : World :=
  let w0 := World.holding Tryz.prog os ⟨#[], #[], []⟩
  let put (h : Array Obj) (g : Nat) (cs : Array Value) : Array Obj := h.modify g fun
    | .cells _ t frozen => .cells cs t frozen
    | o => o
  let h1 := put w0.heap 4 (Lib.firstTab.map fun z => Value.int .u8 z).toArray
  let h2 := put h1 5 ((List.range 16).flatMap fun i => [Value.int .u8 (Lib.accLo i), Value.int .u8 (Lib.accHi i)]).toArray
  let h3 := put h2 0 #[.int .i64 1, .string ⟨#[97, 64, 98, 46, 100, 101]⟩, .int .i64 1, .string ⟨#[97, 110, 110, 46, 98, 64, 120, 45, 121, 46, 111, 114, 103]⟩, .int .i64 1, .string ⟨#[98, 111, 98, 95, 49, 64, 98, 46, 100, 101]⟩, .int .i64 1, .string ⟨#[122, 45, 64, 48, 46, 97]⟩, .int .i64 2, .string ⟨#[43, 52, 57, 51, 48, 49, 50, 51, 52, 53, 54]⟩, .int .i64 2, .string ⟨#[43, 49, 53, 53, 53, 48, 48, 48, 49, 49, 49]⟩, .int .i64 3, .string ⟨#[65, 66, 49, 51]⟩, .int .i64 3, .string ⟨#[48, 48, 48, 48, 48, 48, 48, 48, 48, 48, 48, 48, 48, 48, 48, 48, 48, 48, 48, 48]⟩, .int .i64 4, .string ⟨#[48, 49, 50, 51, 52, 53, 54, 55, 56, 57, 97, 98, 99, 100, 101, 102, 48, 49, 50, 51, 52, 53, 54, 55, 56, 57, 97, 98, 99, 100, 101, 102]⟩, .int .i64 4, .string ⟨#[102, 102, 102, 102, 102, 102, 102, 102, 102, 102, 102, 102, 102, 102, 102, 102, 102, 102, 102, 102, 102, 102, 102, 102, 102, 102, 102, 102, 102, 102, 102, 102]⟩]
  { w0 with heap := h3 }
theorem laid_met (os : Os) (args : Array Value) : laidMet Tryz.prog Rows.consentExpiringRow.laid ((laidWorld os).forCall (fun _ _ => 0) ⟨#[], args, []⟩).memory :=
  (LaidIn.of_run [5, 0, 4] 8 (by kernel_rfl) (by kernel_rfl) (by kernel_rfl) (by kernel_rfl)).met

set_option maxRecDepth 100000 in
theorem reads (os : Os) {H : Type} (enc : TypeId × Value → H) : ∃ places, DataW.whole enc Tryz.prog ((laidWorld os).forCall (fun _ _ => 0) ⟨#[], #[.slice none 0 0], []⟩).memory Tryz.f7.params.toList Rows.consentExpiringSpec.vars false #[Value.slice none 0 0].toList 8 = some ([.nil], [], places) :=
  ⟨[], by kernel_rfl⟩

set_option maxRecDepth 100000 in
theorem j_laid : laidOutB Tryz.pinned.checked.prog = true := by kernel_rfl
set_option maxRecDepth 100000 in
theorem j_maps : mapsRowed Tryz.pinned.checked.prog = true := by kernel_rfl
set_option maxRecDepth 100000 in
theorem j_inPlace : (Rows.consentExpiringRow.inPlace == Tryz.pinned.checked.prog.inPlace 7) = true := by kernel_rfl
set_option maxRecDepth 100000 in
theorem j_unfollowed : (Rows.consentExpiringRow.unfollowed == Tryz.pinned.checked.prog.unfollowed 7) = true := by kernel_rfl
set_option maxRecDepth 100000 in
theorem j_recurses : (Rows.consentExpiringRow.recurses == Tryz.pinned.checked.prog.recurses 7) = true := by kernel_rfl
set_option maxRecDepth 100000 in
theorem j_named : (Rows.consentExpiringRow.named == Tryz.pinned.checked.prog.varsNamed 7) = true := by kernel_rfl
set_option maxRecDepth 100000 in
theorem j_heard : Tryz.pinned.checked.prog.stopsHeard = true := by kernel_rfl
set_option maxRecDepth 100000 in
theorem j_enter : Tryz.pinned.checked.prog.mayEnter = true := by kernel_rfl
set_option maxRecDepth 100000 in
theorem j_lifted : (Rows.consentExpiringRow.lifted == Tryz.pinned.checked.prog.liftsFinal) = true := by kernel_rfl
set_option maxRecDepth 100000 in
theorem j_make : (Tryz.pinned.checked.prog.make == some Rows.consentExpiringRow.make) = true := by kernel_rfl
set_option maxRecDepth 100000 in
/-- the closed facts of the row, each by itself -/
theorem closed : joinedFacts Tryz.pinned.checked.prog 7 Tryz.f7 (OpenSpec.ofChange Rows.consentExpiringSpec).bare Rows.consentExpiringRow = true := by
  unfold joinedFacts
  rw [j_laid, j_maps, j_inPlace, j_unfollowed, j_recurses, j_named, j_heard, j_enter, j_lifted, j_make]
  kernel_rfl
end Go.Proofs.YthmkphmciiiagaaGreatDoor
