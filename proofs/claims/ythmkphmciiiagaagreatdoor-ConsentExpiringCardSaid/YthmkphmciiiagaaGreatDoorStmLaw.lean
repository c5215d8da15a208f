/- The plain law of statements, and how they lie in memory. -/
import Derived.Test.YthmkphmciiiagaaGreatDoorPackC
import Derived.Test.YthmkphmciiiagaaGreatDoorPackI
namespace Go.Proofs.YthmkphmciiiagaaGreatDoor
open Go.RowKit
structure Stm where
  no : Int
  at' : Int
  kind : Int
  text : ByteArray
  purpose : ByteArray
  region : ByteArray
  channel : Int
  what : Int
def Stm.cells (s : Stm) : List Value := [.int .i64 s.no, .int .i64 s.at', .int .i64 s.kind, .string s.text, .string s.purpose, .string s.region, .int .i64 s.channel, .int .i64 s.what]
def rStm : Rep Stm := .flat 8 Stm.cells (fun _ => rfl)
theorem flatStm : rStm.Flat Stm.cells := fun _ _ _ _ => Iff.rfl
theorem Sl.stm {N : Nat → Prop} {w : World} {A : Option Addr} {xs : List Stm} (h : Sl rStm N w A xs) (k : Nat) (s : Stm) (hk : xs[k]? = some s) : ∃ blk off, A = some ⟨blk, off, none⟩ ∧ blk < w.heap.size ∧
    w.cell? ⟨blk, off + k * 8, none⟩ = some (.int .i64 s.no) ∧ w.cell? ⟨blk, off + k * 8 + 1, none⟩ = some (.int .i64 s.at') ∧ w.cell? ⟨blk, off + k * 8 + 2, none⟩ = some (.int .i64 s.kind) ∧ w.cell? ⟨blk, off + k * 8 + 3, none⟩ = some (.string s.text) ∧
    w.cell? ⟨blk, off + k * 8 + 4, none⟩ = some (.string s.purpose) ∧ w.cell? ⟨blk, off + k * 8 + 5, none⟩ = some (.string s.region) ∧ w.cell? ⟨blk, off + k * 8 + 6, none⟩ = some (.int .i64 s.channel) ∧ w.cell? ⟨blk, off + k * 8 + 7, none⟩ = some (.int .i64 s.what) := by
  obtain ⟨blk, off, l, e, h1, _, h3, h4⟩ := h k s hk
  obtain rfl : l = Stm.cells s := h3
  exact ⟨blk, off, e, h1, h4 0 _ rfl, h4 1 _ rfl, h4 2 _ rfl, h4 3 _ rfl, h4 4 _ rfl, h4 5 _ rfl, h4 6 _ rfl, h4 7 _ rfl⟩
/-- something is said of a whole channel -/
def whole (n : Int) : Bool := decide (n = 4) || decide (n = 5)
/-- the faults of a statement, by what its parts are -/
def stmE (D1 B D2 : Bool) (F : Int) (C D3 W E H K : Bool) : Int :=
  if D1 = false then 1 else if B = true then 7 else if D2 = false then 1 else if F ≠ 0 then F else if C = false then 4 else if D3 = false then 4
  else if W = true ∧ E = false then 3 else if W = false ∧ H = false then 8 else if K = false then 5 else 0
def stmF (p : List Purp) (prev : Option Stm) (s : Stm) : Int :=
  stmE (decide (1 ≤ s.no ∧ s.no ≤ 1000000)) (prev.any (fun q => decide (s.no ≤ q.no))) (decide (0 ≤ s.at' ∧ s.at' ≤ 4321439)) (L.idFault s.kind s.text) (isCh s.channel) (decide (1 ≤ s.what ∧ s.what ≤ 5)) (whole s.what) (s.purpose.toList == []) (hasP p s.purpose) (L.isKey s.region)
def stmsGo (p : List Purp) (prev : Option Stm) : List Stm → Int
  | [] => 0
  | s :: r => if stmF p prev s ≠ 0 then stmF p prev s else stmsGo p (some s) r
def stmsFault (p : List Purp) (l : List Stm) : Int := if policyFault p ≠ 0 then policyFault p else if 3000 < l.length then 2 else stmsGo p none l
/-- statements of moderate size -/
structure StmOk (l : List Stm) : Prop where
  len : l.length ≤ 1000000
  tx : ∀ s ∈ l, s.text.size ≤ 1000000
  pu : ∀ s ∈ l, s.purpose.size ≤ 1000000
  rg : ∀ s ∈ l, s.region.size ≤ 1000000
abbrev stmCs (s : Stm) : Array Value := #[.int .i64 s.no, .int .i64 s.at', .int .i64 s.kind, .string s.text, .string s.purpose, .string s.region, .int .i64 s.channel, .int .i64 s.what]
theorem ofChannel_any (n : Int) (w : World) : Calls Tryz.prog 61 #[.int .i64 n] w fun e w' => e = .returned (.bool (whole n)) ∧ w = w' := by
  by_cases h1 : n = 4
  · subst h1
    go_enter Tryz.func61, Tryz.ntmps61
    go_wp2_with fail
    go_ret
    exact ⟨rfl, rfl⟩
  · have h1' : (n == 4) = false := by simpa using h1
    by_cases h2 : n = 5
    · subst h2
      go_enter Tryz.func61, Tryz.ntmps61
      go_wp2_with fail
      go_ret
      exact ⟨rfl, rfl⟩
    · have h2' : (n == 5) = false := by simpa using h2
      go_enter Tryz.func61, Tryz.ntmps61
      go_wp2_with fail
      go_ret
      exact ⟨ret_b (by simp [whole, h1, h2]), rfl⟩
end Go.Proofs.YthmkphmciiiagaaGreatDoor
