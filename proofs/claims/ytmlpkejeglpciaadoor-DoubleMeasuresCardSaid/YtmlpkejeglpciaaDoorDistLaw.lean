/- Edit distances, plainly: by rows from the front, by columns from the end, and that both are one number. No program is in sight. -/
namespace Go.Proofs.YtmlpkejeglpciaaDoor.D

/-- the next row -/
def nextRow (f : Nat → Nat) (c : Nat → Nat) (z : Nat) : Nat → Nat
  | 0 => z
  | j + 1 => min (min (f j + c j) (nextRow f c z j + 1)) (f (j + 1) + 1)
/-- the distance of the first i of a to the first j of b -/
def pre (a b : List Int) : Nat → Nat → Nat
  | 0 => fun j => j
  | i + 1 => nextRow (pre a b i) (fun j => if a[i]? = b[j]? then 0 else 1) (i + 1)

theorem pre_zero (a b : List Int) (j : Nat) : pre a b 0 j = j := rfl
theorem pre_col (a b : List Int) (i : Nat) : pre a b i 0 = i := by cases i <;> rfl
theorem pre_succ (a b : List Int) (i j : Nat) : pre a b (i + 1) (j + 1) = min (min (pre a b i j + (if a[i]? = b[j]? then 0 else 1)) (pre a b (i + 1) j + 1)) (pre a b i (j + 1) + 1) := rfl

theorem nextRow_le (f c : Nat → Nat) (z : Nat) (hf : ∀ j, f j ≤ z + j) : ∀ j, nextRow f c z j ≤ z + j
  | 0 => Nat.le_refl _
  | j + 1 => by have := nextRow_le f c z hf j; simp only [nextRow]; omega
theorem pre_le (a b : List Int) : ∀ i j, pre a b i j ≤ i + j
  | 0, j => by simp [pre]
  | i + 1, j => nextRow_le _ _ _ (fun j => by have := pre_le a b i j; omega) j
end Go.Proofs.YtmlpkejeglpciaaDoor.D
