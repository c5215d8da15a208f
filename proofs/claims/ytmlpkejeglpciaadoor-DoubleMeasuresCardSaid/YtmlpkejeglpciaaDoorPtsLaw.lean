/- The plain law of points: for rising fields the sum over all pairs is the sum over those that are found. No program in sight. -/
import Derived.Test.YtmlpkejeglpciaaDoorAlike2
import Derived.Test.YtmlpkejeglpciaaDoorFldLaw
namespace Go.Proofs.YtmlpkejeglpciaaDoor
def fits (m : Meas) (f g : Fld) : Bool := alikeB m f.kind f.text f.num g.kind g.text g.num
def gain (m : Meas) (f g : Fld) : Int := if f.name = m.name ∧ g.name = m.name ∧ fits m f g = true then m.pts else 0
def goB (m : Meas) (f : Fld) : List Fld → Int
  | [] => 0
  | g :: r => gain m f g + goB m f r
def goA (m : Meas) (b : List Fld) : List Fld → Int
  | [] => 0
  | f :: r => goB m f b + goA m b r
def goM (a b : List Fld) : List Meas → Int
  | [] => 0
  | m :: r => goA m b a + goM a b r
theorem Rising.tail {f : Fld} {r : List Fld} (h : Rising (f :: r)) : Rising r := fun i j x y hij hx hy => h (i + 1) (j + 1) x y (by omega) (by simpa using hx) (by simpa using hy)
theorem Rising.head {f g : Fld} {r : List Fld} (h : Rising (f :: r)) (hg : g ∈ r) : g.name ≠ f.name := fun e => by
  obtain ⟨i, hi, he⟩ := List.getElem_of_mem hg
  have := h 0 (i + 1) f g (by omega) rfl (by simp [List.getElem?_eq_getElem hi, he])
  rw [e, ltS_irr] at this
  cases this
theorem goB_zero (m : Meas) (f : Fld) (h : f.name ≠ m.name) : ∀ b, goB m f b = 0
  | [] => rfl
  | g :: r => by rw [goB, gain, if_neg (fun e => h e.1), goB_zero m f h r]; rfl
theorem goB_none (m : Meas) (f : Fld) : ∀ b : List Fld, (∀ g ∈ b, g.name ≠ m.name) → goB m f b = 0
  | [], _ => rfl
  | g :: r, h => by rw [goB, gain, if_neg (fun e => h g (by simp) e.2.1), goB_none m f r (fun x hx => h x (by simp [hx]))]; rfl
theorem goB_some (m : Meas) (f g : Fld) (hf : f.name = m.name) (hg : g.name = m.name) : ∀ b : List Fld, Rising b → g ∈ b → goB m f b = if fits m f g = true then m.pts else 0
  | [], _, h => by cases h
  | x :: r, hr, h => by
    rw [goB]
    rcases List.mem_cons.1 h with rfl | h'
    · rw [goB_none m f r (fun y hy => by rw [← hg]; exact hr.head hy), gain]
      by_cases hfit : fits m f g = true
      · rw [if_pos ⟨hf, hg, hfit⟩, if_pos hfit]; omega
      · rw [if_neg (fun e => hfit e.2.2), if_neg hfit]; rfl
    · have hx : x.name ≠ m.name := fun e => hr.head h' (hg.trans e.symm)
      rw [gain, if_neg (fun e => hx e.2.1), goB_some m f g hf hg r hr.tail h']
      omega
theorem goA_none (m : Meas) (b : List Fld) : ∀ a : List Fld, (∀ f ∈ a, f.name ≠ m.name) → goA m b a = 0
  | [], _ => rfl
  | f :: r, h => by rw [goA, goB_zero m f (h f (by simp)), goA_none m b r (fun x hx => h x (by simp [hx]))]; rfl
theorem goA_noneB (m : Meas) (b : List Fld) (h : ∀ g ∈ b, g.name ≠ m.name) : ∀ a : List Fld, goA m b a = 0
  | [] => rfl
  | f :: r => by rw [goA, goB_none m f b h, goA_noneB m b h r]; rfl
theorem goA_some (m : Meas) (b : List Fld) (f : Fld) (hf : f.name = m.name) : ∀ a : List Fld, Rising a → f ∈ a → goA m b a = goB m f b
  | [], _, h => by cases h
  | x :: r, hr, h => by
    rw [goA]
    rcases List.mem_cons.1 h with rfl | h'
    · rw [goA_none m b r (fun y hy => by rw [← hf]; exact hr.head hy)]; omega
    · have hx : x.name ≠ m.name := fun e => hr.head h' (hf.trans e.symm)
      rw [goB_zero m x hx, goA_some m b f hf r hr.tail h']; omega
/-- what two found fields give -/
def addOf (m : Meas) (o1 o2 : Option Fld) : Int := match o1, o2 with | some f, some g => if fits m f g = true then m.pts else 0 | _, _ => 0
theorem goA_finds (m : Meas) (a b : List Fld) (ha : Rising a) (hb : Rising b) (o1 o2 : Option Fld) (h1 : FindsTo a m.name o1) (h2 : FindsTo b m.name o2) : goA m b a = addOf m o1 o2 := by
  rcases o1 with _ | f
  · rw [goA_none m b a (h1.2 rfl)]; rfl
  · obtain ⟨hfa, hf⟩ := h1.1 f rfl
    rw [goA_some m b f hf a ha hfa]
    rcases o2 with _ | g
    · rw [goB_none m f b (h2.2 rfl)]; rfl
    · obtain ⟨hgb, hg⟩ := h2.1 g rfl
      rw [goB_some m f g hf hg b hb hgb]; rfl
theorem measGo_ok : ∀ l : List Meas, measGo l = 0 → ∀ m ∈ l, (m.how ≠ 1 → 1 ≤ m.far ∧ m.far ≤ 20) ∧ -1000 ≤ m.pts ∧ m.pts ≤ 1000
  | [], _ => fun _ h => by cases h
  | x :: r, h => fun m hm => by
    rw [measGo] at h
    by_cases c1 : L.isKey x.name = false
    · rw [if_pos c1] at h; cases h
    rw [if_neg c1] at h
    by_cases c2 : ¬ (1 ≤ x.how ∧ x.how ≤ 3)
    · rw [if_pos c2] at h; cases h
    rw [if_neg c2] at h
    by_cases c3 : ¬ ((if x.how = 1 then x.far = 0 else 1 ≤ x.far ∧ x.far ≤ 20) ∧ (-1000 ≤ x.pts ∧ x.pts ≤ 1000))
    · rw [if_pos c3] at h; cases h
    rw [if_neg c3] at h
    have h3 := Classical.not_not.1 c3
    rcases List.mem_cons.1 hm with rfl | hm
    · refine ⟨fun h1 => ?_, h3.2⟩
      have := h3.1
      rw [if_neg h1] at this
      exact this
    · exact measGo_ok r h m hm
theorem meas_ok {l : List Meas} (h : measFault l = 0) : l.length ≤ 20 ∧ ∀ m ∈ l, (m.how ≠ 1 → 1 ≤ m.far ∧ m.far ≤ 20) ∧ -1000 ≤ m.pts ∧ m.pts ≤ 1000 := by
  unfold measFault at h
  split at h
  · cases h
  split at h
  · cases h
  exact ⟨by omega, measGo_ok l h⟩
end Go.Proofs.YtmlpkejeglpciaaDoor
