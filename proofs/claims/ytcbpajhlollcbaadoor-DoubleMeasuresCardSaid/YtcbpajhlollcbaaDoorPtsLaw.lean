/- The plain law of points: for rising fields the sum over all pairs is the sum over those that are found. No program in sight. -/
import Derived.Test.YtcbpajhlollcbaaDoorAlike2
namespace Go.Proofs.YtcbpajhlollcbaaDoor
def fits (m : Meas) (f g : Fld) : Bool := alikeB m f.kind f.text f.num g.kind g.text g.num
def gain (m : Meas) (f g : Fld) : Int := if f.name = m.name ∧ g.name = m.name ∧ fits m f g = true then m.pts else 0
def goB (m : Meas) (f : Fld) : List Fld → Int
  | [] => 0
  | g :: r => gain m f g + goB m f r
def goA (m : Meas) (b : List Fld) : List Fld → Int
  | [] => 0
  | f :: r => goB m f b + goA m b r
def goM (a b : List Fld) : List Meas → Int
  | [] => 0
  | m :: r => goA m b a + goM a b r
theorem Rising.tail {f : Fld} {r : List Fld} (h : Rising (f :: r)) : Rising r := fun i j x y hij hx hy => h (i + 1) (j + 1) x y (by omega) (by simpa using hx) (by simpa using hy)
theorem Rising.head {f g : Fld} {r : List Fld} (h : Rising (f :: r)) (hg : g ∈ r) : g.name ≠ f.name := fun e => by
  obtain ⟨i, hi, he⟩ := List.getElem_of_mem hg
  have := h 0 (i + 1) f g (by omega) rfl (by simp [List.getElem?_eq_getElem hi, he])
  rw [e, ltS_irr] at this
  cases this
theorem goB_zero (m : Meas) (f : Fld) (h : f.name ≠ m.name) : ∀ b, goB m f b = 0
  | [] => rfl
  | g :: r => by rw [goB, gain, if_neg (fun e => h e.1), goB_zero m f h r]; rfl
theorem goB_none (m : Meas) (f : Fld) : ∀ b : List Fld, (∀ g ∈ b, g.name ≠ m.name) → goB m f b = 0
  | [], _ => rfl
  | g :: r, h => by rw [goB, gain, if_neg (fun e => h g (by simp) e.2.1), goB_none m f r (fun x hx => h x (by simp [hx]))]; rfl
theorem goB_some (m : Meas) (f g : Fld) (hf : f.name = m.name) (hg : g.name = m.name) : ∀ b : List Fld, Rising b → g ∈ b → goB m f b = if fits m f g = true then m.pts else 0
  | [], _, h => by cases h
  | x :: r, hr, h => by
    rw [goB]
    rcases List.mem_cons.1 h with rfl | h'
    · rw [goB_none m f r (fun y hy => by rw [← hg]; exact hr.head hy), gain]
      by_cases hfit : fits m f g = true
      · rw [if_pos ⟨hf, hg, hfit⟩, if_pos hfit]; omega
      · rw [if_neg (fun e => hfit e.2.2), if_neg hfit]; rfl
    · have hx : x.name ≠ m.name := fun e => hr.head h' (hg.trans e.symm)
      rw [gain, if_neg (fun e => hx e.2.1), goB_some m f g hf hg r hr.tail h']
      omega
theorem goA_none (m : Meas) (b : List Fld) : ∀ a : List Fld, (∀ f ∈ a, f.name ≠ m.name) → goA m b a = 0
  | [], _ => rfl
  | f :: r, h => by rw [goA, goB_zero m f (h f (by simp)), goA_none m b r (fun x hx => h x (by simp [hx]))]; rfl
theorem goA_noneB (m : Meas) (b : List Fld) (h : ∀ g ∈ b, g.name ≠ m.name) : ∀ a : List Fld, goA m b a = 0
  | [] => rfl
  | f :: r => by rw [goA, goB_none m f b h, goA_noneB m b h r]; rfl
theorem goA_some (m : Meas) (b : List Fld) (f : Fld) (hf : f.name = m.name) : ∀ a : List Fld, Rising a → f ∈ a → goA m b a = goB m f b
  | [], _, h => by cases h
  | x :: r, hr, h => by
    rw [goA]
    rcases List.mem_cons.1 h with rfl | h'
    · rw [goA_none m b r (fun y hy => by rw [← hf]; exact hr.head hy)]; omega
    · have hx : x.name ≠ m.name := fun e => hr.head h' (hf.trans e.symm)
      rw [goB_zero m x hx, goA_some m b f hf r hr.tail h']; omega
/-- what two found fields give -/
def addOf (m : Meas) (o1 o2 : Option Fld) : Int := match o1, o2 with | some f, some g => if fits m f g = true then m.pts else 0 | _, _ => 0
theorem goA_finds (m : Meas) (a b : List Fld) (ha : Rising a) (hb : Rising b) (o1 o2 : Option Fld) (h1 : FindsTo a m.name o1) (h2 : FindsTo b m.name o2) : goA m b a = addOf m o1 o2 := by
  rcases o1 with _ | f
  · rw [goA_none m b a (h1.2 rfl)]; rfl
  · obtain ⟨hfa, hf⟩ := h1.1 f rfl
    rw [goA_some m b f hf a ha hfa]
    rcases o2 with _ | g
    · rw [goB_none m f b (h2.2 rfl)]; rfl
    · obtain ⟨hgb, hg⟩ := h2.1 g rfl
      rw [goB_some m f g hf hg b hb hgb]; rfl
theorem measGo_ok : ∀ l : List Meas, measGo l = 0 → ∀ m ∈ l, (m.how ≠ 1 → 1 ≤ m.far ∧ m.far ≤ 20) ∧ -1000 ≤ m.pts ∧ m.pts ≤ 1000
  | [], _ => fun _ h => by cases h
  | x :: r, h => fun m hm => by
    rw [measGo] at h
    by_cases c1 : L.isKey x.name = false
    · rw [if_pos c1] at h; cases h
    rw [if_neg c1] at h
    by_cases c2 : ¬ (1 ≤ x.how ∧ x.how ≤ 3)
    · rw [if_pos c2] at h; cases h
    rw [if_neg c2] at h
    by_cases c3 : ¬ ((if x.how = 1 then x.far = 0 else 1 ≤ x.far ∧ x.far ≤ 20) ∧ (-1000 ≤ x.pts ∧ x.pts ≤ 1000))
    · rw [if_pos c3] at h; cases h
    rw [if_neg c3] at h
    have h3 := Classical.not_not.1 c3
    rcases List.mem_cons.1 hm with rfl | hm
    · refine ⟨fun h1 => ?_, h3.2⟩
      have := h3.1
      rw [if_neg h1] at this
      exact this
    · exact measGo_ok r h m hm
theorem meas_ok {l : List Meas} (h : measFault l = 0) : l.length ≤ 20 ∧ ∀ m ∈ l, (m.how ≠ 1 → 1 ≤ m.far ∧ m.far ≤ 20) ∧ -1000 ≤ m.pts ∧ m.pts ≤ 1000 := by
  unfold measFault at h
  split at h
  · cases h
  split at h
  · cases h
  exact ⟨by omega, measGo_ok l h⟩
theorem value_ok {k n : Int} {t : ByteArray} (h : valueFault k t n = 0) : t.size ≤ 200 := by
  have hnil : t.toList = [] → t.size ≤ 200 := fun e => by
    rw [toList_nil_iff_emptyBytes] at e
    rw [e]
    simp
  unfold valueFault at h
  repeat' split at h
  all_goals first
    | (cases h; done)
    | (refine hnil ?_; simp_all; done)
    | (unfold textFault at h
       by_cases c : 200 < t.size
       · rw [if_pos c] at h; cases h
       · omega)
theorem bytes_tri : ∀ x y : List UInt8, Op.bytesLess y x = false → (y == x) = false → Op.bytesLess x y = true
  | [], [], _, h => by simp at h
  | [], _ :: _, _, _ => by simp [Op.bytesLess]
  | _ :: _, [], h, _ => by simp [Op.bytesLess] at h
  | a :: x, b :: y, h1, h2 => by
    simp only [Op.bytesLess, Bool.or_eq_false_iff, decide_eq_false_iff_not, Bool.and_eq_false_iff] at h1
    simp only [Op.bytesLess, Bool.or_eq_true, decide_eq_true_eq, Bool.and_eq_true, beq_iff_eq]
    by_cases hab : a < b
    · exact .inl hab
    · have e : a = b := UInt8.le_antisymm (UInt8.not_lt.1 h1.1) (UInt8.not_lt.1 hab)
      subst e
      refine .inr ⟨rfl, bytes_tri x y ?_ ?_⟩
      · rcases h1.2 with h | h
        · simp at h
        · exact h
      · simpa using h2
theorem ltS_of_not_le {a b : ByteArray} (h : leS b a = false) : ltS a b = true := by
  unfold leS at h
  simp only [Bool.or_eq_false_iff] at h
  exact bytes_tri _ _ h.1 h.2
theorem fldsGo_ok : ∀ (l : List Fld) (p : Option ByteArray), fldsGo p l = 0 → (∀ f ∈ l, f.text.size ≤ 200) ∧ (∀ q, p = some q → ∀ f ∈ l, ltS q f.name = true) ∧ Rising l
  | [], _, _ => ⟨(fun _ h => by cases h), (fun _ _ _ h => by cases h), (fun _ _ _ _ _ h => by simp at h)⟩
  | x :: r, p, h => by
    rw [fldsGo] at h
    split at h
    · cases h
    split at h
    · rename_i h2; exact absurd h h2
    rename_i h2
    split at h
    · cases h
    rename_i h3
    have h2 := Classical.not_not.1 h2
    obtain ⟨i1, i2, i3⟩ := fldsGo_ok r _ h
    have hp : ∀ q, p = some q → ltS q x.name = true := fun q hq => by
      subst hq
      exact ltS_of_not_le (by simpa using h3)
    refine ⟨fun f hf => ?_, fun q hq f hf => ?_, fun i j f g hij hf hg => ?_⟩
    · rcases List.mem_cons.1 hf with rfl | hf
      · exact value_ok h2
      · exact i1 f hf
    · rcases List.mem_cons.1 hf with rfl | hf
      · exact hp q hq
      · exact ltS_trans (hp q hq) (i2 _ rfl f hf)
    · cases j with
      | zero => omega
      | succ j =>
        have hg : r[j]? = some g := by simpa using hg
        cases i with
        | zero =>
          obtain rfl : x = f := by simpa using hf
          exact i2 _ rfl g (List.mem_of_getElem? hg)
        | succ i => exact i3 i j f g (by omega) (by simpa using hf) hg
theorem flds_ok {l : List Fld} (h : fldsFault l = 0) : l.length ≤ 30 ∧ (∀ f ∈ l, f.text.size ≤ 200) ∧ Rising l := by
  unfold fldsFault at h
  split at h
  · cases h
  obtain ⟨h1, _, h3⟩ := fldsGo_ok l _ h
  exact ⟨by omega, h1, h3⟩
end Go.Proofs.YtcbpajhlollcbaaDoor
