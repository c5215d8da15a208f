/- What the generator SendRules makes. -/
import Derived.Test.YtneopbbafdmpkaaDoorFacts
import Derived.Test.YtneopbbafdmpkaaDoorSendRules
import Derived.Test.YtneopbbafdmpkaaDoorGenZone
import Derived.Deep.DeepCutAuto
namespace Go.Proofs.YtneopbbafdmpkaaDoor
open Go.RowKit
def IsNest (T : TypeId) (B n : Nat) (P : Value → World → Prop) (v : Value) (w : World) : Prop := ∃ (blk : Nat) (vs : List Value), vs.length = n ∧ v = .slice (some ⟨blk, 0, none⟩) n n ∧ LV w blk vs.toArray T ∧ B ≤ blk ∧ ∀ u ∈ vs, P u w
def IsAt (T : TypeId) (B : Nat) (P : Value → World → Prop) (v : Value) (w : World) : Prop := ∃ (blk k : Nat) (vs : List Value), k < vs.length ∧ v = .pointer (some ⟨blk, k, none⟩) ∧ LV w blk vs.toArray T ∧ B ≤ blk ∧ ∀ u ∈ vs, P u w
def PI (B : Nat) (u : Value) (w : World) : Prop := ∃ zs : List Int, zs.length ≤ 4 ∧ IsInts B u zs w
def PS (B : Nat) (u : Value) (w : World) : Prop := ∃ zs : List ByteArray, zs.length ≤ 2 ∧ (∀ s ∈ zs, s.size ≤ 10) ∧ IsStrs B u zs w
theorem PI.keep {b B : Nat} {u : Value} {w w' : World} (h : PI B u w) (k : SK b w w') (hb : b < B) : PI B u w' := by obtain ⟨zs, h1, h2⟩ := h; exact ⟨zs, h1, h2.keep k hb⟩
theorem PS.keep {b B : Nat} {u : Value} {w w' : World} (h : PS B u w) (k : SK b w w') (hb : b < B) : PS B u w' := by obtain ⟨zs, h1, h2, h3⟩ := h; exact ⟨zs, h1, h2, h3.keep k hb⟩
theorem PI.form {B : Nat} {u : Value} {w : World} (h : PI B u w) : ∃ A n c, u = .slice A n c := by
  obtain ⟨zs, _, ⟨_, rfl⟩ | ⟨blk, rfl, _⟩⟩ := h
  · exact ⟨_, _, _, rfl⟩
  · exact ⟨_, _, _, rfl⟩
theorem PS.form {B : Nat} {u : Value} {w : World} (h : PS B u w) : ∃ A n c, u = .slice A n c := by
  obtain ⟨zs, _, _, ⟨_, rfl⟩ | ⟨blk, rfl, _⟩⟩ := h
  · exact ⟨_, _, _, rfl⟩
  · exact ⟨_, _, _, rfl⟩
theorem IsNest.keep {T : TypeId} {b B n : Nat} {P : Value → World → Prop} {v : Value} {w w' : World} (hP : ∀ u, P u w → P u w') (h : IsNest T B n P v w) (k : SK b w w') (hb : b < B) : IsNest T B n P v w' := by
  obtain ⟨blk, vs, h1, h2, h3, h4, h5⟩ := h
  exact ⟨blk, vs, h1, h2, h3.keep k (by omega), h4, fun u hu => hP u (h5 u hu)⟩
theorem IsAt.keep {T : TypeId} {b B : Nat} {P : Value → World → Prop} {v : Value} {w w' : World} (hP : ∀ u, P u w → P u w') (h : IsAt T B P v w) (k : SK b w w') (hb : b < B) : IsAt T B P v w' := by
  obtain ⟨blk, i, vs, h1, h2, h3, h4, h5⟩ := h
  exact ⟨blk, i, vs, h1, h2, h3.keep k (by omega), h4, fun u hu => hP u (h5 u hu)⟩
def PRul (B : Nat) (v : Value) (w : World) : Prop := ∃ (vq vr : Value) (qf qo : Int), v = .agg #[vq, .int .i64 qf, .int .i64 qo, vr, .slice none 0 0, .slice none 0 0, .slice none 0 0] ∧ PI B vq w ∧ PS B vr w
def zeroR : Array Value := #[.slice none 0 0, .int .i64 0, .int .i64 0, .slice none 0 0, .slice none 0 0, .slice none 0 0, .slice none 0 0]
def rulFact (B : Nat) (i : Nat) (v : Value) (w : World) : Prop :=
  match i with
  | 0 => IsLit B [1] v w
  | 1 => IsLit B [1, 2] v w
  | 2 => IsLit B [1, 2, 3, 4] v w
  | 3 => IsNest 22 B 4 (PI B) v w
  | 5 => IsI 0 3 v
  | 6 => IsAt 22 B (PI B) v w
  | 7 => PI B v w
  | 9 => IsLit B [0, 20, 1200, 5] v w
  | 10 => IsI 0 1200 v
  | 12 => IsLit B [0, 30, 10, 480] v w
  | 13 => IsI 0 480 v
  | 14 => IsLitS B [⟨#[115, 97, 108, 101]⟩] v w
  | 15 => IsLitS B [⟨#[110, 101, 119, 115]⟩, ⟨#[98, 105, 108, 108]⟩] v w
  | 16 => IsNest 26 B 3 (PS B) v w
  | 18 => IsI 0 2 v
  | 19 => IsAt 26 B (PS B) v w
  | 20 => PS B v w
  | 21 => PRul B v w
  | 22 => IsNew B zeroR 30 v w
  | _ => True
theorem rulFact_keep {b B : Nat} (hb : b < B) (i : Nat) (v : Value) (w w' : World) (k : SK b w w') (h : rulFact B i v w) : rulFact B i v w' := by
  unfold rulFact at *
  split at h
  · exact h.keep k hb
  · exact h.keep k hb
  · exact h.keep k hb
  · exact h.keep (fun u hu => hu.keep k hb) k hb
  · exact h
  · exact h.keep (fun u hu => hu.keep k hb) k hb
  · exact h.keep k hb
  · exact h.keep k hb
  · exact h
  · exact h.keep k hb
  · exact h
  · exact h.keep k hb
  · exact h.keep k hb
  · exact h.keep (fun u hu => hu.keep k hb) k hb
  · exact h
  · exact h.keep (fun u hu => hu.keep k hb) k hb
  · exact h.keep k hb
  · obtain ⟨vq, vr, qf, qo, e, h1, h2⟩ := h
    exact ⟨vq, vr, qf, qo, e, h1.keep k hb, h2.keep k hb⟩
  · exact h.keep k hb
  · exact h
/-- a result that lies in memory -/
theorem results_cell1 {P : Program} {fn : Func} {t : Tmp} {T : TypeId} {a : Addr} {v : Value} {w : World} {tmps : Array Value} (h : fn.results = #[.cell t T]) (hp : tmps.getD t undef = .pointer (some a)) (hl : (loadVar T a).run P w = .ok v w) : (results fn tmps).run P w = .ok v w := by
  have hp' : tmps[t]?.getD undef = .pointer (some a) := by simpa using hp
  simp [results, h, asAddr, hp', hl]
theorem load7 {w : World} {X : Nat} {a0 a1 a2 a3 a4 a5 a6 : Value} (h : LV w X #[a0, a1, a2, a3, a4, a5, a6] 30) : (loadVar 30 ⟨X, 0, none⟩).run Tryd.prog w = .ok (.agg #[a0, a1, a2, a3, a4, a5, a6]) w := by
  have c0 := h.cell 0 _ rfl
  have c1 := h.cell 1 _ rfl
  have c2 := h.cell 2 _ rfl
  have c3 := h.cell 3 _ rfl
  have c4 := h.cell 4 _ rfl
  have c5 := h.cell 5 _ rfl
  have c6 := h.cell 6 _ rfl
  simp only [List.getElem_toArray, List.getElem_cons_zero, List.getElem_cons_succ] at c0 c1 c2 c3 c4 c5 c6
  simp [go_sem, c0, c1, c2, c3, c4, c5, c6]
theorem Own.sl {α : Type} {r : Rep α} {N : Nat → Prop} {B E : Nat} {w : World} {v : Value} {xs : List α} (h : Own r N B E w v xs) : ∃ A n c, v = .slice A n c := by
  obtain ⟨A, c, e⟩ := h.len
  exact ⟨A, _, c, e⟩
theorem tyCap : STy 27 63 rCap.size 40 (.agg #[.int .i64 0, .string ⟨#[]⟩, .int .i64 0, .int .i64 0]) := ⟨Tryd.underlying27, by kernel_rfl, rfl, by decide⟩
theorem tyPool : STy 28 36 rPool.size 64 (.agg #[.string ⟨#[]⟩, .int .i64 0, .int .i64 0, .int .i64 0, .slice none 0 0]) := ⟨Tryd.underlying28, by kernel_rfl, rfl, by decide⟩
theorem tyInt : STy 22 3 rInt.size 8 (.int .i64 0) := ⟨Tryd.underlying22, by kernel_rfl, rfl, by decide⟩
theorem oneCap (m : SCap) : ∀ u ∈ m.cells, u.oneCell' = true := fun u hu => by
  simp only [SCap.cells, List.mem_cons, List.not_mem_nil, or_false] at hu
  rcases hu with rfl | rfl | rfl | rfl <;> rfl
theorem onePool (m : SPool) (A : Option Addr) (n c : Nat) : ∀ u ∈ m.cells ++ [.slice A n c], u.oneCell' = true := fun u hu => by
  simp only [SPool.cells, List.cons_append, List.nil_append, List.mem_cons, List.not_mem_nil, or_false] at hu
  rcases hu with rfl | rfl | rfl | rfl | rfl <;> rfl
theorem oneInt (n : Int) : ∀ u ∈ [Value.int .i64 n], u.oneCell' = true := fun u hu => by
  rw [List.mem_singleton.1 hu]; rfl
/-- the pieces of memory while rules are made -/
abbrev RL (B R Z : Nat) (vq : Value) (qf qo : Int) (vr vc vp vd : Value) (zs : List Int) (ss : List ByteArray) (cs : List SCap) (ps : List SPool) (ds : List Int) : List Chunk :=
  [.loc R zeroR 30, .loc Z #[vq, .int .i64 qf, .int .i64 qo, vr, vc, vp, vd] 30, .own rInt B 3 vq zs, .own rStr B 9 vr ss, .own rCap B 63 vc cs, .own rPool B 36 vp ps, .own rInt B 3 vd ds]
abbrev RLT (B Z : Nat) (vq : Value) (qf qo : Int) (vr vc vp vd : Value) (zs : List Int) (ss : List ByteArray) (cs : List SCap) (ps : List SPool) (ds : List Int) : List Chunk :=
  [.loc Z #[vq, .int .i64 qf, .int .i64 qo, vr, vc, vp, vd] 30, .own rInt B 3 vq zs, .own rStr B 9 vr ss, .own rCap B 63 vc cs, .own rPool B 36 vp ps, .own rInt B 3 vd ds]
/-- rules are made -/
def DrawsRules (b m : Nat) (w : World) (e : Ending) (w' : World) : Prop := ∃ (r : SRules) (Aq Ar Ac Ap Ad : Option Addr) (cq cr cc cpp cd : Nat),
  e = .returned (.agg #[.slice Aq r.quiet.length cq, .int .i64 r.qfrom, .int .i64 r.qto, .slice Ar r.ranks.length cr, .slice Ac r.caps.length cc, .slice Ap r.pools.length cpp, .slice Ad r.delays.length cd]) ∧
  RulesIn (Lt w.heap.size) w' r Aq Ar Ac Ap Ad ∧ RulesOk r ∧ (r.ranks.length ≤ cr ∧ r.pools.length ≤ cpp) ∧ r.pools.length ≤ 4 ∧ G b m w w'
/-- small rules -/
structure RSmall (zs : List Int) (ss : List ByteArray) (cs : List SCap) (ps : List SPool) (ds : List Int) : Prop where
  z : zs.length ≤ 4
  s : ss.length ≤ 2
  s' : ∀ s ∈ ss, s.size ≤ 10
  c : cs.length ≤ 3
  c' : ∀ c ∈ cs, c.purpose.size ≤ 10
  p : ps.length ≤ 4
  p' : ∀ p ∈ ps, p.name.size ≤ 20 ∧ p.warm.length ≤ 2
  d : ds.length ≤ 13
theorem rules_out {b m : Nat} {w w' : World} {vq vr vc vp vd : Value} {qf qo : Int} {zs : List Int} {ss : List ByteArray} {cs : List SCap} {ps : List SPool} {ds : List Int} (g : G b m w w') (h : RSmall zs ss cs ps ds)
    (o1 : Own rInt (Lt w.heap.size) w.heap.size 3 w' vq zs) (o2 : Own rStr (Lt w.heap.size) w.heap.size 9 w' vr ss) (o3 : Own rCap (Lt w.heap.size) w.heap.size 63 w' vc cs) (o4 : Own rPool (Lt w.heap.size) w.heap.size 36 w' vp ps) (o5 : Own rInt (Lt w.heap.size) w.heap.size 3 w' vd ds) :
    DrawsRules b m w (.returned (.agg #[vq, .int .i64 qf, .int .i64 qo, vr, vc, vp, vd])) w' := by
  have hb : ∀ k, w.heap.size ≤ k → ¬ Lt w.heap.size k := fun k h1 h2 => by unfold Lt at h2; omega
  obtain ⟨A1, c1, rfl, _, s1⟩ := o1.toSlC hb
  obtain ⟨A2, c2, rfl, l2, s2⟩ := o2.toSlC hb
  obtain ⟨A3, c3, rfl, _, s3⟩ := o3.toSlC hb
  obtain ⟨A4, c4, rfl, l4, s4⟩ := o4.toSlC hb
  obtain ⟨A5, c5, rfl, _, s5⟩ := o5.toSlC hb
  have h1 := h.z
  have h2 := h.s
  have h3 := h.c
  have h4 := h.p
  have h5 := h.d
  exact ⟨⟨zs, qf, qo, ss, cs, ps, ds⟩, A1, A2, A3, A4, A5, c1, c2, c3, c4, c5, rfl, ⟨s1, s2, s3, s4, s5⟩, ⟨by show zs.length ≤ _; omega, by show ss.length ≤ _; omega, by show cs.length ≤ _; omega, by show ps.length ≤ _; omega, by show ds.length ≤ _; omega, fun s hs => Nat.le_trans (h.s' s hs) (by omega), fun s hs => Nat.le_trans (h.c' s hs) (by omega), fun s hs => ⟨Nat.le_trans (h.p' s hs).1 (by omega), Nat.le_trans (h.p' s hs).2 (by omega)⟩⟩, ⟨l2, l4⟩, h4, g⟩
theorem pools_snoc {xs : List SPool} {x : SPool} (h : ∀ p ∈ xs, p.name.size ≤ 20 ∧ p.warm.length ≤ 2) (hx : x.name.size ≤ 20 ∧ x.warm.length ≤ 2) : ∀ p ∈ xs ++ [x], p.name.size ≤ 20 ∧ p.warm.length ≤ 2 := fun m hm => by
  rcases List.mem_append.1 hm with h' | h'
  · exact h m h'
  · rw [List.mem_singleton.1 h']; exact hx
def capFact (B : Nat) (i : Nat) (v : Value) (w : World) : Prop :=
  match i with
  | 3 => IsLit B [0, 0, 1, 2] v w
  | 4 => IsI 0 2 v
  | 6 => IsLitS B [⟨#[]⟩, ⟨#[]⟩, ⟨#[110, 101, 119, 115]⟩] v w
  | 7 => IsS 10 v
  | 9 => IsLit B [1, 1, 2] v w
  | 10 => IsI 1 2 v
  | 12 => IsLit B [1, 5, 20, 2000] v w
  | 13 => IsI 1 2000 v
  | 14 => ∃ c : SCap, v = .agg c.cells.toArray ∧ c.purpose.size ≤ 10
  | _ => True
theorem capFact_keep {b B : Nat} (hb : b < B) (i : Nat) (v : Value) (w w' : World) (k : SK b w w') (h : capFact B i v w) : capFact B i v w' := by
  unfold capFact at *
  split at h
  · exact h.keep k hb
  · exact h
  · exact h.keep k hb
  · exact h
  · exact h.keep k hb
  · exact h
  · exact h.keep k hb
  · exact h
  · exact h
  · exact h
def cap2Fact (B : Nat) (i : Nat) (v : Value) (w : World) : Prop :=
  match i with
  | 3 => ∃ n : Int, v = .int .i64 n
  | 5 => IsLitS B [⟨#[]⟩, ⟨#[78]⟩] v w
  | 6 => IsS 10 v
  | 8 => ∃ n : Int, v = .int .i64 n
  | 10 => ∃ n : Int, v = .int .i64 n
  | 11 => ∃ c : SCap, v = .agg c.cells.toArray ∧ c.purpose.size ≤ 10
  | _ => True
theorem cap2Fact_keep {b B : Nat} (hb : b < B) (i : Nat) (v : Value) (w w' : World) (k : SK b w w') (h : cap2Fact B i v w) : cap2Fact B i v w' := by
  unfold cap2Fact at *
  split at h
  · exact h
  · exact h.keep k hb
  · exact h
  · exact h
  · exact h
  · exact h
  · exact h
theorem caps_snoc {xs : List SCap} {x : SCap} (h : ∀ m ∈ xs, m.purpose.size ≤ 10) (hx : x.purpose.size ≤ 10) : ∀ m ∈ xs ++ [x], m.purpose.size ≤ 10 := fun m hm => by
  rcases List.mem_append.1 hm with h' | h'
  · exact h m h'
  · rw [List.mem_singleton.1 h']; exact hx
def q0Fact (B Z : Nat) (i : Nat) (v : Value) (w : World) : Prop :=
  match i with
  | 0 => IsLit B [2, 1] v w
  | 1 => IsLit B [0] v w
  | 2 => IsLit B [5] v w
  | 3 => IsNest 22 B 3 (PI B) v w
  | 5 => IsI 0 2 v
  | 6 => IsAt 22 B (PI B) v w
  | 7 => PI B v w
  | 9 => ∃ n : Int, v = .int .i64 n
  | 10 => v = .pointer (some ⟨Z, 0, none⟩)
  | _ => True
theorem q0Fact_keep {b B Z : Nat} (hb : b < B) (i : Nat) (v : Value) (w w' : World) (k : SK b w w') (h : q0Fact B Z i v w) : q0Fact B Z i v w' := by
  unfold q0Fact at *
  split at h
  · exact h.keep k hb
  · exact h.keep k hb
  · exact h.keep k hb
  · exact h.keep (fun u hu => hu.keep k hb) k hb
  · exact h
  · exact h.keep (fun u hu => hu.keep k hb) k hb
  · exact h.keep k hb
  · exact h
  · exact h
  · exact h
set_option maxHeartbeats 4000000 in
set_option maxRecDepth 100000 in
theorem sendRules_any (b m : Nat) (w : World) (hs : Strm b m w) (hm : m ≤ 100000000) :
    Calls Tryd.prog 5 #[.pointer (some ⟨b, 0, none⟩)] w (DrawsRules b (m + 400) w) := by
  have S := (St.start hs).new' zeroR 30
  clear hs
  go_enter Tryd.func5, Tryd.ntmps5
  go_wp2_with fail
  obtain ⟨R, hR⟩ : ∃ R, R = w.heap.size := ⟨_, rfl⟩
  generalize hW : w.alloc (.cells #[.slice none 0 0, .int .i64 0, .int .i64 0, .slice none 0 0, .slice none 0 0, .slice none 0 0, .slice none 0 0] 30) = W at *
  have S2 : St b m w W [.loc R zeroR 30] := by rw [← hW, hR]; exact S
  clear S
  have S := S2
  clear S2 hW
  refine wp_region_mixG 23 (fun _ => True) [.q 4, .q 8, .q 11, .q 17, .f [0, 1, 2, 3, 5, 6, 7, 9, 10, 12, 13, 14, 15, 16, 18, 19, 20, 21, 22], .e 23] (by kernel_rfl) (by kernel_rfl) (fun _ _ => trivial) (fun KK hKK wd hd => ?_)
  replace S := S.below (hd.below _)
  have hbd : b < wd.heap.size := Nat.lt_of_lt_of_le S.b0 S.g.size
  clear hd
  repeat (refine mixG_p rfl (fun K hK => ?_); go_simp; (try go_bits); (try simp (disch := omega) only [if_pos]); (try simp (disch := omega) only [if_neg]); (try simp (disch := omega) only [dif_pos]); (try simp (disch := omega) only [dif_neg]); (try go_simp); (refine hK _ ?_; clear hK K))
  refine free_plan [(0, 6, []), (1, 7, []), (2, 8, []), (3, 9, [(0, 6), (1, 7), (2, 8)]), (5, 11, []), (6, 12, [(3, 9), (5, 11)]), (7, 13, [(6, 12)]), (9, 15, []), (10, 16, [(5, 11), (9, 15)]), (12, 18, []), (13, 19, [(10, 16), (12, 18)]), (14, 20, []), (15, 21, []), (16, 22, [(14, 20), (15, 21)]), (18, 24, [(13, 19)]), (19, 25, [(16, 22), (18, 24)]), (20, 26, [(19, 25)]), (21, 27, [(7, 13), (10, 16), (13, 19), (20, 26)]), (22, 3, [])] rfl (by kernel_rfl) (fun c w' => G b (m + c) wd w') (SK b) (rulFact wd.heap.size) (G.start S.g.s) (fun _ _ _ => trivial) (fun x _ v w w' k h => rulFact_keep hbd x.1 v w w' k h) (by rfl) ?_ ?_
  · refine all_cons ?_ (all_cons ?_ (all_cons ?_ (all_cons ?_ (all_cons ?_ (all_cons ?_ (all_cons ?_ (all_cons ?_ (all_cons ?_ (all_cons ?_ (all_cons ?_ (all_cons ?_ (all_cons ?_ (all_cons ?_ (all_cons ?_ (all_cons ?_ (all_cons ?_ (all_cons ?_ (all_cons ?_ all_nil))))))))))))))))))
    all_goals (intro o ho c ν w2 hc hinv hp; cases ho; simp only [fillD, List.foldl_cons, List.foldl_nil]; simp only [List.length_cons, List.length_nil] at hc)
    --@dev
    · go_wp2_with fail
      first | exact ⟨_, rfl, (SK.refl _ _).alloc _, (hinv.alloc _).mono (by omega), w2.heap.size, rfl, LV.new _ _ _ _ rfl, hinv.size⟩ | exact ⟨(SK.refl _ _).alloc _, (hinv.alloc _).mono (by omega), w2.heap.size, rfl, LV.new _ _ _ _ rfl, hinv.size⟩
    · go_wp2_with fail
      first | exact ⟨_, rfl, (SK.refl _ _).alloc _, (hinv.alloc _).mono (by omega), w2.heap.size, rfl, LV.new _ _ _ _ rfl, hinv.size⟩ | exact ⟨(SK.refl _ _).alloc _, (hinv.alloc _).mono (by omega), w2.heap.size, rfl, LV.new _ _ _ _ rfl, hinv.size⟩
    · go_wp2_with fail
      first | exact ⟨_, rfl, (SK.refl _ _).alloc _, (hinv.alloc _).mono (by omega), w2.heap.size, rfl, LV.new _ _ _ _ rfl, hinv.size⟩ | exact ⟨(SK.refl _ _).alloc _, (hinv.alloc _).mono (by omega), w2.heap.size, rfl, LV.new _ _ _ _ rfl, hinv.size⟩
    · obtain ⟨b0, e0, l0, g0⟩ := (hp (0, 6) (by simp) : IsLit wd.heap.size [1] (ν 0) w2)
      obtain ⟨b1, e1, l1, g1⟩ := (hp (1, 7) (by simp) : IsLit wd.heap.size [1, 2] (ν 1) w2)
      obtain ⟨b2, e2, l2, g2⟩ := (hp (2, 8) (by simp) : IsLit wd.heap.size [1, 2, 3, 4] (ν 2) w2)
      simp only [e0, e1, e2, List.length_cons, List.length_nil]
      go_wp2_with fail
      first | exact ⟨_, rfl, (SK.refl _ _).alloc _, (hinv.alloc _).mono (by omega), w2.heap.size, _, rfl, rfl, LV.new _ _ _ _ rfl, hinv.size, all_cons ⟨[], by decide, .inl ⟨rfl, rfl⟩⟩ (all_cons ⟨[1], by decide, .inr (IsLit.keep ⟨b0, rfl, l0, g0⟩ ((SK.refl b _).alloc _) hbd)⟩ (all_cons ⟨[1, 2], by decide, .inr (IsLit.keep ⟨b1, rfl, l1, g1⟩ ((SK.refl b _).alloc _) hbd)⟩ (all_cons ⟨[1, 2, 3, 4], by decide, .inr (IsLit.keep ⟨b2, rfl, l2, g2⟩ ((SK.refl b _).alloc _) hbd)⟩ all_nil)))⟩ | exact ⟨(SK.refl _ _).alloc _, (hinv.alloc _).mono (by omega), w2.heap.size, _, rfl, rfl, LV.new _ _ _ _ rfl, hinv.size, all_cons ⟨[], by decide, .inl ⟨rfl, rfl⟩⟩ (all_cons ⟨[1], by decide, .inr (IsLit.keep ⟨b0, rfl, l0, g0⟩ ((SK.refl b _).alloc _) hbd)⟩ (all_cons ⟨[1, 2], by decide, .inr (IsLit.keep ⟨b1, rfl, l1, g1⟩ ((SK.refl b _).alloc _) hbd)⟩ (all_cons ⟨[1, 2, 3, 4], by decide, .inr (IsLit.keep ⟨b2, rfl, l2, g2⟩ ((SK.refl b _).alloc _) hbd)⟩ all_nil)))⟩
    · go_wp2_with fail
      ((with_reducible refine (next_any b _ _ _ hinv.s (by omega) (by omega) (by omega)).mono ?_); rintro e w3 ⟨r, r_lo, r_hi, rfl, hk_w3, hs_w3⟩)
      go_wp2_with fail
      refine ⟨_, rfl, hk_w3, (hinv.step hk_w3 hs_w3).mono (by omega), ?_⟩
      exact ⟨r, rfl, by omega, by omega⟩
    · obtain ⟨blk, vs, hl, e1, lv, hB, hP⟩ := (hp (3, 9) (by simp) : IsNest 22 wd.heap.size 4 (PI wd.heap.size) (ν 3) w2)
      obtain ⟨z, e2, z1, z2⟩ := (hp (5, 11) (by simp) : IsI 0 3 (ν 5))
      obtain ⟨q, rfl⟩ := Int.eq_ofNat_of_zero_le z1
      simp only [e1, e2]
      go_wp2_with fail
      first | exact ⟨_, rfl, SK.refl _ _, hinv.mono (by omega), blk, q, vs, by omega, by simp, lv, hB, hP⟩ | exact ⟨SK.refl _ _, hinv.mono (by omega), blk, q, vs, by omega, by simp, lv, hB, hP⟩
    · obtain ⟨blk, q, vs, hq, e1, lv, hB, hP⟩ := (hp (6, 12) (by simp) : IsAt 22 wd.heap.size (PI wd.heap.size) (ν 6) w2)
      have hPq := hP _ (List.getElem_mem hq)
      have hc : w2.cell? ⟨blk, q, none⟩ = some vs[q] := lv.cell q _ (by simp [List.getElem?_eq_getElem hq])
      obtain ⟨A, n, c, e2⟩ := hPq.form
      rw [e2] at hPq hc
      simp only [e1]
      go_wp2_with fail
      first | exact ⟨_, rfl, SK.refl _ _, hinv.mono (by omega), hPq⟩ | exact ⟨SK.refl _ _, hinv.mono (by omega), hPq⟩
    · go_wp2_with fail
      first | exact ⟨_, rfl, (SK.refl _ _).alloc _, (hinv.alloc _).mono (by omega), w2.heap.size, rfl, LV.new _ _ _ _ rfl, hinv.size⟩ | exact ⟨(SK.refl _ _).alloc _, (hinv.alloc _).mono (by omega), w2.heap.size, rfl, LV.new _ _ _ _ rfl, hinv.size⟩
    · have h7 : IsLit wd.heap.size [0, 20, 1200, 5] (ν 9) w2 := hp (9, 15) (by simp)
      go_wp2_with fail
      ((with_reducible refine (h7.pick hinv.s hbd (by simp) (by simp) (by omega)).mono ?_); rintro e w3 ⟨r, hr, rfl, hk_w3, hs_w3⟩)
      go_wp2_with fail
      refine ⟨_, rfl, hk_w3, (hinv.step hk_w3 hs_w3).mono (by omega), ?_⟩
      exact ⟨r, rfl, by simp at hr; omega, by simp at hr; omega⟩
    · go_wp2_with fail
      first | exact ⟨_, rfl, (SK.refl _ _).alloc _, (hinv.alloc _).mono (by omega), w2.heap.size, rfl, LV.new _ _ _ _ rfl, hinv.size⟩ | exact ⟨(SK.refl _ _).alloc _, (hinv.alloc _).mono (by omega), w2.heap.size, rfl, LV.new _ _ _ _ rfl, hinv.size⟩
    · have h7 : IsLit wd.heap.size [0, 30, 10, 480] (ν 12) w2 := hp (12, 18) (by simp)
      go_wp2_with fail
      ((with_reducible refine (h7.pick hinv.s hbd (by simp) (by simp) (by omega)).mono ?_); rintro e w3 ⟨r, hr, rfl, hk_w3, hs_w3⟩)
      go_wp2_with fail
      refine ⟨_, rfl, hk_w3, (hinv.step hk_w3 hs_w3).mono (by omega), ?_⟩
      exact ⟨r, rfl, by simp at hr; omega, by simp at hr; omega⟩
    · go_wp2_with fail
      first | exact ⟨_, rfl, (SK.refl _ _).alloc _, (hinv.alloc _).mono (by omega), w2.heap.size, rfl, LV.new _ _ _ _ rfl, hinv.size⟩ | exact ⟨(SK.refl _ _).alloc _, (hinv.alloc _).mono (by omega), w2.heap.size, rfl, LV.new _ _ _ _ rfl, hinv.size⟩
    · go_wp2_with fail
      first | exact ⟨_, rfl, (SK.refl _ _).alloc _, (hinv.alloc _).mono (by omega), w2.heap.size, rfl, LV.new _ _ _ _ rfl, hinv.size⟩ | exact ⟨(SK.refl _ _).alloc _, (hinv.alloc _).mono (by omega), w2.heap.size, rfl, LV.new _ _ _ _ rfl, hinv.size⟩
    · obtain ⟨b0, e0, l0, g0⟩ := (hp (14, 20) (by simp) : IsLitS wd.heap.size [⟨#[115, 97, 108, 101]⟩] (ν 14) w2)
      obtain ⟨b1, e1, l1, g1⟩ := (hp (15, 21) (by simp) : IsLitS wd.heap.size [⟨#[110, 101, 119, 115]⟩, ⟨#[98, 105, 108, 108]⟩] (ν 15) w2)
      simp only [e0, e1, List.length_cons, List.length_nil]
      go_wp2_with fail
      first | exact ⟨_, rfl, (SK.refl _ _).alloc _, (hinv.alloc _).mono (by omega), w2.heap.size, _, rfl, rfl, LV.new _ _ _ _ rfl, hinv.size, all_cons ⟨[], by decide, by decide, .inl ⟨rfl, rfl⟩⟩ (all_cons ⟨[⟨#[115, 97, 108, 101]⟩], by decide, by decide, .inr (IsLitS.keep ⟨b0, rfl, l0, g0⟩ ((SK.refl b _).alloc _) hbd)⟩ (all_cons ⟨[⟨#[110, 101, 119, 115]⟩, ⟨#[98, 105, 108, 108]⟩], by decide, by decide, .inr (IsLitS.keep ⟨b1, rfl, l1, g1⟩ ((SK.refl b _).alloc _) hbd)⟩ all_nil))⟩ | exact ⟨(SK.refl _ _).alloc _, (hinv.alloc _).mono (by omega), w2.heap.size, _, rfl, rfl, LV.new _ _ _ _ rfl, hinv.size, all_cons ⟨[], by decide, by decide, .inl ⟨rfl, rfl⟩⟩ (all_cons ⟨[⟨#[115, 97, 108, 101]⟩], by decide, by decide, .inr (IsLitS.keep ⟨b0, rfl, l0, g0⟩ ((SK.refl b _).alloc _) hbd)⟩ (all_cons ⟨[⟨#[110, 101, 119, 115]⟩, ⟨#[98, 105, 108, 108]⟩], by decide, by decide, .inr (IsLitS.keep ⟨b1, rfl, l1, g1⟩ ((SK.refl b _).alloc _) hbd)⟩ all_nil))⟩
    · go_wp2_with fail
      ((with_reducible refine (next_any b _ _ _ hinv.s (by omega) (by omega) (by omega)).mono ?_); rintro e w3 ⟨r, r_lo, r_hi, rfl, hk_w3, hs_w3⟩)
      go_wp2_with fail
      refine ⟨_, rfl, hk_w3, (hinv.step hk_w3 hs_w3).mono (by omega), ?_⟩
      exact ⟨r, rfl, by omega, by omega⟩
    · obtain ⟨blk, vs, hl, e1, lv, hB, hP⟩ := (hp (16, 22) (by simp) : IsNest 26 wd.heap.size 3 (PS wd.heap.size) (ν 16) w2)
      obtain ⟨z, e2, z1, z2⟩ := (hp (18, 24) (by simp) : IsI 0 2 (ν 18))
      obtain ⟨q, rfl⟩ := Int.eq_ofNat_of_zero_le z1
      simp only [e1, e2]
      go_wp2_with fail
      first | exact ⟨_, rfl, SK.refl _ _, hinv.mono (by omega), blk, q, vs, by omega, by simp, lv, hB, hP⟩ | exact ⟨SK.refl _ _, hinv.mono (by omega), blk, q, vs, by omega, by simp, lv, hB, hP⟩
    · obtain ⟨blk, q, vs, hq, e1, lv, hB, hP⟩ := (hp (19, 25) (by simp) : IsAt 26 wd.heap.size (PS wd.heap.size) (ν 19) w2)
      have hPq := hP _ (List.getElem_mem hq)
      have hc : w2.cell? ⟨blk, q, none⟩ = some vs[q] := lv.cell q _ (by simp [List.getElem?_eq_getElem hq])
      obtain ⟨A, n, c, e2⟩ := hPq.form
      rw [e2] at hPq hc
      simp only [e1]
      go_wp2_with fail
      first | exact ⟨_, rfl, SK.refl _ _, hinv.mono (by omega), hPq⟩ | exact ⟨SK.refl _ _, hinv.mono (by omega), hPq⟩
    · have h7 : PI wd.heap.size (ν 7) w2 := hp (7, 13) (by simp)
      obtain ⟨qf, e1, _⟩ := (hp (10, 16) (by simp) : IsI 0 1200 (ν 10))
      obtain ⟨qo, e2, _⟩ := (hp (13, 19) (by simp) : IsI 0 480 (ν 13))
      have h8 : PS wd.heap.size (ν 20) w2 := hp (20, 26) (by simp)
      obtain ⟨A, n, c, e3⟩ := h7.form
      obtain ⟨A2, n2, c2, e4⟩ := h8.form
      rw [e3] at h7
      rw [e4] at h8
      simp only [e1, e2, e3, e4]
      go_wp2_with fail
      first | exact ⟨_, rfl, SK.refl _ _, hinv.mono (by omega), _, _, qf, qo, rfl, h7, h8⟩ | exact ⟨SK.refl _ _, hinv.mono (by omega), _, _, qf, qo, rfl, h7, h8⟩
    · go_wp2_with fail
      first | exact ⟨_, rfl, (SK.refl _ _).alloc _, (hinv.alloc _).mono (by omega), w2.heap.size, rfl, LV.new _ _ _ _ rfl, hinv.size⟩ | exact ⟨(SK.refl _ _).alloc _, (hinv.alloc _).mono (by omega), w2.heap.size, rfl, LV.new _ _ _ _ rfl, hinv.size⟩
    --@enddev
  · intro ν w2 hinv hf
    obtain ⟨vq, vr, qf, qo, e21, ⟨zs, hzl, hzs⟩, ⟨ss, hsl, hss, hst⟩⟩ := (hf (21, 27, [(7, 13), (10, 16), (13, 19), (20, 26)]) (by simp) : PRul wd.heap.size (ν 21) w2)
    obtain ⟨Z, e22, lvZ, hZ⟩ := (hf (22, 3, []) (by simp) : IsNew wd.heap.size zeroR 30 (ν 22) w2)
    have hwd := S.g.size
    have o1 : ∀ M, Own rInt M w.heap.size 3 w2 vq zs := fun M => hzs.own hwd (by omega)
    have o2 : ∀ M, Own rStr M w.heap.size 9 w2 vr ss := fun M => hst.own hwd (by omega)
    replace S := S.callN hinv [.loc Z zeroR 30, .own rInt w.heap.size 3 vq zs, .own rStr w.heap.size 9 vr ss]
      (all_cons lvZ (all_cons (o1 _) (all_cons (o2 _) all_nil))) (all_cons (fun k e => by cases e; exact hZ) (all_cons hzs.ge (all_cons hst.ge all_nil)))
      (List.pairwise_cons.2 ⟨all_cons (fun k e1 e2 => by cases e1; exact (o1 (fun _ => True)).blkTag lvZ (by decide) _ e2 rfl) (all_cons (fun k e1 e2 => by cases e1; exact (o2 (fun _ => True)).blkTag lvZ (by decide) _ e2 rfl) all_nil),
        List.pairwise_cons.2 ⟨all_cons (fun k e1 => (o1 (fun _ => True)).blkTag2 (o2 (fun _ => True)) (by decide) k e1) all_nil, List.pairwise_cons.2 ⟨all_nil, List.Pairwise.nil⟩⟩⟩)
    clear o1 o2
    obtain ⟨A1, n1, c1, ev1⟩ := PI.form ⟨zs, hzl, hzs⟩
    obtain ⟨A2, n2, c2, ev2⟩ := PS.form ⟨ss, hsl, hss, hst⟩
    subst ev1 ev2
    simp only [fillD, List.map_cons, List.map_nil, List.foldl_cons, List.foldl_nil, e21, e22]
    clear hf hinv lvZ e21 e22 hzs hst
    generalize ν 0 = q0
    generalize ν 1 = q1
    generalize ν 2 = q2
    generalize ν 3 = q3
    generalize ν 5 = q5
    generalize ν 6 = q6
    generalize ν 7 = q7
    generalize ν 9 = q9
    generalize ν 10 = q10
    generalize ν 12 = q12
    generalize ν 13 = q13
    generalize ν 14 = q14
    generalize ν 15 = q15
    generalize ν 16 = q16
    generalize ν 18 = q18
    generalize ν 19 = q19
    generalize ν 20 = q20
    have lvX := S.lv 1 rfl
    have x0 : w2.cell? ⟨Z, 0, none⟩ = some (.slice none 0 0) := lvX.cell 0 _ rfl
    have x1 : w2.cell? ⟨Z, 1, none⟩ = some (.int .i64 0) := lvX.cell 1 _ rfl
    have x2 : w2.cell? ⟨Z, 2, none⟩ = some (.int .i64 0) := lvX.cell 2 _ rfl
    have x3 : w2.cell? ⟨Z, 3, none⟩ = some (.slice none 0 0) := lvX.cell 3 _ rfl
    have x4 : w2.cell? ⟨Z, 4, none⟩ = some (.slice none 0 0) := lvX.cell 4 _ rfl
    have x5 : w2.cell? ⟨Z, 5, none⟩ = some (.slice none 0 0) := lvX.cell 5 _ rfl
    have x6 : w2.cell? ⟨Z, 6, none⟩ = some (.slice none 0 0) := lvX.cell 6 _ rfl
    have f0 := lvX.free 0
    have f1 := lvX.free 1
    have f2 := lvX.free 2
    have f3 := lvX.free 3
    have f4 := lvX.free 4
    have f5 := lvX.free 5
    have f6 := lvX.free 6
    clear lvX
    refine mixG_l rfl rfl (fun K hK => ?_)
    go_wp2_with fail
    refine ⟨fun h => absurd rfl h, ?_⟩
    refine mixG_nil ?_
    simp only [Exit.then]
    refine hKK _ _ ?_
    have S2 : St b (m + 19) w (((((((w2.setCell ⟨Z, 0, none⟩ (.slice A1 n1 c1)).setCell ⟨Z, 1, none⟩ (.int .i64 qf)).setCell ⟨Z, 2, none⟩ (.int .i64 qo)).setCell ⟨Z, 3, none⟩ (.slice A2 n2 c2)).setCell ⟨Z, 4, none⟩ (.slice none 0 0)).setCell ⟨Z, 5, none⟩ (.slice none 0 0)).setCell ⟨Z, 6, none⟩ (.slice none 0 0)) (RL w.heap.size R Z (.slice A1 n1 c1) qf qo (.slice A2 n2 c2) (.slice none 0 0) (.slice none 0 0) (.slice none 0 0) zs ss [] [] []) :=
      ((((((((((S.set 1 0 (.slice A1 n1 c1) rfl).set 1 1 (.int .i64 qf) rfl).set 1 2 (.int .i64 qo) rfl).set 1 3 (.slice A2 n2 c2) rfl).set 1 4 (.slice none 0 0) rfl).set 1 5 (.slice none 0 0) rfl).set 1 6 (.slice none 0 0) rfl).nil rCap w.heap.size 63).nil rPool w.heap.size 36).nil rInt w.heap.size 3)
    clear x0 x1 x2 x3 x4 x5 x6 f0 f1 f2 f3 f4 f5 f6 S
    generalize ((((((w2.setCell ⟨Z, 0, none⟩ (.slice A1 n1 c1)).setCell ⟨Z, 1, none⟩ (.int .i64 qf)).setCell ⟨Z, 2, none⟩ (.int .i64 qo)).setCell ⟨Z, 3, none⟩ (.slice A2 n2 c2)).setCell ⟨Z, 4, none⟩ (.slice none 0 0)).setCell ⟨Z, 5, none⟩ (.slice none 0 0)).setCell ⟨Z, 6, none⟩ (.slice none 0 0) = w3 at *
    have S := S2
    clear S2
    generalize Value.slice A1 n1 c1 = vq at *
    generalize Value.slice A2 n2 c2 = vr at *
    go_wp2_with fail
    ((with_reducible refine (pick_le b _ _ _ (0) (2) S.g.s (by first | rfl | simp) (by first | rfl | simp) (intsIn_of (by decide)) (by simp) (by simp) (by omega)).mono ?_); rintro e w4 ⟨n3, n3_lo, n3_hi, rfl, hk_w4, hs_w4⟩)
    replace S := S.step hk_w4 hs_w4
    clear hk_w4 hs_w4
    obtain ⟨n, rfl⟩ := Int.eq_ofNat_of_zero_le (by omega : 0 ≤ n3)
    go_wp2_with fail
    go_loopw [31] (fun i wr => ∃ (k : Nat) (vc : Value) (cs : List SCap), k ≤ n ∧ i = .int .i64 k ∧ cs.length = k ∧ (∀ c ∈ cs, c.purpose.size ≤ 10) ∧ St b (m + 20 + 10 * k) w wr (RL w.heap.size R Z vq qf qo vr vc (.slice none 0 0) (.slice none 0 0) zs ss cs [] [])) (fun i _ => n - (intOf i).toNat)
    case atStart => exact ⟨0, _, [], by omega, rfl, rfl, (fun _ h => by cases h), S.mono (by omega)⟩
    case round =>
      clear S
      obtain ⟨k, vc, cs, hk, rfl, hcl, hcs, S⟩ := hrel
      have Hcl := Lib.hid hcl
      have Hcs := Lib.hid hcs
      have hck : cs.length ≤ 2 := by omega
      clear hcl hcs
      by_cases hkn : k < n
      · go_wp2_with fail
        have hZb : Z ≠ b := by have := S.ge 1 rfl; have := S.b0; omega
        refine wp_region_mixG 18 (fun wc => wc.cell? ⟨Z, 4, none⟩ = some vc) [.q 0, .q 1, .q 2, .q 5, .q 8, .q 11, .f [3, 4, 6, 7, 9, 10, 12, 13, 14], .e 15, .e 16, .q 17, .e 18] (by kernel_rfl) (by kernel_rfl) (fun _ hd => ((S.below (hd.below _)).lv 1 rfl).cell 4 _ rfl) (fun KK hKK wd hd => ?_)
        replace S := S.below (hd.below _)
        have hbd : b < wd.heap.size := Nat.lt_of_lt_of_le S.b0 S.g.size
        clear hd
        repeat (refine mixG_p rfl (fun K hK => ?_); go_simp; (try go_bits); (try simp (disch := omega) only [if_pos]); (try simp (disch := omega) only [if_neg]); (try simp (disch := omega) only [dif_pos]); (try simp (disch := omega) only [dif_neg]); (try go_simp); (refine hK _ ?_; clear hK K))
        refine mixG_load vc rfl rfl rfl rfl (fun _ => rfl) (fun _ h => h) ?_
        repeat (refine mixG_p rfl (fun K hK => ?_); go_simp; (try go_bits); (try simp (disch := omega) only [if_pos]); (try simp (disch := omega) only [if_neg]); (try simp (disch := omega) only [dif_pos]); (try simp (disch := omega) only [dif_neg]); (try go_simp); (refine hK _ ?_; clear hK K))
        refine free_plan [(3, 36, []), (4, 37, [(3, 36)]), (6, 39, []), (7, 40, [(4, 37), (6, 39)]), (9, 42, []), (10, 43, [(7, 40), (9, 42)]), (12, 45, []), (13, 46, [(10, 43), (12, 45)]), (14, 47, [(4, 37), (7, 40), (10, 43), (13, 46)])] rfl (by kernel_rfl) (fun c w' => G b (m + 20 + 10 * k + c) wd w') (SK b) (capFact wd.heap.size) (G.start S.g.s) (fun c w' h => ((S.lv 1 rfl).keep h.k hZb).cell 4 _ rfl) (fun x _ v w w' k h => capFact_keep hbd x.1 v w w' k h) (by rfl) ?_ ?_
        · refine all_cons ?_ (all_cons ?_ (all_cons ?_ (all_cons ?_ (all_cons ?_ (all_cons ?_ (all_cons ?_ (all_cons ?_ (all_cons ?_ all_nil))))))))
          all_goals (intro o ho c ν w2 hc hinv hp; cases ho; simp only [fillD, List.foldl_cons, List.foldl_nil]; simp only [List.length_cons, List.length_nil] at hc)
          --@dev
          · go_wp2_with fail
            first | exact ⟨_, rfl, (SK.refl _ _).alloc _, (hinv.alloc _).mono (by omega), w2.heap.size, rfl, LV.new _ _ _ _ rfl, hinv.size⟩ | exact ⟨(SK.refl _ _).alloc _, (hinv.alloc _).mono (by omega), w2.heap.size, rfl, LV.new _ _ _ _ rfl, hinv.size⟩
          · have h7 : IsLit wd.heap.size [0, 0, 1, 2] (ν 3) w2 := hp (3, 36) (by simp)
            go_wp2_with fail
            ((with_reducible refine (h7.pick hinv.s hbd (by simp) (by simp) (by omega)).mono ?_); rintro e w3 ⟨r, hr, rfl, hk_w3, hs_w3⟩)
            go_wp2_with fail
            refine ⟨_, rfl, hk_w3, (hinv.step hk_w3 hs_w3).mono (by omega), ?_⟩
            exact ⟨r, rfl, by simp at hr; omega, by simp at hr; omega⟩
          · go_wp2_with fail
            first | exact ⟨_, rfl, (SK.refl _ _).alloc _, (hinv.alloc _).mono (by omega), w2.heap.size, rfl, LV.new _ _ _ _ rfl, hinv.size⟩ | exact ⟨(SK.refl _ _).alloc _, (hinv.alloc _).mono (by omega), w2.heap.size, rfl, LV.new _ _ _ _ rfl, hinv.size⟩
          · have h7 : IsLitS wd.heap.size [⟨#[]⟩, ⟨#[]⟩, ⟨#[110, 101, 119, 115]⟩] (ν 6) w2 := hp (6, 39) (by simp)
            go_wp2_with fail
            ((with_reducible refine (h7.one hinv.s hbd (by simp) (by simp) (by omega)).mono ?_); rintro e w3 ⟨r, hr, rfl, hk_w3, hs_w3⟩)
            go_wp2_with fail
            refine ⟨_, rfl, hk_w3, (hinv.step hk_w3 hs_w3).mono (by omega), ?_⟩
            refine ⟨r, rfl, ?_⟩
            simp only [List.mem_cons, List.not_mem_nil, or_false] at hr
            rcases hr with rfl | rfl | rfl <;> decide
          · go_wp2_with fail
            first | exact ⟨_, rfl, (SK.refl _ _).alloc _, (hinv.alloc _).mono (by omega), w2.heap.size, rfl, LV.new _ _ _ _ rfl, hinv.size⟩ | exact ⟨(SK.refl _ _).alloc _, (hinv.alloc _).mono (by omega), w2.heap.size, rfl, LV.new _ _ _ _ rfl, hinv.size⟩
          · have h7 : IsLit wd.heap.size [1, 1, 2] (ν 9) w2 := hp (9, 42) (by simp)
            go_wp2_with fail
            ((with_reducible refine (h7.pick hinv.s hbd (by simp) (by simp) (by omega)).mono ?_); rintro e w3 ⟨r, hr, rfl, hk_w3, hs_w3⟩)
            go_wp2_with fail
            refine ⟨_, rfl, hk_w3, (hinv.step hk_w3 hs_w3).mono (by omega), ?_⟩
            exact ⟨r, rfl, by simp at hr; omega, by simp at hr; omega⟩
          · go_wp2_with fail
            first | exact ⟨_, rfl, (SK.refl _ _).alloc _, (hinv.alloc _).mono (by omega), w2.heap.size, rfl, LV.new _ _ _ _ rfl, hinv.size⟩ | exact ⟨(SK.refl _ _).alloc _, (hinv.alloc _).mono (by omega), w2.heap.size, rfl, LV.new _ _ _ _ rfl, hinv.size⟩
          · have h7 : IsLit wd.heap.size [1, 5, 20, 2000] (ν 12) w2 := hp (12, 45) (by simp)
            go_wp2_with fail
            ((with_reducible refine (h7.pick hinv.s hbd (by simp) (by simp) (by omega)).mono ?_); rintro e w3 ⟨r, hr, rfl, hk_w3, hs_w3⟩)
            go_wp2_with fail
            refine ⟨_, rfl, hk_w3, (hinv.step hk_w3 hs_w3).mono (by omega), ?_⟩
            exact ⟨r, rfl, by simp at hr; omega, by simp at hr; omega⟩
          · obtain ⟨x1, e1, _⟩ := (hp (4, 37) (by simp) : IsI 0 2 (ν 4))
            obtain ⟨x2, e2, hx2⟩ := (hp (7, 40) (by simp) : IsS 10 (ν 7))
            obtain ⟨x3, e3, _⟩ := (hp (10, 43) (by simp) : IsI 1 2 (ν 10))
            obtain ⟨x4, e4, _⟩ := (hp (13, 46) (by simp) : IsI 1 2000 (ν 13))
            simp only [e1, e2, e3, e4]
            go_wp2_with fail
            first | exact ⟨_, rfl, SK.refl _ _, hinv.mono (by omega), ⟨x1, x2, x3, x4⟩, rfl, hx2⟩ | exact ⟨SK.refl _ _, hinv.mono (by omega), ⟨x1, x2, x3, x4⟩, rfl, hx2⟩
          --@enddev
        · intro ν w2 hinv hf
          obtain ⟨y, e14, hy⟩ := (hf (14, 47, [(4, 37), (7, 40), (10, 43), (13, 46)]) (by simp) : ∃ c : SCap, ν 14 = .agg c.cells.toArray ∧ c.purpose.size ≤ 10)
          replace S := S.step hinv.k hinv.s
          simp only [fillD, List.map_cons, List.map_nil, List.foldl_cons, List.foldl_nil, e14]
          clear hf hinv e14
          generalize ν 3 = q3
          generalize ν 4 = q4
          generalize ν 6 = q6
          generalize ν 7 = q7
          generalize ν 9 = q9
          generalize ν 10 = q10
          generalize ν 12 = q12
          generalize ν 13 = q13
          obtain ⟨y1, y2, y3, y4⟩ := y
          simp only [SCap.cells]
          have hsz := S.g.size
          refine mixG_l rfl rfl (fun K hK => ?_)
          go_wp2_with fail
          have hCa : ∀ o, (w2.alloc o).cell? ⟨Z, 4, none⟩ = some vc := fun o => ((S.alloc o).lv 1 rfl).cell 4 _ rfl
          refine ⟨hCa _, ?_⟩
          refine mixG_l rfl rfl (fun K hK => ?_)
          refine S.app 4 rfl tyCap rfl _ _ rfl ⟨y1, y2, y3, y4⟩ 1 rfl rfl rfl (oneCap ⟨y1, y2, y3, y4⟩) hsz (by omega) (by decide) ?_
          intro v' w6 S6
          obtain ⟨A6, n6, c6, rfl⟩ := (S6.ow 4 rfl).sl
          have hCb : w6.cell? ⟨Z, 4, none⟩ = some vc := (S6.lv 1 rfl).cell 4 _ rfl
          have hCf : w6.frozen? ⟨Z, 4, none⟩ = false := (S6.lv 1 rfl).free 4
          go_wp2_with fail
          refine ⟨fun _ => hCb, ?_⟩
          repeat (refine mixG_p rfl (fun K hK => ?_); go_simp; (try go_bits); (try simp (disch := omega) only [if_pos]); (try simp (disch := omega) only [if_neg]); (try simp (disch := omega) only [dif_pos]); (try simp (disch := omega) only [dif_neg]); (try go_simp); (refine hK _ ?_; clear hK K))
          refine mixG_l rfl rfl (fun K hK => ?_)
          go_wp2_with fail
          refine ⟨fun h => absurd rfl h, ?_⟩
          refine mixG_nil ?_
          simp only [Exit.then]
          refine hKK _ _ ?_
          have S7 : St b (m + 20 + 10 * k + 9) w (w6.setCell ⟨Z, 4, none⟩ _) (RL w.heap.size R Z vq qf qo vr _ (.slice none 0 0) (.slice none 0 0) zs ss (cs ++ [⟨y1, y2, y3, y4⟩]) [] []) := S6.set 1 4 _ rfl
          go_wp2_with fail
          go_roundw
          case rel => exact ⟨k + 1, _, cs ++ [⟨y1, y2, y3, y4⟩], by omega, by go_num, by simp [Hcl.out], caps_snoc Hcs.out hy, S7.mono (show m + 20 + 10 * k + 9 ≤ m + 20 + 10 * (k + 1) by omega)⟩
          case measure => simp [intOf]; omega
      · have hcs2 := Hcs.out
        have Hcs := Lib.hid hcs2
        clear hcs2 Hcl
        go_wp2_with fail
        ((with_reducible refine (pick_le b _ _ _ (0) (3) S.g.s (by first | rfl | simp) (by first | rfl | simp) (intsIn_of (by decide)) (by simp) (by simp) (by omega)).mono ?_); rintro e w5 ⟨n4, n4_lo, n4_hi, rfl, hk_w5, hs_w5⟩)
        replace S := S.step hk_w5 hs_w5
        clear hk_w5 hs_w5
        obtain ⟨np, rfl⟩ := Int.eq_ofNat_of_zero_le (by omega : 0 ≤ n4)
        go_wp2_with fail
        go_loopw [55] (fun i wr => ∃ (j : Nat) (vp : Value) (ps : List SPool), j ≤ np ∧ i = .int .i64 j ∧ ps.length = j ∧ (∀ p ∈ ps, p.name.size ≤ 20 ∧ p.warm.length ≤ 2) ∧ St b (m + 60 + 20 * j) w wr (RL w.heap.size R Z vq qf qo vr vc vp (.slice none 0 0) zs ss cs ps [])) (fun i _ => np - (intOf i).toNat)
        case atStart => exact ⟨0, _, [], by omega, rfl, rfl, (fun _ h => by cases h), S.mono (by omega)⟩
        case round =>
          clear S
          obtain ⟨j, vp, ps, hj, rfl, hpl, hps, S⟩ := hrel
          have Hpl := Lib.hid hpl
          have Hps := Lib.hid hps
          have hpk : ps.length ≤ 3 := by omega
          clear hpl hps
          by_cases hjn : j < np
          · go_wp2_with fail
            ((with_reducible refine (one_le b _ _ _ (3) S.g.s (by first | rfl | simp) (by first | rfl | simp) (strsLe_of (by decide)) (by simp) (by simp) (by omega)).mono ?_); rintro e w6 ⟨nm, nm_le, rfl, hk_w6, hs_w6⟩)
            replace S := S.step hk_w6 hs_w6
            clear hk_w6 hs_w6
            --@dev
            obtain ⟨c1, hc1⟩ : ∃ c, IntKind.i64.wrap (97 + (j : Int)) = c := ⟨_, rfl⟩
            obtain ⟨c2, hc2⟩ : ∃ c, IntKind.i32.wrap c1 = c := ⟨_, rfl⟩
            obtain ⟨t, ht⟩ : ∃ t, Utf8.encode c2 = t := ⟨_, rfl⟩
            have htl : t.size ≤ 4 := by
              rw [← ht, ← hc2, ← hc1]
              obtain rfl | rfl | rfl : j = 0 ∨ j = 1 ∨ j = 2 := by omega
              all_goals decide
            go_wp2_with fail
            ((with_reducible refine (pick_le b _ _ _ (1) (3) S.g.s (by first | rfl | simp) (by first | rfl | simp) (intsIn_of (by decide)) (by simp) (by simp) (by omega)).mono ?_); rintro e w7 ⟨p1, p1_lo, p1_hi, rfl, hk_w7, hs_w7⟩)
            replace S := S.step hk_w7 hs_w7
            clear hk_w7 hs_w7
            go_wp2_with fail
            ((with_reducible refine (pick_le b _ _ _ (1) (100) S.g.s (by first | rfl | simp) (by first | rfl | simp) (intsIn_of (by decide)) (by simp) (by simp) (by omega)).mono ?_); rintro e w8 ⟨p2, p2_lo, p2_hi, rfl, hk_w8, hs_w8⟩)
            replace S := S.step hk_w8 hs_w8
            clear hk_w8 hs_w8
            go_wp2_with fail
            ((with_reducible refine (pick_le b _ _ _ (0) (1) S.g.s (by first | rfl | simp) (by first | rfl | simp) (intsIn_of (by decide)) (by simp) (by simp) (by omega)).mono ?_); rintro e w9 ⟨p3, p3_lo, p3_hi, rfl, hk_w9, hs_w9⟩)
            replace S := S.step hk_w9 hs_w9
            clear hk_w9 hs_w9
            go_upto_region 10 with fail
            have hnt : (nm ++ t).size ≤ 20 := by rw [ByteArray.size_append]; omega
            replace S := (S.new' #[.string (nm ++ t), .int .i64 p1, .int .i64 p2, .int .i64 p3, .slice none 0 0] 36).nil rInt w.heap.size 3
            obtain ⟨P, hP⟩ : ∃ P, P = w9.heap.size := ⟨_, rfl⟩
            rw [← hP] at S
            generalize w9.alloc (.cells #[.string (nm ++ t), .int .i64 p1, .int .i64 p2, .int .i64 p3, .slice none 0 0] 36) = w10 at *
            rw [← hP]
            generalize nm ++ t = nn at *
            clear ht hc1 hc2 htl nm_le hP
            go_wp2_with fail
            ((with_reducible refine (pick_le b _ _ _ (0) (2) S.g.s (by first | rfl | simp) (by first | rfl | simp) (intsIn_of (by decide)) (by simp) (by simp) (by omega)).mono ?_); rintro e w11 ⟨n6, n6_lo, n6_hi, rfl, hk_w11, hs_w11⟩)
            replace S := S.step hk_w11 hs_w11
            clear hk_w11 hs_w11
            obtain ⟨nw, rfl⟩ := Int.eq_ofNat_of_zero_le (by omega : 0 ≤ n6)
            go_wp2_with fail
            go_loopw [79] (fun i wr => ∃ (l : Nat) (vw : Value) (ws : List Int), l ≤ nw ∧ i = .int .i64 l ∧ ws.length = l ∧ St b (m + 65 + 20 * j + l) w wr (RL w.heap.size R Z vq qf qo vr vc vp (.slice none 0 0) zs ss cs ps [] ++ [.loc P #[.string nn, .int .i64 p1, .int .i64 p2, .int .i64 p3, vw] 36, .own rInt w.heap.size 3 vw ws])) (fun i _ => nw - (intOf i).toNat)
            case atStart => exact ⟨0, _, [], by omega, rfl, rfl, S.mono (by omega)⟩
            case round =>
              clear S
              obtain ⟨l, vw, ws, hl, rfl, hwl, S⟩ := hrel
              have Hwl := Lib.hid hwl
              have hwk : ws.length ≤ 2 := by omega
              clear hwl
              by_cases hln : l < nw
              · go_wp2_with fail
                refine wp_region_mixG 8 (fun wc => wc.cell? ⟨P, 4, none⟩ = some vw) [.q 0, .q 1, .q 2, .e 3, .e 4, .e 5, .e 6, .q 7, .e 8] (by kernel_rfl) (by kernel_rfl) (fun _ hd => ((S.below (hd.below _)).lv 7 rfl).cell 4 _ rfl) (fun KK hKK wd hd => ?_)
                replace S := S.below (hd.below _)
                clear hd
                repeat (refine mixG_p rfl (fun K hK => ?_); go_simp; (try go_bits); (try simp (disch := omega) only [if_pos]); (try simp (disch := omega) only [if_neg]); (try simp (disch := omega) only [dif_pos]); (try simp (disch := omega) only [dif_neg]); (try go_simp); (refine hK _ ?_; clear hK K))
                refine mixG_load vw rfl rfl rfl rfl (fun _ => rfl) (fun _ h => h) ?_
                repeat (refine mixG_p rfl (fun K hK => ?_); go_simp; (try go_bits); (try simp (disch := omega) only [if_pos]); (try simp (disch := omega) only [if_neg]); (try simp (disch := omega) only [dif_pos]); (try simp (disch := omega) only [dif_neg]); (try go_simp); (refine hK _ ?_; clear hK K))
                refine mixG_l rfl rfl (fun K hK => ?_)
                go_wp2_with fail
                have hCa : ∀ o, (wd.alloc o).cell? ⟨P, 4, none⟩ = some vw := fun o => ((S.alloc o).lv 7 rfl).cell 4 _ rfl
                refine ⟨fun _ => hCa _, ?_⟩
                clear hCa
                refine mixG_l rfl rfl (fun K hK => ?_)
                go_wp2_with fail
                ((with_reducible refine (pick_le b _ _ _ (0) (5) S.g.s (by first | rfl | simp) (by first | rfl | simp) (intsIn_of (by decide)) (by simp) (by simp) (by omega)).mono ?_); rintro e w12 ⟨x1, x1_lo, x1_hi, rfl, hk_w12, hs_w12⟩)
                replace S := S.step hk_w12 hs_w12
                clear hk_w12 hs_w12
                have hCc : w12.cell? ⟨P, 4, none⟩ = some vw := (S.lv 7 rfl).cell 4 _ rfl
                go_wp2_with fail
                refine ⟨by first | exact hCc | exact fun _ => hCc, ?_⟩
                clear hCc
                have hsz := S.g.size
                have hCa : ∀ o, (w12.alloc o).cell? ⟨P, 4, none⟩ = some vw := fun o => ((S.alloc o).lv 7 rfl).cell 4 _ rfl
                refine mixG_l rfl rfl (fun K hK => ?_)
                go_wp2_with fail
                first | refine ⟨hCa _, ?_⟩ | refine ⟨fun _ => hCa _, ?_⟩ | skip
                clear hCa
                refine mixG_l rfl rfl (fun K hK => ?_)
                refine S.app 8 rfl tyInt rfl _ _ rfl x1 1 rfl rfl rfl (oneInt x1) hsz (by omega) (by decide) ?_
                intro v' w6 S6
                obtain ⟨A6, n6, c6, rfl⟩ := (S6.ow 8 rfl).sl
                have hCb : w6.cell? ⟨P, 4, none⟩ = some vw := (S6.lv 7 rfl).cell 4 _ rfl
                have hCf : w6.frozen? ⟨P, 4, none⟩ = false := (S6.lv 7 rfl).free 4
                go_wp2_with fail
                first | refine ⟨hCb, ?_⟩ | refine ⟨fun _ => hCb, ?_⟩ | skip
                repeat (refine mixG_p rfl (fun K hK => ?_); go_simp; (try go_bits); (try simp (disch := omega) only [if_pos]); (try simp (disch := omega) only [if_neg]); (try simp (disch := omega) only [dif_pos]); (try simp (disch := omega) only [dif_neg]); (try go_simp); (refine hK _ ?_; clear hK K))
                refine mixG_l rfl rfl (fun K hK => ?_)
                go_wp2_with fail
                refine ⟨fun h => absurd rfl h, ?_⟩
                refine mixG_nil ?_
                simp only [Exit.then]
                refine hKK _ _ ?_
                replace S6 := S6.set 7 4 (.slice A6 n6 c6) rfl
                clear S hCb hCf hsz
                go_wp2_with fail
                go_roundw
                case rel => exact ⟨l + 1, _, ws ++ [x1], by omega, by go_num, by simp [Hwl.out], S6.mono (show m + 65 + 20 * j + l + 1 ≤ m + 65 + 20 * j + (l + 1) by omega)⟩
                case measure => simp [intOf]; omega
              · have Hws := Lib.hid (show ws.length ≤ 2 by omega)
                obtain ⟨Aw, cw, rfl, S1⟩ := S.frz 8 rfl
                clear S Hwl
                have S := S1
                clear S1
                have hsz := S.g.size
                have z5 := (S.lv 1 rfl).cell 5 vp rfl
                have y0 := (S.lv 7 rfl).cell 0 (.string nn) rfl
                have y1 := (S.lv 7 rfl).cell 1 (.int .i64 p1) rfl
                have y2 := (S.lv 7 rfl).cell 2 (.int .i64 p2) rfl
                have y3 := (S.lv 7 rfl).cell 3 (.int .i64 p3) rfl
                have y4 := (S.lv 7 rfl).cell 4 (.slice Aw ws.length cw) rfl
                go_wp2_with (at_builtin; refine S.app 5 rfl tyPool rfl _ _ rfl ⟨nn, p1, p2, p3, ws⟩ 1 rfl rfl ⟨SPool.cells ⟨nn, p1, p2, p3, ws⟩, [.slice Aw ws.length cw], rfl, rfl, Aw, cw, rfl, S.slc 8 rfl⟩ (onePool ⟨nn, p1, p2, p3, ws⟩ Aw ws.length cw) hsz (by omega) (by decide) ?_; intro v' w6 S6; obtain ⟨A6, n6, c6, rfl⟩ := (S6.ow 5 rfl).sl; have hCb := (S6.lv 1 rfl).cell 5 vp rfl; have hCf := (S6.lv 1 rfl).free 5)
                go_roundw
                case rel =>
                  have S7 : St b (m + 65 + 20 * j + l) w (w6.setCell ⟨Z, 5, none⟩ (.slice A6 n6 c6)) (RL w.heap.size R Z vq qf qo vr vc (.slice A6 n6 c6) (.slice none 0 0) zs ss cs (ps ++ [⟨nn, p1, p2, p3, ws⟩]) []) := ((S6.set 1 5 (.slice A6 n6 c6) rfl).del 8).del 7
                  exact ⟨j + 1, .slice A6 n6 c6, ps ++ [⟨nn, p1, p2, p3, ws⟩], by omega, by go_num, by simp [Hpl.out], pools_snoc Hps.out ⟨hnt, Hws.out⟩, S7.mono (show m + 65 + 20 * j + l ≤ m + 60 + 20 * (j + 1) by omega)⟩
                case measure => simp [intOf]; omega
            --@enddev
          · clear Hpl
            go_wp2_with fail
            ((with_reducible refine (pick_le b _ _ _ (0) (2) S.g.s (by first | rfl | simp) (by first | rfl | simp) (intsIn_of (by decide)) (by simp) (by simp) (by omega)).mono ?_); rintro e w7 ⟨n5, n5_lo, n5_hi, rfl, hk_w7, hs_w7⟩)
            replace S := S.step hk_w7 hs_w7
            clear hk_w7 hs_w7
            obtain ⟨nd, rfl⟩ := Int.eq_ofNat_of_zero_le (by omega : 0 ≤ n5)
            go_wp2_with fail
            go_loopw [100] (fun i wr => ∃ (l : Nat) (vd : Value) (ds : List Int), l ≤ nd ∧ i = .int .i64 l ∧ ds.length = l ∧ St b (m + 130 + l) w wr (RL w.heap.size R Z vq qf qo vr vc vp vd zs ss cs ps ds)) (fun i _ => nd - (intOf i).toNat)
            case atStart => exact ⟨0, _, [], by omega, rfl, rfl, S.mono (by omega)⟩
            case round =>
              clear S
              obtain ⟨l, vd, ds, hl, rfl, hdl, S⟩ := hrel
              have Hdl := Lib.hid hdl
              have hdk : ds.length ≤ 2 := by omega
              clear hdl
              by_cases hln : l < nd
              · go_wp2_with fail
                --@dev
                refine wp_region_mixG 8 (fun wc => wc.cell? ⟨Z, 6, none⟩ = some vd) [.q 0, .q 1, .q 2, .e 3, .e 4, .e 5, .e 6, .q 7, .e 8] (by kernel_rfl) (by kernel_rfl) (fun _ hd => ((S.below (hd.below _)).lv 1 rfl).cell 6 _ rfl) (fun KK hKK wd hd => ?_)
                replace S := S.below (hd.below _)
                clear hd
                repeat (refine mixG_p rfl (fun K hK => ?_); go_simp; (try go_bits); (try simp (disch := omega) only [if_pos]); (try simp (disch := omega) only [if_neg]); (try simp (disch := omega) only [dif_pos]); (try simp (disch := omega) only [dif_neg]); (try go_simp); (refine hK _ ?_; clear hK K))
                refine mixG_load vd rfl rfl rfl rfl (fun _ => rfl) (fun _ h => h) ?_
                repeat (refine mixG_p rfl (fun K hK => ?_); go_simp; (try go_bits); (try simp (disch := omega) only [if_pos]); (try simp (disch := omega) only [if_neg]); (try simp (disch := omega) only [dif_pos]); (try simp (disch := omega) only [dif_neg]); (try go_simp); (refine hK _ ?_; clear hK K))
                refine mixG_l rfl rfl (fun K hK => ?_)
                go_wp2_with fail
                have hCa : ∀ o, (wd.alloc o).cell? ⟨Z, 6, none⟩ = some vd := fun o => ((S.alloc o).lv 1 rfl).cell 6 _ rfl
                refine ⟨by first | exact hCa _ | exact fun _ => hCa _, ?_⟩
                clear hCa
                refine mixG_l rfl rfl (fun K hK => ?_)
                go_wp2_with fail
                ((with_reducible refine (pick_le b _ _ _ (1) (30) S.g.s (by first | rfl | simp) (by first | rfl | simp) (intsIn_of (by decide)) (by simp) (by simp) (by omega)).mono ?_); rintro e w12 ⟨x1, x1_lo, x1_hi, rfl, hk_w12, hs_w12⟩)
                replace S := S.step hk_w12 hs_w12
                clear hk_w12 hs_w12
                have hCc : w12.cell? ⟨Z, 6, none⟩ = some vd := (S.lv 1 rfl).cell 6 _ rfl
                go_wp2_with fail
                refine ⟨by first | exact hCc | exact fun _ => hCc, ?_⟩
                clear hCc
                have hsz := S.g.size
                have hCa : ∀ o, (w12.alloc o).cell? ⟨Z, 6, none⟩ = some vd := fun o => ((S.alloc o).lv 1 rfl).cell 6 _ rfl
                refine mixG_l rfl rfl (fun K hK => ?_)
                go_wp2_with fail
                first | refine ⟨hCa _, ?_⟩ | refine ⟨fun _ => hCa _, ?_⟩ | skip
                clear hCa
                refine mixG_l rfl rfl (fun K hK => ?_)
                refine S.app 6 rfl tyInt rfl _ _ rfl x1 1 rfl rfl rfl (oneInt x1) hsz (by omega) (by decide) ?_
                intro v' w6 S6
                obtain ⟨A6, n6, c6, rfl⟩ := (S6.ow 6 rfl).sl
                have hCb : w6.cell? ⟨Z, 6, none⟩ = some vd := (S6.lv 1 rfl).cell 6 _ rfl
                have hCf : w6.frozen? ⟨Z, 6, none⟩ = false := (S6.lv 1 rfl).free 6
                go_wp2_with fail
                first | refine ⟨hCb, ?_⟩ | refine ⟨fun _ => hCb, ?_⟩ | skip
                repeat (refine mixG_p rfl (fun K hK => ?_); go_simp; (try go_bits); (try simp (disch := omega) only [if_pos]); (try simp (disch := omega) only [if_neg]); (try simp (disch := omega) only [dif_pos]); (try simp (disch := omega) only [dif_neg]); (try go_simp); (refine hK _ ?_; clear hK K))
                refine mixG_l rfl rfl (fun K hK => ?_)
                go_wp2_with fail
                refine ⟨fun h => absurd rfl h, ?_⟩
                refine mixG_nil ?_
                simp only [Exit.then]
                refine hKK _ _ ?_
                replace S6 := S6.set 1 6 (.slice A6 n6 c6) rfl
                clear S hCb hCf hsz
                go_wp2_with fail
                go_roundw
                case rel => exact ⟨l + 1, _, ds ++ [x1], by omega, by go_num, by simp [Hdl.out], S6.mono (show m + 130 + l + 1 ≤ m + 130 + (l + 1) by omega)⟩
                case measure => simp [intOf]; omega
                --@enddev
              · clear Hdl
                have HS : Hid (RSmall zs ss cs ps ds) := ⟨hzl, hsl, hss, by omega, Hcs.out, by omega, Hps.out, by omega⟩
                subst hR
                go_wp2_with fail
                ((with_reducible refine (flip_any b _ _ _ S.g.s (by omega) (by omega) (by omega)).mono ?_); rintro e w13 ⟨r2, rfl, hk_w13, hs_w13⟩)
                replace S := S.step hk_w13 hs_w13
                clear hk_w13 hs_w13
                cases r2
                · obtain ⟨B1, m1, d1, rfl⟩ := (S.ow 2 rfl).sl
                  obtain ⟨B2, m2, d2, rfl⟩ := (S.ow 3 rfl).sl
                  obtain ⟨B3, m3, d3, rfl⟩ := (S.ow 4 rfl).sl
                  obtain ⟨B4, m4, d4, rfl⟩ := (S.ow 5 rfl).sl
                  obtain ⟨B5, m5, d5, rfl⟩ := (S.ow 6 rfl).sl
                  have lvR := S.lv 0 rfl
                  have lvZ := S.lv 1 rfl
                  have y0 : w13.cell? ⟨w.heap.size, 0, none⟩ = some (.slice none 0 0) := lvR.cell 0 _ rfl
                  have y1 : w13.cell? ⟨w.heap.size, 1, none⟩ = some (.int .i64 0) := lvR.cell 1 _ rfl
                  have y2 : w13.cell? ⟨w.heap.size, 2, none⟩ = some (.int .i64 0) := lvR.cell 2 _ rfl
                  have y3 : w13.cell? ⟨w.heap.size, 3, none⟩ = some (.slice none 0 0) := lvR.cell 3 _ rfl
                  have y4 : w13.cell? ⟨w.heap.size, 4, none⟩ = some (.slice none 0 0) := lvR.cell 4 _ rfl
                  have y5 : w13.cell? ⟨w.heap.size, 5, none⟩ = some (.slice none 0 0) := lvR.cell 5 _ rfl
                  have y6 : w13.cell? ⟨w.heap.size, 6, none⟩ = some (.slice none 0 0) := lvR.cell 6 _ rfl
                  have g0 := lvR.free 0
                  have g1 := lvR.free 1
                  have g2 := lvR.free 2
                  have g3 := lvR.free 3
                  have g4 := lvR.free 4
                  have g5 := lvR.free 5
                  have g6 := lvR.free 6
                  have z0 : w13.cell? ⟨Z, 0, none⟩ = some (.slice B1 m1 d1) := lvZ.cell 0 _ rfl
                  have z1 : w13.cell? ⟨Z, 1, none⟩ = some (.int .i64 qf) := lvZ.cell 1 _ rfl
                  have z2 : w13.cell? ⟨Z, 2, none⟩ = some (.int .i64 qo) := lvZ.cell 2 _ rfl
                  have z3 : w13.cell? ⟨Z, 3, none⟩ = some (.slice B2 m2 d2) := lvZ.cell 3 _ rfl
                  have z4 : w13.cell? ⟨Z, 4, none⟩ = some (.slice B3 m3 d3) := lvZ.cell 4 _ rfl
                  have z5 : w13.cell? ⟨Z, 5, none⟩ = some (.slice B4 m4 d4) := lvZ.cell 5 _ rfl
                  have z6 : w13.cell? ⟨Z, 6, none⟩ = some (.slice B5 m5 d5) := lvZ.cell 6 _ rfl
                  clear lvR lvZ
                  go_wp2_with fail
                  clear y0 y1 y2 y3 y4 y5 y6 z0 z1 z2 z3 z4 z5 z6 g0 g1 g2 g3 g4 g5 g6
                  have S7 : St b _ w (((((((w13.setCell ⟨w.heap.size, 0, none⟩ (.slice B1 m1 d1)).setCell ⟨w.heap.size, 1, none⟩ (.int .i64 qf)).setCell ⟨w.heap.size, 2, none⟩ (.int .i64 qo)).setCell ⟨w.heap.size, 3, none⟩ (.slice B2 m2 d2)).setCell ⟨w.heap.size, 4, none⟩ (.slice B3 m3 d3)).setCell ⟨w.heap.size, 5, none⟩ (.slice B4 m4 d4)).setCell ⟨w.heap.size, 6, none⟩ (.slice B5 m5 d5)) (.loc w.heap.size #[(.slice B1 m1 d1), (.int .i64 qf), (.int .i64 qo), (.slice B2 m2 d2), (.slice B3 m3 d3), (.slice B4 m4 d4), (.slice B5 m5 d5)] 30 :: RLT w.heap.size Z (.slice B1 m1 d1) qf qo (.slice B2 m2 d2) (.slice B3 m3 d3) (.slice B4 m4 d4) (.slice B5 m5 d5) zs ss cs ps ds) := (((((((S.set 0 0 (.slice B1 m1 d1) rfl).set 0 1 (.int .i64 qf) rfl).set 0 2 (.int .i64 qo) rfl).set 0 3 (.slice B2 m2 d2) rfl).set 0 4 (.slice B3 m3 d3) rfl).set 0 5 (.slice B4 m4 d4) rfl).set 0 6 (.slice B5 m5 d5) rfl)
                  clear S
                  generalize (((((((w13.setCell ⟨w.heap.size, 0, none⟩ (.slice B1 m1 d1)).setCell ⟨w.heap.size, 1, none⟩ (.int .i64 qf)).setCell ⟨w.heap.size, 2, none⟩ (.int .i64 qo)).setCell ⟨w.heap.size, 3, none⟩ (.slice B2 m2 d2)).setCell ⟨w.heap.size, 4, none⟩ (.slice B3 m3 d3)).setCell ⟨w.heap.size, 5, none⟩ (.slice B4 m4 d4)).setCell ⟨w.heap.size, 6, none⟩ (.slice B5 m5 d5)) = wf at *
                  refine bodyPost_ret (v := .agg #[(.slice B1 m1 d1), (.int .i64 qf), (.int .i64 qo), (.slice B2 m2 d2), (.slice B3 m3 d3), (.slice B4 m4 d4), (.slice B5 m5 d5)]) (results_cell1 rfl rfl (load7 (S7.lv 0 rfl))) rfl ?_
                  exact rules_out (S7.g.mono (by omega)) HS.out (S7.outOwn 2 rfl) (S7.outOwn 3 rfl) (S7.outOwn 4 rfl) (S7.outOwn 5 rfl) (S7.outOwn 6 rfl)
                · go_wp2_with fail
                  ((with_reducible refine (next_any b _ _ _ S.g.s (by omega) (by omega) (by omega)).mono ?_); rintro e w14 ⟨r3, r3_lo, r3_hi, rfl, hk_w14, hs_w14⟩)
                  replace S := S.step hk_w14 hs_w14
                  clear hk_w14 hs_w14
                  obtain rfl | rfl | rfl | rfl | rfl | rfl : r3 = 0 ∨ r3 = 1 ∨ r3 = 2 ∨ r3 = 3 ∨ r3 = 4 ∨ r3 = 5 := by omega
                  · go_wp2_with fail
                    --@dev
                    refine wp_region_mixG 13 (fun _ => True) [.q 4, .q 8, .f [0, 1, 2, 3, 5, 6, 7, 9, 10], .e 11, .q 12, .e 13] (by kernel_rfl) (by kernel_rfl) (fun _ _ => trivial) (fun KK hKK wd hd => ?_)
                    replace S := S.below (hd.below _)
                    have hbd : b < wd.heap.size := Nat.lt_of_lt_of_le S.b0 S.g.size
                    clear hd
                    repeat (refine mixG_p rfl (fun K hK => ?_); go_simp; (try go_bits); (try simp (disch := omega) only [if_pos]); (try simp (disch := omega) only [if_neg]); (try simp (disch := omega) only [dif_pos]); (try simp (disch := omega) only [dif_neg]); (try go_simp); (refine hK _ ?_; clear hK K))
                    refine free_plan [(0, 125, []), (1, 126, []), (2, 127, []), (3, 128, [(0, 125), (1, 126), (2, 127)]), (5, 130, []), (6, 131, [(3, 128), (5, 130)]), (7, 132, [(6, 131)]), (9, 134, [(5, 130)]), (10, 135, [(0, 125), (1, 126), (2, 127), (3, 128), (5, 130), (6, 131), (7, 132)])] rfl (by kernel_rfl) (fun c w' => G b (m + 140 + 3 * c) wd w') (SK b) (q0Fact wd.heap.size Z) ((G.start S.g.s).mono (by omega)) (fun _ _ _ => trivial) (fun x _ v w w' k h => q0Fact_keep hbd x.1 v w w' k h) (by rfl) ?_ ?_
                    · refine all_cons ?_ (all_cons ?_ (all_cons ?_ (all_cons ?_ (all_cons ?_ (all_cons ?_ (all_cons ?_ (all_cons ?_ (all_cons ?_ all_nil))))))))
                      all_goals (intro o ho c ν w2 hc hinv hp; cases ho; simp only [fillD, List.foldl_cons, List.foldl_nil]; simp only [List.length_cons, List.length_nil] at hc)
                      · go_wp2_with fail
                        first | exact ⟨_, rfl, (SK.refl _ _).alloc _, (hinv.alloc _).mono (by omega), w2.heap.size, rfl, LV.new _ _ _ _ rfl, hinv.size⟩ | exact ⟨(SK.refl _ _).alloc _, (hinv.alloc _).mono (by omega), w2.heap.size, rfl, LV.new _ _ _ _ rfl, hinv.size⟩
                      · go_wp2_with fail
                        first | exact ⟨_, rfl, (SK.refl _ _).alloc _, (hinv.alloc _).mono (by omega), w2.heap.size, rfl, LV.new _ _ _ _ rfl, hinv.size⟩ | exact ⟨(SK.refl _ _).alloc _, (hinv.alloc _).mono (by omega), w2.heap.size, rfl, LV.new _ _ _ _ rfl, hinv.size⟩
                      · go_wp2_with fail
                        first | exact ⟨_, rfl, (SK.refl _ _).alloc _, (hinv.alloc _).mono (by omega), w2.heap.size, rfl, LV.new _ _ _ _ rfl, hinv.size⟩ | exact ⟨(SK.refl _ _).alloc _, (hinv.alloc _).mono (by omega), w2.heap.size, rfl, LV.new _ _ _ _ rfl, hinv.size⟩
                      · obtain ⟨b0, e0, l0, g0⟩ := (hp (0, 125) (by simp) : IsLit wd.heap.size [2, 1] (ν 0) w2)
                        obtain ⟨b1, e1, l1, g1⟩ := (hp (1, 126) (by simp) : IsLit wd.heap.size [0] (ν 1) w2)
                        obtain ⟨b2, e2, l2, g2⟩ := (hp (2, 127) (by simp) : IsLit wd.heap.size [5] (ν 2) w2)
                        simp only [e0, e1, e2, List.length_cons, List.length_nil]
                        go_wp2_with fail
                        first | exact ⟨_, rfl, (SK.refl _ _).alloc _, (hinv.alloc _).mono (by omega), w2.heap.size, _, rfl, rfl, LV.new _ _ _ _ rfl, hinv.size, all_cons ⟨[2, 1], by decide, .inr (IsLit.keep ⟨b0, rfl, l0, g0⟩ ((SK.refl b _).alloc _) hbd)⟩ (all_cons ⟨[0], by decide, .inr (IsLit.keep ⟨b1, rfl, l1, g1⟩ ((SK.refl b _).alloc _) hbd)⟩ (all_cons ⟨[5], by decide, .inr (IsLit.keep ⟨b2, rfl, l2, g2⟩ ((SK.refl b _).alloc _) hbd)⟩ all_nil))⟩ | exact ⟨(SK.refl _ _).alloc _, (hinv.alloc _).mono (by omega), w2.heap.size, _, rfl, rfl, LV.new _ _ _ _ rfl, hinv.size, all_cons ⟨[2, 1], by decide, .inr (IsLit.keep ⟨b0, rfl, l0, g0⟩ ((SK.refl b _).alloc _) hbd)⟩ (all_cons ⟨[0], by decide, .inr (IsLit.keep ⟨b1, rfl, l1, g1⟩ ((SK.refl b _).alloc _) hbd)⟩ (all_cons ⟨[5], by decide, .inr (IsLit.keep ⟨b2, rfl, l2, g2⟩ ((SK.refl b _).alloc _) hbd)⟩ all_nil))⟩
                      · go_wp2_with fail
                        ((with_reducible refine (next_any b _ _ _ hinv.s (by omega) (by omega) (by omega)).mono ?_); rintro e w3 ⟨r, r_lo, r_hi, rfl, hk_w3, hs_w3⟩)
                        go_wp2_with fail
                        refine ⟨_, rfl, hk_w3, (hinv.step hk_w3 hs_w3).mono (by omega), ?_⟩
                        exact ⟨r, rfl, by omega, by omega⟩
                      · obtain ⟨blk, vs, hl, e1, lv, hB, hP⟩ := (hp (3, 128) (by simp) : IsNest 22 wd.heap.size 3 (PI wd.heap.size) (ν 3) w2)
                        obtain ⟨z, e2, z1, z2⟩ := (hp (5, 130) (by simp) : IsI 0 2 (ν 5))
                        obtain ⟨q, rfl⟩ := Int.eq_ofNat_of_zero_le z1
                        simp only [e1, e2]
                        go_wp2_with fail
                        first | exact ⟨_, rfl, SK.refl _ _, hinv.mono (by omega), blk, q, vs, by omega, by simp, lv, hB, hP⟩ | exact ⟨SK.refl _ _, hinv.mono (by omega), blk, q, vs, by omega, by simp, lv, hB, hP⟩
                      · obtain ⟨blk, q, vs, hq, e1, lv, hB, hP⟩ := (hp (6, 131) (by simp) : IsAt 22 wd.heap.size (PI wd.heap.size) (ν 6) w2)
                        have hPq := hP _ (List.getElem_mem hq)
                        have hc : w2.cell? ⟨blk, q, none⟩ = some vs[q] := lv.cell q _ (by simp [List.getElem?_eq_getElem hq])
                        obtain ⟨A, n, c, e2⟩ := hPq.form
                        rw [e2] at hPq hc
                        simp only [e1]
                        go_wp2_with fail
                        first | exact ⟨_, rfl, SK.refl _ _, hinv.mono (by omega), hPq⟩ | exact ⟨SK.refl _ _, hinv.mono (by omega), hPq⟩
                      · go_wp2_with fail
                        ((with_reducible refine (odd_any b _ _ _ _ hinv.s (by omega) (by omega) (by omega) (by omega)).mono ?_); rintro e w3 ⟨r, r_lo, r_hi, rfl, hk_w3, hs_w3⟩)
                        go_wp2_with fail
                        refine ⟨_, rfl, hk_w3, (hinv.step hk_w3 hs_w3).mono (by omega), ?_⟩
                        exact ⟨r, rfl⟩
                      · go_wp2_with fail
                        first | exact ⟨_, rfl, SK.refl _ _, hinv.mono (by omega), rfl⟩ | exact ⟨SK.refl _ _, hinv.mono (by omega), rfl⟩
                    · intro ν w2 hinv hf
                      have h7 : PI wd.heap.size (ν 7) w2 := hf (7, 132, [(6, 131)]) (by simp)
                      obtain ⟨x9, e9⟩ := (hf (9, 134, [(5, 130)]) (by simp) : ∃ n : Int, ν 9 = .int .i64 n)
                      have e10 : ν 10 = .pointer (some ⟨Z, 0, none⟩) := hf (10, 135, [(0, 125), (1, 126), (2, 127), (3, 128), (5, 130), (6, 131), (7, 132)]) (by simp)
                      obtain ⟨A8, n8, c8, e7⟩ := h7.form
                      rw [e7] at h7
                      obtain ⟨zs2, hz2, hzs2⟩ := h7
                      have hwd := S.g.size
                      replace S := S.call hinv (.own rInt w.heap.size 3 (.slice A8 n8 c8) zs2) (hzs2.own hwd (by omega)) hzs2.ge
                      simp only [fillD, List.map_cons, List.map_nil, List.foldl_cons, List.foldl_nil, e7, e9, e10]
                      clear hf hinv e7 e9 e10 hzs2
                      generalize ν 0 = q0
                      generalize ν 1 = q1
                      generalize ν 2 = q2
                      generalize ν 3 = q3
                      generalize ν 5 = q5
                      generalize ν 6 = q6
                      have x0 : w2.cell? ⟨Z, 0, none⟩ = some vq := (S.lv 1 rfl).cell 0 _ rfl
                      have f0 := (S.lv 1 rfl).free 0
                      refine mixG_l rfl rfl (fun K hK => ?_)
                      go_wp2_with fail
                      first | refine ⟨trivial, ?_⟩ | refine ⟨fun _ => trivial, ?_⟩ | skip
                      replace S := S.set 1 0 (.slice A8 n8 c8) rfl
                      clear x0 f0
                      generalize w2.setCell ⟨Z, 0, none⟩ (.slice A8 n8 c8) = w3 at *
                      have x1 : w3.cell? ⟨Z, 1, none⟩ = some (.int .i64 qf) := (S.lv 1 rfl).cell 1 _ rfl
                      have f1 := (S.lv 1 rfl).free 1
                      repeat (refine mixG_p rfl (fun K hK => ?_); go_simp; (try go_bits); (try simp (disch := omega) only [if_pos]); (try simp (disch := omega) only [if_neg]); (try simp (disch := omega) only [dif_pos]); (try simp (disch := omega) only [dif_neg]); (try go_simp); (refine hK _ ?_; clear hK K))
                      refine mixG_l rfl rfl (fun K hK => ?_)
                      go_wp2_with fail
                      refine ⟨fun h => absurd rfl h, ?_⟩
                      refine mixG_nil ?_
                      simp only [Exit.then]
                      refine hKK _ _ ?_
                      clear x1 f1
                      have S2 : St b _ w (w3.setCell ⟨Z, 1, none⟩ (.int .i64 x9)) [.loc w.heap.size zeroR 30, .loc Z #[.slice A8 n8 c8, .int .i64 x9, .int .i64 qo, vr, vc, vp, vd] 30, .own rStr w.heap.size 9 vr ss, .own rCap w.heap.size 63 vc cs, .own rPool w.heap.size 36 vp ps, .own rInt w.heap.size 3 vd ds, .own rInt w.heap.size 3 (.slice A8 n8 c8) zs2] := (S.set 1 1 (.int .i64 x9) rfl).del 2
                      clear S
                      have S := S2
                      clear S2
                      generalize w3.setCell ⟨Z, 1, none⟩ (.int .i64 x9) = w20 at *
                      have HS2 : Hid (RSmall zs2 ss cs ps ds) := ⟨hz2, hsl, hss, by omega, Hcs.out, by omega, Hps.out, by omega⟩
                      obtain ⟨B2, m2, d2, rfl⟩ := (S.ow 2 rfl).sl
                      obtain ⟨B3, m3, d3, rfl⟩ := (S.ow 3 rfl).sl
                      obtain ⟨B4, m4, d4, rfl⟩ := (S.ow 4 rfl).sl
                      obtain ⟨B5, m5, d5, rfl⟩ := (S.ow 5 rfl).sl
                      have lvR := S.lv 0 rfl
                      have lvZ := S.lv 1 rfl
                      have y0 : w20.cell? ⟨w.heap.size, 0, none⟩ = some (.slice none 0 0) := lvR.cell 0 _ rfl
                      have y1 : w20.cell? ⟨w.heap.size, 1, none⟩ = some (.int .i64 0) := lvR.cell 1 _ rfl
                      have y2 : w20.cell? ⟨w.heap.size, 2, none⟩ = some (.int .i64 0) := lvR.cell 2 _ rfl
                      have y3 : w20.cell? ⟨w.heap.size, 3, none⟩ = some (.slice none 0 0) := lvR.cell 3 _ rfl
                      have y4 : w20.cell? ⟨w.heap.size, 4, none⟩ = some (.slice none 0 0) := lvR.cell 4 _ rfl
                      have y5 : w20.cell? ⟨w.heap.size, 5, none⟩ = some (.slice none 0 0) := lvR.cell 5 _ rfl
                      have y6 : w20.cell? ⟨w.heap.size, 6, none⟩ = some (.slice none 0 0) := lvR.cell 6 _ rfl
                      have g0 := lvR.free 0
                      have g1 := lvR.free 1
                      have g2 := lvR.free 2
                      have g3 := lvR.free 3
                      have g4 := lvR.free 4
                      have g5 := lvR.free 5
                      have g6 := lvR.free 6
                      have z0 : w20.cell? ⟨Z, 0, none⟩ = some (.slice A8 n8 c8) := lvZ.cell 0 _ rfl
                      have z1 : w20.cell? ⟨Z, 1, none⟩ = some (.int .i64 x9) := lvZ.cell 1 _ rfl
                      have z2 : w20.cell? ⟨Z, 2, none⟩ = some (.int .i64 qo) := lvZ.cell 2 _ rfl
                      have z3 : w20.cell? ⟨Z, 3, none⟩ = some (.slice B2 m2 d2) := lvZ.cell 3 _ rfl
                      have z4 : w20.cell? ⟨Z, 4, none⟩ = some (.slice B3 m3 d3) := lvZ.cell 4 _ rfl
                      have z5 : w20.cell? ⟨Z, 5, none⟩ = some (.slice B4 m4 d4) := lvZ.cell 5 _ rfl
                      have z6 : w20.cell? ⟨Z, 6, none⟩ = some (.slice B5 m5 d5) := lvZ.cell 6 _ rfl
                      clear lvR lvZ
                      go_wp2_with fail
                      clear y0 y1 y2 y3 y4 y5 y6 z0 z1 z2 z3 z4 z5 z6 g0 g1 g2 g3 g4 g5 g6
                      have S7 : St b _ w (((((((w20.setCell ⟨w.heap.size, 0, none⟩ (.slice A8 n8 c8)).setCell ⟨w.heap.size, 1, none⟩ (.int .i64 x9)).setCell ⟨w.heap.size, 2, none⟩ (.int .i64 qo)).setCell ⟨w.heap.size, 3, none⟩ (.slice B2 m2 d2)).setCell ⟨w.heap.size, 4, none⟩ (.slice B3 m3 d3)).setCell ⟨w.heap.size, 5, none⟩ (.slice B4 m4 d4)).setCell ⟨w.heap.size, 6, none⟩ (.slice B5 m5 d5)) (.loc w.heap.size #[(.slice A8 n8 c8), (.int .i64 x9), (.int .i64 qo), (.slice B2 m2 d2), (.slice B3 m3 d3), (.slice B4 m4 d4), (.slice B5 m5 d5)] 30 :: [.loc Z #[.slice A8 n8 c8, .int .i64 x9, .int .i64 qo, (.slice B2 m2 d2), (.slice B3 m3 d3), (.slice B4 m4 d4), (.slice B5 m5 d5)] 30, .own rStr w.heap.size 9 (.slice B2 m2 d2) ss, .own rCap w.heap.size 63 (.slice B3 m3 d3) cs, .own rPool w.heap.size 36 (.slice B4 m4 d4) ps, .own rInt w.heap.size 3 (.slice B5 m5 d5) ds, .own rInt w.heap.size 3 (.slice A8 n8 c8) zs2]) := (((((((S.set 0 0 (.slice A8 n8 c8) rfl).set 0 1 (.int .i64 x9) rfl).set 0 2 (.int .i64 qo) rfl).set 0 3 (.slice B2 m2 d2) rfl).set 0 4 (.slice B3 m3 d3) rfl).set 0 5 (.slice B4 m4 d4) rfl).set 0 6 (.slice B5 m5 d5) rfl)
                      clear S
                      generalize (((((((w20.setCell ⟨w.heap.size, 0, none⟩ (.slice A8 n8 c8)).setCell ⟨w.heap.size, 1, none⟩ (.int .i64 x9)).setCell ⟨w.heap.size, 2, none⟩ (.int .i64 qo)).setCell ⟨w.heap.size, 3, none⟩ (.slice B2 m2 d2)).setCell ⟨w.heap.size, 4, none⟩ (.slice B3 m3 d3)).setCell ⟨w.heap.size, 5, none⟩ (.slice B4 m4 d4)).setCell ⟨w.heap.size, 6, none⟩ (.slice B5 m5 d5)) = wf at *
                      refine bodyPost_ret (v := .agg #[(.slice A8 n8 c8), (.int .i64 x9), (.int .i64 qo), (.slice B2 m2 d2), (.slice B3 m3 d3), (.slice B4 m4 d4), (.slice B5 m5 d5)]) (results_cell1 rfl rfl (load7 (S7.lv 0 rfl))) rfl ?_
                      exact rules_out (S7.g.mono (by first | omega | (simp; done) | (simp; omega))) HS2.out (S7.outOwn 6 rfl) (S7.outOwn 2 rfl) (S7.outOwn 3 rfl) (S7.outOwn 4 rfl) (S7.outOwn 5 rfl)
                    --@enddev
                  · obtain ⟨V, hV⟩ : ∃ V, V = w14.heap.size := ⟨_, rfl⟩
                    replace S := ((S.newAt #[.string ⟨#[97]⟩, .string ⟨#[97]⟩] 9 V hV).newAt #[.string ⟨#[]⟩] 9 (V + 1) (by simp [hV])).newAt #[.slice (some ⟨V, 0, none⟩) 2 2, .slice (some ⟨V + 1, 0, none⟩) 1 1] 26 (V + 1 + 1) (by simp [hV])
                    rw [hV] at S
                    go_wp2_with fail
                    ((with_reducible refine (next_any b _ _ _ S.g.s (by omega) (by omega) (by omega)).mono ?_); rintro e w15 ⟨r4, r4_lo, r4_hi, rfl, hk_w15, hs_w15⟩)
                    replace S := S.step hk_w15 hs_w15
                    clear hk_w15 hs_w15
                    rw [← hV] at S ⊢
                    have hVB : w.heap.size ≤ V := (S.ge 7 rfl).1
                    have x3 : w15.cell? ⟨Z, 3, none⟩ = some vr := (S.lv 1 rfl).cell 3 _ rfl
                    have f3 := (S.lv 1 rfl).free 3
                    have y0 : w15.cell? ⟨V + 1 + 1, 0, none⟩ = some (.slice (some ⟨V, 0, none⟩) 2 2) := (S.lv 9 rfl).cell 0 _ rfl
                    have y1 : w15.cell? ⟨V + 1 + 1, 1, none⟩ = some (.slice (some ⟨V + 1, 0, none⟩) 1 1) := (S.lv 9 rfl).cell 1 _ rfl
                    have HV := Lib.hid hV
                    clear hV
                    obtain rfl | rfl : r4 = 0 ∨ r4 = 1 := by omega
                    · go_upto_region 36 with fail
                      replace S := S.set 1 3 (.slice (some ⟨V, 0, none⟩) 2 2) rfl
                      clear x3 f3 y0 y1
                      generalize w15.setCell ⟨Z, 3, none⟩ (.slice (some ⟨V, 0, none⟩) 2 2) = w20 at *
                      have HS2 : Hid (RSmall zs [⟨#[97]⟩, ⟨#[97]⟩] cs ps ds) := ⟨hzl, by decide, by decide, by omega, Hcs.out, by omega, Hps.out, by omega⟩
                      obtain ⟨B1, m1, d1, rfl⟩ := (S.ow 2 rfl).sl
                      obtain ⟨B3, m3, d3, rfl⟩ := (S.ow 4 rfl).sl
                      obtain ⟨B4, m4, d4, rfl⟩ := (S.ow 5 rfl).sl
                      obtain ⟨B5, m5, d5, rfl⟩ := (S.ow 6 rfl).sl
                      have lvR := S.lv 0 rfl
                      have lvZ := S.lv 1 rfl
                      have y0 : w20.cell? ⟨w.heap.size, 0, none⟩ = some (.slice none 0 0) := lvR.cell 0 _ rfl
                      have y1 : w20.cell? ⟨w.heap.size, 1, none⟩ = some (.int .i64 0) := lvR.cell 1 _ rfl
                      have y2 : w20.cell? ⟨w.heap.size, 2, none⟩ = some (.int .i64 0) := lvR.cell 2 _ rfl
                      have y3 : w20.cell? ⟨w.heap.size, 3, none⟩ = some (.slice none 0 0) := lvR.cell 3 _ rfl
                      have y4 : w20.cell? ⟨w.heap.size, 4, none⟩ = some (.slice none 0 0) := lvR.cell 4 _ rfl
                      have y5 : w20.cell? ⟨w.heap.size, 5, none⟩ = some (.slice none 0 0) := lvR.cell 5 _ rfl
                      have y6 : w20.cell? ⟨w.heap.size, 6, none⟩ = some (.slice none 0 0) := lvR.cell 6 _ rfl
                      have g0 := lvR.free 0
                      have g1 := lvR.free 1
                      have g2 := lvR.free 2
                      have g3 := lvR.free 3
                      have g4 := lvR.free 4
                      have g5 := lvR.free 5
                      have g6 := lvR.free 6
                      have z0 : w20.cell? ⟨Z, 0, none⟩ = some (.slice B1 m1 d1) := lvZ.cell 0 _ rfl
                      have z1 : w20.cell? ⟨Z, 1, none⟩ = some (.int .i64 qf) := lvZ.cell 1 _ rfl
                      have z2 : w20.cell? ⟨Z, 2, none⟩ = some (.int .i64 qo) := lvZ.cell 2 _ rfl
                      have z3 : w20.cell? ⟨Z, 3, none⟩ = some (.slice (some ⟨V, 0, none⟩) 2 2) := lvZ.cell 3 _ rfl
                      have z4 : w20.cell? ⟨Z, 4, none⟩ = some (.slice B3 m3 d3) := lvZ.cell 4 _ rfl
                      have z5 : w20.cell? ⟨Z, 5, none⟩ = some (.slice B4 m4 d4) := lvZ.cell 5 _ rfl
                      have z6 : w20.cell? ⟨Z, 6, none⟩ = some (.slice B5 m5 d5) := lvZ.cell 6 _ rfl
                      clear lvR lvZ
                      go_wp2_with fail
                      clear y0 y1 y2 y3 y4 y5 y6 z0 z1 z2 z3 z4 z5 z6 g0 g1 g2 g3 g4 g5 g6
                      have S7 : St b _ w (((((((w20.setCell ⟨w.heap.size, 0, none⟩ (.slice B1 m1 d1)).setCell ⟨w.heap.size, 1, none⟩ (.int .i64 qf)).setCell ⟨w.heap.size, 2, none⟩ (.int .i64 qo)).setCell ⟨w.heap.size, 3, none⟩ (.slice (some ⟨V, 0, none⟩) 2 2)).setCell ⟨w.heap.size, 4, none⟩ (.slice B3 m3 d3)).setCell ⟨w.heap.size, 5, none⟩ (.slice B4 m4 d4)).setCell ⟨w.heap.size, 6, none⟩ (.slice B5 m5 d5)) (.loc w.heap.size #[(.slice B1 m1 d1), (.int .i64 qf), (.int .i64 qo), (.slice (some ⟨V, 0, none⟩) 2 2), (.slice B3 m3 d3), (.slice B4 m4 d4), (.slice B5 m5 d5)] 30 :: [.loc Z #[.slice B1 m1 d1, .int .i64 qf, .int .i64 qo, (.slice (some ⟨V, 0, none⟩) 2 2), .slice B3 m3 d3, .slice B4 m4 d4, .slice B5 m5 d5] 30, .own rInt w.heap.size 3 (.slice B1 m1 d1) zs, .own rStr w.heap.size 9 vr ss, .own rCap w.heap.size 63 (.slice B3 m3 d3) cs, .own rPool w.heap.size 36 (.slice B4 m4 d4) ps, .own rInt w.heap.size 3 (.slice B5 m5 d5) ds, .loc V #[.string ⟨#[97]⟩, .string ⟨#[97]⟩] 9, .loc (V + 1) #[.string ⟨#[]⟩] 9, .loc (V + 1 + 1) #[.slice (some ⟨V, 0, none⟩) 2 2, .slice (some ⟨V + 1, 0, none⟩) 1 1] 26]) := (((((((S.set 0 0 (.slice B1 m1 d1) rfl).set 0 1 (.int .i64 qf) rfl).set 0 2 (.int .i64 qo) rfl).set 0 3 (.slice (some ⟨V, 0, none⟩) 2 2) rfl).set 0 4 (.slice B3 m3 d3) rfl).set 0 5 (.slice B4 m4 d4) rfl).set 0 6 (.slice B5 m5 d5) rfl)
                      clear S
                      generalize (((((((w20.setCell ⟨w.heap.size, 0, none⟩ (.slice B1 m1 d1)).setCell ⟨w.heap.size, 1, none⟩ (.int .i64 qf)).setCell ⟨w.heap.size, 2, none⟩ (.int .i64 qo)).setCell ⟨w.heap.size, 3, none⟩ (.slice (some ⟨V, 0, none⟩) 2 2)).setCell ⟨w.heap.size, 4, none⟩ (.slice B3 m3 d3)).setCell ⟨w.heap.size, 5, none⟩ (.slice B4 m4 d4)).setCell ⟨w.heap.size, 6, none⟩ (.slice B5 m5 d5)) = wf at *
                      refine bodyPost_ret (v := .agg #[(.slice B1 m1 d1), (.int .i64 qf), (.int .i64 qo), (.slice (some ⟨V, 0, none⟩) 2 2), (.slice B3 m3 d3), (.slice B4 m4 d4), (.slice B5 m5 d5)]) (results_cell1 rfl rfl (load7 (S7.lv 0 rfl))) rfl ?_
                      exact rules_out (S7.g.mono (by omega)) HS2.out (S7.outOwn 2 rfl) (Own.ofLV (xs := [⟨#[97]⟩, ⟨#[97]⟩]) flatStr (S7.lv 7 rfl) hVB rfl rfl (by decide)) (S7.outOwn 4 rfl) (S7.outOwn 5 rfl) (S7.outOwn 6 rfl)
                    · go_upto_region 36 with fail
                      replace S := S.set 1 3 (.slice (some ⟨V + 1, 0, none⟩) 1 1) rfl
                      clear x3 f3 y0 y1
                      generalize w15.setCell ⟨Z, 3, none⟩ (.slice (some ⟨V + 1, 0, none⟩) 1 1) = w20 at *
                      have HS2 : Hid (RSmall zs [⟨#[]⟩] cs ps ds) := ⟨hzl, by decide, by decide, by omega, Hcs.out, by omega, Hps.out, by omega⟩
                      obtain ⟨B1, m1, d1, rfl⟩ := (S.ow 2 rfl).sl
                      obtain ⟨B3, m3, d3, rfl⟩ := (S.ow 4 rfl).sl
                      obtain ⟨B4, m4, d4, rfl⟩ := (S.ow 5 rfl).sl
                      obtain ⟨B5, m5, d5, rfl⟩ := (S.ow 6 rfl).sl
                      have lvR := S.lv 0 rfl
                      have lvZ := S.lv 1 rfl
                      have y0 : w20.cell? ⟨w.heap.size, 0, none⟩ = some (.slice none 0 0) := lvR.cell 0 _ rfl
                      have y1 : w20.cell? ⟨w.heap.size, 1, none⟩ = some (.int .i64 0) := lvR.cell 1 _ rfl
                      have y2 : w20.cell? ⟨w.heap.size, 2, none⟩ = some (.int .i64 0) := lvR.cell 2 _ rfl
                      have y3 : w20.cell? ⟨w.heap.size, 3, none⟩ = some (.slice none 0 0) := lvR.cell 3 _ rfl
                      have y4 : w20.cell? ⟨w.heap.size, 4, none⟩ = some (.slice none 0 0) := lvR.cell 4 _ rfl
                      have y5 : w20.cell? ⟨w.heap.size, 5, none⟩ = some (.slice none 0 0) := lvR.cell 5 _ rfl
                      have y6 : w20.cell? ⟨w.heap.size, 6, none⟩ = some (.slice none 0 0) := lvR.cell 6 _ rfl
                      have g0 := lvR.free 0
                      have g1 := lvR.free 1
                      have g2 := lvR.free 2
                      have g3 := lvR.free 3
                      have g4 := lvR.free 4
                      have g5 := lvR.free 5
                      have g6 := lvR.free 6
                      have z0 : w20.cell? ⟨Z, 0, none⟩ = some (.slice B1 m1 d1) := lvZ.cell 0 _ rfl
                      have z1 : w20.cell? ⟨Z, 1, none⟩ = some (.int .i64 qf) := lvZ.cell 1 _ rfl
                      have z2 : w20.cell? ⟨Z, 2, none⟩ = some (.int .i64 qo) := lvZ.cell 2 _ rfl
                      have z3 : w20.cell? ⟨Z, 3, none⟩ = some (.slice (some ⟨V + 1, 0, none⟩) 1 1) := lvZ.cell 3 _ rfl
                      have z4 : w20.cell? ⟨Z, 4, none⟩ = some (.slice B3 m3 d3) := lvZ.cell 4 _ rfl
                      have z5 : w20.cell? ⟨Z, 5, none⟩ = some (.slice B4 m4 d4) := lvZ.cell 5 _ rfl
                      have z6 : w20.cell? ⟨Z, 6, none⟩ = some (.slice B5 m5 d5) := lvZ.cell 6 _ rfl
                      clear lvR lvZ
                      go_wp2_with fail
                      clear y0 y1 y2 y3 y4 y5 y6 z0 z1 z2 z3 z4 z5 z6 g0 g1 g2 g3 g4 g5 g6
                      have S7 : St b _ w (((((((w20.setCell ⟨w.heap.size, 0, none⟩ (.slice B1 m1 d1)).setCell ⟨w.heap.size, 1, none⟩ (.int .i64 qf)).setCell ⟨w.heap.size, 2, none⟩ (.int .i64 qo)).setCell ⟨w.heap.size, 3, none⟩ (.slice (some ⟨V + 1, 0, none⟩) 1 1)).setCell ⟨w.heap.size, 4, none⟩ (.slice B3 m3 d3)).setCell ⟨w.heap.size, 5, none⟩ (.slice B4 m4 d4)).setCell ⟨w.heap.size, 6, none⟩ (.slice B5 m5 d5)) (.loc w.heap.size #[(.slice B1 m1 d1), (.int .i64 qf), (.int .i64 qo), (.slice (some ⟨V + 1, 0, none⟩) 1 1), (.slice B3 m3 d3), (.slice B4 m4 d4), (.slice B5 m5 d5)] 30 :: [.loc Z #[.slice B1 m1 d1, .int .i64 qf, .int .i64 qo, (.slice (some ⟨V + 1, 0, none⟩) 1 1), .slice B3 m3 d3, .slice B4 m4 d4, .slice B5 m5 d5] 30, .own rInt w.heap.size 3 (.slice B1 m1 d1) zs, .own rStr w.heap.size 9 vr ss, .own rCap w.heap.size 63 (.slice B3 m3 d3) cs, .own rPool w.heap.size 36 (.slice B4 m4 d4) ps, .own rInt w.heap.size 3 (.slice B5 m5 d5) ds, .loc V #[.string ⟨#[97]⟩, .string ⟨#[97]⟩] 9, .loc (V + 1) #[.string ⟨#[]⟩] 9, .loc (V + 1 + 1) #[.slice (some ⟨V, 0, none⟩) 2 2, .slice (some ⟨V + 1, 0, none⟩) 1 1] 26]) := (((((((S.set 0 0 (.slice B1 m1 d1) rfl).set 0 1 (.int .i64 qf) rfl).set 0 2 (.int .i64 qo) rfl).set 0 3 (.slice (some ⟨V + 1, 0, none⟩) 1 1) rfl).set 0 4 (.slice B3 m3 d3) rfl).set 0 5 (.slice B4 m4 d4) rfl).set 0 6 (.slice B5 m5 d5) rfl)
                      clear S
                      generalize (((((((w20.setCell ⟨w.heap.size, 0, none⟩ (.slice B1 m1 d1)).setCell ⟨w.heap.size, 1, none⟩ (.int .i64 qf)).setCell ⟨w.heap.size, 2, none⟩ (.int .i64 qo)).setCell ⟨w.heap.size, 3, none⟩ (.slice (some ⟨V + 1, 0, none⟩) 1 1)).setCell ⟨w.heap.size, 4, none⟩ (.slice B3 m3 d3)).setCell ⟨w.heap.size, 5, none⟩ (.slice B4 m4 d4)).setCell ⟨w.heap.size, 6, none⟩ (.slice B5 m5 d5)) = wf at *
                      refine bodyPost_ret (v := .agg #[(.slice B1 m1 d1), (.int .i64 qf), (.int .i64 qo), (.slice (some ⟨V + 1, 0, none⟩) 1 1), (.slice B3 m3 d3), (.slice B4 m4 d4), (.slice B5 m5 d5)]) (results_cell1 rfl rfl (load7 (S7.lv 0 rfl))) rfl ?_
                      exact rules_out (S7.g.mono (by omega)) HS2.out (S7.outOwn 2 rfl) (Own.ofLV (xs := [⟨#[]⟩]) flatStr (S7.lv 8 rfl) (Nat.le_succ_of_le hVB) rfl rfl (by decide)) (S7.outOwn 4 rfl) (S7.outOwn 5 rfl) (S7.outOwn 6 rfl)
                  · go_wp2_with fail
                    --@dev
                    have hZb : Z ≠ b := by have := S.ge 1 rfl; have := S.b0; omega
                    refine wp_region_mixG 15 (fun wc => wc.cell? ⟨Z, 4, none⟩ = some vc) [.q 0, .q 1, .q 2, .q 4, .q 7, .q 9, .f [3, 5, 6, 8, 10, 11], .e 12, .e 13, .q 14, .e 15] (by kernel_rfl) (by kernel_rfl) (fun _ hd => ((S.below (hd.below _)).lv 1 rfl).cell 4 _ rfl) (fun KK hKK wd hd => ?_)
                    replace S := S.below (hd.below _)
                    have hbd : b < wd.heap.size := Nat.lt_of_lt_of_le S.b0 S.g.size
                    clear hd
                    repeat (refine mixG_p rfl (fun K hK => ?_); go_simp; (try go_bits); (try simp (disch := omega) only [if_pos]); (try simp (disch := omega) only [if_neg]); (try simp (disch := omega) only [dif_pos]); (try simp (disch := omega) only [dif_neg]); (try go_simp); (refine hK _ ?_; clear hK K))
                    refine mixG_load vc rfl rfl rfl rfl (fun _ => rfl) (fun _ h => h) ?_
                    repeat (refine mixG_p rfl (fun K hK => ?_); go_simp; (try go_bits); (try simp (disch := omega) only [if_pos]); (try simp (disch := omega) only [if_neg]); (try simp (disch := omega) only [dif_pos]); (try simp (disch := omega) only [dif_neg]); (try go_simp); (refine hK _ ?_; clear hK K))
                    refine free_plan [(3, 152, []), (5, 154, []), (6, 155, [(3, 152), (5, 154)]), (8, 157, [(6, 155)]), (10, 159, [(8, 157)]), (11, 160, [(3, 152), (6, 155), (8, 157), (10, 159)])] rfl (by kernel_rfl) (fun c w' => G b (m + 140 + 3 * c) wd w') (SK b) (cap2Fact wd.heap.size) ((G.start S.g.s).mono (by omega)) (fun c w' h => ((S.lv 1 rfl).keep h.k hZb).cell 4 _ rfl) (fun x _ v w w' k h => cap2Fact_keep hbd x.1 v w w' k h) (by rfl) ?_ ?_
                    · refine all_cons ?_ (all_cons ?_ (all_cons ?_ (all_cons ?_ (all_cons ?_ (all_cons ?_ all_nil)))))
                      all_goals (intro o ho c ν w2 hc hinv hp; cases ho; simp only [fillD, List.foldl_cons, List.foldl_nil]; simp only [List.length_cons, List.length_nil] at hc)
                      · go_wp2_with fail
                        ((with_reducible refine (odd_any b _ _ _ _ hinv.s (by omega) (by omega) (by omega) (by omega)).mono ?_); rintro e w3 ⟨r, r_lo, r_hi, rfl, hk_w3, hs_w3⟩)
                        go_wp2_with fail
                        refine ⟨_, rfl, hk_w3, (hinv.step hk_w3 hs_w3).mono (by omega), ?_⟩
                        exact ⟨r, rfl⟩
                      · go_wp2_with fail
                        first | exact ⟨_, rfl, (SK.refl _ _).alloc _, (hinv.alloc _).mono (by omega), w2.heap.size, rfl, LV.new _ _ _ _ rfl, hinv.size⟩ | exact ⟨(SK.refl _ _).alloc _, (hinv.alloc _).mono (by omega), w2.heap.size, rfl, LV.new _ _ _ _ rfl, hinv.size⟩
                      · have h7 : IsLitS wd.heap.size [⟨#[]⟩, ⟨#[78]⟩] (ν 5) w2 := hp (5, 154) (by simp)
                        go_wp2_with fail
                        ((with_reducible refine (h7.one hinv.s hbd (by simp) (by simp) (by omega)).mono ?_); rintro e w3 ⟨r, hr, rfl, hk_w3, hs_w3⟩)
                        go_wp2_with fail
                        refine ⟨_, rfl, hk_w3, (hinv.step hk_w3 hs_w3).mono (by omega), ?_⟩
                        refine ⟨r, rfl, ?_⟩
                        simp only [List.mem_cons, List.not_mem_nil, or_false] at hr
                        rcases hr with rfl | rfl <;> decide
                      · go_wp2_with fail
                        ((with_reducible refine (odd_any b _ _ _ _ hinv.s (by omega) (by omega) (by omega) (by omega)).mono ?_); rintro e w3 ⟨r, r_lo, r_hi, rfl, hk_w3, hs_w3⟩)
                        go_wp2_with fail
                        refine ⟨_, rfl, hk_w3, (hinv.step hk_w3 hs_w3).mono (by omega), ?_⟩
                        exact ⟨r, rfl⟩
                      · go_wp2_with fail
                        ((with_reducible refine (odd_any b _ _ _ _ hinv.s (by omega) (by omega) (by omega) (by omega)).mono ?_); rintro e w3 ⟨r, r_lo, r_hi, rfl, hk_w3, hs_w3⟩)
                        go_wp2_with fail
                        refine ⟨_, rfl, hk_w3, (hinv.step hk_w3 hs_w3).mono (by omega), ?_⟩
                        exact ⟨r, rfl⟩
                      · obtain ⟨x1, e1⟩ := (hp (3, 152) (by simp) : ∃ n : Int, ν 3 = .int .i64 n)
                        obtain ⟨x2, e2, hx2⟩ := (hp (6, 155) (by simp) : IsS 10 (ν 6))
                        obtain ⟨x3, e3⟩ := (hp (8, 157) (by simp) : ∃ n : Int, ν 8 = .int .i64 n)
                        obtain ⟨x4, e4⟩ := (hp (10, 159) (by simp) : ∃ n : Int, ν 10 = .int .i64 n)
                        simp only [e1, e2, e3, e4]
                        go_wp2_with fail
                        first | exact ⟨_, rfl, SK.refl _ _, hinv.mono (by omega), ⟨x1, x2, x3, x4⟩, rfl, hx2⟩ | exact ⟨SK.refl _ _, hinv.mono (by omega), ⟨x1, x2, x3, x4⟩, rfl, hx2⟩
                    · intro ν w2 hinv hf
                      obtain ⟨y, e14, hy⟩ := (hf (11, 160, [(3, 152), (6, 155), (8, 157), (10, 159)]) (by simp) : ∃ c : SCap, ν 11 = .agg c.cells.toArray ∧ c.purpose.size ≤ 10)
                      replace S := S.step hinv.k hinv.s
                      simp only [fillD, List.map_cons, List.map_nil, List.foldl_cons, List.foldl_nil, e14]
                      clear hf hinv e14
                      generalize ν 3 = q3
                      generalize ν 5 = q5
                      generalize ν 6 = q6
                      generalize ν 8 = q8
                      generalize ν 10 = q10
                      obtain ⟨y1, y2, y3, y4⟩ := y
                      simp only [SCap.cells]
                      have hsz := S.g.size
                      have hCa : ∀ o, (w2.alloc o).cell? ⟨Z, 4, none⟩ = some vc := fun o => ((S.alloc o).lv 1 rfl).cell 4 _ rfl
                      refine mixG_l rfl rfl (fun K hK => ?_)
                      go_wp2_with fail
                      first | refine ⟨hCa _, ?_⟩ | refine ⟨fun _ => hCa _, ?_⟩ | skip
                      clear hCa
                      refine mixG_l rfl rfl (fun K hK => ?_)
                      refine S.app 4 rfl tyCap rfl _ _ rfl ⟨y1, y2, y3, y4⟩ 1 rfl rfl rfl (oneCap ⟨y1, y2, y3, y4⟩) hsz (by omega) (by decide) ?_
                      intro v' w6 S6
                      obtain ⟨A6, n6, c6, rfl⟩ := (S6.ow 4 rfl).sl
                      have hCb : w6.cell? ⟨Z, 4, none⟩ = some vc := (S6.lv 1 rfl).cell 4 _ rfl
                      have hCf : w6.frozen? ⟨Z, 4, none⟩ = false := (S6.lv 1 rfl).free 4
                      go_wp2_with fail
                      first | refine ⟨hCb, ?_⟩ | refine ⟨fun _ => hCb, ?_⟩ | skip
                      repeat (refine mixG_p rfl (fun K hK => ?_); go_simp; (try go_bits); (try simp (disch := omega) only [if_pos]); (try simp (disch := omega) only [if_neg]); (try simp (disch := omega) only [dif_pos]); (try simp (disch := omega) only [dif_neg]); (try go_simp); (refine hK _ ?_; clear hK K))
                      refine mixG_l rfl rfl (fun K hK => ?_)
                      go_wp2_with fail
                      refine ⟨fun h => absurd rfl h, ?_⟩
                      refine mixG_nil ?_
                      simp only [Exit.then]
                      refine hKK _ _ ?_
                      replace S6 := S6.set 1 4 (.slice A6 n6 c6) rfl
                      clear S hCb hCf hsz
                      have S : St b _ w (w6.setCell ⟨Z, 4, none⟩ (.slice A6 n6 c6)) (RL w.heap.size w.heap.size Z vq qf qo vr (.slice A6 n6 c6) vp vd zs ss (cs ++ [⟨y1, y2, y3, y4⟩]) ps ds) := S6
                      clear S6
                      generalize w6.setCell ⟨Z, 4, none⟩ (.slice A6 n6 c6) = w20 at *
                      have HS2 : Hid (RSmall zs ss (cs ++ [⟨y1, y2, y3, y4⟩]) ps ds) := ⟨hzl, hsl, hss, by simp; omega, caps_snoc Hcs.out hy, by omega, Hps.out, by omega⟩
                      obtain ⟨B1, m1, d1, rfl⟩ := (S.ow 2 rfl).sl
                      obtain ⟨B2, m2, d2, rfl⟩ := (S.ow 3 rfl).sl
                      obtain ⟨B4, m4, d4, rfl⟩ := (S.ow 5 rfl).sl
                      obtain ⟨B5, m5, d5, rfl⟩ := (S.ow 6 rfl).sl
                      have lvR := S.lv 0 rfl
                      have lvZ := S.lv 1 rfl
                      have y0 : w20.cell? ⟨w.heap.size, 0, none⟩ = some (.slice none 0 0) := lvR.cell 0 _ rfl
                      have y1 : w20.cell? ⟨w.heap.size, 1, none⟩ = some (.int .i64 0) := lvR.cell 1 _ rfl
                      have y2 : w20.cell? ⟨w.heap.size, 2, none⟩ = some (.int .i64 0) := lvR.cell 2 _ rfl
                      have y3 : w20.cell? ⟨w.heap.size, 3, none⟩ = some (.slice none 0 0) := lvR.cell 3 _ rfl
                      have y4 : w20.cell? ⟨w.heap.size, 4, none⟩ = some (.slice none 0 0) := lvR.cell 4 _ rfl
                      have y5 : w20.cell? ⟨w.heap.size, 5, none⟩ = some (.slice none 0 0) := lvR.cell 5 _ rfl
                      have y6 : w20.cell? ⟨w.heap.size, 6, none⟩ = some (.slice none 0 0) := lvR.cell 6 _ rfl
                      have g0 := lvR.free 0
                      have g1 := lvR.free 1
                      have g2 := lvR.free 2
                      have g3 := lvR.free 3
                      have g4 := lvR.free 4
                      have g5 := lvR.free 5
                      have g6 := lvR.free 6
                      have z0 : w20.cell? ⟨Z, 0, none⟩ = some (.slice B1 m1 d1) := lvZ.cell 0 _ rfl
                      have z1 : w20.cell? ⟨Z, 1, none⟩ = some (.int .i64 qf) := lvZ.cell 1 _ rfl
                      have z2 : w20.cell? ⟨Z, 2, none⟩ = some (.int .i64 qo) := lvZ.cell 2 _ rfl
                      have z3 : w20.cell? ⟨Z, 3, none⟩ = some (.slice B2 m2 d2) := lvZ.cell 3 _ rfl
                      have z4 : w20.cell? ⟨Z, 4, none⟩ = some (.slice A6 n6 c6) := lvZ.cell 4 _ rfl
                      have z5 : w20.cell? ⟨Z, 5, none⟩ = some (.slice B4 m4 d4) := lvZ.cell 5 _ rfl
                      have z6 : w20.cell? ⟨Z, 6, none⟩ = some (.slice B5 m5 d5) := lvZ.cell 6 _ rfl
                      clear lvR lvZ
                      go_wp2_with fail
                      clear y0 y1 y2 y3 y4 y5 y6 z0 z1 z2 z3 z4 z5 z6 g0 g1 g2 g3 g4 g5 g6
                      have S7 : St b _ w (((((((w20.setCell ⟨w.heap.size, 0, none⟩ (.slice B1 m1 d1)).setCell ⟨w.heap.size, 1, none⟩ (.int .i64 qf)).setCell ⟨w.heap.size, 2, none⟩ (.int .i64 qo)).setCell ⟨w.heap.size, 3, none⟩ (.slice B2 m2 d2)).setCell ⟨w.heap.size, 4, none⟩ (.slice A6 n6 c6)).setCell ⟨w.heap.size, 5, none⟩ (.slice B4 m4 d4)).setCell ⟨w.heap.size, 6, none⟩ (.slice B5 m5 d5)) (.loc w.heap.size #[(.slice B1 m1 d1), (.int .i64 qf), (.int .i64 qo), (.slice B2 m2 d2), (.slice A6 n6 c6), (.slice B4 m4 d4), (.slice B5 m5 d5)] 30 :: RLT w.heap.size Z (.slice B1 m1 d1) qf qo (.slice B2 m2 d2) (.slice A6 n6 c6) (.slice B4 m4 d4) (.slice B5 m5 d5) zs ss (cs ++ [⟨y1, y2, y3, y4⟩]) ps ds) := (((((((S.set 0 0 (.slice B1 m1 d1) rfl).set 0 1 (.int .i64 qf) rfl).set 0 2 (.int .i64 qo) rfl).set 0 3 (.slice B2 m2 d2) rfl).set 0 4 (.slice A6 n6 c6) rfl).set 0 5 (.slice B4 m4 d4) rfl).set 0 6 (.slice B5 m5 d5) rfl)
                      clear S
                      generalize (((((((w20.setCell ⟨w.heap.size, 0, none⟩ (.slice B1 m1 d1)).setCell ⟨w.heap.size, 1, none⟩ (.int .i64 qf)).setCell ⟨w.heap.size, 2, none⟩ (.int .i64 qo)).setCell ⟨w.heap.size, 3, none⟩ (.slice B2 m2 d2)).setCell ⟨w.heap.size, 4, none⟩ (.slice A6 n6 c6)).setCell ⟨w.heap.size, 5, none⟩ (.slice B4 m4 d4)).setCell ⟨w.heap.size, 6, none⟩ (.slice B5 m5 d5)) = wf at *
                      refine bodyPost_ret (v := .agg #[(.slice B1 m1 d1), (.int .i64 qf), (.int .i64 qo), (.slice B2 m2 d2), (.slice A6 n6 c6), (.slice B4 m4 d4), (.slice B5 m5 d5)]) (results_cell1 rfl rfl (load7 (S7.lv 0 rfl))) rfl ?_
                      exact rules_out (S7.g.mono (by first | omega | (simp; done) | (simp; omega))) HS2.out (S7.outOwn 2 rfl) (S7.outOwn 3 rfl) (S7.outOwn 4 rfl) (S7.outOwn 5 rfl) (S7.outOwn 6 rfl)
                    --@enddev
                  · go_wp2_with fail
                    --@dev
                    refine wp_region_mixG 18 (fun wc => wc.cell? ⟨Z, 5, none⟩ = some vp) [.q 0, .q 1, .q 2, .q 5, .q 7, .q 9, .q 11, .e 3, .e 4, .e 6, .e 8, .e 10, .e 12, .e 13, .q 14, .e 15, .e 16, .q 17, .e 18] (by kernel_rfl) (by kernel_rfl) (fun _ hd => ((S.below (hd.below _)).lv 1 rfl).cell 5 _ rfl) (fun KK hKK wd hd => ?_)
                    replace S := S.below (hd.below _)
                    clear hd
                    repeat (refine mixG_p rfl (fun K hK => ?_); go_simp; (try go_bits); (try simp (disch := omega) only [if_pos]); (try simp (disch := omega) only [if_neg]); (try simp (disch := omega) only [dif_pos]); (try simp (disch := omega) only [dif_neg]); (try go_simp); (refine hK _ ?_; clear hK K))
                    refine mixG_load vp rfl rfl rfl rfl (fun _ => rfl) (fun _ h => h) ?_
                    repeat (refine mixG_p rfl (fun K hK => ?_); go_simp; (try go_bits); (try simp (disch := omega) only [if_pos]); (try simp (disch := omega) only [if_neg]); (try simp (disch := omega) only [dif_pos]); (try simp (disch := omega) only [dif_neg]); (try go_simp); (refine hK _ ?_; clear hK K))
                    refine mixG_l rfl rfl (fun K hK => ?_)
                    go_wp2_with fail
                    have hCa : ∀ o, (wd.alloc o).cell? ⟨Z, 5, none⟩ = some vp := fun o => ((S.alloc o).lv 1 rfl).cell 5 _ rfl
                    refine ⟨by first | exact hCa _ | exact fun _ => hCa _, ?_⟩
                    clear hCa
                    refine mixG_l rfl rfl (fun K hK => ?_)
                    go_wp2_with fail
                    ((with_reducible refine (one_le b _ _ _ (4) S.g.s (by first | rfl | simp) (by first | rfl | simp) (strsLe_of (by decide)) (by simp) (by simp) (by omega)).mono ?_); rintro e w15 ⟨nm, nm_le, rfl, hk_w15, hs_w15⟩)
                    replace S := S.step hk_w15 hs_w15
                    clear hk_w15 hs_w15
                    have hCc : w15.cell? ⟨Z, 5, none⟩ = some vp := (S.lv 1 rfl).cell 5 _ rfl
                    go_wp2_with fail
                    refine ⟨by first | exact hCc | exact fun _ => hCc, ?_⟩
                    clear hCc
                    refine mixG_l rfl rfl (fun K hK => ?_)
                    go_wp2_with fail
                    ((with_reducible refine (odd_any b _ _ _ _ S.g.s (by omega) (by omega) (by omega) (by omega)).mono ?_); rintro e w16 ⟨x1, x1_lo, x1_hi, rfl, hk_w16, hs_w16⟩)
                    replace S := S.step hk_w16 hs_w16
                    clear hk_w16 hs_w16
                    have hCc : w16.cell? ⟨Z, 5, none⟩ = some vp := (S.lv 1 rfl).cell 5 _ rfl
                    go_wp2_with fail
                    refine ⟨by first | exact hCc | exact fun _ => hCc, ?_⟩
                    clear hCc
                    refine mixG_l rfl rfl (fun K hK => ?_)
                    go_wp2_with fail
                    ((with_reducible refine (odd_any b _ _ _ _ S.g.s (by omega) (by omega) (by omega) (by omega)).mono ?_); rintro e w17 ⟨x2, x2_lo, x2_hi, rfl, hk_w17, hs_w17⟩)
                    replace S := S.step hk_w17 hs_w17
                    clear hk_w17 hs_w17
                    have hCc : w17.cell? ⟨Z, 5, none⟩ = some vp := (S.lv 1 rfl).cell 5 _ rfl
                    go_wp2_with fail
                    refine ⟨by first | exact hCc | exact fun _ => hCc, ?_⟩
                    clear hCc
                    refine mixG_l rfl rfl (fun K hK => ?_)
                    go_wp2_with fail
                    ((with_reducible refine (odd_any b _ _ _ _ S.g.s (by omega) (by omega) (by omega) (by omega)).mono ?_); rintro e w18 ⟨x3, x3_lo, x3_hi, rfl, hk_w18, hs_w18⟩)
                    replace S := S.step hk_w18 hs_w18
                    clear hk_w18 hs_w18
                    have hCc : w18.cell? ⟨Z, 5, none⟩ = some vp := (S.lv 1 rfl).cell 5 _ rfl
                    go_wp2_with fail
                    refine ⟨by first | exact hCc | exact fun _ => hCc, ?_⟩
                    clear hCc
                    refine mixG_l rfl rfl (fun K hK => ?_)
                    go_wp2_with fail
                    ((with_reducible refine (odd_any b _ _ _ _ S.g.s (by omega) (by omega) (by omega) (by omega)).mono ?_); rintro e w19 ⟨x5, x5_lo, x5_hi, rfl, hk_w19, hs_w19⟩)
                    replace S := S.step hk_w19 hs_w19
                    clear hk_w19 hs_w19
                    have hCc : w19.cell? ⟨Z, 5, none⟩ = some vp := (S.lv 1 rfl).cell 5 _ rfl
                    go_wp2_with fail
                    refine ⟨by first | exact hCc | exact fun _ => hCc, ?_⟩
                    clear hCc
                    refine mixG_l rfl rfl (fun K hK => ?_)
                    go_wp2_with fail
                    obtain ⟨X, hX⟩ : ∃ X, X = w19.heap.size := ⟨_, rfl⟩
                    have hlX : LV (w19.alloc (.cells #[.int .i64 x5] 3)) X #[.int .i64 x5] 3 := LV.new _ _ _ _ hX
                    have hXB : w.heap.size ≤ X := hX ▸ S.g.size
                    replace S := S.call ((G.start S.g.s).alloc (.cells #[.int .i64 x5] 3)) (.own rInt w.heap.size 3 (.slice (some ⟨X, 0, none⟩) 1 1) [x5]) (Own.ofLV (xs := [x5]) flatInt hlX hXB rfl rfl (by simp)) (fun k e => by cases e; exact Nat.le_of_eq hX.symm)
                    try rw [← hX]
                    clear hlX hX
                    generalize w19.alloc (.cells #[.int .i64 x5] 3) = w21 at *
                    have hCc : w21.cell? ⟨Z, 5, none⟩ = some vp := (S.lv 1 rfl).cell 5 _ rfl
                    go_wp2_with fail
                    refine ⟨by first | exact hCc | exact fun _ => hCc, ?_⟩
                    clear hCc
                    obtain ⟨Aw, cw, ew, S1⟩ := S.frz 7 rfl
                    cases ew
                    clear S
                    have S := S1
                    clear S1
                    repeat (refine mixG_p rfl (fun K hK => ?_); go_simp; (try go_bits); (try simp (disch := omega) only [if_pos]); (try simp (disch := omega) only [if_neg]); (try simp (disch := omega) only [dif_pos]); (try simp (disch := omega) only [dif_neg]); (try go_simp); (refine hK _ ?_; clear hK K))
                    have hsz := S.g.size
                    have hCa : ∀ o, (w21.alloc o).cell? ⟨Z, 5, none⟩ = some vp := fun o => ((S.alloc o).lv 1 rfl).cell 5 _ rfl
                    refine mixG_l rfl rfl (fun K hK => ?_)
                    go_wp2_with fail
                    first | refine ⟨hCa _, ?_⟩ | refine ⟨fun _ => hCa _, ?_⟩ | skip
                    clear hCa
                    refine mixG_l rfl rfl (fun K hK => ?_)
                    refine S.app 5 rfl tyPool rfl _ _ rfl ⟨nm, x1, x2, x3, [x5]⟩ 1 rfl rfl ⟨SPool.cells ⟨nm, x1, x2, x3, [x5]⟩, [.slice (some ⟨X, 0, none⟩) 1 1], rfl, rfl, some ⟨X, 0, none⟩, 1, rfl, S.slc 7 rfl⟩ (onePool ⟨nm, x1, x2, x3, [x5]⟩ (some ⟨X, 0, none⟩) 1 1) hsz (by omega) (by decide) ?_
                    intro v' w6 S6
                    obtain ⟨A6, n6, c6, rfl⟩ := (S6.ow 5 rfl).sl
                    have hCb : w6.cell? ⟨Z, 5, none⟩ = some vp := (S6.lv 1 rfl).cell 5 _ rfl
                    have hCf : w6.frozen? ⟨Z, 5, none⟩ = false := (S6.lv 1 rfl).free 5
                    go_wp2_with fail
                    first | refine ⟨hCb, ?_⟩ | refine ⟨fun _ => hCb, ?_⟩ | skip
                    repeat (refine mixG_p rfl (fun K hK => ?_); go_simp; (try go_bits); (try simp (disch := omega) only [if_pos]); (try simp (disch := omega) only [if_neg]); (try simp (disch := omega) only [dif_pos]); (try simp (disch := omega) only [dif_neg]); (try go_simp); (refine hK _ ?_; clear hK K))
                    refine mixG_l rfl rfl (fun K hK => ?_)
                    go_wp2_with fail
                    refine ⟨fun h => absurd rfl h, ?_⟩
                    refine mixG_nil ?_
                    simp only [Exit.then]
                    refine hKK _ _ ?_
                    replace S6 := S6.set 1 5 (.slice A6 n6 c6) rfl
                    clear S hCb hCf hsz
                    have S : St b _ w (w6.setCell ⟨Z, 5, none⟩ (.slice A6 n6 c6)) (RL w.heap.size w.heap.size Z vq qf qo vr vc (.slice A6 n6 c6) vd zs ss cs (ps ++ [⟨nm, x1, x2, x3, [x5]⟩]) ds) := S6.del 7
                    clear S6
                    generalize w6.setCell ⟨Z, 5, none⟩ (.slice A6 n6 c6) = w20 at *
                    have HS2 : Hid (RSmall zs ss cs (ps ++ [⟨nm, x1, x2, x3, [x5]⟩]) ds) := ⟨hzl, hsl, hss, by omega, Hcs.out, by simp; omega, pools_snoc Hps.out ⟨by show nm.size ≤ 20; omega, by simp⟩, by omega⟩
                    obtain ⟨B1, m1, d1, rfl⟩ := (S.ow 2 rfl).sl
                    obtain ⟨B2, m2, d2, rfl⟩ := (S.ow 3 rfl).sl
                    obtain ⟨B3, m3, d3, rfl⟩ := (S.ow 4 rfl).sl
                    obtain ⟨B5, m5, d5, rfl⟩ := (S.ow 6 rfl).sl
                    have lvR := S.lv 0 rfl
                    have lvZ := S.lv 1 rfl
                    have y0 : w20.cell? ⟨w.heap.size, 0, none⟩ = some (.slice none 0 0) := lvR.cell 0 _ rfl
                    have y1 : w20.cell? ⟨w.heap.size, 1, none⟩ = some (.int .i64 0) := lvR.cell 1 _ rfl
                    have y2 : w20.cell? ⟨w.heap.size, 2, none⟩ = some (.int .i64 0) := lvR.cell 2 _ rfl
                    have y3 : w20.cell? ⟨w.heap.size, 3, none⟩ = some (.slice none 0 0) := lvR.cell 3 _ rfl
                    have y4 : w20.cell? ⟨w.heap.size, 4, none⟩ = some (.slice none 0 0) := lvR.cell 4 _ rfl
                    have y5 : w20.cell? ⟨w.heap.size, 5, none⟩ = some (.slice none 0 0) := lvR.cell 5 _ rfl
                    have y6 : w20.cell? ⟨w.heap.size, 6, none⟩ = some (.slice none 0 0) := lvR.cell 6 _ rfl
                    have g0 := lvR.free 0
                    have g1 := lvR.free 1
                    have g2 := lvR.free 2
                    have g3 := lvR.free 3
                    have g4 := lvR.free 4
                    have g5 := lvR.free 5
                    have g6 := lvR.free 6
                    have z0 : w20.cell? ⟨Z, 0, none⟩ = some (.slice B1 m1 d1) := lvZ.cell 0 _ rfl
                    have z1 : w20.cell? ⟨Z, 1, none⟩ = some (.int .i64 qf) := lvZ.cell 1 _ rfl
                    have z2 : w20.cell? ⟨Z, 2, none⟩ = some (.int .i64 qo) := lvZ.cell 2 _ rfl
                    have z3 : w20.cell? ⟨Z, 3, none⟩ = some (.slice B2 m2 d2) := lvZ.cell 3 _ rfl
                    have z4 : w20.cell? ⟨Z, 4, none⟩ = some (.slice B3 m3 d3) := lvZ.cell 4 _ rfl
                    have z5 : w20.cell? ⟨Z, 5, none⟩ = some (.slice A6 n6 c6) := lvZ.cell 5 _ rfl
                    have z6 : w20.cell? ⟨Z, 6, none⟩ = some (.slice B5 m5 d5) := lvZ.cell 6 _ rfl
                    clear lvR lvZ
                    go_wp2_with fail
                    clear y0 y1 y2 y3 y4 y5 y6 z0 z1 z2 z3 z4 z5 z6 g0 g1 g2 g3 g4 g5 g6
                    have S7 : St b _ w (((((((w20.setCell ⟨w.heap.size, 0, none⟩ (.slice B1 m1 d1)).setCell ⟨w.heap.size, 1, none⟩ (.int .i64 qf)).setCell ⟨w.heap.size, 2, none⟩ (.int .i64 qo)).setCell ⟨w.heap.size, 3, none⟩ (.slice B2 m2 d2)).setCell ⟨w.heap.size, 4, none⟩ (.slice B3 m3 d3)).setCell ⟨w.heap.size, 5, none⟩ (.slice A6 n6 c6)).setCell ⟨w.heap.size, 6, none⟩ (.slice B5 m5 d5)) (.loc w.heap.size #[(.slice B1 m1 d1), (.int .i64 qf), (.int .i64 qo), (.slice B2 m2 d2), (.slice B3 m3 d3), (.slice A6 n6 c6), (.slice B5 m5 d5)] 30 :: RLT w.heap.size Z (.slice B1 m1 d1) qf qo (.slice B2 m2 d2) (.slice B3 m3 d3) (.slice A6 n6 c6) (.slice B5 m5 d5) zs ss cs (ps ++ [⟨nm, x1, x2, x3, [x5]⟩]) ds) := (((((((S.set 0 0 (.slice B1 m1 d1) rfl).set 0 1 (.int .i64 qf) rfl).set 0 2 (.int .i64 qo) rfl).set 0 3 (.slice B2 m2 d2) rfl).set 0 4 (.slice B3 m3 d3) rfl).set 0 5 (.slice A6 n6 c6) rfl).set 0 6 (.slice B5 m5 d5) rfl)
                    clear S
                    generalize (((((((w20.setCell ⟨w.heap.size, 0, none⟩ (.slice B1 m1 d1)).setCell ⟨w.heap.size, 1, none⟩ (.int .i64 qf)).setCell ⟨w.heap.size, 2, none⟩ (.int .i64 qo)).setCell ⟨w.heap.size, 3, none⟩ (.slice B2 m2 d2)).setCell ⟨w.heap.size, 4, none⟩ (.slice B3 m3 d3)).setCell ⟨w.heap.size, 5, none⟩ (.slice A6 n6 c6)).setCell ⟨w.heap.size, 6, none⟩ (.slice B5 m5 d5)) = wf at *
                    refine bodyPost_ret (v := .agg #[(.slice B1 m1 d1), (.int .i64 qf), (.int .i64 qo), (.slice B2 m2 d2), (.slice B3 m3 d3), (.slice A6 n6 c6), (.slice B5 m5 d5)]) (results_cell1 rfl rfl (load7 (S7.lv 0 rfl))) rfl ?_
                    exact rules_out (S7.g.mono (by omega)) HS2.out (S7.outOwn 2 rfl) (S7.outOwn 3 rfl) (S7.outOwn 4 rfl) (S7.outOwn 5 rfl) (S7.outOwn 6 rfl)
                    --@enddev
                  · go_wp2_with fail
                    --@dev
                    refine wp_region_mixG 7 (fun wc => wc.cell? ⟨Z, 6, none⟩ = some vd) [.q 0, .q 1, .q 2, .e 3, .e 4, .e 5, .q 6, .e 7] (by kernel_rfl) (by kernel_rfl) (fun _ hd => ((S.below (hd.below _)).lv 1 rfl).cell 6 _ rfl) (fun KK hKK wd hd => ?_)
                    replace S := S.below (hd.below _)
                    clear hd
                    repeat (refine mixG_p rfl (fun K hK => ?_); go_simp; (try go_bits); (try simp (disch := omega) only [if_pos]); (try simp (disch := omega) only [if_neg]); (try simp (disch := omega) only [dif_pos]); (try simp (disch := omega) only [dif_neg]); (try go_simp); (refine hK _ ?_; clear hK K))
                    refine mixG_load vd rfl rfl rfl rfl (fun _ => rfl) (fun _ h => h) ?_
                    repeat (refine mixG_p rfl (fun K hK => ?_); go_simp; (try go_bits); (try simp (disch := omega) only [if_pos]); (try simp (disch := omega) only [if_neg]); (try simp (disch := omega) only [dif_pos]); (try simp (disch := omega) only [dif_neg]); (try go_simp); (refine hK _ ?_; clear hK K))
                    refine mixG_l rfl rfl (fun K hK => ?_)
                    go_wp2_with fail
                    ((with_reducible refine (odd_any b _ _ _ _ S.g.s (by omega) (by omega) (by omega) (by omega)).mono ?_); rintro e w15 ⟨x1, x1_lo, x1_hi, rfl, hk_w15, hs_w15⟩)
                    replace S := S.step hk_w15 hs_w15
                    clear hk_w15 hs_w15
                    have hCc : w15.cell? ⟨Z, 6, none⟩ = some vd := (S.lv 1 rfl).cell 6 _ rfl
                    go_wp2_with fail
                    refine ⟨by first | exact hCc | exact fun _ => hCc, ?_⟩
                    clear hCc
                    have hsz := S.g.size
                    have hCa : ∀ o, (w15.alloc o).cell? ⟨Z, 6, none⟩ = some vd := fun o => ((S.alloc o).lv 1 rfl).cell 6 _ rfl
                    refine mixG_l rfl rfl (fun K hK => ?_)
                    go_wp2_with fail
                    first | refine ⟨hCa _, ?_⟩ | refine ⟨fun _ => hCa _, ?_⟩ | skip
                    clear hCa
                    refine mixG_l rfl rfl (fun K hK => ?_)
                    refine S.app 6 rfl tyInt rfl _ _ rfl x1 1 rfl rfl rfl (oneInt x1) hsz (by omega) (by decide) ?_
                    intro v' w6 S6
                    obtain ⟨A6, n6, c6, rfl⟩ := (S6.ow 6 rfl).sl
                    have hCb : w6.cell? ⟨Z, 6, none⟩ = some vd := (S6.lv 1 rfl).cell 6 _ rfl
                    have hCf : w6.frozen? ⟨Z, 6, none⟩ = false := (S6.lv 1 rfl).free 6
                    go_wp2_with fail
                    first | refine ⟨hCb, ?_⟩ | refine ⟨fun _ => hCb, ?_⟩ | skip
                    repeat (refine mixG_p rfl (fun K hK => ?_); go_simp; (try go_bits); (try simp (disch := omega) only [if_pos]); (try simp (disch := omega) only [if_neg]); (try simp (disch := omega) only [dif_pos]); (try simp (disch := omega) only [dif_neg]); (try go_simp); (refine hK _ ?_; clear hK K))
                    refine mixG_l rfl rfl (fun K hK => ?_)
                    go_wp2_with fail
                    refine ⟨fun h => absurd rfl h, ?_⟩
                    refine mixG_nil ?_
                    simp only [Exit.then]
                    refine hKK _ _ ?_
                    replace S6 := S6.set 1 6 (.slice A6 n6 c6) rfl
                    clear S hCb hCf hsz
                    have S : St b _ w (w6.setCell ⟨Z, 6, none⟩ (.slice A6 n6 c6)) (RL w.heap.size w.heap.size Z vq qf qo vr vc vp (.slice A6 n6 c6) zs ss cs ps (ds ++ [x1])) := S6
                    clear S6
                    generalize w6.setCell ⟨Z, 6, none⟩ (.slice A6 n6 c6) = w20 at *
                    have HS2 : Hid (RSmall zs ss cs ps (ds ++ [x1])) := ⟨hzl, hsl, hss, by omega, Hcs.out, by omega, Hps.out, by simp; omega⟩
                    obtain ⟨B1, m1, d1, rfl⟩ := (S.ow 2 rfl).sl
                    obtain ⟨B2, m2, d2, rfl⟩ := (S.ow 3 rfl).sl
                    obtain ⟨B3, m3, d3, rfl⟩ := (S.ow 4 rfl).sl
                    obtain ⟨B4, m4, d4, rfl⟩ := (S.ow 5 rfl).sl
                    have lvR := S.lv 0 rfl
                    have lvZ := S.lv 1 rfl
                    have y0 : w20.cell? ⟨w.heap.size, 0, none⟩ = some (.slice none 0 0) := lvR.cell 0 _ rfl
                    have y1 : w20.cell? ⟨w.heap.size, 1, none⟩ = some (.int .i64 0) := lvR.cell 1 _ rfl
                    have y2 : w20.cell? ⟨w.heap.size, 2, none⟩ = some (.int .i64 0) := lvR.cell 2 _ rfl
                    have y3 : w20.cell? ⟨w.heap.size, 3, none⟩ = some (.slice none 0 0) := lvR.cell 3 _ rfl
                    have y4 : w20.cell? ⟨w.heap.size, 4, none⟩ = some (.slice none 0 0) := lvR.cell 4 _ rfl
                    have y5 : w20.cell? ⟨w.heap.size, 5, none⟩ = some (.slice none 0 0) := lvR.cell 5 _ rfl
                    have y6 : w20.cell? ⟨w.heap.size, 6, none⟩ = some (.slice none 0 0) := lvR.cell 6 _ rfl
                    have g0 := lvR.free 0
                    have g1 := lvR.free 1
                    have g2 := lvR.free 2
                    have g3 := lvR.free 3
                    have g4 := lvR.free 4
                    have g5 := lvR.free 5
                    have g6 := lvR.free 6
                    have z0 : w20.cell? ⟨Z, 0, none⟩ = some (.slice B1 m1 d1) := lvZ.cell 0 _ rfl
                    have z1 : w20.cell? ⟨Z, 1, none⟩ = some (.int .i64 qf) := lvZ.cell 1 _ rfl
                    have z2 : w20.cell? ⟨Z, 2, none⟩ = some (.int .i64 qo) := lvZ.cell 2 _ rfl
                    have z3 : w20.cell? ⟨Z, 3, none⟩ = some (.slice B2 m2 d2) := lvZ.cell 3 _ rfl
                    have z4 : w20.cell? ⟨Z, 4, none⟩ = some (.slice B3 m3 d3) := lvZ.cell 4 _ rfl
                    have z5 : w20.cell? ⟨Z, 5, none⟩ = some (.slice B4 m4 d4) := lvZ.cell 5 _ rfl
                    have z6 : w20.cell? ⟨Z, 6, none⟩ = some (.slice A6 n6 c6) := lvZ.cell 6 _ rfl
                    clear lvR lvZ
                    go_wp2_with fail
                    clear y0 y1 y2 y3 y4 y5 y6 z0 z1 z2 z3 z4 z5 z6 g0 g1 g2 g3 g4 g5 g6
                    have S7 : St b _ w (((((((w20.setCell ⟨w.heap.size, 0, none⟩ (.slice B1 m1 d1)).setCell ⟨w.heap.size, 1, none⟩ (.int .i64 qf)).setCell ⟨w.heap.size, 2, none⟩ (.int .i64 qo)).setCell ⟨w.heap.size, 3, none⟩ (.slice B2 m2 d2)).setCell ⟨w.heap.size, 4, none⟩ (.slice B3 m3 d3)).setCell ⟨w.heap.size, 5, none⟩ (.slice B4 m4 d4)).setCell ⟨w.heap.size, 6, none⟩ (.slice A6 n6 c6)) (.loc w.heap.size #[(.slice B1 m1 d1), (.int .i64 qf), (.int .i64 qo), (.slice B2 m2 d2), (.slice B3 m3 d3), (.slice B4 m4 d4), (.slice A6 n6 c6)] 30 :: RLT w.heap.size Z (.slice B1 m1 d1) qf qo (.slice B2 m2 d2) (.slice B3 m3 d3) (.slice B4 m4 d4) (.slice A6 n6 c6) zs ss cs ps (ds ++ [x1])) := (((((((S.set 0 0 (.slice B1 m1 d1) rfl).set 0 1 (.int .i64 qf) rfl).set 0 2 (.int .i64 qo) rfl).set 0 3 (.slice B2 m2 d2) rfl).set 0 4 (.slice B3 m3 d3) rfl).set 0 5 (.slice B4 m4 d4) rfl).set 0 6 (.slice A6 n6 c6) rfl)
                    clear S
                    generalize (((((((w20.setCell ⟨w.heap.size, 0, none⟩ (.slice B1 m1 d1)).setCell ⟨w.heap.size, 1, none⟩ (.int .i64 qf)).setCell ⟨w.heap.size, 2, none⟩ (.int .i64 qo)).setCell ⟨w.heap.size, 3, none⟩ (.slice B2 m2 d2)).setCell ⟨w.heap.size, 4, none⟩ (.slice B3 m3 d3)).setCell ⟨w.heap.size, 5, none⟩ (.slice B4 m4 d4)).setCell ⟨w.heap.size, 6, none⟩ (.slice A6 n6 c6)) = wf at *
                    refine bodyPost_ret (v := .agg #[(.slice B1 m1 d1), (.int .i64 qf), (.int .i64 qo), (.slice B2 m2 d2), (.slice B3 m3 d3), (.slice B4 m4 d4), (.slice A6 n6 c6)]) (results_cell1 rfl rfl (load7 (S7.lv 0 rfl))) rfl ?_
                    exact rules_out (S7.g.mono (by omega)) HS2.out (S7.outOwn 2 rfl) (S7.outOwn 3 rfl) (S7.outOwn 4 rfl) (S7.outOwn 5 rfl) (S7.outOwn 6 rfl)
                    --@enddev
                  · go_wp2_with fail
                    --@dev
                    go_loopw [115] (fun i wr => ∃ (q : Nat) (ve : Value) (es : List Int), q ≤ 11 ∧ i = .int .i64 q ∧ es.length ≤ 2 + q ∧ St b (m + 200) w wr (RL w.heap.size w.heap.size Z vq qf qo vr vc vp ve zs ss cs ps es)) (fun i _ => 11 - (intOf i).toNat)
                    case atStart => exact ⟨0, _, ds, by omega, rfl, by omega, S.mono (by omega)⟩
                    case round =>
                      clear S
                      obtain ⟨q, ve, es, hq, rfl, hel, S⟩ := hrel
                      by_cases hqn : q < 11
                      · have hsz := S.g.size
                        have z6 := (S.lv 1 rfl).cell 6 ve rfl
                        go_wp2_with (at_builtin; refine S.app 6 rfl tyInt rfl _ _ rfl 1 1 rfl rfl rfl (oneInt 1) hsz (by omega) (by decide) ?_; intro v' w6 S6; obtain ⟨A6, n6, c6, rfl⟩ := (S6.ow 6 rfl).sl; have hCb := (S6.lv 1 rfl).cell 6 ve rfl; have hCf := (S6.lv 1 rfl).free 6)
                        go_roundw
                        case rel =>
                          have S7 : St b (m + 200) w (w6.setCell ⟨Z, 6, none⟩ (.slice A6 n6 c6)) (RL w.heap.size w.heap.size Z vq qf qo vr vc vp (.slice A6 n6 c6) zs ss cs ps (es ++ [1])) := S6.set 1 6 (.slice A6 n6 c6) rfl
                          exact ⟨q + 1, .slice A6 n6 c6, es ++ [1], by omega, by go_num, by simp; omega, S7⟩
                        case measure => simp [intOf]; omega
                      · have HS2 : Hid (RSmall zs ss cs ps es) := ⟨hzl, hsl, hss, by omega, Hcs.out, by omega, Hps.out, by omega⟩
                        obtain ⟨B1, m1, d1, rfl⟩ := (S.ow 2 rfl).sl
                        obtain ⟨B2, m2, d2, rfl⟩ := (S.ow 3 rfl).sl
                        obtain ⟨B3, m3, d3, rfl⟩ := (S.ow 4 rfl).sl
                        obtain ⟨B4, m4, d4, rfl⟩ := (S.ow 5 rfl).sl
                        obtain ⟨B5, m5, d5, rfl⟩ := (S.ow 6 rfl).sl
                        have lvR := S.lv 0 rfl
                        have lvZ := S.lv 1 rfl
                        have y0 : wr.cell? ⟨w.heap.size, 0, none⟩ = some (.slice none 0 0) := lvR.cell 0 _ rfl
                        have y1 : wr.cell? ⟨w.heap.size, 1, none⟩ = some (.int .i64 0) := lvR.cell 1 _ rfl
                        have y2 : wr.cell? ⟨w.heap.size, 2, none⟩ = some (.int .i64 0) := lvR.cell 2 _ rfl
                        have y3 : wr.cell? ⟨w.heap.size, 3, none⟩ = some (.slice none 0 0) := lvR.cell 3 _ rfl
                        have y4 : wr.cell? ⟨w.heap.size, 4, none⟩ = some (.slice none 0 0) := lvR.cell 4 _ rfl
                        have y5 : wr.cell? ⟨w.heap.size, 5, none⟩ = some (.slice none 0 0) := lvR.cell 5 _ rfl
                        have y6 : wr.cell? ⟨w.heap.size, 6, none⟩ = some (.slice none 0 0) := lvR.cell 6 _ rfl
                        have g0 := lvR.free 0
                        have g1 := lvR.free 1
                        have g2 := lvR.free 2
                        have g3 := lvR.free 3
                        have g4 := lvR.free 4
                        have g5 := lvR.free 5
                        have g6 := lvR.free 6
                        have z0 : wr.cell? ⟨Z, 0, none⟩ = some (.slice B1 m1 d1) := lvZ.cell 0 _ rfl
                        have z1 : wr.cell? ⟨Z, 1, none⟩ = some (.int .i64 qf) := lvZ.cell 1 _ rfl
                        have z2 : wr.cell? ⟨Z, 2, none⟩ = some (.int .i64 qo) := lvZ.cell 2 _ rfl
                        have z3 : wr.cell? ⟨Z, 3, none⟩ = some (.slice B2 m2 d2) := lvZ.cell 3 _ rfl
                        have z4 : wr.cell? ⟨Z, 4, none⟩ = some (.slice B3 m3 d3) := lvZ.cell 4 _ rfl
                        have z5 : wr.cell? ⟨Z, 5, none⟩ = some (.slice B4 m4 d4) := lvZ.cell 5 _ rfl
                        have z6 : wr.cell? ⟨Z, 6, none⟩ = some (.slice B5 m5 d5) := lvZ.cell 6 _ rfl
                        clear lvR lvZ
                        go_wp2_with fail
                        clear y0 y1 y2 y3 y4 y5 y6 z0 z1 z2 z3 z4 z5 z6 g0 g1 g2 g3 g4 g5 g6
                        have S7 : St b _ w (((((((wr.setCell ⟨w.heap.size, 0, none⟩ (.slice B1 m1 d1)).setCell ⟨w.heap.size, 1, none⟩ (.int .i64 qf)).setCell ⟨w.heap.size, 2, none⟩ (.int .i64 qo)).setCell ⟨w.heap.size, 3, none⟩ (.slice B2 m2 d2)).setCell ⟨w.heap.size, 4, none⟩ (.slice B3 m3 d3)).setCell ⟨w.heap.size, 5, none⟩ (.slice B4 m4 d4)).setCell ⟨w.heap.size, 6, none⟩ (.slice B5 m5 d5)) (.loc w.heap.size #[(.slice B1 m1 d1), (.int .i64 qf), (.int .i64 qo), (.slice B2 m2 d2), (.slice B3 m3 d3), (.slice B4 m4 d4), (.slice B5 m5 d5)] 30 :: RLT w.heap.size Z (.slice B1 m1 d1) qf qo (.slice B2 m2 d2) (.slice B3 m3 d3) (.slice B4 m4 d4) (.slice B5 m5 d5) zs ss cs ps es) := (((((((S.set 0 0 (.slice B1 m1 d1) rfl).set 0 1 (.int .i64 qf) rfl).set 0 2 (.int .i64 qo) rfl).set 0 3 (.slice B2 m2 d2) rfl).set 0 4 (.slice B3 m3 d3) rfl).set 0 5 (.slice B4 m4 d4) rfl).set 0 6 (.slice B5 m5 d5) rfl)
                        clear S
                        generalize (((((((wr.setCell ⟨w.heap.size, 0, none⟩ (.slice B1 m1 d1)).setCell ⟨w.heap.size, 1, none⟩ (.int .i64 qf)).setCell ⟨w.heap.size, 2, none⟩ (.int .i64 qo)).setCell ⟨w.heap.size, 3, none⟩ (.slice B2 m2 d2)).setCell ⟨w.heap.size, 4, none⟩ (.slice B3 m3 d3)).setCell ⟨w.heap.size, 5, none⟩ (.slice B4 m4 d4)).setCell ⟨w.heap.size, 6, none⟩ (.slice B5 m5 d5)) = wf at *
                        refine bodyPost_ret (v := .agg #[(.slice B1 m1 d1), (.int .i64 qf), (.int .i64 qo), (.slice B2 m2 d2), (.slice B3 m3 d3), (.slice B4 m4 d4), (.slice B5 m5 d5)]) (results_cell1 rfl rfl (load7 (S7.lv 0 rfl))) rfl ?_
                        exact rules_out (S7.g.mono (by omega)) HS2.out (S7.outOwn 2 rfl) (S7.outOwn 3 rfl) (S7.outOwn 4 rfl) (S7.outOwn 5 rfl) (S7.outOwn 6 rfl)
                    --@enddev
end Go.Proofs.YtneopbbafdmpkaaDoor
