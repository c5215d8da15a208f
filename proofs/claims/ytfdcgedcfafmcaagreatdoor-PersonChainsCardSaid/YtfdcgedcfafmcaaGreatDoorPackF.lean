/- Several texts in one: CutLaw, CutsL, Keyed, CutsM. -/
import Derived.Test.YtfdcgedcfafmcaaGreatDoorPackT
import Derived.Test.YtfdcgedcfafmcaaGreatDoorPackD
import Derived.Test.YtfdcgedcfafmcaaGreatDoorPackK
import Derived.Test.YtfdcgedcfafmcaaGreatDoorPackN
import Derived.Test.YtfdcgedcfafmcaaGreatDoorPackU
import Derived.Test.YtfdcgedcfafmcaaGreatDoorPackX
import Derived.Test.YtfdcgedcfafmcaaGreatDoorPackI
import Derived.Test.YtfdcgedcfafmcaaGreatDoorPackJ
import Derived.Test.YtfdcgedcfafmcaaGreatDoorPackZ
import Derived.Test.YtfdcgedcfafmcaaGreatDoorPackM
/- The plain law of Cuts: an id without which a person is several, seen in the person's own touches and in all of them. No program is in sight. -/
namespace Go.Proofs.YtfdcgedcfafmcaaGreatDoor
open Go Go.RowKit
structure OwnOf (l : List Tch) (at' : List Nat) (own : List Tch) : Prop where
  len : own.length = at'.length
  get : ∀ (a i : Nat), at'[a]? = some i → own[a]? = l[i]?
theorem OwnOf.ids {l own : List Tch} {at' : List Nat} (h : OwnOf l at' own) {a i : Nat} (ha : at'[a]? = some i) : idsAt own a = idsAt l i := by unfold idsAt; rw [h.get a i ha]
structure InRules (r : Rul) (l : List Tch) (at' : List Nat) (own : List Tch) (r' : Rul) : Prop where
  kinds : r'.kinds = r.kinds
  weak : ∀ x, (∃ i ∈ at', x ∈ idsAt l i) → (x ∈ r'.weak ↔ x ∈ r.weak ∨ r.most < ((hav l x).length : Int))
  most : (own.length : Int) ≤ r'.most
theorem InRules.joins {r r' : Rul} {l own : List Tch} {at' : List Nat} (h : InRules r l at' own r') {x : IdV} (hx : ∃ i ∈ at', x ∈ idsAt l i) : joinsP r' own x = joinsP r l x := by
  have h1 : decide (((hav own x).length : Int) ≤ r'.most) = true := by
    have := hav_len own x
    have := h.most
    simp only [decide_eq_true_eq]
    omega
  unfold joinsP
  rw [h1, Bool.and_true, h.kinds]
  have h2 := h.weak x hx
  by_cases hk : x.k ∈ r.kinds
  · rw [decide_eq_true hk, Bool.true_and, Bool.true_and]
    by_cases hw : x ∈ r.weak
    · rw [decide_eq_true (h2.2 (.inl hw)), decide_eq_true hw]; rfl
    · rw [decide_eq_false hw]
      by_cases hm : r.most < ((hav l x).length : Int)
      · rw [decide_eq_true (h2.2 (.inr hm)), decide_eq_false (by omega)]; rfl
      · rw [decide_eq_false (fun e => (h2.1 e).elim hw hm), decide_eq_true (by omega)]; rfl
  · rw [decide_eq_false hk]; rfl
section
variable {r r' : Rul} {l own : List Tch} {c : Nat → Nat} {hd : Nat} {at' : List Nat} {x : IdV}
structure PartOf (r : Rul) (l : List Tch) (c : Nat → Nat) (hd : Nat) (at' : List Nat) : Prop where
  part : IsPart l.length (Edge r l) c
  top : hd < l.length ∧ c hd = hd
  mem : ∀ i, i ∈ at' ↔ i < l.length ∧ c i = hd
  up : at'.Pairwise (· < ·)
theorem PartOf.head (h : PartOf r l c hd at') : at'[0]? = some hd := by
  have hm : hd ∈ at' := (h.mem hd).2 h.top
  cases ha : at' with
  | nil => rw [ha] at hm; cases hm
  | cons a t =>
    have h1 := (h.mem a).1 (by rw [ha]; exact List.mem_cons_self ..)
    have h2 := h.part.le a h1.1
    rw [h1.2] at h2
    have hu := h.up
    rw [ha] at hm hu
    rcases List.mem_cons.1 hm with e | e
    · rw [e]; rfl
    · have := (List.pairwise_cons.1 hu).1 hd e
      omega
end
end Go.Proofs.YtfdcgedcfafmcaaGreatDoor

/- The cuts of a person: what both sides compute; slices.Equal of numbers. -/
namespace Go.Proofs.YtfdcgedcfafmcaaGreatDoor
open Go Go.RowKit
def CutP (r : Rul) (ts : List Tch) (at' : List Nat) (hd : Nat) (x : IdV) : Prop := joinsP r ts x = true ∧ ∃ e, IsPart ts.length (EdgeX r ts (some x)) e ∧ ¬ ∀ i ∈ at', e i = hd
open Classical in
noncomputable def cutB (r : Rul) (ts : List Tch) (at' : List Nat) (hd : Nat) (x : IdV) : Bool := decide (CutP r ts at' hd x)
open Classical in
noncomputable def cutsL (r : Rul) (ts : List Tch) (cc : Nat → Nat) (hd : Nat) : List IdV := (srtId ((partAt cc ts.length hd).flatMap (idsAt ts))).filter (cutB r ts (partAt cc ts.length hd) hd)
def NoUp (ts : List Tch) : Prop := ∀ i j, i < j → j < ts.length → noAt ts i < noAt ts j
theorem NoUp.inj {ts : List Tch} (h : NoUp ts) {i j : Nat} (hi : i < ts.length) (hj : j < ts.length) (e : noAt ts i = noAt ts j) : i = j := by
  rcases Nat.lt_trichotomy i j with h1 | h1 | h1
  · have := h i j h1 hj; omega
  · exact h1
  · have := h j i h1 hi; omega
def GivesCutsR (r : Rul) (ts : List Tch) (x : IdV) (w : World) (e : Ending) (w' : World) : Prop :=
  ∃ (A : Option Addr) (c : Nat) (l : List IdV) (F : Int) (cc : Nat → Nat), e = .returned (.tuple #[.slice A l.length c, .int .i64 F]) ∧ Mem w w' [.sl rId A l] ∧ IsPart ts.length (Edge r ts) cc ∧
    ((kfP (psns r ts cc) x = none ∧ F = 8 ∧ l = []) ∨ ∃ hd ∈ heads cc ts.length, kfP (psns r ts cc) x = some (psnAt r ts cc hd) ∧ F = 0 ∧ l = cutsL r ts cc hd)
theorem IsKf.form {N : Nat → Prop} {P : List Psn} {x : IdV} {w : World} {cs : Array Value} {b : Bool} (h : IsKf N P x w cs b) : ∃ k t A n a B m c, cs = #[.int .i64 k, .string t, .slice A n a, .slice B m c] := by
  rcases h with ⟨_, _, rfl⟩ | ⟨p, A, a, B, b', h1, h2, rfl, _⟩
  · exact ⟨_, _, _, _, _, _, _, _, rfl⟩
  · exact ⟨_, _, _, _, _, _, _, _, rfl⟩
end Go.Proofs.YtfdcgedcfafmcaaGreatDoor

/- person.keyed: the group, and the first person with a key. -/
namespace Go.Proofs.YtfdcgedcfafmcaaGreatDoor
open Go Go.RowKit
abbrev mzCs : Array Value := #[.int .i64 0, .string ⟨#[]⟩, .slice none 0 0, .slice none 0 0, .slice none 0 0]
def FirstK (ms : List MQ) (x : IdV) (j : Nat) (q : MQ) : Prop := ms[j]? = some q ∧ q.key = x ∧ ∀ p ∈ ms.take j, p.key ≠ x
def GivesKeyed (r : Rul) (K : Option Addr) (ck : Nat) (W : Option Addr) (cw : Nat) (S : Option Addr) (cs : Nat) (A : Option Addr) (c : Nat) (ts : List Tch) (x : IdV) (w : World) (e : Ending) (w' : World) : Prop :=
  ∃ g zs F, e = .returned (.tuple #[g, .agg zs, .int .i64 F]) ∧ Below w.heap.size w w' ∧
    ((bothF r ts ≠ 0 ∧ F = bothF r ts ∧ zs = mzCs ∧ g = .pointer none) ∨ (bothF r ts = 0 ∧ L.idFault x.k x.t ≠ 0 ∧ F = L.idFault x.k x.t ∧ zs = mzCs ∧ g = .pointer none) ∨
      (bothF r ts = 0 ∧ L.idFault x.k x.t = 0 ∧ ∃ cc ms, IsPart ts.length (Edge r ts) cc ∧ IsMembs r ts cc ms ∧
        ((F = 8 ∧ zs = mzCs ∧ g = .pointer none ∧ ∀ p ∈ ms, p.key ≠ x) ∨
         (F = 0 ∧ ∃ G X qs j q, g = .pointer (some ⟨G, 0, none⟩) ∧ Grp (fun _ => False) w' G X r K W S A ck cw cs c ts qs ∧ FirstK ms x j q ∧ zs = mqCs q ∧ Sl rInt (fun _ => False) w' q.A q.tch ∧ Sl rId (fun _ => False) w' q.B q.ids ∧ Sl rInt (fun _ => False) w' q.C (iL q.at')))))
theorem FirstK.none {ms : List MQ} {x : IdV} {j : Nat} {q : MQ} (h : ∀ p ∈ ms.take j, p.key ≠ x) (hq : ms[j]? = some q) (hk : ¬ q.key = x) : ∀ p ∈ ms.take (j + 1), p.key ≠ x := fun p hp => by
  rw [take_snoc hq] at hp
  rcases List.mem_append.1 hp with hp | hp
  · exact h p hp
  · rw [List.mem_singleton.1 hp]; exact hk
end Go.Proofs.YtfdcgedcfafmcaaGreatDoor

/- A person's own touches and its own group: the memory they want, and the law of their cuts. -/
namespace Go.Proofs.YtfdcgedcfafmcaaGreatDoor
open Go Go.RowKit
abbrev zTQ : TQ := ⟨⟨0, 0, ⟨#[]⟩, [], []⟩, none, 0, none, 0⟩
theorem Mem.putTQ {w0 w : World} {cs : List Chunk} (S : Mem w0 w cs) (i : Nat) {B E g n cap : Nat} {ys : List TQ} (hi : cs[i]? = some (.own rTQ B E (.slice (some ⟨g, 0, none⟩) n cap) ys)) (hn : n = ys.length) (p : Nat) (z x : TQ) (hz : ys[p]? = some z) :
    Mem w0 (((((w.setCell ⟨g, p * 5, none⟩ (.int .i64 x.t.no)).setCell ⟨g, p * 5 + 1, none⟩ (.int .i64 x.t.at')).setCell ⟨g, p * 5 + 2, none⟩ (.string x.t.src)).setCell ⟨g, p * 5 + 3, none⟩ (.slice x.A x.t.ids.length x.c)).setCell ⟨g, p * 5 + 4, none⟩ (.slice x.B x.t.flds.length x.d)) (cs.set i (.own rTQ B E (.slice (some ⟨g, 0, none⟩) n cap) (ys.set p x))) := by
  have hp := lt_of_get hz
  have hci : i < cs.length := lt_of_get hi
  have S1 := S.put flatTQ i hi hn p z (⟨⟨x.t.no, z.t.at', z.t.src, z.t.ids, z.t.flds⟩, z.A, z.c, z.B, z.d⟩ : TQ) hz 0 (by decide) (.int .i64 x.t.no) rfl
  have S2 := S1.put flatTQ i (by rw [List.getElem?_set_self hci]) (by rw [List.length_set]; exact hn) p (⟨⟨x.t.no, z.t.at', z.t.src, z.t.ids, z.t.flds⟩, z.A, z.c, z.B, z.d⟩ : TQ) (⟨⟨x.t.no, x.t.at', z.t.src, z.t.ids, z.t.flds⟩, z.A, z.c, z.B, z.d⟩ : TQ) (by rw [List.getElem?_set_self hp]) 1 (by decide) (.int .i64 x.t.at') rfl
  simp only [List.set_set] at S2
  have S3 := S2.put flatTQ i (by rw [List.getElem?_set_self hci]) (by rw [List.length_set]; exact hn) p (⟨⟨x.t.no, x.t.at', z.t.src, z.t.ids, z.t.flds⟩, z.A, z.c, z.B, z.d⟩ : TQ) (⟨⟨x.t.no, x.t.at', x.t.src, z.t.ids, z.t.flds⟩, z.A, z.c, z.B, z.d⟩ : TQ) (by rw [List.getElem?_set_self hp]) 2 (by decide) (.string x.t.src) rfl
  simp only [List.set_set] at S3
  have S4 := S3.put flatTQ i (by rw [List.getElem?_set_self hci]) (by rw [List.length_set]; exact hn) p (⟨⟨x.t.no, x.t.at', x.t.src, z.t.ids, z.t.flds⟩, z.A, z.c, z.B, z.d⟩ : TQ) (⟨⟨x.t.no, x.t.at', x.t.src, x.t.ids, z.t.flds⟩, x.A, x.c, z.B, z.d⟩ : TQ) (by rw [List.getElem?_set_self hp]) 3 (by decide) (.slice x.A x.t.ids.length x.c) rfl
  simp only [List.set_set] at S4
  have S5 := S4.put flatTQ i (by rw [List.getElem?_set_self hci]) (by rw [List.length_set]; exact hn) p (⟨⟨x.t.no, x.t.at', x.t.src, x.t.ids, z.t.flds⟩, x.A, x.c, z.B, z.d⟩ : TQ) x (by rw [List.getElem?_set_self hp]) 4 (by decide) (.slice x.B x.t.flds.length x.d) rfl
  simp only [List.set_set] at S5
  exact S5
theorem Mem.ownBase {α : Type} {r : Rep α} {f : α → List Value} (hf : r.Flat f) {w0 w : World} {cs : List Chunk} (S : Mem w0 w cs) (i : Nat) {B B' E : Nat} {v : Value} {xs : List α} (hi : cs[i]? = some (.own r B E v xs)) (hB : B' ≤ B) : Mem w0 w (cs.set i (.own r B' E v xs)) :=
  S.upd i hi (.own r B' E v xs) ⟨Nat.le_refl _, fun _ _ _ => rfl⟩ S.b (fun _ e => .inl e) (((S.ow i hi).flatM hf).base hB)
section
variable {r r' : Rul} {l own : List Tch} {c : Nat → Nat} {hd : Nat} {at' : List Nat} {x : IdV}
end
def GivesCutsP (r : Rul) (ts : List Tch) (x : IdV) (w : World) (e : Ending) (w' : World) : Prop :=
  ∃ (A : Option Addr) (c : Nat) (l : List IdV) (F : Int), e = .returned (.tuple #[.slice A l.length c, .int .i64 F]) ∧ Mem w w' [.sl rId A l] ∧
    ((bothF r ts ≠ 0 ∧ F = bothF r ts ∧ l = []) ∨ (bothF r ts = 0 ∧ L.idFault x.k x.t ≠ 0 ∧ F = L.idFault x.k x.t ∧ l = []) ∨
      (bothF r ts = 0 ∧ L.idFault x.k x.t = 0 ∧ ∃ cc, IsPart ts.length (Edge r ts) cc ∧
        ((kfP (psns r ts cc) x = none ∧ F = 8 ∧ l = []) ∨ ∃ hd ∈ heads cc ts.length, kfP (psns r ts cc) x = some (psnAt r ts cc hd) ∧ F = 0 ∧ l = cutsL r ts cc hd)))
end Go.Proofs.YtfdcgedcfafmcaaGreatDoor
