/- Several texts in one: NoUp, CutLaw, CutsL, Keyed, CutsM. -/
import Derived.Test.YtmkkppknaikjjaaGreatDoorPackD
/- Touches whose numbers rise; a slice of the call's own, told from an older world. -/
open List renaming getElem?_eq_getElem→Z8
namespace Go.Proofs.YtmkkppknaikjjaaGreatDoor
section
open Go Go.RowKit
def BN (ts:List ak):Prop:=∀ i j,i < j→j < ts.length→jQ ts i < jQ ts j
theorem BN.inj {ts:List ak}(h:BN ts){i j:Nat}(hi:i < ts.length)(hj:j < ts.length)(e:jQ ts i=jQ ts j):i=j:=by
 rcases Nat.lt_trichotomy i j with h1 | h1 | h1
 ·have:=h i j h1 hj;omega
 ·exact h1
 ·have:=h j i h1 hi;omega
theorem ags {t:ak}{last:Int}(h:gJ t last=0):last < t.no:=by
 rcases Int.lt_or_le last t.no with h1 | h1
 ·exact h1
 ·exfalso;unfold gJ mQ at h;rw [decide_eq_true h1] at h;split at h
  ·omega
  ·rw [if_pos rfl] at h;omega
theorem aao:∀ {l:List ak} {last:Int},lT last l=0→(∀ t∈l,last < t.no)∧l.Pairwise (fun a b=>a.no < b.no)
 | [],_,_=>⟨fun _ h=>(by cases h),.nil⟩
 | t::r,last,h=>by
  rw [lT] at h;by_cases h1:gJ t last=0
  ·rw [if_neg (by simpa using h1)] at h;obtain ⟨h2,h3⟩:=aao h;have h4:=ags h1;refine ⟨fun u hu=>?_,List.pairwise_cons.2 ⟨h2,h3⟩⟩;rcases List.mem_cons.1 hu with rfl | hu
   ·exact h4
   ·have:=h2 u hu;omega
  ·rw [if_pos h1] at h;exact absurd h h1
theorem adv {ts:List ak}(h:iy ts=0):BN ts:=fun i j hij hj=>by
 have h1:=(aao (Qh h)).2;have h2:=List.pairwise_iff_getElem.1 h1 i j (by omega) hj hij;rw [ND (Z8 (show i < ts.length by omega)),ND (Z8 hj)];exact h2
end
section
open Go Go.RowKit
structure al3 (l:List ak) (at':List Nat) (own:List ak):Prop where
 len:own.length=at'.length
 get:∀ (a i:Nat),at'[a]? =some i→own[a]? =l[i]?
structure al4 (r:aP) (l:List ak) (at':List Nat) (own:List ak) (r':aP):Prop where
 kinds:r'.kinds=r.kinds
 weak:∀ x,(∃ i∈at',x∈cZ l i)→(x∈r'.weak ↔ x∈r.weak∨r.most < ((hav l x).length:Int))
 most:(own.length:Int)≤r'.most
section
variable {r r':aP} {l own:List ak} {c:Nat→Nat} {hd:Nat} {at':List Nat} {x:ah}
structure PartOf (r:aP) (l:List ak) (c:Nat→Nat) (hd:Nat) (at':List Nat):Prop where
 part:iO l.length (Edge r l) c
 top:hd < l.length∧c hd=hd
 mem:∀ i,i∈at' ↔ i < l.length∧c i=hd
 up:at'.Pairwise (· < ·)
end
end
section
open Go Go.RowKit
open Classical in
open Classical in
end
section
open Go Go.RowKit
end
section
open Go Go.RowKit
section
variable {r r':aP} {l own:List ak} {c:Nat→Nat} {hd:Nat} {at':List Nat} {x:ah}
end
end
end Go.Proofs.YtmkkppknaikjjaaGreatDoor
