/- Several texts in one: CutsR, CutsJ. -/
import Derived.Test.YtfdcgedcfafmcaaGreatDoorPackF
import Derived.Test.YtfdcgedcfafmcaaGreatDoorPackN
import Derived.Test.YtfdcgedcfafmcaaGreatDoorPackW
/- handref2.CutsOf: the ids without which a person would be several. -/
namespace Go.Proofs.YtfdcgedcfafmcaaGreatDoor
section
open Go Go.RowKit
abbrev Rul.weaker (r:Rul)(x:IdV):Rul:=⟨r.kinds,r.most,r.weak++[x],r.surv⟩
end
section
open Go Go.RowKit
theorem tchFault_gt {t:Tch}{last:Int}(h:tchFault t last=0):last < t.no:=by
 rcases Int.lt_or_le last t.no with h1 | h1
 ·exact h1
 ·exfalso
  unfold tchFault tchE at h;rw [decide_eq_true h1] at h;split at h
  ·omega
  ·rw [if_pos rfl] at h;omega
theorem tchsGo_up:∀ {l:List Tch} {last:Int},tchsGo last l=0→(∀ t∈l,last < t.no)∧l.Pairwise (fun a b=>a.no < b.no)
 | [],_,_=>⟨fun _ h=>(by cases h),.nil⟩
 | t::r,last,h=>by
  rw [tchsGo] at h;by_cases h1:tchFault t last=0
  ·rw [if_neg (by simpa using h1)] at h;obtain ⟨h2,h3⟩:=tchsGo_up h;have h4:=tchFault_gt h1;refine ⟨fun u hu=>?_,List.pairwise_cons.2 ⟨h2,h3⟩⟩;rcases List.mem_cons.1 hu with rfl | hu
   ·exact h4
   ·have:=h2 u hu;omega
  ·rw [if_pos h1] at h;exact absurd h h1
theorem noUp_of {ts:List Tch}(h:tchsFault ts=0):NoUp ts:=fun i j hij hj=>by
 have h1:=(tchsGo_up (tchsFault_go h)).2;have h2:=List.pairwise_iff_getElem.1 h1 i j (by omega) hj hij;rw [noAt_is (List.getElem?_eq_getElem (show i < ts.length by omega)),noAt_is (List.getElem?_eq_getElem hj)];exact h2
def CutAns (r:Rul)(ts:List Tch)(x:IdV)(cc:Nat→Nat)(F:Int)(l:List IdV):Prop :=
 (kfP (psns r ts cc) x=none∧F=8∧l=[])∨∃ hd∈heads cc ts.length,kfP (psns r ts cc) x=some (psnAt r ts cc hd)∧F=0∧l=cutsL r ts cc hd
theorem St.slK {α:Type}{r:Rep α}{A:Option Addr}{xs:List α}{b m:Nat}{w0 w w':World}{cs:List Chunk}(S:St b m w0 w cs)(i:Nat)(hi:cs[i]? =some (.sl r A xs))(hk:SK b w w'):Sl r (fun _=>False) w' A xs :=
 (((S.slc i hi).mono (M:=Off b) (fun k _ e=>by unfold Off at e;subst e;exact .inl S.b0)).keep hk.n).mono (fun _ _ h=>h.elim)
end
end Go.Proofs.YtfdcgedcfafmcaaGreatDoor
