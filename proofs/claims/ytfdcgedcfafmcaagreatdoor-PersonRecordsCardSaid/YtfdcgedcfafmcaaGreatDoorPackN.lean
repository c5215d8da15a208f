/- Several texts in one: SortInt, EqInt, PsnSml. -/
import Derived.Test.YtfdcgedcfafmcaaGreatDoorPackM
import Derived.Test.YtfdcgedcfafmcaaGreatDoorShelf
import Derived.Test.YtfdcgedcfafmcaaGreatDoorPackX
/- Numbers in a slice of the call's own: sorted, and made single. -/
namespace Go.Proofs.YtfdcgedcfafmcaaGreatDoor
section
open Go Go.RowKit Go.Sort
def srtI (xs:List Int):List Int:=xs.mergeSort fun x y=>decide (x≤y)
end
section
open Go Go.RowKit
theorem Sl.intAt {N:Nat→Prop}{w:World}{A:Option Addr}{xs:List Int}(h:Sl rInt N w A xs)(h0:xs≠[]):∃ b o,A=some ⟨b,o,none⟩∧∀ j,j < xs.length→w.cell? ⟨b,o + j,none⟩=some (.int .i64 (xs.getD j 0)):=by
 cases xs with
 | nil=>exact absurd rfl h0
 | cons x r =>
  obtain ⟨b,o,l,e,_,_,_,_⟩:=h 0 x rfl;refine ⟨b,o,e,fun j hj=>?_⟩;obtain ⟨b2,o2,l2,e2,_,_,hr,hc⟩:=h j (x::r)[j] (List.getElem?_eq_getElem hj);rw [e] at e2;cases e2
  obtain rfl:l2=[.int .i64 (x::r)[j]]:=hr;have:=hc 0 _ rfl
  rw [show o + j * rInt.size + 0=o + j by simp [rInt,Rep.flat]] at this;rw [this,List.getD_eq_getElem?_getD,List.getElem?_eq_getElem hj];rfl
theorem eqInt_any (N:Nat→Prop)(A A2:Option Addr)(xs:List Int)(c c2:Nat)(w:World)(h1:Sl rInt N w A xs)(h2:Sl rInt N w A2 xs)(hl:xs.length≤1000000000) :
  Calls Tryz.prog 21 #[.slice A xs.length c,.slice A2 xs.length c2] w fun e w'=>e=.returned (.bool true)∧Below w.heap.size w w':=by
 by_cases h0:xs=[]
 ·subst h0;refine (Tryz.slices_Equal_int_empty A A2 c 0 c2 w (by decide)).mono ?_;rintro e w' ⟨rfl,rfl⟩;exact ⟨rfl,Below.refl _ _⟩
 ·obtain ⟨b,o,rfl,hc⟩:=h1.intAt h0;obtain ⟨b2,o2,rfl,hc2⟩:=h2.intAt h0;refine (Tryz.slices_Equal_int b o xs.length c b2 o2 xs.length c2 xs xs w (Nat.le_refl _) (Nat.le_refl _) (by omega) (by omega) hc hc2).mono ?_;rintro e w' ⟨rfl,q,rfl⟩;exact ⟨by simp,below_drewN _ _ _⟩
end
section
open Go Go.RowKit
theorem srtId_len (l:List IdV):(srtId l).length≤l.length:=sub_len ((srtId_up l).nodup) (fun x hx=>(srtId_mem l x).1 hx)
theorem psns_small {r:Rul}{ts:List Tch}(h:RtOk r ts){P:List Psn}(hP:IsPsns r ts P):P.length≤1000000∧∀ p∈P,p.tch.length≤1000000∧p.ids.length≤1000000:=by
 obtain ⟨c,_,rfl⟩:=hP;have hb:=h.tb;refine ⟨?_,fun p hp=>?_⟩
 ·unfold psns;rw [List.length_map];have:=heads_len c ts.length
  omega
 ·unfold psns at hp;obtain ⟨i,_,rfl⟩:=List.mem_map.1 hp;have h1:=part_len c ts.length i;have h2:=flat_len (m:=10) (f:=idsAt ts) (partAt c ts.length i) (idsAt_len h);have h3:=srtId_len ((partAt c ts.length i).flatMap (idsAt ts));refine ⟨?_,?_⟩
  ·show ((partAt c ts.length i).map (noAt ts)).length≤_;rw [List.length_map];omega
  ·show (srtId ((partAt c ts.length i).flatMap (idsAt ts))).length≤_;omega
theorem both_zero {r:Rul}{ts:List Tch}(h:bothF r ts=0):rulFault r=0∧tchsFault ts=0:=by
 unfold bothF at h;split at h
 ·rename_i h2;exact absurd h h2
 ·rename_i h2;exact ⟨by omega,h⟩
end
end Go.Proofs.YtfdcgedcfafmcaaGreatDoor
