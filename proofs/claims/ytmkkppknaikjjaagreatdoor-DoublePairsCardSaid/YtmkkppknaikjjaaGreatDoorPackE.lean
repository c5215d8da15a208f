/- Several texts in one: EvLaw, EvRef. -/
import Derived.Test.YtmkkppknaikjjaaGreatDoorPackV
import Derived.Test.YtmkkppknaikjjaaGreatDoorPackI
/- Events and schemas: how they lie in memory, and their faults in plain words. -/
set_option maxHeartbeats 1000000
open Go.Lib renaming hid→Z9
open List renaming getElem?_eq_getElem→Z8, mem_of_getElem?→Z7, drop_eq_nil_of_le→ZJ
open Go.RowKit.Below renaming refl→ZX
open Nat renaming zero_le→ZN
namespace Go.Proofs.YtmkkppknaikjjaaGreatDoor
section
open Go.RowKit
structure NC where
 id:ByteArray
 name:ByteArray
 at':Int
 kind:Int
 text:ByteArray
 aB:List aQ
def NC.cells (e:NC):List Value:=[.string e.id,.string e.name,.int .i64 e.at',.int .i64 e.kind,.string e.text]
structure al0 (e:NC):Prop where
 id:e.id.size≤1000000
 nm:e.name.size≤1000000
 tx:e.text.size≤1000000
 fl:e.aB.length≤1000000
 fs:∀ f∈e.aB,f.small
structure Nd where
 name:ByteArray
 kind:Int
 must:Bool
def Nd.cells (n:Nd):List Value:=[.string n.name,.int .i64 n.kind,.bool n.must]
structure Scm where
 name:ByteArray
 needs:List Nd
def Scm.cells (s:Scm):List Value:=[.string s.name]
structure al1 (l:List Scm):Prop where
 len:l.length≤1000000
 nm:∀ s∈l,s.name.size≤1000000
 nl:∀ s∈l,s.needs.length≤1000000
 nn:∀ s∈l,∀ n∈s.needs,n.name.size≤1000000
def agp (xs:List Nd):Prop:=∀ (i j:Nat) (p q:Nd),i < j→xs[i]? =some p→xs[j]? =some q→eP p.name q.name=true
def agq (xs:List Scm):Prop:=∀ (i j:Nat) (p q:Scm),i < j→xs[i]? =some p→xs[j]? =some q→eP p.name q.name=true
structure al2 (l:List Scm):Prop where
 len:l.length≤60
 nl:∀ s∈l,s.needs.length≤30
 nr:∀ s∈l,agp s.needs
 rise:agq l
theorem agr {α:Type}{nm:α→ByteArray}{xs:List α}{k:Nat}{x:α}{q:ByteArray}(hr:∀ (i j:Nat) (a b:α),i < j→xs[i]? =some a→xs[j]? =some b→eP (nm a) (nm b)=true)(hk:xs[k]? =some x)(hn:nm x=q):xs.find? (fun y=>(nm y).toList==q.toList)=some x:=by
 rw [List.find?_eq_some_iff_getElem];obtain ⟨hlt,rfl⟩:=List.getElem?_eq_some_iff.1 hk;refine ⟨yx.2 hn,k,hlt,rfl,fun j hj=>?_⟩;simp only [Bool.not_eq_true',Bool.eq_false_iff];intro h;have h1:=hr j k xs[j] xs[k] hj (Z8 (by omega)) hk;rw [yx.1 h,hn,zO] at h1;cases h1
theorem aam {α:Type}{nm:α→ByteArray}{xs:List α}{q:ByteArray}(h:∀ x∈xs,nm x≠q):xs.find? (fun y=>(nm y).toList==q.toList)=none:=by
 rw [List.find?_eq_none];exact fun x hx hb=>h x hx (yx.1 hb)
end
section
open Go.RowKit
theorem agf {o:Option ByteArray}{nm:ByteArray}(h:L.isKey nm=true):o.any (fun p=>jf nm p)=jf nm (o.getD ⟨#[]⟩):=by
 cases o with
 | none=>rw [show (none:Option ByteArray).getD ⟨#[]⟩=⟨#[]⟩ from rfl,aan nm h];rfl
 | some q=>rfl
structure yI where
 g:Nat
 caps:Array Value
 err:Int
def yI.val (c:yI):Value:=.func (.func c.g) #[] c.caps
theorem first_any (blk n:Nat)(cs:List yI)(w:World)(hnn:n=cs.length)(h:LV w blk (cs.map yI.val).toArray 153)(hn:cs.length≤1000)(he:∀ c∈cs,∀ args w,(callFunc c.g args).run Tryz.prog w=.ok (.enter c.g args) w)
  (hc:∀ c∈cs,∀ w',Below w.heap.size w w'→Calls Tryz.prog c.g c.caps w' fun e w''=>e=.returned (.int .i64 c.err)∧Below w'.heap.size w' w'') :
  Calls Tryz.prog 88 #[.slice (some ⟨blk,0,none⟩) n n] w fun e w'=>e=.returned (.int .i64 (lQ (cs.map yI.err)))∧Below w.heap.size w w':=by
 subst hnn;have He:=Z9 he;have Hc:=Z9 hc;have Hh:=Z9 h;clear he hc h;obtain ⟨R,HR⟩:∃ R,Hid (lQ (cs.map yI.err)=R):=⟨_,Z9 rfl⟩;rw [HR.out];go_enter Tryz.func88,Tryz.ntmps88
 go_wp2_with fail
 go_loopw [8] (fun i wr=>∃ k:Nat,k≤cs.length∧i=.int .i64 k∧lQ ((cs.drop k).map yI.err)=R∧Below w.heap.size w wr) (fun i _=>cs.length - (intOf i).toNat)
 case atStart=>exact ⟨0,ZN _,rfl,HR.out,ZX _ _⟩
 case round =>
  clear HR;obtain ⟨k,hk,rfl,hr,hbl⟩:=hrel;have Hr:=Z9 hr;clear hr;by_cases hlt:k < cs.length
  ·obtain ⟨c,hck⟩:∃ c,cs[k]? =some c:=⟨_,Z8 hlt⟩;have hcm:=Z7 hck;have hrun:=He.out c hcm;have Rl:=Z9 (Hc.out c hcm wr hbl);have c0:wr.cell? ⟨blk,k,none⟩=some (.func (.func c.g) #[] c.caps):=(LV.dQ Hh.out hbl Hh.out.lt).cell k _ (by simp [hck,yI.val]);have Hs:Hid ((if c.err≠0 then c.err else lQ ((cs.drop (k + 1)).map yI.err))=R):=by show _=_;rw [← Hr.out,yB hck];rfl
   have Hb:=Z9 hbl;clear Hr hck hcm hbl;obtain ⟨g,caps,x⟩:=c;simp only at hrun c0 Rl Hs;go_wp2_with fail
   refine (Rl.out).mono ?_;rintro e w1 ⟨rfl,hl1⟩;have Hb1:Hid (Below w.heap.size w w1):=Hb.out.trans (hl1.mono Hb.out.size);clear Rl hl1 c0 hrun;by_cases hx:x=0
   ·have Hn:=Z9 (tX Hs.out hx);subst hx;go_wp2_with fail
    go_roundw
    case rel=>exact ⟨k + 1,by omega,by go_num,Hn.out,Hb1.out⟩
    case measure=>simp [intOf];omega
   ·have hx':(x != 0)=true:=by simpa using hx
    have Hn:=Z9 (yF Hs.out hx);clear Hs hx;go_wp2_with fail
    go_ret;exact ⟨aH Hn.out,Hb1.out⟩
  ·have Hn:Hid (0=R):=by show _=_;rw [← Hr.out,ZJ (by omega)];rfl
   clear Hr;go_wp2_with fail
   go_ret;exact ⟨aH Hn.out,hbl⟩
end
end Go.Proofs.YtmkkppknaikjjaaGreatDoor
