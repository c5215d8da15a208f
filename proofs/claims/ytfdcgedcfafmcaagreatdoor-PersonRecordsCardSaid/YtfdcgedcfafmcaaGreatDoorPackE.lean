/- Several texts in one: EvLaw, EvRef. -/
import Derived.Test.YtfdcgedcfafmcaaGreatDoorPackV
import Derived.Test.YtfdcgedcfafmcaaGreatDoorPackW
import Derived.Test.YtfdcgedcfafmcaaGreatDoorPackI
import Derived.Test.YtfdcgedcfafmcaaGreatDoorPackB
import Derived.Deep.DeepCutAuto
/- Events and schemas: how they lie in memory, and their faults in plain words. -/
namespace Go.Proofs.YtfdcgedcfafmcaaGreatDoor
section
open Go.RowKit
structure Evt where
 id:ByteArray
 name:ByteArray
 at':Int
 kind:Int
 text:ByteArray
 flds:List Fld
def Evt.cells (e:Evt):List Value:=[.string e.id,.string e.name,.int .i64 e.at',.int .i64 e.kind,.string e.text]
def rEvt:Rep Evt:=((Rep.flat 5 Evt.cells (fun _=>rfl)).app rFld.list).via (fun e=>(e,e.flds))
abbrev evCs (e:Evt)(A:Option Addr)(c:Nat):Array Value:=#[.string e.id,.string e.name,.int .i64 e.at',.int .i64 e.kind,.string e.text,.slice A e.flds.length c]
structure EvtOk (e:Evt):Prop where
 id:e.id.size≤1000000
 nm:e.name.size≤1000000
 tx:e.text.size≤1000000
 fl:e.flds.length≤1000000
 fs:∀ f∈e.flds,f.small
def evtE (K1 K2 D:Bool)(F G:Int):Int:=if K1=false∨K2=false then 5 else if D=false then 1 else if F≠0 then F else G
def evtFault (e:Evt):Int:=evtE (L.isKey e.id) (L.isKey e.name) (decide (0≤e.at'∧e.at'≤4321439)) (L.idFault e.kind e.text) (fldsFault e.flds)
structure Nd where
 name:ByteArray
 kind:Int
 must:Bool
def Nd.cells (n:Nd):List Value:=[.string n.name,.int .i64 n.kind,.bool n.must]
def rNd:Rep Nd:=.flat 3 Nd.cells (fun _=>rfl)
structure Scm where
 name:ByteArray
 needs:List Nd
def Scm.cells (s:Scm):List Value:=[.string s.name]
def rScm:Rep Scm:=((Rep.flat 1 Scm.cells (fun _=>rfl)).app rNd.list).via (fun s=>(s,s.needs))
theorem Sl.nd {N:Nat→Prop}{w:World}{A:Option Addr}{xs:List Nd}(h:Sl rNd N w A xs)(k:Nat)(n:Nd)(hk:xs[k]? =some n):∃ blk off,A=some ⟨blk,off,none⟩∧blk < w.heap.size ∧
  w.cell? ⟨blk,off + k * 3,none⟩=some (.string n.name)∧w.cell? ⟨blk,off + k * 3 + 1,none⟩=some (.int .i64 n.kind)∧w.cell? ⟨blk,off + k * 3 + 2,none⟩=some (.bool n.must):=by
 obtain ⟨blk,off,l,e,h1,_,h3,h4⟩:=h k n hk;obtain rfl:l=Nd.cells n:=h3;exact ⟨blk,off,e,h1,h4 0 _ rfl,h4 1 _ rfl,h4 2 _ rfl⟩
def ndE (K C B:Bool):Int:=if K=false then 5 else if C=false then 4 else if B=true then 7 else 0
def ndF (prev:Option ByteArray)(n:Nd):Int:=ndE (L.isKey n.name) (isCh n.kind) (prev.any (fun p=>leS n.name p))
def ndsGo (prev:Option ByteArray):List Nd→Int
 | []=>0
 | n::r=>if ndF prev n≠0 then ndF prev n else ndsGo (some n.name) r
def ndsFault (l:List Nd):Int:=if 30 < l.length then 2 else ndsGo none l
def scmE (K B:Bool)(F:Int):Int:=if K=false then 5 else if B=true then 7 else F
def scmF (prev:Option ByteArray)(s:Scm):Int:=scmE (L.isKey s.name) (prev.any (fun p=>leS s.name p)) (ndsFault s.needs)
def scmsGo (prev:Option ByteArray):List Scm→Int
 | []=>0
 | s::r=>if scmF prev s≠0 then scmF prev s else scmsGo (some s.name) r
def scmsFault (l:List Scm):Int:=if 60 < l.length then 2 else scmsGo none l
structure ScmOk (l:List Scm):Prop where
 len:l.length≤1000000
 nm:∀ s∈l,s.name.size≤1000000
 nl:∀ s∈l,s.needs.length≤1000000
 nn:∀ s∈l,∀ n∈s.needs,n.name.size≤1000000
abbrev ndIs (nm:ByteArray)(n:Nd):Bool:=n.name.toList==nm.toList
abbrev scmIs (nm:ByteArray)(s:Scm):Bool:=s.name.toList==nm.toList
abbrev fldIs (nm:ByteArray)(f:Fld):Bool:=f.name.toList==nm.toList
def ndAt (l:List Nd)(nm:ByteArray):Option Nd:=l.find? (ndIs nm)
def scmAt (l:List Scm)(nm:ByteArray):Option Scm:=l.find? (scmIs nm)
def suitF (ns:List Nd)(f:Fld):Int:=match ndAt ns f.name with | none=>8 | some n=>if n.kind=f.kind then 0 else 10
def suitFs (ns:List Nd):List Fld→Int
 | []=>0
 | f::r=>if suitF ns f≠0 then suitF ns f else suitFs ns r
def suitN (fs:List Fld)(n:Nd):Int:=if (n.must && !fs.any (fldIs n.name))=true then 3 else 0
def suitNs (fs:List Fld):List Nd→Int
 | []=>0
 | n::r=>if suitN fs n≠0 then suitN fs n else suitNs fs r
def suitS (s:Scm)(fs:List Fld):Int:=if suitFs s.needs fs≠0 then suitFs s.needs fs else suitNs fs s.needs
def suit (l:List Scm)(e:Evt):Int:=match scmAt l e.name with | none=>8 | some s=>suitS s e.flds
def evFault (l:List Scm)(e:Evt):Int:=first3 (scmsFault l) (evtFault e) (suit l e)
def RiseN (xs:List Nd):Prop:=∀ (i j:Nat) (p q:Nd),i < j→xs[i]? =some p→xs[j]? =some q→ltS p.name q.name=true
def RiseS (xs:List Scm):Prop:=∀ (i j:Nat) (p q:Scm),i < j→xs[i]? =some p→xs[j]? =some q→ltS p.name q.name=true
structure GoodScm (l:List Scm):Prop where
 len:l.length≤60
 nl:∀ s∈l,s.needs.length≤30
 nr:∀ s∈l,RiseN s.needs
 rise:RiseS l
theorem find_rise {α:Type}{nm:α→ByteArray}{xs:List α}{k:Nat}{x:α}{q:ByteArray}(hr:∀ (i j:Nat) (a b:α),i < j→xs[i]? =some a→xs[j]? =some b→ltS (nm a) (nm b)=true)(hk:xs[k]? =some x)(hn:nm x=q):xs.find? (fun y=>(nm y).toList==q.toList)=some x:=by
 rw [List.find?_eq_some_iff_getElem];obtain ⟨hlt,rfl⟩:=List.getElem?_eq_some_iff.1 hk;refine ⟨beqS.2 hn,k,hlt,rfl,fun j hj=>?_⟩;simp only [Bool.not_eq_true',Bool.eq_false_iff]
 intro h;have h1:=hr j k xs[j] xs[k] hj (List.getElem?_eq_getElem (by omega)) hk;rw [beqS.1 h,hn,ltS_irr] at h1;cases h1
theorem find_no {α:Type}{nm:α→ByteArray}{xs:List α}{q:ByteArray}(h:∀ x∈xs,nm x≠q):xs.find? (fun y=>(nm y).toList==q.toList)=none:=by
 rw [List.find?_eq_none];exact fun x hx hb=>h x hx (beqS.1 hb)
end
section
open Go.RowKit
theorem key_le {o:Option ByteArray}{nm:ByteArray}(h:L.isKey nm=true):o.any (fun p=>leS nm p)=leS nm (o.getD ⟨#[]⟩):=by
 cases o with
 | none=>rw [show (none:Option ByteArray).getD ⟨#[]⟩=⟨#[]⟩ from rfl,leS_nil nm h];rfl
 | some q=>rfl
structure Clo where
 g:Nat
 caps:Array Value
 err:Int
def Clo.val (c:Clo):Value:=.func (.func c.g) #[] c.caps
set_option maxHeartbeats 1000000 in
theorem first_any (blk n:Nat)(cs:List Clo)(w:World)(hnn:n=cs.length)(h:LV w blk (cs.map Clo.val).toArray 217)(hn:cs.length≤1000)(he:∀ c∈cs,∀ args w,(callFunc c.g args).run Tryz.prog w=.ok (.enter c.g args) w)
  (hc:∀ c∈cs,∀ w',Below w.heap.size w w'→Calls Tryz.prog c.g c.caps w' fun e w''=>e=.returned (.int .i64 c.err)∧Below w'.heap.size w' w'') :
  Calls Tryz.prog 147 #[.slice (some ⟨blk,0,none⟩) n n] w fun e w'=>e=.returned (.int .i64 (firstErr (cs.map Clo.err)))∧Below w.heap.size w w':=by
 subst hnn;have He:=Lib.hid he;have Hc:=Lib.hid hc;have Hh:=Lib.hid h;clear he hc h;obtain ⟨R,HR⟩:∃ R,Hid (firstErr (cs.map Clo.err)=R):=⟨_,Lib.hid rfl⟩;rw [HR.out]
 go_enter Tryz.func147,Tryz.ntmps147
 go_wp2_with fail
 go_loopw [8] (fun i wr=>∃ k:Nat,k≤cs.length∧i=.int .i64 k∧firstErr ((cs.drop k).map Clo.err)=R∧Below w.heap.size w wr) (fun i _=>cs.length - (intOf i).toNat)
 case atStart=>exact ⟨0,Nat.zero_le _,rfl,HR.out,Below.refl _ _⟩
 case round =>
  clear HR;obtain ⟨k,hk,rfl,hr,hbl⟩:=hrel;have Hr:=Lib.hid hr;clear hr;by_cases hlt:k < cs.length
  ·obtain ⟨c,hck⟩:∃ c,cs[k]? =some c:=⟨_,List.getElem?_eq_getElem hlt⟩;have hcm:=List.mem_of_getElem? hck;have hrun:=He.out c hcm;have Hcall:=Lib.hid (Hc.out c hcm wr hbl);have c0:wr.cell? ⟨blk,k,none⟩=some (.func (.func c.g) #[] c.caps):=(LV.kb3 Hh.out hbl Hh.out.lt).cell k _ (by simp [hck,Clo.val]);have Hs:Hid ((if c.err≠0 then c.err else firstErr ((cs.drop (k + 1)).map Clo.err))=R):=by show _=_;rw [← Hr.out,drop_at3 hck];rfl
   have Hb:=Lib.hid hbl;clear Hr hck hcm hbl;obtain ⟨g,caps,x⟩:=c;simp only at hrun c0 Hcall Hs
   go_wp2_with fail
   ((with_reducible refine (Hcall.out).mono ?_);rintro e w1 ⟨rfl,hl1⟩)
   have Hb1:Hid (Below w.heap.size w w1):=Hb.out.trans (hl1.mono Hb.out.size);clear Hcall hl1 c0 hrun;by_cases hx:x=0
   ·have Hn:=Lib.hid (step_go Hs.out hx);subst hx
    go_wp2_with fail
    go_roundw
    case rel=>exact ⟨k + 1,by omega,by go_num,Hn.out,Hb1.out⟩
    case measure=>simp [intOf];omega
   ·have hx':(x != 0)=true:=by simpa using hx
    have Hn:=Lib.hid (step_no Hs.out hx);clear Hs hx
    go_wp2_with fail
    go_ret
    exact ⟨ret_i Hn.out,Hb1.out⟩
  ·have Hn:Hid (0=R):=by show _=_;rw [← Hr.out,List.drop_eq_nil_of_le (by omega)];rfl
   clear Hr
   go_wp2_with fail
   go_ret
   exact ⟨ret_i Hn.out,hbl⟩
end
end Go.Proofs.YtfdcgedcfafmcaaGreatDoor
