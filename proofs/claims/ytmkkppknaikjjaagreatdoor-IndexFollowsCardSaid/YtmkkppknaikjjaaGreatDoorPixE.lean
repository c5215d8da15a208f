/- Several texts in one: EvLaw, EvRef. -/
import Derived.Test.YtmkkppknaikjjaaGreatDoorPixV
import Derived.Test.YtmkkppknaikjjaaGreatDoorPixW
import Derived.Test.YtmkkppknaikjjaaGreatDoorPixI
import Derived.Test.YtmkkppknaikjjaaGreatDoorPixB
import Derived.Deep.DeepCutAuto
/- Events and schemas: how they lie in memory, and their faults in plain words. -/
namespace Go.Proofs.YtmkkppknaikjjaaGreatDoor
section
open Go.RowKit
structure Evt where
 id:ByteArray
 name:ByteArray
 at':Int
 kind:Int
 text:ByteArray
 flds:List Fld
def Evt.cells (e:Evt):List Value:=[.string e.id,.string e.name,.int .i64 e.at',.int .i64 e.kind,.string e.text]
structure EvtOk (e:Evt):Prop where
 id:e.id.size≤1000000
 nm:e.name.size≤1000000
 tx:e.text.size≤1000000
 fl:e.flds.length≤1000000
 fs:∀ f∈e.flds,f.small
structure Nd where
 name:ByteArray
 kind:Int
 must:Bool
def Nd.cells (n:Nd):List Value:=[.string n.name,.int .i64 n.kind,.bool n.must]
structure Scm where
 name:ByteArray
 needs:List Nd
def Scm.cells (s:Scm):List Value:=[.string s.name]
structure ScmOk (l:List Scm):Prop where
 len:l.length≤1000000
 nm:∀ s∈l,s.name.size≤1000000
 nl:∀ s∈l,s.needs.length≤1000000
 nn:∀ s∈l,∀ n∈s.needs,n.name.size≤1000000
def RiseN (xs:List Nd):Prop:=∀ (i j:Nat) (p q:Nd),i < j→xs[i]? =some p→xs[j]? =some q→ltS p.name q.name=true
def RiseS (xs:List Scm):Prop:=∀ (i j:Nat) (p q:Scm),i < j→xs[i]? =some p→xs[j]? =some q→ltS p.name q.name=true
structure GoodScm (l:List Scm):Prop where
 len:l.length≤60
 nl:∀ s∈l,s.needs.length≤30
 nr:∀ s∈l,RiseN s.needs
 rise:RiseS l
end
section
open Go.RowKit
theorem key_le {o:Option ByteArray}{nm:ByteArray}(h:L.isKey nm=true):o.any (fun p=>leS nm p)=leS nm (o.getD ⟨#[]⟩):=by
 cases o with
 | none=>rw [show (none:Option ByteArray).getD ⟨#[]⟩=⟨#[]⟩ from rfl,leS_nil nm h];rfl
 | some q=>rfl
structure Clo where
 g:Nat
 caps:Array Value
 err:Int
def Clo.val (c:Clo):Value:=.func (.func c.g) #[] c.caps
set_option maxHeartbeats 1000000 in
theorem first_any (blk n:Nat)(cs:List Clo)(w:World)(hnn:n=cs.length)(h:LV w blk (cs.map Clo.val).toArray 153)(hn:cs.length≤1000)(he:∀ c∈cs,∀ args w,(callFunc c.g args).run Tryz.prog w=.ok (.enter c.g args) w)
  (hc:∀ c∈cs,∀ w',Below w.heap.size w w'→Calls Tryz.prog c.g c.caps w' fun e w''=>e=.returned (.int .i64 c.err)∧Below w'.heap.size w' w'') :
  Calls Tryz.prog 88 #[.slice (some ⟨blk,0,none⟩) n n] w fun e w'=>e=.returned (.int .i64 (firstErr (cs.map Clo.err)))∧Below w.heap.size w w':=by
 subst hnn;have He:=Lib.hid he;have Hc:=Lib.hid hc;have Hh:=Lib.hid h;clear he hc h;obtain ⟨R,HR⟩:∃ R,Hid (firstErr (cs.map Clo.err)=R):=⟨_,Lib.hid rfl⟩;rw [HR.out];go_enter Tryz.func88,Tryz.ntmps88
 go_wp2_with fail
 go_loopw [8] (fun i wr=>∃ k:Nat,k≤cs.length∧i=.int .i64 k∧firstErr ((cs.drop k).map Clo.err)=R∧Below w.heap.size w wr) (fun i _=>cs.length - (intOf i).toNat)
 case atStart=>exact ⟨0,Nat.zero_le _,rfl,HR.out,Below.refl _ _⟩
 case round =>
  clear HR;obtain ⟨k,hk,rfl,hr,hbl⟩:=hrel;have Hr:=Lib.hid hr;clear hr;by_cases hlt:k < cs.length
  ·obtain ⟨c,hck⟩:∃ c,cs[k]? =some c:=⟨_,List.getElem?_eq_getElem hlt⟩;have hcm:=List.mem_of_getElem? hck;have hrun:=He.out c hcm;have Hcall:=Lib.hid (Hc.out c hcm wr hbl);have c0:wr.cell? ⟨blk,k,none⟩=some (.func (.func c.g) #[] c.caps):=(LV.kb3 Hh.out hbl Hh.out.lt).cell k _ (by simp [hck,Clo.val]);have Hs:Hid ((if c.err≠0 then c.err else firstErr ((cs.drop (k + 1)).map Clo.err))=R):=by show _=_;rw [← Hr.out,drop_at3 hck];rfl
   have Hb:=Lib.hid hbl;clear Hr hck hcm hbl;obtain ⟨g,caps,x⟩:=c;simp only at hrun c0 Hcall Hs;go_wp2_with fail
   refine (Hcall.out).mono ?_;rintro e w1 ⟨rfl,hl1⟩;have Hb1:Hid (Below w.heap.size w w1):=Hb.out.trans (hl1.mono Hb.out.size);clear Hcall hl1 c0 hrun;by_cases hx:x=0
   ·have Hn:=Lib.hid (step_go Hs.out hx);subst hx;go_wp2_with fail
    go_roundw
    case rel=>exact ⟨k + 1,by omega,by go_num,Hn.out,Hb1.out⟩
    case measure=>simp [intOf];omega
   ·have hx':(x != 0)=true:=by simpa using hx
    have Hn:=Lib.hid (step_no Hs.out hx);clear Hs hx;go_wp2_with fail
    go_ret;exact ⟨ret_i Hn.out,Hb1.out⟩
  ·have Hn:Hid (0=R):=by show _=_;rw [← Hr.out,List.drop_eq_nil_of_le (by omega)];rfl
   clear Hr;go_wp2_with fail
   go_ret;exact ⟨ret_i Hn.out,hbl⟩
end
end Go.Proofs.YtmkkppknaikjjaaGreatDoor
