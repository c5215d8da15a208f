/- Several texts in one: Psnq, Persons, PsnTop, PersonIn. -/
import Derived.Test.YtmkkppknaikjjaaGreatDoorPixP
import Derived.Test.YtmkkppknaikjjaaGreatDoorPixJ
import Derived.Test.YtmkkppknaikjjaaGreatDoorPixU
import Derived.Test.YtmkkppknaikjjaaGreatDoorPixC
/- Persons in memory: rows of four cells, and apart from them their touches and ids, which stay. -/
namespace Go.Proofs.YtmkkppknaikjjaaGreatDoor
section
open Go Go.RowKit
def Psn.cells (p:Psn):List Value:=[.int .i64 p.key.k,.string p.key.t]
def rPsn:Rep Psn:=(((Rep.flat 2 Psn.cells (fun _=>rfl)).app rInt.list).app rId.list).via (fun p=>((p,p.tch),p.ids))
abbrev psCs (p:Psn)(A:Option Addr)(a:Nat)(B:Option Addr)(b:Nat):Array Value:=#[.int .i64 p.key.k,.string p.key.t,.slice A p.tch.length a,.slice B p.ids.length b]
theorem rPsn_mk {N:Nat→Prop}{w:World}{p:Psn}{A B:Option Addr}{a b:Nat}(hA:Sl rInt N w A p.tch)(hB:Sl rId N w B p.ids):rPsn.rel N w p (psCs p A a B b).toList :=
 ⟨Psn.cells p++[.slice A p.tch.length a],[.slice B p.ids.length b],rfl,⟨Psn.cells p,[.slice A p.tch.length a],rfl,rfl,A,a,rfl,hA⟩,B,b,rfl,hB⟩
theorem rPsn_of {N:Nat→Prop}{w:World}{p:Psn}{l:List Value}(h:rPsn.rel N w p l):∃ A a B b,l=(psCs p A a B b).toList∧Sl rInt N w A p.tch∧Sl rId N w B p.ids:=by
 obtain ⟨_,_,rfl,⟨l1,_,rfl,h1,A,a,rfl,hA⟩,B,b,rfl,hB⟩:=h;obtain rfl:l1=Psn.cells p:=h1;exact ⟨A,a,B,b,rfl,hA,hB⟩
theorem Sl.psn {N:Nat→Prop}{w:World}{A:Option Addr}{xs:List Psn}(h:Sl rPsn N w A xs)(k:Nat)(p:Psn)(hk:xs[k]? =some p):∃ blk off At a Ai b,A=some ⟨blk,off,none⟩∧blk < w.heap.size ∧
  w.cell? ⟨blk,off + k * 4,none⟩=some (.int .i64 p.key.k)∧w.cell? ⟨blk,off + k * 4 + 1,none⟩=some (.string p.key.t)∧w.cell? ⟨blk,off + k * 4 + 2,none⟩=some (.slice At p.tch.length a)∧w.cell? ⟨blk,off + k * 4 + 3,none⟩=some (.slice Ai p.ids.length b)∧Sl rInt N w At p.tch∧Sl rId N w Ai p.ids:=by
 obtain ⟨blk,off,l,e1,h1,_,h3,h4⟩:=h k p hk;obtain ⟨At,a,Ai,b,rfl,hi,hf⟩:=rPsn_of h3;exact ⟨blk,off,At,a,Ai,b,e1,h1,h4 0 _ rfl,h4 1 _ rfl,h4 2 _ rfl,h4 3 _ rfl,hi,hf⟩
structure PsQ where
 p:Psn
 A:Option Addr
 a:Nat
 B:Option Addr
 b:Nat
def PsQ.cells (q:PsQ):List Value:=[.int .i64 q.p.key.k,.string q.p.key.t,.slice q.A q.p.tch.length q.a,.slice q.B q.p.ids.length q.b]
def rPsQ:Rep PsQ:=.flat 4 PsQ.cells (fun _=>rfl)
theorem flatPsQ:rPsQ.Flat PsQ.cells:=fun _ _ _ _=>Iff.rfl
theorem tyPsn:STy 61 80 rPsQ.size 72 (.agg #[.int .i64 0,.string ⟨#[]⟩,.slice none 0 0,.slice none 0 0]):=⟨Tryz.underlying61,by kernel_rfl,rfl,by decide⟩
theorem onePsQ (q:PsQ):∀ u∈q.cells,u.oneCell'=true:=fun u hu=>by
 simp only [PsQ.cells,List.mem_cons,List.not_mem_nil,or_false] at hu;rcases hu with rfl | rfl | rfl | rfl <;> rfl
def PdOk (M:Nat→Prop)(w:World)(qs:List PsQ):Prop:=∀ q∈qs,Sl rInt M w q.A q.p.tch∧Sl rId M w q.B q.p.ids
def Chunk.pdat (qs:List PsQ):Chunk :=
 ⟨none,fun M w=>PdOk M w qs,fun k hd _ h q hq=>⟨(h q hq).1.keep (k.mono hd),(h q hq).2.keep (k.mono hd)⟩,fun hm h q hq=>⟨(h q hq).1.mono (fun k hk e=>(hm k hk e).resolve_right (by simp)),(h q hq).2.mono (fun k hk e=>(hm k hk e).resolve_right (by simp))⟩,fun _ _ e=>by cases e⟩
theorem slPsn {N:Nat→Prop}{w:World}{A:Option Addr}{qs:List PsQ}(h:Sl rPsQ N w A qs)(hf:PdOk N w qs):Sl rPsn N w A (qs.map PsQ.p):=fun i x hx=>by
 rw [List.getElem?_map] at hx;cases hq:qs[i]? with
 | none=>rw [hq] at hx;cases hx
 | some y =>
  rw [hq] at hx;obtain rfl:y.p=x:=by simpa using hx
  obtain ⟨blk,off,l,e1,h1,h2,h3,h4⟩:=h i y hq;obtain rfl:l=PsQ.cells y:=h3;have hd:=hf y (List.mem_of_getElem? hq);exact ⟨blk,off,_,e1,h1,h2,rPsn_mk (a:=y.a) (b:=y.b) hd.1 hd.2,h4⟩
section
variable {w0 w:World} {cs:List Chunk}
theorem Mem.pd (S:Mem w0 w cs)(i:Nat){qs:List PsQ}(hi:cs[i]? =some (.pdat qs)):PdOk (Mut w0.heap.size cs) w qs:=S.ok _ (List.mem_of_getElem? hi)
theorem Mem.psns (S:Mem w0 w cs)(i j:Nat){A:Option Addr}{qs:List PsQ}(hi:cs[i]? =some (.sl rPsQ A qs))(hj:cs[j]? =some (.pdat qs)):Mem w0 w (cs.set i (.sl rPsn A (qs.map PsQ.p))) :=
 S.turn i hi (.sl rPsn A (qs.map PsQ.p)) rfl (slPsn (S.slc i hi) (S.pd j hj))
theorem Mem.noPd (S:Mem w0 w cs):Mem w0 w (cs++[.pdat []]):=S.call (Below.refl _ _) (.pdat []) (fun q hq=>by cases hq) (fun k e=>by cases e)
theorem Mem.addPd (S:Mem w0 w cs)(i:Nat){qs:List PsQ}(hi:cs[i]? =some (.pdat qs))(x:PsQ)(hA:Sl rInt (Mut w0.heap.size cs) w x.A x.p.tch)(hB:Sl rId (Mut w0.heap.size cs) w x.B x.p.ids):Mem w0 w (cs.set i (.pdat (qs++[x]))):=by
 refine S.turn i hi (.pdat (qs++[x])) rfl (fun q hq=>?_);rcases List.mem_append.1 hq with hq | hq
 ·exact S.pd i hi q hq
 ·rw [List.mem_singleton.1 hq];exact ⟨hA,hB⟩
end
end
section
open Go Go.RowKit
theorem results_two {P:Program}{fn:Func}{s t:Tmp}{v u:Value}{w:World}{tmps:Array Value}(h:fn.results=#[.tmp s,.tmp t])(hs:tmps.getD s undef=v)(ht:tmps.getD t undef=u):(results fn tmps).run P w=.ok (.tuple #[v,u]) w:=by
 have hs':tmps[s]?.getD undef=v:=by simpa using hs
 have ht':tmps[t]?.getD undef=u:=by simpa using ht
 simp [results,h,hs',ht']
set_option maxHeartbeats 4000000 in
set_option maxRecDepth 100000 in
theorem sub_len {α:Type}[DecidableEq α]:∀ {l m:List α},l.Nodup→(∀ x∈l,x∈m)→l.length≤m.length
 | [],_,_,_=>by simp
 | x::r,m,hn,h=>by
  obtain ⟨h1,h2⟩:=List.nodup_cons.1 hn;have hx:=h x (by simp);have:=sub_len (l:=r) (m:=m.erase x) h2 (fun y hy=>(List.mem_erase_of_ne (fun e=>h1 (by rw [← e];exact hy))).2 (h y (by simp [hy])))
  rw [List.length_erase_of_mem hx] at this;have hp:=List.length_pos_of_mem hx;rw [List.length_cons];omega
abbrev mqCs (q:MQ):Array Value:=#[.int .i64 q.key.k,.string q.key.t,.slice q.A q.tch.length q.a,.slice q.B q.ids.length q.b,.slice q.C q.at'.length q.c]
def MQ.ps (q:MQ):PsQ:=⟨q.psn,q.A,q.a,q.B,q.b⟩
theorem grp_of {N:Nat→Prop}{w w0:World}{G X:Nat}{r:Rul}{K W S A:Option Addr}{ck cw cs c:Nat}{ts:List Tch}{qs:List HQ}(hb:Below w0.heap.size w0 w)(hR:RulIn N w0 r K W S)(hT:Sl rTch N w0 A ts)
  {B:Nat} (T:Mem w0 w (.loc G (grCs r K ck W cw S cs A ts.length c X) 180::havC B X qs)) (hH:HavOk ts ts.length [] (qs.map HQ.kl)):Grp N w G X r K W S A ck cw cs c ts qs:=by
 have T2:Mem w0 w ([.loc G (grCs r K ck W cw S cs A ts.length c X) 180,.mapG keyId X (qs.map HQ.kv)]++[.slots qs]):=Mem.frzSlots (cs:=[.loc G (grCs r K ck W cw S cs A ts.length c X) 180,.mapG keyId X (qs.map HQ.kv)]) T;refine ⟨T.lv 0 rfl,T.ok _ (.tail _ (.head _)),fun q hqm=>?_,hH,hR.keepB hb,hT.keepB hb,fun q hqm=>?_⟩
 ·have h:=T2.ok (.slots qs) (.tail _ (.tail _ (.head _)));exact (h q hqm).mono (fun _ _ h=>h.elim)
 ·obtain ⟨j,hj⟩:=List.mem_iff_getElem?.1 hqm;have ho:=T.ow (j + 2) (by show (qs.map (hq B))[j]? =_;rw [List.getElem?_map,hj];rfl);rcases ho.shape2 with ⟨e,e2⟩ | ⟨g,cap,e,hc⟩
  ·simp only [Value.slice.injEq] at e;omega
  ·simp only [Value.slice.injEq] at e;obtain ⟨_,h1,rfl⟩:=e;rw [iL_len] at hc;omega
end
section
open Go Go.RowKit
theorem IsMembs.len {r:Rul}{l:List Tch}{c:Nat→Nat}{qs:List MQ}(h:IsMembs r l c qs):qs.length≤l.length:=by
 have:=congrArg List.length h
 rw [List.length_map,List.length_map,mRows,List.length_map] at this;rw [this];exact heads_len c l.length
end
section
open Go Go.RowKit
set_option maxHeartbeats 4000000 in
set_option maxRecDepth 100000 in
theorem persons_in {w0 w:World}(ch:List Chunk)(A:Option Addr)(c:Nat)(qs:List MQ)(hl:qs.length≤1000000)(S:Mem w0 w (.sl rMQ A qs::.mdat qs::ch)) :
  Calls Tryz.prog 155 #[.slice A qs.length c] w fun e w'=>∃ A' c',e=.returned (.slice A' (qs.map MQ.psn).length c')∧Mem w0 w' (.sl rPsn A' (qs.map MQ.psn)::ch):=by
 obtain ⟨B,hB⟩:∃ B,B=w0.heap.size:=⟨_,rfl⟩;have S1:Mem w0 w (.own rPsQ B 80 (.slice none 0 0) []::.sl rMQ A qs::.mdat qs::ch):=(S.nil rPsQ B 80).front;have Hb:=Lib.hid hB;clear S hB;go_enter Tryz.func155,Tryz.ntmps155
 go_wp2_with fail
 go_loopw [3,8] (fun v i wr=>∃ (k:Nat) (A3:Option Addr) (c3:Nat),k≤qs.length∧v=.slice A3 k c3∧i=.int .i64 k∧Mem w0 wr (.own rPsQ B 80 (.slice A3 k c3) ((qs.take k).map MQ.ps)::.sl rMQ A qs::.mdat qs::ch)) (fun _ i _=>qs.length - (intOf i).toNat)
 case atStart=>exact ⟨0,none,0,Nat.zero_le _,rfl,rfl,S1⟩
 case round =>
  clear S1;obtain ⟨k,A3,c3,hk,rfl,rfl,S1⟩:=hrel;by_cases hlt:k < qs.length
  ·obtain ⟨q,hq⟩:∃ q,qs[k]? =some q:=⟨_,List.getElem?_eq_getElem hlt⟩;obtain ⟨blk,off,rfl,hblk,d0,d1,d2,d3,d4⟩:=(S1.slc 1 rfl).mq k q hq;have Hq:=Lib.hid hq;clear hq;go_upto_region 5 with fail
   clear d0 d1 d2 d3 d4;obtain ⟨Y,hY⟩:∃ Y,Y=wr.heap.size:=⟨_,rfl⟩;have S2:Mem w0 _ (.loc Y (mqCs q) 107::.own rPsQ B 80 (.slice A3 k c3) ((qs.take k).map MQ.ps)::.sl rMQ (some ⟨blk,off,none⟩) qs::.mdat qs::ch):=(S1.newAt (mqCs q) 107 Y hY).front;rw [← hY];clear hY S1;generalize wr.alloc (.cells (mqCs q) 107)=w2 at *;have y0:=(S2.lv 0 rfl).all;have hsB:B≤w2.heap.size:=by rw [Hb.out];exact S2.b.size
   have hlk:((qs.take k).map MQ.ps).length≤100000000:=by rw [List.length_map,List.length_take];omega
   go_wp2_with (at_builtin;refine S2.app 1 rfl tyPsn rfl _ _ rfl q.ps 1 rfl rfl rfl (onePsQ q.ps) hsB hlk (by decide) ?_;intro v' w7 S7)
   obtain ⟨A7,c7,e7⟩:=(S7.ow 1 rfl).len;rw [List.length_append,List.length_map,List.length_take,Nat.min_eq_left hk,List.length_singleton] at e7;subst e7;go_roundw
   case rel =>
    refine ⟨k + 1,A7,c7,by omega,rfl,by go_num,?_⟩;have S8:=S7.del 0;rw [take_snoc Hq.out,List.map_append];exact S8
   case measure=>simp [intOf];omega
  ·obtain rfl:k=qs.length:=by omega
   rw [List.take_length] at S1;go_wp2_with fail
   go_ret;obtain ⟨A6,c6,e6,S6⟩:=S1.frz 0 rfl;rw [List.length_map] at e6;simp only [Value.slice.injEq,true_and] at e6;obtain ⟨rfl,rfl⟩:=e6;have hpd:PdOk (Mut w0.heap.size (.sl rPsQ A3 (qs.map MQ.ps)::.sl rMQ A qs::.mdat qs::ch)) wr (qs.map MQ.ps):=fun p hp=>by
    obtain ⟨q,hq,rfl⟩:=List.mem_map.1 hp;have hm:MdOk (Mut w0.heap.size (.sl rPsQ A3 (qs.map MQ.ps)::.sl rMQ A qs::.mdat qs::ch)) wr qs:=S6.ok (.mdat qs) (.tail _ (.tail _ (.head _)));exact ⟨(hm q hq).1,(hm q hq).2.1⟩
   have e:(qs.map MQ.ps).map PsQ.p=qs.map MQ.psn:=by rw [List.map_map];rfl
   have S9:=S6.turn 0 rfl (.sl rPsn A3 ((qs.map MQ.ps).map PsQ.p)) rfl (slPsn (S6.slc 0 rfl) hpd);rw [e] at S9;exact ⟨A3,c3,by rw [List.length_map];rfl,(S9.del 2).del 1⟩
end
end Go.Proofs.YtmkkppknaikjjaaGreatDoor
