/- Several texts in one: Psnq, Persons, PsnTop. -/
import Derived.Test.YtmkkppknaikjjaaGreatDoorPackU
/- Persons in memory: rows of four cells, and apart from them their touches and ids, which stay. -/
set_option maxHeartbeats 4000000
set_option maxRecDepth 100000
open Go.Lib renaming hid→Z9
open List renaming mem_of_getElem?→Z7, length_cons→ZV, getElem?_map→ZT, mem_cons→YU, not_mem_nil→YI
open Go.RowKit.Below renaming refl→ZX
namespace Go.Proofs.YtmkkppknaikjjaaGreatDoor
section
open Go Go.RowKit
def Psn.cells (p:Psn):List Value:=[.int .i64 p.key.k,.string p.key.t]
def kQ:Rep Psn:=(((Rep.flat 2 Psn.cells (fun _=>rfl)).app ay.list).app aO.list).via (fun p=>((p,p.aC),p.ids))
abbrev o8 (p:Psn)(A:Option Addr)(a:Nat)(B:Option Addr)(b:Nat):Array Value:=#[.int .i64 p.key.k,.string p.key.t,.slice A p.aC.length a,.slice B p.ids.length b]
theorem ak1 {N:Nat→Prop}{w:World}{p:Psn}{A B:Option Addr}{a b:Nat}(hA:Sl ay N w A p.aC)(hB:Sl aO N w B p.ids):kQ.rel N w p (o8 p A a B b).toList :=
 ⟨Psn.cells p++[.slice A p.aC.length a],[.slice B p.ids.length b],rfl,⟨Psn.cells p,[.slice A p.aC.length a],rfl,rfl,A,a,rfl,hA⟩,B,b,rfl,hB⟩
theorem ak2 {N:Nat→Prop}{w:World}{p:Psn}{l:List Value}(h:kQ.rel N w p l):∃ A a B b,l=(o8 p A a B b).toList∧Sl ay N w A p.aC∧Sl aO N w B p.ids:=by
 obtain ⟨_,_,rfl,⟨l1,_,rfl,h1,A,a,rfl,hA⟩,B,b,rfl,hB⟩:=h;obtain rfl:l1=Psn.cells p:=h1;exact ⟨A,a,B,b,rfl,hA,hB⟩
theorem Sl.EP {N:Nat→Prop}{w:World}{A:Option Addr}{xs:List Psn}(h:Sl kQ N w A xs)(k:Nat)(p:Psn)(hk:xs[k]? =some p):∃ blk off At a Ai b,A=some ⟨blk,off,none⟩∧blk < w.heap.size ∧
  w.cell? ⟨blk,off + k * 4,none⟩=some (.int .i64 p.key.k)∧w.cell? ⟨blk,off + k * 4 + 1,none⟩=some (.string p.key.t)∧w.cell? ⟨blk,off + k * 4 + 2,none⟩=some (.slice At p.aC.length a)∧w.cell? ⟨blk,off + k * 4 + 3,none⟩=some (.slice Ai p.ids.length b)∧Sl ay N w At p.aC∧Sl aO N w Ai p.ids:=by
 obtain ⟨blk,off,l,e1,h1,_,h3,h4⟩:=h k p hk;obtain ⟨At,a,Ai,b,rfl,hi,hf⟩:=ak2 h3;exact ⟨blk,off,At,a,Ai,b,e1,h1,h4 0 _ rfl,h4 1 _ rfl,h4 2 _ rfl,h4 3 _ rfl,hi,hf⟩
structure iW where
 p:Psn
 A:Option Addr
 a:Nat
 B:Option Addr
 b:Nat
def iW.cells (q:iW):List Value:=[.int .i64 q.p.key.k,.string q.p.key.t,.slice q.A q.p.aC.length q.a,.slice q.B q.p.ids.length q.b]
def mJ:Rep iW:=.flat 4 iW.cells (fun _=>rfl)
theorem ak3:kF 61 80 mJ.size 72 (.agg #[.int .i64 0,.string ⟨#[]⟩,.slice none 0 0,.slice none 0 0]):=⟨Tryz.underlying61,by kernel_rfl,rfl,by decide⟩
theorem ak4 (q:iW):∀ u∈q.cells,u.oneCell'=true:=fun u hu=>by
 simp only [iW.cells,YU,YI,or_false] at hu;rcases hu with rfl | rfl | rfl | rfl <;> rfl
def Vb (M:Nat→Prop)(w:World)(qs:List iW):Prop:=∀ q∈qs,Sl ay M w q.A q.p.aC∧Sl aO M w q.B q.p.ids
def Chunk.kK (qs:List iW):Chunk :=
 ⟨none,fun M w=>Vb M w qs,fun k hd _ h q hq=>⟨(h q hq).1.keep (k.mono hd),(h q hq).2.keep (k.mono hd)⟩,fun hm h q hq=>⟨(h q hq).1.mono (fun k hk e=>(hm k hk e).resolve_right (by simp)),(h q hq).2.mono (fun k hk e=>(hm k hk e).resolve_right (by simp))⟩,fun _ _ e=>by cases e⟩
theorem ak5 {N:Nat→Prop}{w:World}{A:Option Addr}{qs:List iW}(h:Sl mJ N w A qs)(hf:Vb N w qs):Sl kQ N w A (qs.map iW.p):=fun i x hx=>by
 rw [ZT] at hx;cases hq:qs[i]? with
 | none=>rw [hq] at hx;cases hx
 | some y =>
  rw [hq] at hx;obtain rfl:y.p=x:=by simpa using hx
  obtain ⟨blk,off,l,e1,h1,h2,h3,h4⟩:=h i y hq;obtain rfl:l=iW.cells y:=h3;have hd:=hf y (Z7 hq);exact ⟨blk,off,_,e1,h1,h2,ak1 (a:=y.a) (b:=y.b) hd.1 hd.2,h4⟩
section
variable {w0 w:World} {cs:List Chunk}
theorem Mem.pd (S:Mem w0 w cs)(i:Nat){qs:List iW}(hi:cs[i]? =some (.kK qs)):Vb (bT w0.heap.size cs) w qs:=S.ok _ (Z7 hi)
theorem Mem.xQ (S:Mem w0 w cs)(i j:Nat){A:Option Addr}{qs:List iW}(hi:cs[i]? =some (.sl mJ A qs))(hj:cs[j]? =some (.kK qs)):Mem w0 w (cs.set i (.sl kQ A (qs.map iW.p))) :=
 S.turn i hi (.sl kQ A (qs.map iW.p)) rfl (ak5 (S.slc i hi) (S.pd j hj))
theorem Mem.ak6 (S:Mem w0 w cs):Mem w0 w (cs++[.kK []]):=S.call (ZX _ _) (.kK []) (fun q hq=>by cases hq) (fun k e=>by cases e)
theorem Mem.ak7 (S:Mem w0 w cs)(i:Nat){qs:List iW}(hi:cs[i]? =some (.kK qs))(x:iW)(hA:Sl ay (bT w0.heap.size cs) w x.A x.p.aC)(hB:Sl aO (bT w0.heap.size cs) w x.B x.p.ids):Mem w0 w (cs.set i (.kK (qs++[x]))):=by
 refine S.turn i hi (.kK (qs++[x])) rfl (fun q hq=>?_);rcases List.mem_append.1 hq with hq | hq
 ·exact S.pd i hi q hq
 ·rw [List.mem_singleton.1 hq];exact ⟨hA,hB⟩
end
end
section
open Go Go.RowKit
theorem wF {P:Program}{fn:Func}{s t:Tmp}{v u:Value}{w:World}{tmps:Array Value}(h:fn.results=#[.tmp s,.tmp t])(hs:tmps.getD s undef=v)(ht:tmps.getD t undef=u):(results fn tmps).run P w=.ok (.tuple #[v,u]) w:=by
 have hs':tmps[s]?.getD undef=v:=by simpa using hs
 have ht':tmps[t]?.getD undef=u:=by simpa using ht
 simp [results,h,hs',ht']
theorem Us {α:Type}[DecidableEq α]:∀ {l m:List α},l.Nodup→(∀ x∈l,x∈m)→l.length≤m.length
 | [],_,_,_=>by simp
 | x::r,m,hn,h=>by
  obtain ⟨h1,h2⟩:=List.nodup_cons.1 hn;have hx:=h x (by simp);have:=Us (l:=r) (m:=m.erase x) h2 (fun y hy=>(List.mem_erase_of_ne (fun e=>h1 (by rw [← e];exact hy))).2 (h y (by simp [hy])))
  rw [List.length_erase_of_mem hx] at this;have hp:=List.length_pos_of_mem hx;rw [ZV];omega
def MQ.ps (q:MQ):iW:=⟨q.EP,q.A,q.a,q.B,q.b⟩
theorem ae4 (N:Nat→Prop)(r:aP)(K W S A:Option Addr)(ck cw cs c:Nat)(ts:List ak)(w:World)(hR:kN N w r K W S)(hT:Sl fU N w A ts)(hr:zY r)(ht:zZ ts)(hU:Tabs w)(hM:gG w) :
  Calls Tryz.prog 51 #[.agg (aN r K ck W cw S cs),.slice A ts.length c] w fun e w'=>e=.returned (.int .i64 (kL r ts))∧Below w.heap.size w w':=by
 have T:=(Mem.start w).newAt (aN r K ck W cw S cs) 29 w.heap.size rfl;obtain ⟨E,HE⟩:∃ E,Hid (jB r=E):=⟨_,Z9 rfl⟩;obtain ⟨F,HF⟩:∃ F,Hid (iy ts=F):=⟨_,Z9 rfl⟩;have kP:=Z9 (fun w' (h:Below w.heap.size w w')=>aga N r K W S ck cw cs w' (hR.aK h) hr (hM.below h));have ji:=Z9 (fun w' (h:Below w.heap.size w w')=>afX N A ts c w' (hT.aK h) ht (Utf8Tabs_below hU h) (hM.below h));rw [HE.out] at kP;rw [HF.out] at ji;obtain ⟨R,HR⟩:∃ R,Hid (kL r ts=R):=⟨_,Z9 rfl⟩;rw [HR.out];have HR2:Hid ((if E≠0 then E else F)=R):=by show _=_;rw [← HE.out,← HF.out];exact HR.out
 clear hR hT hr ht hU hM HR HE HF;go_enter Tryz.func51,Tryz.ntmps51
 go_upto_region 1 with fail
 generalize w.alloc (.cells (aN r K ck W cw S cs) 29)=w1 at *;have y0:=(T.lv 0 rfl).all;go_wp2_with fail
 refine (kP.out w1 T.b).mono ?_;rintro e w2 ⟨rfl,hl2⟩;have T2:=T.below hl2;clear y0 kP;by_cases hE:E=0
 ·subst hE;have hr2:Hid (F=R):=HR2.out;clear HR2;go_wp2_with fail
  refine (ji.out w2 T2.b).mono ?_;rintro e w3 ⟨rfl,hl3⟩;go_wp2_with fail
  go_ret;exact ⟨congrArg (fun z=>Ending.returned (.int .i64 z)) hr2.out,(T2.below hl3).b⟩
 ·have hr2:Hid (E=R):=by have:=HR2.out;rw [if_pos hE] at this;exact this
  clear HR2;go_wp2_with fail
  go_ret;exact ⟨congrArg (fun z=>Ending.returned (.int .i64 z)) hr2.out,T2.b⟩
theorem lM.both {r:aP}{ts:List ak}(h:kL r ts=0)(hr:zY r):lM r ts:=by
 unfold kL at h;split at h
 ·exact absurd h (by assumption)
 ·rename_i hE;exact .of (Decidable.not_not.1 hE) hr.kl h
theorem ae6 {N:Nat→Prop}{w w0:World}{G X:Nat}{r:aP}{K W S A:Option Addr}{ck cw cs c:Nat}{ts:List ak}{qs:List HQ}(hb:Below w0.heap.size w0 w)(hR:kN N w0 r K W S)(hT:Sl fU N w0 A ts)
  {B:Nat} (T:Mem w0 w (.loc G (kJ r K ck W cw S cs A ts.length c X) 180::xI B X qs)) (hH:gB ts ts.length [] (qs.map HQ.kl)):vM N w G X r K W S A ck cw cs c ts qs:=by
 have T2:Mem w0 w ([.loc G (kJ r K ck W cw S cs A ts.length c X) 180,.aJ aU X (qs.map HQ.kv)]++[.slots qs]):=Mem.aiP (cs:=[.loc G (kJ r K ck W cw S cs A ts.length c X) 180,.aJ aU X (qs.map HQ.kv)]) T;refine ⟨T.lv 0 rfl,T.ok _ (.tail _ (.head _)),fun q hqm=>?_,hH,hR.aK hb,hT.aK hb,fun q hqm=>?_⟩
 ·have h:=T2.ok (.slots qs) (.tail _ (.tail _ (.head _)));exact (h q hqm).mono (fun _ _ h=>h.elim)
 ·obtain ⟨j,hj⟩:=List.mem_iff_getElem?.1 hqm;have ho:=T.ow (j + 2) (by show (qs.map (hq B))[j]? =_;rw [ZT,hj];rfl);rcases ho.shape2 with ⟨e,e2⟩ | ⟨g,cap,e,hc⟩
  ·simp only [Value.slice.injEq] at e;omega
  ·simp only [Value.slice.injEq] at e;obtain ⟨_,h1,rfl⟩:=e;rw [kX] at hc;omega
end
section
open Go Go.RowKit
end
end Go.Proofs.YtmkkppknaikjjaaGreatDoor
