/- Several texts in one: Psnq, Persons, PsnTop. -/
import Derived.Test.YtfdcgedcfafmcaaGreatDoorPackP
import Derived.Test.YtfdcgedcfafmcaaGreatDoorPackJ
import Derived.Test.YtfdcgedcfafmcaaGreatDoorPackU
import Derived.Test.YtfdcgedcfafmcaaGreatDoorPackC
/- Persons in memory: rows of four cells, and apart from them their touches and ids, which stay. -/
namespace Go.Proofs.YtfdcgedcfafmcaaGreatDoor
section
open Go Go.RowKit
def Psn.cells (p:Psn):List Value:=[.int .i64 p.key.k,.string p.key.t]
def rPsn:Rep Psn:=(((Rep.flat 2 Psn.cells (fun _=>rfl)).app rInt.list).app rId.list).via (fun p=>((p,p.tch),p.ids))
abbrev psCs (p:Psn)(A:Option Addr)(a:Nat)(B:Option Addr)(b:Nat):Array Value:=#[.int .i64 p.key.k,.string p.key.t,.slice A p.tch.length a,.slice B p.ids.length b]
theorem rPsn_mk {N:Nat→Prop}{w:World}{p:Psn}{A B:Option Addr}{a b:Nat}(hA:Sl rInt N w A p.tch)(hB:Sl rId N w B p.ids):rPsn.rel N w p (psCs p A a B b).toList :=
 ⟨Psn.cells p++[.slice A p.tch.length a],[.slice B p.ids.length b],rfl,⟨Psn.cells p,[.slice A p.tch.length a],rfl,rfl,A,a,rfl,hA⟩,B,b,rfl,hB⟩
theorem rPsn_of {N:Nat→Prop}{w:World}{p:Psn}{l:List Value}(h:rPsn.rel N w p l):∃ A a B b,l=(psCs p A a B b).toList∧Sl rInt N w A p.tch∧Sl rId N w B p.ids:=by
 obtain ⟨_,_,rfl,⟨l1,_,rfl,h1,A,a,rfl,hA⟩,B,b,rfl,hB⟩:=h;obtain rfl:l1=Psn.cells p:=h1;exact ⟨A,a,B,b,rfl,hA,hB⟩
theorem Sl.psn {N:Nat→Prop}{w:World}{A:Option Addr}{xs:List Psn}(h:Sl rPsn N w A xs)(k:Nat)(p:Psn)(hk:xs[k]? =some p):∃ blk off At a Ai b,A=some ⟨blk,off,none⟩∧blk < w.heap.size ∧
  w.cell? ⟨blk,off + k * 4,none⟩=some (.int .i64 p.key.k)∧w.cell? ⟨blk,off + k * 4 + 1,none⟩=some (.string p.key.t)∧w.cell? ⟨blk,off + k * 4 + 2,none⟩=some (.slice At p.tch.length a)∧w.cell? ⟨blk,off + k * 4 + 3,none⟩=some (.slice Ai p.ids.length b)∧Sl rInt N w At p.tch∧Sl rId N w Ai p.ids:=by
 obtain ⟨blk,off,l,e1,h1,_,h3,h4⟩:=h k p hk;obtain ⟨At,a,Ai,b,rfl,hi,hf⟩:=rPsn_of h3;exact ⟨blk,off,At,a,Ai,b,e1,h1,h4 0 _ rfl,h4 1 _ rfl,h4 2 _ rfl,h4 3 _ rfl,hi,hf⟩
structure PsQ where
 p:Psn
 A:Option Addr
 a:Nat
 B:Option Addr
 b:Nat
def PsQ.cells (q:PsQ):List Value:=[.int .i64 q.p.key.k,.string q.p.key.t,.slice q.A q.p.tch.length q.a,.slice q.B q.p.ids.length q.b]
def rPsQ:Rep PsQ:=.flat 4 PsQ.cells (fun _=>rfl)
theorem tyPsn:STy 95 98 rPsQ.size 72 (.agg #[.int .i64 0,.string ⟨#[]⟩,.slice none 0 0,.slice none 0 0]):=⟨Tryz.underlying95,by kernel_rfl,rfl,by decide⟩
theorem onePsQ (q:PsQ):∀ u∈q.cells,u.oneCell'=true:=fun u hu=>by
 simp only [PsQ.cells,List.mem_cons,List.not_mem_nil,or_false] at hu
 rcases hu with rfl | rfl | rfl | rfl <;> rfl
def PdOk (M:Nat→Prop)(w:World)(qs:List PsQ):Prop:=∀ q∈qs,Sl rInt M w q.A q.p.tch∧Sl rId M w q.B q.p.ids
def Chunk.pdat (qs:List PsQ):Chunk :=
 ⟨none,fun M w=>PdOk M w qs,fun k hd _ h q hq=>⟨(h q hq).1.keep (k.mono hd),(h q hq).2.keep (k.mono hd)⟩,fun hm h q hq=>⟨(h q hq).1.mono (fun k hk e=>(hm k hk e).resolve_right (by simp)),(h q hq).2.mono (fun k hk e=>(hm k hk e).resolve_right (by simp))⟩,fun _ _ e=>by cases e⟩
theorem slPsn {N:Nat→Prop}{w:World}{A:Option Addr}{qs:List PsQ}(h:Sl rPsQ N w A qs)(hf:PdOk N w qs):Sl rPsn N w A (qs.map PsQ.p):=fun i x hx=>by
 rw [List.getElem?_map] at hx;cases hq:qs[i]? with
 | none=>rw [hq] at hx;cases hx
 | some y =>
  rw [hq] at hx;obtain rfl:y.p=x:=by simpa using hx
  obtain ⟨blk,off,l,e1,h1,h2,h3,h4⟩:=h i y hq;obtain rfl:l=PsQ.cells y:=h3;have hd:=hf y (List.mem_of_getElem? hq);exact ⟨blk,off,_,e1,h1,h2,rPsn_mk (a:=y.a) (b:=y.b) hd.1 hd.2,h4⟩
section
variable {w0 w:World} {cs:List Chunk}
theorem Mem.pd (S:Mem w0 w cs)(i:Nat){qs:List PsQ}(hi:cs[i]? =some (.pdat qs)):PdOk (Mut w0.heap.size cs) w qs:=S.ok _ (List.mem_of_getElem? hi)
theorem Mem.psns (S:Mem w0 w cs)(i j:Nat){A:Option Addr}{qs:List PsQ}(hi:cs[i]? =some (.sl rPsQ A qs))(hj:cs[j]? =some (.pdat qs)):Mem w0 w (cs.set i (.sl rPsn A (qs.map PsQ.p))) :=
 S.turn i hi (.sl rPsn A (qs.map PsQ.p)) rfl (slPsn (S.slc i hi) (S.pd j hj))
theorem Mem.noPd (S:Mem w0 w cs):Mem w0 w (cs++[.pdat []]):=S.call (Below.refl _ _) (.pdat []) (fun q hq=>by cases hq) (fun k e=>by cases e)
theorem Mem.addPd (S:Mem w0 w cs)(i:Nat){qs:List PsQ}(hi:cs[i]? =some (.pdat qs))(x:PsQ)(hA:Sl rInt (Mut w0.heap.size cs) w x.A x.p.tch)(hB:Sl rId (Mut w0.heap.size cs) w x.B x.p.ids):Mem w0 w (cs.set i (.pdat (qs++[x]))):=by
 refine S.turn i hi (.pdat (qs++[x])) rfl (fun q hq=>?_);rcases List.mem_append.1 hq with hq | hq
 ·exact S.pd i hi q hq
 ·rw [List.mem_singleton.1 hq];exact ⟨hA,hB⟩
end
def GivesPsns (l:List Psn)(w:World)(e:Ending)(w':World):Prop :=
 ∃ A c,e=.returned (.slice A l.length c)∧Mem w w' [.sl rPsn A l]
def GivesPsn (p:Psn)(w:World)(e:Ending)(w':World):Prop :=
 ∃ A a B b,e=.returned (.agg (psCs p A a B b))∧Mem w w' [.sl rInt A p.tch,.sl rId B p.ids]
end
section
open Go Go.RowKit
theorem results_two {P:Program}{fn:Func}{s t:Tmp}{v u:Value}{w:World}{tmps:Array Value}(h:fn.results=#[.tmp s,.tmp t])(hs:tmps.getD s undef=v)(ht:tmps.getD t undef=u):(results fn tmps).run P w=.ok (.tuple #[v,u]) w:=by
 have hs':tmps[s]?.getD undef=v:=by simpa using hs
 have ht':tmps[t]?.getD undef=u:=by simpa using ht
 simp [results,h,hs',ht']
set_option maxHeartbeats 4000000 in
set_option maxRecDepth 100000 in
theorem sub_len {α:Type}[DecidableEq α]:∀ {l m:List α},l.Nodup→(∀ x∈l,x∈m)→l.length≤m.length
 | [],_,_,_=>by simp
 | x::r,m,hn,h=>by
  obtain ⟨h1,h2⟩:=List.nodup_cons.1 hn;have hx:=h x (by simp);have:=sub_len (l:=r) (m:=m.erase x) h2 (fun y hy=>(List.mem_erase_of_ne (fun e=>h1 (by rw [← e];exact hy))).2 (h y (by simp [hy])))
  rw [List.length_erase_of_mem hx] at this;have hp:=List.length_pos_of_mem hx;rw [List.length_cons];omega
abbrev mqCs (q:MQ):Array Value:=#[.int .i64 q.key.k,.string q.key.t,.slice q.A q.tch.length q.a,.slice q.B q.ids.length q.b,.slice q.C q.at'.length q.c]
def MQ.ps (q:MQ):PsQ:=⟨q.psn,q.A,q.a,q.B,q.b⟩
set_option maxRecDepth 100000 in
theorem checkBoth_any (N:Nat→Prop)(r:Rul)(K W S A:Option Addr)(ck cw cs c:Nat)(ts:List Tch)(w:World)(hR:RulIn N w r K W S)(hT:Sl rTch N w A ts)(hr:RulOk r)(ht:TchsOk ts)(hU:Tabs w)(hM:MaxL w) :
  Calls Tryz.prog 35 #[.agg (ruCs r K ck W cw S cs),.slice A ts.length c] w fun e w'=>e=.returned (.int .i64 (bothF r ts))∧Below w.heap.size w w':=by
 have T:=(Mem.start w).newAt (ruCs r K ck W cw S cs) 29 w.heap.size rfl;obtain ⟨E,HE⟩:∃ E,Hid (rulFault r=E):=⟨_,Lib.hid rfl⟩;obtain ⟨F,HF⟩:∃ F,Hid (tchsFault ts=F):=⟨_,Lib.hid rfl⟩;have Hc1:=Lib.hid (fun w' (h:Below w.heap.size w w')=>checkJoin_any N r K W S ck cw cs w' (hR.keepB h) hr (hM.below h));have Hc2:=Lib.hid (fun w' (h:Below w.heap.size w w')=>checkTouches_any N A ts c w' (hT.keepB h) ht (Utf8Tabs_below hU h) (hM.below h));rw [HE.out] at Hc1;rw [HF.out] at Hc2;obtain ⟨R,HR⟩:∃ R,Hid (bothF r ts=R):=⟨_,Lib.hid rfl⟩;rw [HR.out];have HR2:Hid ((if E≠0 then E else F)=R):=by show _=_;rw [← HE.out,← HF.out];exact HR.out
 clear hR hT hr ht hU hM HR HE HF
 go_enter Tryz.func35,Tryz.ntmps35
 go_upto_region 1 with fail
 generalize w.alloc (.cells (ruCs r K ck W cw S cs) 29)=w1 at *;have y0:=(T.lv 0 rfl).all
 go_wp2_with fail
 ((with_reducible refine (Hc1.out w1 T.b).mono ?_);rintro e w2 ⟨rfl,hl2⟩)
 have T2:=T.below hl2;clear y0 Hc1;by_cases hE:E=0
 ·subst hE;have hr2:Hid (F=R):=HR2.out;clear HR2
  go_wp2_with fail
  ((with_reducible refine (Hc2.out w2 T2.b).mono ?_);rintro e w3 ⟨rfl,hl3⟩)
  go_wp2_with fail
  go_ret
  exact ⟨congrArg (fun z=>Ending.returned (.int .i64 z)) hr2.out,(T2.below hl3).b⟩
 ·have hr2:Hid (E=R):=by have:=HR2.out;rw [if_pos hE] at this;exact this
  clear HR2
  go_wp2_with fail
  go_ret
  exact ⟨congrArg (fun z=>Ending.returned (.int .i64 z)) hr2.out,T2.b⟩
theorem RtOk.both {r:Rul}{ts:List Tch}(h:bothF r ts=0)(hr:RulOk r):RtOk r ts:=by
 unfold bothF at h;split at h
 ·exact absurd h (by assumption)
 ·rename_i hE
  exact .of (Decidable.not_not.1 hE) hr.kl h
theorem grp_of {N:Nat→Prop}{w w0:World}{G X:Nat}{r:Rul}{K W S A:Option Addr}{ck cw cs c:Nat}{ts:List Tch}{qs:List HQ}(hb:Below w0.heap.size w0 w)(hR:RulIn N w0 r K W S)(hT:Sl rTch N w0 A ts)
  {B:Nat} (T:Mem w0 w (.loc G (grCs r K ck W cw S cs A ts.length c X) 159::havC B X qs)) (hH:HavOk ts ts.length [] (qs.map HQ.kl)):Grp N w G X r K W S A ck cw cs c ts qs:=by
 have T2:Mem w0 w ([.loc G (grCs r K ck W cw S cs A ts.length c X) 159,.mapG keyId X (qs.map HQ.kv)]++[.slots qs]):=Mem.frzSlots (cs:=[.loc G (grCs r K ck W cw S cs A ts.length c X) 159,.mapG keyId X (qs.map HQ.kv)]) T;refine ⟨T.lv 0 rfl,T.ok _ (.tail _ (.head _)),fun q hqm=>?_,hH,hR.keepB hb,hT.keepB hb,fun q hqm=>?_⟩
 ·have h:=T2.ok (.slots qs) (.tail _ (.tail _ (.head _)));exact (h q hqm).mono (fun _ _ h=>h.elim)
 ·obtain ⟨j,hj⟩:=List.mem_iff_getElem?.1 hqm;have ho:=T.ow (j + 2) (by show (qs.map (hq B))[j]? =_;rw [List.getElem?_map,hj];rfl);rcases ho.shape2 with ⟨e,e2⟩ | ⟨g,cap,e,hc⟩
  ·simp only [Value.slice.injEq] at e
   omega
  ·simp only [Value.slice.injEq] at e
   obtain ⟨_,h1,rfl⟩:=e;rw [iL_len] at hc;omega
end
section
open Go Go.RowKit
def GivesPsnE (r:Rul)(ts:List Tch)(w:World)(e:Ending)(w':World):Prop :=
 ∃ (A:Option Addr) (c:Nat) (P:List Psn),e=.returned (.tuple #[.slice A P.length c,.int .i64 (bothF r ts)])∧(bothF r ts≠0→P=[])∧(bothF r ts=0→IsPsns r ts P)∧Mem w w' [.sl rPsn A P]
theorem IsMembs.len {r:Rul}{l:List Tch}{c:Nat→Nat}{qs:List MQ}(h:IsMembs r l c qs):qs.length≤l.length:=by
 have:=congrArg List.length h
 rw [List.length_map,List.length_map,mRows,List.length_map] at this;rw [this];exact heads_len c l.length
end
end Go.Proofs.YtfdcgedcfafmcaaGreatDoor
