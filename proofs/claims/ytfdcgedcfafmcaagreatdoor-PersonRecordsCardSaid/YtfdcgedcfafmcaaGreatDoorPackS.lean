/- Several texts in one: MapF, TelMem, TelP, RecP, RecW. -/
import Derived.Test.YtfdcgedcfafmcaaGreatDoorPackT
import Derived.Test.YtfdcgedcfafmcaaGreatDoorPackA
import Derived.Test.YtfdcgedcfafmcaaGreatDoorPackP
import Derived.Test.YtfdcgedcfafmcaaGreatDoorPackQ
import Derived.Test.YtfdcgedcfafmcaaGreatDoorPackU
import Derived.Test.YtfdcgedcfafmcaaGreatDoorPackF
import Derived.Test.YtfdcgedcfafmcaaGreatDoorPackH
import Derived.Test.YtfdcgedcfafmcaaGreatDoorPackG
import Derived.Test.YtfdcgedcfafmcaaGreatDoorSf
/- A map of the call's own that is looped over and written afterwards: its entries by name. -/
namespace Go.Proofs.YtfdcgedcfafmcaaGreatDoor
section
open Go Go.RowKit Go.MapKept
def Chunk.mapF (X:Nat)(es:Array MapEntry)(clock:Nat):Chunk :=
 ⟨some X,fun _ w=>w.heap[X]? =some (.map es clock),fun k _ hd h=>(k.block X (Array.getElem?_eq_some_iff.1 h).1 (hd X rfl)).trans h,fun _ h=>h,fun h _ e=>by cases e;exact (Array.getElem?_eq_some_iff.1 h).1⟩
section
variable {κ:Type} {w0 w:World} {cs:List Chunk}
theorem Mem.openG {K:KeyL κ}(S:Mem w0 w cs)(i:Nat){X:Nat}{L:List (κ×Value)}(hi:cs[i]? =some (.mapG K X L)):∃ es clock,EsOk K es clock L∧Mem w0 w (cs.set i (.mapF X es clock)):=by
 obtain ⟨es,clock,hb,he⟩:=S.ok _ (List.mem_of_getElem? hi);exact ⟨es,clock,he,S.upd i hi (.mapF X es clock) ⟨Nat.le_refl _,fun _ _ _=>rfl⟩ S.b (fun _ e=>.inl e) hb⟩
theorem Mem.atF (S:Mem w0 w cs)(i:Nat){X:Nat}{es:Array MapEntry}{clock:Nat}(hi:cs[i]? =some (.mapF X es clock)):w.heap[X]? =some (.map es clock):=S.ok _ (List.mem_of_getElem? hi)
end
end
section
open Go Go.RowKit
structure TS where
 x:ByteArray
 A:Option Addr
 c:Nat
 ls:List Tld
def TS.v (q:TS):Value:=.slice q.A q.ls.length q.c
def TS.kv (q:TS):ByteArray×Value:=(q.x,.slice q.A q.ls.length q.c)
def TS.kl (q:TS):ByteArray×List Tld:=(q.x,q.ls)
def tsq (B E:Nat)(q:TS):Chunk:=.own rTld B E (.slice q.A q.ls.length q.c) q.ls
theorem tkv_keys (qs:List TS):(qs.map TS.kv).map Prod.fst=qs.map TS.x:=by simp [TS.kv,Function.comp_def]
theorem tkl_keys (qs:List TS):(qs.map TS.kl).map Prod.fst=qs.map TS.x:=by simp [TS.kl,Function.comp_def]
theorem ts_cases (qs:List TS)(hn:(qs.map TS.x).Nodup)(x:ByteArray) :
  (x ∉ qs.map TS.x∧getG x (qs.map TS.kv)=none∧getG x (qs.map TS.kl)=none) ∨
  ∃ (j:Nat) (q:TS),qs[j]? =some q∧q.x=x∧getG x (qs.map TS.kv)=some q.v∧getG x (qs.map TS.kl)=some q.ls:=by
 by_cases h:x∈qs.map TS.x
 ·right
  obtain ⟨q,hq,e⟩:=List.mem_map.1 h;obtain ⟨j,hj⟩:=List.mem_iff_getElem?.1 hq;refine ⟨j,q,hj,e,?_,?_⟩
  ·exact (getG_at (L:=qs.map TS.kv) (j:=j) (k:=x) (v:=q.v) (by rw [tkv_keys];exact hn) (by rw [List.getElem?_map,hj];subst e;rfl)).1
  ·exact (getG_at (L:=qs.map TS.kl) (j:=j) (k:=x) (v:=q.ls) (by rw [tkl_keys];exact hn) (by rw [List.getElem?_map,hj];subst e;rfl)).1
 ·exact .inl ⟨h,getG_none.2 (by rw [tkv_keys];exact h),getG_none.2 (by rw [tkl_keys];exact h)⟩
theorem ts_step (qs:List TS)(hn:(qs.map TS.x).Nodup)(x:ByteArray):∃ (qs1:List TS) (j:Nat) (q:TS),qs1[j]? =some q∧q.x=x∧(qs1.map TS.x).Nodup∧(getG x (qs.map TS.kv)).getD (.slice none 0 0)=.slice q.A q.ls.length q.c ∧
  (getG x (qs.map TS.kl)).getD []=q.ls∧(∀ q':TS,q'.x=x→updG x q'.v (qs.map TS.kv)=(qs1.set j q').map TS.kv∧updG x q'.ls (qs.map TS.kl)=(qs1.set j q').map TS.kl) ∧
  ∀ (B E:Nat) (w0 w:World) (cs:List Chunk),Mem w0 w (cs++qs.map (tsq B E))→Mem w0 w (cs++qs1.map (tsq B E)):=by
 rcases ts_cases qs hn x with ⟨h1,h2,h3⟩ | ⟨j,q,h1,h2,h3,h4⟩
 ·have hn1:((qs++[(⟨x,none,0,[]⟩:TS)]).map TS.x).Nodup:=by
   rw [List.map_append,List.nodup_append];refine ⟨hn,by simp,fun a ha b hb e=>?_⟩;simp only [List.map_cons,List.map_nil,List.mem_singleton] at hb
   subst hb;subst e;exact h1 ha
  have hj:(qs++[(⟨x,none,0,[]⟩:TS)])[qs.length]? =some ⟨x,none,0,[]⟩:=by simp
  refine ⟨qs++[⟨x,none,0,[]⟩],qs.length,⟨x,none,0,[]⟩,hj,rfl,hn1,by rw [h2];rfl,by rw [h3];rfl,fun q' e=>?_,fun B E w0 w cs S=>?_⟩
  ·subst e;rw [show (qs++[(⟨q'.x,none,0,[]⟩:TS)]).set qs.length q'=qs++[q'] by rw [List.set_append_right _ _ (Nat.le_refl _)];simp];constructor
   ·rw [updG_new (by rw [tkv_keys];exact h1),List.map_append];rfl
   ·rw [updG_new (by rw [tkl_keys];exact h1),List.map_append];rfl
  ·have S1:=S.nil rTld B E;rw [List.append_assoc] at S1;rw [List.map_append];exact S1
 ·subst h2;refine ⟨qs,j,q,h1,rfl,hn,by rw [h3];rfl,by rw [h4];rfl,fun q' e=>⟨?_,?_⟩,fun _ _ _ _ _ S=>S⟩
  ·rw [(getG_at (L:=qs.map TS.kv) (j:=j) (k:=q.x) (v:=q.v) (by rw [tkv_keys];exact hn) (by rw [List.getElem?_map,h1];rfl)).2 q'.v,List.map_set];rw [← e];rfl
  ·rw [(getG_at (L:=qs.map TS.kl) (j:=j) (k:=q.x) (v:=q.ls) (by rw [tkl_keys];exact hn) (by rw [List.getElem?_map,h1];rfl)).2 q'.ls,List.map_set];rw [← e];rfl
def TSlotsOk (M:Nat→Prop)(w:World)(qs:List TS):Prop:=∀ q∈qs,Sl rTld M w q.A q.ls∧q.ls.length≤q.c
def Chunk.tslots (qs:List TS):Chunk :=
 ⟨none,fun M w=>TSlotsOk M w qs,fun k hd _ h q hq=>⟨(h q hq).1.keep (k.mono hd),(h q hq).2⟩,fun hm h q hq=>⟨(h q hq).1.mono (fun k hk e=>(hm k hk e).resolve_right (by simp)),(h q hq).2⟩,fun _ _ e=>by cases e⟩
theorem Mem.frzTS {w0 w:World}{cs:List Chunk}{B E:Nat}{qs:List TS}(S:Mem w0 w (cs++qs.map (tsq B E))):Mem w0 w (cs++[.tslots qs]):=by
 refine S.swapFor (.tslots qs) rfl (fun q hq'=>?_);have hmem:tsq B E q∈cs++qs.map (tsq B E):=List.mem_append_right _ (List.mem_map_of_mem hq');have ho:Own rTld (Mut w0.heap.size (cs++qs.map (tsq B E))) B E w (.slice q.A q.ls.length q.c) q.ls:=S.ok _ hmem;have hs:=ho.slF flatTld;have hc:q.ls.length≤q.c:=by
  obtain ⟨A2,c2,e,h2,_⟩:=(ho.flatM flatTld (M':=fun _=>False)).toSlC (fun _ _ h=>h);simp only [Value.slice.injEq] at e
  obtain ⟨_,_,rfl⟩:=e;exact h2
 refine ⟨?_,hc⟩;intro i x hx;obtain ⟨blk,off,l,e1,h1,_,h3,h4⟩:=hs i x hx;refine ⟨blk,off,l,e1,h1,fun hm=>?_,h3,h4⟩;have hb:(tsq B E q).blk=some blk:=by
  show (Value.slice q.A q.ls.length q.c).ownBlock=some blk;rw [e1];rfl
 have hnew:=S.new _ hmem blk hb;rcases hm with hm | ⟨d,hd,e⟩
 ·omega
 ·exact (List.pairwise_append.1 S.sep).2.2 d hd _ (List.mem_map_of_mem hq') blk e hb
def sel (x:ByteArray)(L:List (ByteArray×Tld)):List Tld:=(L.filter (fun p=>decide (p.1=x))).map Prod.snd
def selC (x:ByteArray)(L:List (ByteArray×Tc)):List Tc:=(L.filter (fun p=>decide (p.1=x))).map Prod.snd
theorem sel_snoc (x:ByteArray)(L:List (ByteArray×Tld))(y:ByteArray)(t:Tld):sel x (L++[(y,t)])=sel x L++if y=x then [t] else []:=by
 unfold sel;rw [List.filter_append,List.map_append];congr 1
 by_cases e:y=x <;> simp [e]
theorem sel_core (x:ByteArray)(L:List (ByteArray×Tld)):(sel x L).map Tld.q=selC x (L.map (fun p=>(p.1,p.2.q))):=by
 unfold sel selC;induction L with
 | nil=>rfl
 | cons a r ih =>
  rw [List.map_cons,List.filter_cons,List.filter_cons];by_cases e:a.1=x
  ·rw [if_pos (decide_eq_true e),if_pos (decide_eq_true e),List.map_cons,List.map_cons,List.map_cons,ih]
  ·rw [if_neg (by simpa using e),if_neg (by simpa using e),ih]
structure TelOk (L:List (ByteArray×Tld)) (qs:List TS):Prop where
 nd:(qs.map TS.x).Nodup
 is:∀ x,getG x (qs.map TS.kl)=if sel x L=[] then none else some (sel x L)
theorem TelOk.start:TelOk [] []:=⟨by simp,fun x=>rfl⟩
theorem TelOk.getD {L:List (ByteArray×Tld)}{qs:List TS}(h:TelOk L qs)(x:ByteArray):(getG x (qs.map TS.kl)).getD []=sel x L:=by
 rw [h.is];split
 ·rename_i e;rw [e];rfl
 ·rfl
theorem TelOk.put {L:List (ByteArray×Tld)}{qs qs1:List TS}{j:Nat}{q':TS}{x:ByteArray}{t:Tld}(h:TelOk L qs)(hx:q'.x=x)(hl:q'.ls=sel x L++[t])(hu:updG x q'.ls (qs.map TS.kl)=(qs1.set j q').map TS.kl)(hn:(qs1.map TS.x).Nodup)(hj:∃ q,qs1[j]? =some q∧q.x=x):TelOk (L++[(x,t)]) (qs1.set j q'):=by
 refine ⟨?_,fun y=>?_⟩
 ·rw [List.map_set];obtain ⟨q,h1,h2⟩:=hj;have e:(qs1.map TS.x).set j q'.x=qs1.map TS.x:=by
   apply List.ext_getElem?
   intro i;rw [List.getElem?_set];by_cases e3:j=i
   ·subst e3;rw [if_pos rfl,List.getElem?_map,h1];simp [lt_of_get h1,h2,hx]
   ·rw [if_neg e3]
  rw [e];exact hn
 ·rw [← hu,getG_upd,sel_snoc];by_cases e:y=x
  ·subst e;rw [if_pos rfl,if_pos rfl,if_neg (by simp),hl]
  ·rw [show (if x=y then [t] else [])=([]:List Tld) from if_neg (fun h=>e h.symm),List.append_nil,if_neg e,h.is]
end
section
open Go Go.RowKit
def tcOf (t:Tch)(f:Fld):ByteArray×Tc:=(f.name,⟨t.no,t.at',t.src,⟨f.kind,f.text,f.num⟩⟩)
def tellT (t:Tch):List (ByteArray×Tc):=t.flds.map (tcOf t)
def tellC (ts:List Tch)(at':List Nat):List (ByteArray×Tc):=at'.flatMap (fun i=>(ts[i]?.map tellT).getD [])
def coreL (L:List (ByteArray×Tld)):List (ByteArray×Tc):=L.map (fun p=>(p.1,p.2.q))
theorem coreL_snoc (L:List (ByteArray×Tld))(x:ByteArray)(t:Tld):coreL (L++[(x,t)])=coreL L++[(x,t.q)]:=by unfold coreL;rw [List.map_append];rfl
theorem tellC_snoc {ts:List Tch}{at':List Nat}{k i:Nat}{t:Tch}(h:at'[k]? =some i)(ht:ts[i]? =some t):tellC ts (at'.take (k + 1))=tellC ts (at'.take k)++tellT t:=by
 unfold tellC;rw [take_snoc h,List.flatMap_append,List.flatMap_singleton,ht];rfl
theorem tell_snoc {t:Tch}{n:Nat}{f:Fld}(h:t.flds[n]? =some f):(t.flds.take (n + 1)).map (tcOf t)=(t.flds.take n).map (tcOf t)++[tcOf t f]:=by
 rw [take_snoc h,List.map_append];rfl
theorem tellC_len {ts:List Tch}(hf:∀ t∈ts,t.flds.length≤1000):∀ at':List Nat,(tellC ts at').length≤1000 * at'.length
 | []=>Nat.zero_le _
 | i::r=>by
  unfold tellC;rw [List.flatMap_cons,List.length_append,List.length_cons];have h1:=tellC_len hf r;unfold tellC at h1;have h2:((ts[i]?.map tellT).getD []).length≤1000:=by
   cases h:ts[i]? with
   | none=>exact Nat.zero_le _
   | some t=>show (tellT t).length≤1000;unfold tellT;rw [List.length_map];exact hf t (List.mem_of_getElem? h)
  omega
def GivesTel (C:List (ByteArray×Tc))(w:World)(e:Ending)(w':World):Prop :=
 ∃ X qs L,e=.returned (.map (some X))∧TelOk L qs∧coreL L=C∧Mem w w' [.mapG keyStr X (qs.map TS.kv),.tslots qs]
theorem sel_le (x:ByteArray)(L:List (ByteArray×Tld)):(sel x L).length≤L.length:=by
 unfold sel;rw [List.length_map];exact List.length_filter_le _ _
theorem zeroSlP (w:World):(zeroValue 105).run Tryz.prog w=.ok (.slice none 0 0) w:=by kernel_rfl
theorem zeroSlR (w:World):(zeroValue 124).run Tryz.prog w=.ok (.slice none 0 0) w:=by kernel_rfl
theorem loadAtV3 {w:World}{X o:Nat}{k n:Int}{t:ByteArray}(h0:w.cell? ⟨X,o,none⟩=some (.int .i64 k))(h1:w.cell? ⟨X,o + 1,none⟩=some (.string t))(h2:w.cell? ⟨X,o + 2,none⟩=some (.int .i64 n)):(Instr.loadAt 57 (.pointer (some ⟨X,o,none⟩))).run Tryz.prog w=.ok (.agg #[.int .i64 k,.string t,.int .i64 n]) w:=by
 go_simp
theorem loadAtT5 {w:World}{X o:Nat}{a b:Int}{s:ByteArray}{u v:Value}(h0:w.cell? ⟨X,o,none⟩=some (.int .i64 a))(h1:w.cell? ⟨X,o + 1,none⟩=some (.int .i64 b))(h2:w.cell? ⟨X,o + 2,none⟩=some (.string s))(h3:w.cell? ⟨X,o + 3,none⟩=some u)(h4:w.cell? ⟨X,o + 4,none⟩=some v)(hu:∃ A n c,u=.slice A n c)(hv:∃ A n c,v=.slice A n c):(Instr.loadAt 85 (.pointer (some ⟨X,o,none⟩))).run Tryz.prog w=.ok (.agg #[.int .i64 a,.int .i64 b,.string s,u,v]) w:=by
 obtain ⟨A,n,c,rfl⟩:=hu;obtain ⟨B,m,d,rfl⟩:=hv
 go_simp
abbrev fdCs (f:Fld):Array Value:=#[.string f.name,.int .i64 f.kind,.string f.text,.int .i64 f.num]
set_option maxHeartbeats 8000000 in
set_option maxRecDepth 100000 in
theorem tellings_any (G X:Nat)(r:Rul)(K W S A:Option Addr)(ck cw cs c:Nat)(ts:List Tch)(hqs:List HQ)(a9:Int)(b9:ByteArray)(A1 A2 A3:Option Addr)(n1 c1 n2 c2 c3:Nat)(at':List Nat)(w:World)(hG:Grp (fun _=>False) w G X r K W S A ck cw cs c ts hqs)(hat:∀ i∈at',i < ts.length)(hal:at'.length≤2000)(_htl:ts.length≤2000)(hfl:∀ t∈ts,t.flds.length≤1000)(hC:Sl rInt (fun _=>False) w A3 (iL at')) :
  Calls Tryz.prog 53 #[.pointer (some ⟨G,0,none⟩),.agg #[.int .i64 a9,.string b9,.slice A1 n1 c1,.slice A2 n2 c2,.slice A3 at'.length c3]] w (GivesTel (tellC ts at') w):=by
 have HG:=Lib.hid (fun w' (h:Below w.heap.size w w')=>(hG.keepB h).g);have HT:=Lib.hid (fun w' (h:Below w.heap.size w w')=>hG.t.keepB h);have HC:=Lib.hid (fun w' (h:Below w.heap.size w w')=>hC.keepB h);have Hat:=Lib.hid hat;have Hfl:=Lib.hid hfl;have hmm:=@run_makeMap Tryz.prog;obtain ⟨Y,hY⟩:∃ Y,Y=w.heap.size:=⟨_,rfl⟩;have T0:Mem w (w.alloc (.cells #[.int .i64 a9,.string b9,.slice A1 n1 c1,.slice A2 n2 c2,.slice A3 at'.length c3] 101)) [.loc Y #[.int .i64 a9,.string b9,.slice A1 n1 c1,.slice A2 n2 c2,.slice A3 at'.length c3] 101]:=(Mem.start w).newAt _ 101 Y hY;have Hb:=Lib.hid hY;clear hG hC hat hfl
 go_enter Tryz.func53,Tryz.ntmps53
 go_upto_region 1 with fail
 rw [← hY];clear hY;generalize w.alloc (.cells #[.int .i64 a9,.string b9,.slice A1 n1 c1,.slice A2 n2 c2,.slice A3 at'.length c3] 101)=w1 at *;obtain ⟨M,hM⟩:∃ M,M=w1.heap.size:=⟨_,rfl⟩;have T1:Mem w (w1.alloc (.map #[] 0)) ([.loc Y #[.int .i64 a9,.string b9,.slice A1 n1 c1,.slice A2 n2 c2,.slice A3 at'.length c3] 101,.mapG keyStr M (([]:List TS).map TS.kv)]++([]:List TS).map (tsq Y 110)):=T0.newMapG keyStr M hM
 go_upto_region 2 with fail
 rw [← hM];clear hM hmm T0;generalize w1.alloc (.map #[] 0)=w2 at *;have l0:=(T1.lv 0 rfl).all
 go_wp2_with fail
 clear l0
 go_loopw [14] (fun ix wr=>∃ (k:Nat) (qs:List TS) (L:List (ByteArray×Tld)),k≤at'.length∧ix=.int .i64 k∧Hid (TelOk L qs)∧Hid (coreL L=tellC ts (at'.take k))∧Mem w wr ([.loc Y #[.int .i64 a9,.string b9,.slice A1 n1 c1,.slice A2 n2 c2,.slice A3 at'.length c3] 101,.mapG keyStr M (qs.map TS.kv)]++qs.map (tsq Y 110))) (fun ix _=>at'.length - (intOf ix).toNat)
 case atStart=>exact ⟨0,[],[],Nat.zero_le _,rfl,TelOk.start,rfl,T1⟩
 case round =>
  clear T1;obtain ⟨k,qs,L,hk,rfl,HO,HL,S1⟩:=hrel;by_cases hlt:k < at'.length
  ·obtain ⟨i,hi⟩:∃ i,at'[k]? =some i:=⟨_,List.getElem?_eq_getElem hlt⟩;have hin:i < ts.length:=Hat.out i (List.mem_of_getElem? hi);obtain ⟨t,ht⟩:∃ t,ts[i]? =some t:=⟨_,List.getElem?_eq_getElem hin⟩;obtain ⟨b5,o5,rfl,hb5,d0⟩:=(HC.out wr S1.b).int k (i:Int) (by unfold iL;rw [List.getElem?_map,hi];rfl);obtain ⟨bt,ot,Ai,ci,Af,cf,rfl,hbt,t0,t1,t2,t3,t4,_,hsf⟩:=(HT.out w (Below.refl _ _)).tch i t ht;have g0:=(HG.out wr S1.b).all;have e4:=(S1.b.cell (p:=⟨bt,ot + i * 5 + 4,none⟩) hbt).trans t4;have HF:=Lib.hid (fun w' (h:Below w.heap.size w w')=>hsf.keepB h);have Htc:Hid (∀ w',Below w.heap.size w w'→(Instr.loadAt 85 (.pointer (some ⟨bt,ot + i * 5,none⟩))).run Tryz.prog w'=.ok (.agg (tcCs t Ai ci Af cf)) w'):=fun w' h =>
    loadAtT5 ((h.cell (p:=⟨bt,ot + i * 5,none⟩) hbt).trans t0) ((h.cell (p:=⟨bt,ot + i * 5 + 1,none⟩) hbt).trans t1) ((h.cell (p:=⟨bt,ot + i * 5 + 2,none⟩) hbt).trans t2) ((h.cell (p:=⟨bt,ot + i * 5 + 3,none⟩) hbt).trans t3) ((h.cell (p:=⟨bt,ot + i * 5 + 4,none⟩) hbt).trans t4) ⟨_,_,_,rfl⟩ ⟨_,_,_,rfl⟩
   have hfl:t.flds.length≤1000:=Hfl.out t (List.mem_of_getElem? ht);have Hsn:=Lib.hid (tellC_snoc hi ht);have Hlen:Hid ((tellC ts (at'.take k)).length + t.flds.length≤2001000):=by
    show _≤_;have h1:=tellC_len Hfl.out (at'.take k);rw [List.length_take] at h1;omega
   clear t0 t1 t2 t3 t4 hsf hi ht
   go_wp2_with fail
   clear d0 g0 e4
   go_loopw [27] (fun ix wr=>∃ (n:Nat) (qs:List TS) (L:List (ByteArray×Tld)),n≤t.flds.length∧ix=.int .i64 n∧Hid (TelOk L qs)∧Hid (coreL L=tellC ts (at'.take k)++(t.flds.take n).map (tcOf t))∧Mem w wr ([.loc Y #[.int .i64 a9,.string b9,.slice A1 n1 c1,.slice A2 n2 c2,.slice (some ⟨b5,o5,none⟩) at'.length c3] 101,.mapG keyStr M (qs.map TS.kv)]++qs.map (tsq Y 110))) (fun ix _=>t.flds.length - (intOf ix).toNat)
   case atStart=>exact ⟨0,qs,L,Nat.zero_le _,rfl,HO,(by show _=_;rw [HL.out];simp),S1⟩
   case round =>
    clear S1 HO HL;obtain ⟨n,q0,L,hn,rfl,HO,HL,S1⟩:=hrel;by_cases hlt2:n < t.flds.length
    ·obtain ⟨f,hf⟩:∃ f,t.flds[n]? =some f:=⟨_,List.getElem?_eq_getElem hlt2⟩;obtain ⟨b7,o7,rfl,hb7,f0,f1,f2,f3⟩:=(HF.out wr S1.b).fld n f hf;have HL2:Hid (coreL (L++[(f.name,(⟨⟨t.no,t.at',t.src,⟨f.kind,f.text,f.num⟩⟩,Ai,t.ids.length,ci,some ⟨b7,o7,none⟩,t.flds.length,cf⟩:Tld))])=tellC ts (at'.take k)++(t.flds.take (n + 1)).map (tcOf t)):=by
      show _=_;rw [coreL_snoc,HL.out,tell_snoc hf,List.append_assoc];rfl
     have Hql0:Hid (L.length≤2001000):=by
      have h1:=congrArg List.length HL.out;unfold coreL at h1;rw [List.length_map,List.length_append,List.length_map,List.length_take] at h1;have:=Hlen.out
      show _≤_;omega
     clear hf;obtain ⟨V,hV⟩:∃ V,V=wr.heap.size:=⟨_,rfl⟩;have S2:Mem w (wr.alloc (.cells (fdCs f) 59)) (.loc V (fdCs f) 59::([.loc Y #[.int .i64 a9,.string b9,.slice A1 n1 c1,.slice A2 n2 c2,.slice (some ⟨b5,o5,none⟩) at'.length c3] 101,.mapG keyStr M (q0.map TS.kv)]++q0.map (tsq Y 110))):=(S1.newAt (fdCs f) 59 V hV).front
     go_upto_region 8 with fail
     rw [← hV];clear hV S1 f0 f1 f2 f3;generalize wr.alloc (.cells (fdCs f) 59)=w4 at *;obtain ⟨qs1,j,q,e1,e2,e3,e4,e5,e6,e7⟩:=ts_step q0 HO.out.nd f.name;have T:=e7 Y 110 w w4 (.loc V (fdCs f) 59::[.loc Y #[.int .i64 a9,.string b9,.slice A1 n1 c1,.slice A2 n2 c2,.slice (some ⟨b5,o5,none⟩) at'.length c3] 101,.mapG keyStr M (q0.map TS.kv)]) S2;replace T:Mem w w4 (.loc V (fdCs f) 59::.loc Y #[.int .i64 a9,.string b9,.slice A1 n1 c1,.slice A2 n2 c2,.slice (some ⟨b5,o5,none⟩) at'.length c3] 101::.mapG keyStr M (q0.map TS.kv)::qs1.map (tsq Y 110)):=T;have Hql:Hid (q.ls.length≤2001000):=by
      show _≤_;rw [← e5,HO.out.getD];exact Nat.le_trans (sel_le _ _) Hql0.out
     obtain ⟨tl,htl⟩:∃ tl:Tld,(⟨⟨t.no,t.at',t.src,⟨f.kind,f.text,f.num⟩⟩,Ai,t.ids.length,ci,some ⟨b7,o7,none⟩,t.flds.length,cf⟩:Tld)=tl:=⟨_,rfl⟩;have htl2:=htl;rw [htl] at HL2;subst htl;have e1:=Lib.hid e1;have e2:=Lib.hid e2;have e3:=Lib.hid e3;have e4:=Lib.hid e4;have e5:=Lib.hid e5;have e6:=Lib.hid e6;clear S2 e7 htl2;refine wp_region_mixT [] (fun w'=>Below w.heap.size w w'∧LV w' V (fdCs f) 59) (.p 0 (.p 1 (.q 2 (.p 3 (.p 4 (.q 5 (.p 7 (.p 8 (.p 9 (.q 10 (.p 11 (.p 12 (.q 13 (.p 14 (.q 15 (.p 16 (.e2 6 (.e 17 (.e 18 (.e 19 .z))) 17 (.e 6 (.e 18 (.e 19 .z)))))))))))))))))))) (by kernel_rfl) (by kernel_rfl) (fun w' hd=>⟨(T.below (hd.below _)).b,(T.below (hd.below _)).lv 0 rfl⟩) (fun KK hKK wd hd=>?_);replace T:=T.below (hd.below _);clear hd
     repeat ((first | refine mixT_pp rfl (fun K hK=>?_) | refine mixT_p rfl (fun K hK=>?_));go_simp;(try go_bits);(try simp (disch:=omega) only [if_pos]);(try simp (disch:=omega) only [if_neg]);(try simp (disch:=omega) only [dif_pos]);(try simp (disch:=omega) only [dif_neg]);(try go_simp);(refine hK _ ?_;clear hK K))
     refine mixT_loadR (.string f.name) rfl rfl rfl rfl (fun w' h=>loadC rfl (h.2.cell 0 _ rfl)) ?_
     repeat ((first | refine mixT_pp rfl (fun K hK=>?_) | refine mixT_p rfl (fun K hK=>?_));go_simp;(try go_bits);(try simp (disch:=omega) only [if_pos]);(try simp (disch:=omega) only [if_neg]);(try simp (disch:=omega) only [dif_pos]);(try simp (disch:=omega) only [dif_neg]);(try go_simp);(refine hK _ ?_;clear hK K))
     refine mixT_loadR (.string f.name) rfl rfl rfl rfl (fun w' h=>loadC rfl (h.2.cell 0 _ rfl)) ?_
     repeat ((first | refine mixT_pp rfl (fun K hK=>?_) | refine mixT_p rfl (fun K hK=>?_));go_simp;(try go_bits);(try simp (disch:=omega) only [if_pos]);(try simp (disch:=omega) only [if_neg]);(try simp (disch:=omega) only [dif_pos]);(try simp (disch:=omega) only [dif_neg]);(try go_simp);(refine hK _ ?_;clear hK K))
     refine mixT_loadR (.slice (some ⟨bt,ot,none⟩) ts.length c) rfl rfl rfl rfl (fun w' h=>loadC rfl ((HG.out w' h.1).cell 4 _ rfl)) ?_
     repeat ((first | refine mixT_pp rfl (fun K hK=>?_) | refine mixT_p rfl (fun K hK=>?_));go_simp;(try go_bits);(try simp (disch:=omega) only [if_pos]);(try simp (disch:=omega) only [if_neg]);(try simp (disch:=omega) only [dif_pos]);(try simp (disch:=omega) only [dif_neg]);(try go_simp);(refine hK _ ?_;clear hK K))
     refine mixT_loadR (.agg (tcCs t Ai ci (some ⟨b7,o7,none⟩) cf)) rfl rfl rfl rfl (fun w' h=>Htc.out w' h.1) ?_
     repeat ((first | refine mixT_pp rfl (fun K hK=>?_) | refine mixT_p rfl (fun K hK=>?_));go_simp;(try go_bits);(try simp (disch:=omega) only [if_pos]);(try simp (disch:=omega) only [if_neg]);(try simp (disch:=omega) only [dif_pos]);(try simp (disch:=omega) only [dif_neg]);(try go_simp);(refine hK _ ?_;clear hK K))
     refine mixT_loadR (.agg #[.int .i64 f.kind,.string f.text,.int .i64 f.num]) rfl rfl rfl rfl (fun w' h=>loadAtV3 (h.2.cell 1 _ rfl) (h.2.cell 2 _ rfl) (h.2.cell 3 _ rfl)) ?_
     repeat ((first | refine mixT_pp rfl (fun K hK=>?_) | refine mixT_p rfl (fun K hK=>?_));go_simp;(try go_bits);(try simp (disch:=omega) only [if_pos]);(try simp (disch:=omega) only [if_neg]);(try simp (disch:=omega) only [dif_pos]);(try simp (disch:=omega) only [dif_neg]);(try go_simp);(refine hK _ ?_;clear hK K))
     refine mixT_2 (mixT_one rfl rfl (fun K9 hK9=>?_)) (mixT_one rfl rfl (fun K9 hK9=>?_))
     ·have hlk:=look_g (K:=keyStr) (T:=106) (E:=105) (T.ok (.mapG keyStr M (q0.map TS.kv)) (by simp):MapG keyStr wd M (q0.map TS.kv)) (by kernel_rfl) (zeroSlP wd) f.name false;rw [if_neg (by decide),e4.out] at hlk;replace hlk:(Instr.lookup 106 (.map (some M)) (.string f.name) false).run Tryz.prog wd=.ok (.slice q.A q.ls.length q.c) wd:=hlk
      go_wp2_with fail
      refine ⟨⟨T.b,(by first | exact T.lv 0 rfl | exact ⟨T.lv 0 rfl,T.lv (0 + 1) rfl⟩)⟩,?_⟩;clear hlk;refine mixT_l rfl rfl (fun K9 hK9=>?_)
      go_wp2_with fail
      obtain ⟨U,hU⟩:∃ U,U=(wd).heap.size:=⟨_,rfl⟩;replace T:Mem w ((wd).alloc (.cells #[.int .i64 t.no,.int .i64 t.at',.string t.src,.slice Ai t.ids.length ci,.slice (some ⟨b7,o7,none⟩) t.flds.length cf,.int .i64 f.kind,.string f.text,.int .i64 f.num] 110)) (.loc U #[.int .i64 t.no,.int .i64 t.at',.string t.src,.slice Ai t.ids.length ci,.slice (some ⟨b7,o7,none⟩) t.flds.length cf,.int .i64 f.kind,.string f.text,.int .i64 f.num] 110::.loc V (fdCs f) 59::(.loc Y #[.int .i64 a9,.string b9,.slice A1 n1 c1,.slice A2 n2 c2,.slice (some ⟨b5,o5,none⟩) at'.length c3] 101)::.mapG keyStr M (q0.map TS.kv)::qs1.map (tsq Y 110)):=(T.newAt _ 110 U hU).front;rw [← hU];clear hU;generalize (wd).alloc (.cells #[.int .i64 t.no,.int .i64 t.at',.string t.src,.slice Ai t.ids.length ci,.slice (some ⟨b7,o7,none⟩) t.flds.length cf,.int .i64 f.kind,.string f.text,.int .i64 f.num] 110)=we at *;refine ⟨⟨T.b,(by first | exact T.lv 1 rfl | exact ⟨T.lv 1 rfl,T.lv 2 rfl⟩)⟩,?_⟩;have hcs:∀ (j:Nat) (u:Value),([(⟨⟨t.no,t.at',t.src,⟨f.kind,f.text,f.num⟩⟩,Ai,t.ids.length,ci,some ⟨b7,o7,none⟩,t.flds.length,cf⟩:Tld)].map Tld.cells).flatten[j]? =some u→(we).cell? ((⟨U,0,none⟩:Addr).add j)=some u:=fun j u hu=>by
       have h0:=(T.lv 0 rfl).cell j u (by simpa [Tld.cells] using hu);rw [add_at,Nat.zero_add];exact h0
      have hsB:Y≤(we).heap.size:=by rw [Hb.out];exact T.b.size
      refine mixT_l rfl rfl (fun K9 hK9=>?_);refine T.appN flatTld (j + 4) (by show (qs1.map (tsq Y 110))[j]? =_;rw [List.getElem?_map,e1.out];rfl) tyTld rfl _ _ rfl [(⟨⟨t.no,t.at',t.src,⟨f.kind,f.text,f.num⟩⟩,Ai,t.ids.length,ci,some ⟨b7,o7,none⟩,t.flds.length,cf⟩:Tld)] 1 1 rfl rfl ⟨U,0,none⟩ rfl hcs (fun y _=>oneTld y) (fun _=>rfl) hsB (by simp only [List.length_singleton];have:=Hql.out;omega) (by decide) ?_;intro v9 w9 S9;have hi9:((qs1.map (tsq Y 110)).set j (.own rTld Y 110 v9 (q.ls++[(⟨⟨t.no,t.at',t.src,⟨f.kind,f.text,f.num⟩⟩,Ai,t.ids.length,ci,some ⟨b7,o7,none⟩,t.flds.length,cf⟩:Tld)])))[j]? =some (.own rTld Y 110 v9 (q.ls++[(⟨⟨t.no,t.at',t.src,⟨f.kind,f.text,f.num⟩⟩,Ai,t.ids.length,ci,some ⟨b7,o7,none⟩,t.flds.length,cf⟩:Tld)])):=List.getElem?_set_self (by rw [List.length_map];exact lt_of_get e1.out);replace S9:Mem w w9 (.loc U #[.int .i64 t.no,.int .i64 t.at',.string t.src,.slice Ai t.ids.length ci,.slice (some ⟨b7,o7,none⟩) t.flds.length cf,.int .i64 f.kind,.string f.text,.int .i64 f.num] 110::.loc V (fdCs f) 59::(.loc Y #[.int .i64 a9,.string b9,.slice A1 n1 c1,.slice A2 n2 c2,.slice (some ⟨b5,o5,none⟩) at'.length c3] 101)::.mapG keyStr M (q0.map TS.kv)::(qs1.map (tsq Y 110)).set j (.own rTld Y 110 v9 (q.ls++[(⟨⟨t.no,t.at',t.src,⟨f.kind,f.text,f.num⟩⟩,Ai,t.ids.length,ci,some ⟨b7,o7,none⟩,t.flds.length,cf⟩:Tld)]))):=S9;obtain ⟨A9,c9,e9⟩:=(S9.ow (j + 4) hi9).len;subst e9;replace S9:Mem w w9 (.loc U #[.int .i64 t.no,.int .i64 t.at',.string t.src,.slice Ai t.ids.length ci,.slice (some ⟨b7,o7,none⟩) t.flds.length cf,.int .i64 f.kind,.string f.text,.int .i64 f.num] 110::.loc V (fdCs f) 59::(.loc Y #[.int .i64 a9,.string b9,.slice A1 n1 c1,.slice A2 n2 c2,.slice (some ⟨b5,o5,none⟩) at'.length c3] 101)::.mapG keyStr M (q0.map TS.kv)::(qs1.set j ⟨f.name,A9,c9,q.ls++[(⟨⟨t.no,t.at',t.src,⟨f.kind,f.text,f.num⟩⟩,Ai,t.ids.length,ci,some ⟨b7,o7,none⟩,t.flds.length,cf⟩:Tld)]⟩).map (tsq Y 110)):=by rw [List.map_set];exact S9
      clear hcs hi9 T
      go_wp2_with fail
      refine ⟨⟨S9.b,(by first | exact S9.lv 1 rfl | exact ⟨S9.lv 1 rfl,S9.lv 2 rfl⟩)⟩,?_⟩;refine mixT_l rfl rfl (fun K9 hK9=>?_);refine S9.putG 3 rfl (T:=106) (E:=105) (by kernel_rfl) rfl _ _ _ rfl rfl f.name rfl (.slice A9 (q.ls++[(⟨⟨t.no,t.at',t.src,⟨f.kind,f.text,f.num⟩⟩,Ai,t.ids.length,ci,some ⟨b7,o7,none⟩,t.flds.length,cf⟩:Tld)]).length c9) rfl ?_;intro w10 S10;obtain ⟨u1,u2⟩:=e6.out ⟨f.name,A9,c9,q.ls++[(⟨⟨t.no,t.at',t.src,⟨f.kind,f.text,f.num⟩⟩,Ai,t.ids.length,ci,some ⟨b7,o7,none⟩,t.flds.length,cf⟩:Tld)]⟩ rfl;replace S10:Mem w w10 (.loc U #[.int .i64 t.no,.int .i64 t.at',.string t.src,.slice Ai t.ids.length ci,.slice (some ⟨b7,o7,none⟩) t.flds.length cf,.int .i64 f.kind,.string f.text,.int .i64 f.num] 110::.loc V (fdCs f) 59::(.loc Y #[.int .i64 a9,.string b9,.slice A1 n1 c1,.slice A2 n2 c2,.slice (some ⟨b5,o5,none⟩) at'.length c3] 101)::.mapG keyStr M ((qs1.set j ⟨f.name,A9,c9,q.ls++[(⟨⟨t.no,t.at',t.src,⟨f.kind,f.text,f.num⟩⟩,Ai,t.ids.length,ci,some ⟨b7,o7,none⟩,t.flds.length,cf⟩:Tld)]⟩).map TS.kv)::(qs1.set j ⟨f.name,A9,c9,q.ls++[(⟨⟨t.no,t.at',t.src,⟨f.kind,f.text,f.num⟩⟩,Ai,t.ids.length,ci,some ⟨b7,o7,none⟩,t.flds.length,cf⟩:Tld)]⟩).map (tsq Y 110)):=by rw [← u1];exact S10
      have HO3:Hid (TelOk (L++[(f.name,(⟨⟨t.no,t.at',t.src,⟨f.kind,f.text,f.num⟩⟩,Ai,t.ids.length,ci,some ⟨b7,o7,none⟩,t.flds.length,cf⟩:Tld))]) (qs1.set j ⟨f.name,A9,c9,q.ls++[(⟨⟨t.no,t.at',t.src,⟨f.kind,f.text,f.num⟩⟩,Ai,t.ids.length,ci,some ⟨b7,o7,none⟩,t.flds.length,cf⟩:Tld)]⟩)):=HO.out.put rfl (by show q.ls++[(⟨⟨t.no,t.at',t.src,⟨f.kind,f.text,f.num⟩⟩,Ai,t.ids.length,ci,some ⟨b7,o7,none⟩,t.flds.length,cf⟩:Tld)]=_;rw [← e5.out,HO.out.getD]) u2 e3.out ⟨q,e1.out,e2.out⟩;clear S9 u1 u2
      go_wp2_with fail
      refine ⟨⟨S10.b,(by first | exact S10.lv 1 rfl | exact ⟨S10.lv 1 rfl,S10.lv 2 rfl⟩)⟩,?_⟩;refine mixT_nil ?_;simp only [Exit.then]
      refine hKK _ _ ?_;clear hKK KK
      go_wp2_with fail
      go_roundw
      case rel=>exact ⟨n + 1,qs1.set j ⟨f.name,A9,c9,q.ls++[(⟨⟨t.no,t.at',t.src,⟨f.kind,f.text,f.num⟩⟩,Ai,t.ids.length,ci,some ⟨b7,o7,none⟩,t.flds.length,cf⟩:Tld)]⟩,L++[(f.name,(⟨⟨t.no,t.at',t.src,⟨f.kind,f.text,f.num⟩⟩,Ai,t.ids.length,ci,some ⟨b7,o7,none⟩,t.flds.length,cf⟩:Tld))],by omega,by go_num,HO3,HL2,S10.drop2⟩
      case measure=>simp [intOf];omega
     ·go_wp2_with fail
      obtain ⟨U,hU⟩:∃ U,U=(wd).heap.size:=⟨_,rfl⟩;replace T:Mem w ((wd).alloc (.cells #[.int .i64 t.no,.int .i64 t.at',.string t.src,.slice Ai t.ids.length ci,.slice (some ⟨b7,o7,none⟩) t.flds.length cf,.int .i64 f.kind,.string f.text,.int .i64 f.num] 110)) (.loc U #[.int .i64 t.no,.int .i64 t.at',.string t.src,.slice Ai t.ids.length ci,.slice (some ⟨b7,o7,none⟩) t.flds.length cf,.int .i64 f.kind,.string f.text,.int .i64 f.num] 110::.loc V (fdCs f) 59::(.loc Y #[.int .i64 a9,.string b9,.slice A1 n1 c1,.slice A2 n2 c2,.slice (some ⟨b5,o5,none⟩) at'.length c3] 101)::.mapG keyStr M (q0.map TS.kv)::qs1.map (tsq Y 110)):=(T.newAt _ 110 U hU).front;rw [← hU];clear hU;generalize (wd).alloc (.cells #[.int .i64 t.no,.int .i64 t.at',.string t.src,.slice Ai t.ids.length ci,.slice (some ⟨b7,o7,none⟩) t.flds.length cf,.int .i64 f.kind,.string f.text,.int .i64 f.num] 110)=we at *;refine ⟨⟨T.b,(by first | exact T.lv 1 rfl | exact ⟨T.lv 1 rfl,T.lv 2 rfl⟩)⟩,?_⟩;refine mixT_l rfl rfl (fun K9 hK9=>?_);have hlk:=look_g (K:=keyStr) (T:=106) (E:=105) (T.ok (.mapG keyStr M (q0.map TS.kv)) (by simp):MapG keyStr we M (q0.map TS.kv)) (by kernel_rfl) (zeroSlP we) f.name false;rw [if_neg (by decide),e4.out] at hlk;replace hlk:(Instr.lookup 106 (.map (some M)) (.string f.name) false).run Tryz.prog we=.ok (.slice q.A q.ls.length q.c) we:=hlk
      go_wp2_with fail
      refine ⟨⟨T.b,(by first | exact T.lv 1 rfl | exact ⟨T.lv 1 rfl,T.lv (1 + 1) rfl⟩)⟩,?_⟩;clear hlk;have hcs:∀ (j:Nat) (u:Value),([(⟨⟨t.no,t.at',t.src,⟨f.kind,f.text,f.num⟩⟩,Ai,t.ids.length,ci,some ⟨b7,o7,none⟩,t.flds.length,cf⟩:Tld)].map Tld.cells).flatten[j]? =some u→(we).cell? ((⟨U,0,none⟩:Addr).add j)=some u:=fun j u hu=>by
       have h0:=(T.lv 0 rfl).cell j u (by simpa [Tld.cells] using hu);rw [add_at,Nat.zero_add];exact h0
      have hsB:Y≤(we).heap.size:=by rw [Hb.out];exact T.b.size
      refine mixT_l rfl rfl (fun K9 hK9=>?_);refine T.appN flatTld (j + 4) (by show (qs1.map (tsq Y 110))[j]? =_;rw [List.getElem?_map,e1.out];rfl) tyTld rfl _ _ rfl [(⟨⟨t.no,t.at',t.src,⟨f.kind,f.text,f.num⟩⟩,Ai,t.ids.length,ci,some ⟨b7,o7,none⟩,t.flds.length,cf⟩:Tld)] 1 1 rfl rfl ⟨U,0,none⟩ rfl hcs (fun y _=>oneTld y) (fun _=>rfl) hsB (by simp only [List.length_singleton];have:=Hql.out;omega) (by decide) ?_;intro v9 w9 S9;have hi9:((qs1.map (tsq Y 110)).set j (.own rTld Y 110 v9 (q.ls++[(⟨⟨t.no,t.at',t.src,⟨f.kind,f.text,f.num⟩⟩,Ai,t.ids.length,ci,some ⟨b7,o7,none⟩,t.flds.length,cf⟩:Tld)])))[j]? =some (.own rTld Y 110 v9 (q.ls++[(⟨⟨t.no,t.at',t.src,⟨f.kind,f.text,f.num⟩⟩,Ai,t.ids.length,ci,some ⟨b7,o7,none⟩,t.flds.length,cf⟩:Tld)])):=List.getElem?_set_self (by rw [List.length_map];exact lt_of_get e1.out);replace S9:Mem w w9 (.loc U #[.int .i64 t.no,.int .i64 t.at',.string t.src,.slice Ai t.ids.length ci,.slice (some ⟨b7,o7,none⟩) t.flds.length cf,.int .i64 f.kind,.string f.text,.int .i64 f.num] 110::.loc V (fdCs f) 59::(.loc Y #[.int .i64 a9,.string b9,.slice A1 n1 c1,.slice A2 n2 c2,.slice (some ⟨b5,o5,none⟩) at'.length c3] 101)::.mapG keyStr M (q0.map TS.kv)::(qs1.map (tsq Y 110)).set j (.own rTld Y 110 v9 (q.ls++[(⟨⟨t.no,t.at',t.src,⟨f.kind,f.text,f.num⟩⟩,Ai,t.ids.length,ci,some ⟨b7,o7,none⟩,t.flds.length,cf⟩:Tld)]))):=S9;obtain ⟨A9,c9,e9⟩:=(S9.ow (j + 4) hi9).len;subst e9;replace S9:Mem w w9 (.loc U #[.int .i64 t.no,.int .i64 t.at',.string t.src,.slice Ai t.ids.length ci,.slice (some ⟨b7,o7,none⟩) t.flds.length cf,.int .i64 f.kind,.string f.text,.int .i64 f.num] 110::.loc V (fdCs f) 59::(.loc Y #[.int .i64 a9,.string b9,.slice A1 n1 c1,.slice A2 n2 c2,.slice (some ⟨b5,o5,none⟩) at'.length c3] 101)::.mapG keyStr M (q0.map TS.kv)::(qs1.set j ⟨f.name,A9,c9,q.ls++[(⟨⟨t.no,t.at',t.src,⟨f.kind,f.text,f.num⟩⟩,Ai,t.ids.length,ci,some ⟨b7,o7,none⟩,t.flds.length,cf⟩:Tld)]⟩).map (tsq Y 110)):=by rw [List.map_set];exact S9
      clear hcs hi9 T
      go_wp2_with fail
      refine ⟨⟨S9.b,(by first | exact S9.lv 1 rfl | exact ⟨S9.lv 1 rfl,S9.lv 2 rfl⟩)⟩,?_⟩;refine mixT_l rfl rfl (fun K9 hK9=>?_);refine S9.putG 3 rfl (T:=106) (E:=105) (by kernel_rfl) rfl _ _ _ rfl rfl f.name rfl (.slice A9 (q.ls++[(⟨⟨t.no,t.at',t.src,⟨f.kind,f.text,f.num⟩⟩,Ai,t.ids.length,ci,some ⟨b7,o7,none⟩,t.flds.length,cf⟩:Tld)]).length c9) rfl ?_;intro w10 S10;obtain ⟨u1,u2⟩:=e6.out ⟨f.name,A9,c9,q.ls++[(⟨⟨t.no,t.at',t.src,⟨f.kind,f.text,f.num⟩⟩,Ai,t.ids.length,ci,some ⟨b7,o7,none⟩,t.flds.length,cf⟩:Tld)]⟩ rfl;replace S10:Mem w w10 (.loc U #[.int .i64 t.no,.int .i64 t.at',.string t.src,.slice Ai t.ids.length ci,.slice (some ⟨b7,o7,none⟩) t.flds.length cf,.int .i64 f.kind,.string f.text,.int .i64 f.num] 110::.loc V (fdCs f) 59::(.loc Y #[.int .i64 a9,.string b9,.slice A1 n1 c1,.slice A2 n2 c2,.slice (some ⟨b5,o5,none⟩) at'.length c3] 101)::.mapG keyStr M ((qs1.set j ⟨f.name,A9,c9,q.ls++[(⟨⟨t.no,t.at',t.src,⟨f.kind,f.text,f.num⟩⟩,Ai,t.ids.length,ci,some ⟨b7,o7,none⟩,t.flds.length,cf⟩:Tld)]⟩).map TS.kv)::(qs1.set j ⟨f.name,A9,c9,q.ls++[(⟨⟨t.no,t.at',t.src,⟨f.kind,f.text,f.num⟩⟩,Ai,t.ids.length,ci,some ⟨b7,o7,none⟩,t.flds.length,cf⟩:Tld)]⟩).map (tsq Y 110)):=by rw [← u1];exact S10
      have HO3:Hid (TelOk (L++[(f.name,(⟨⟨t.no,t.at',t.src,⟨f.kind,f.text,f.num⟩⟩,Ai,t.ids.length,ci,some ⟨b7,o7,none⟩,t.flds.length,cf⟩:Tld))]) (qs1.set j ⟨f.name,A9,c9,q.ls++[(⟨⟨t.no,t.at',t.src,⟨f.kind,f.text,f.num⟩⟩,Ai,t.ids.length,ci,some ⟨b7,o7,none⟩,t.flds.length,cf⟩:Tld)]⟩)):=HO.out.put rfl (by show q.ls++[(⟨⟨t.no,t.at',t.src,⟨f.kind,f.text,f.num⟩⟩,Ai,t.ids.length,ci,some ⟨b7,o7,none⟩,t.flds.length,cf⟩:Tld)]=_;rw [← e5.out,HO.out.getD]) u2 e3.out ⟨q,e1.out,e2.out⟩;clear S9 u1 u2
      go_wp2_with fail
      refine ⟨⟨S10.b,(by first | exact S10.lv 1 rfl | exact ⟨S10.lv 1 rfl,S10.lv 2 rfl⟩)⟩,?_⟩;refine mixT_nil ?_;simp only [Exit.then]
      refine hKK _ _ ?_;clear hKK KK
      go_wp2_with fail
      go_roundw
      case rel=>exact ⟨n + 1,qs1.set j ⟨f.name,A9,c9,q.ls++[(⟨⟨t.no,t.at',t.src,⟨f.kind,f.text,f.num⟩⟩,Ai,t.ids.length,ci,some ⟨b7,o7,none⟩,t.flds.length,cf⟩:Tld)]⟩,L++[(f.name,(⟨⟨t.no,t.at',t.src,⟨f.kind,f.text,f.num⟩⟩,Ai,t.ids.length,ci,some ⟨b7,o7,none⟩,t.flds.length,cf⟩:Tld))],by omega,by go_num,HO3,HL2,S10.drop2⟩
      case measure=>simp [intOf];omega
    ·obtain rfl:n=t.flds.length:=by omega
     have HL2:Hid (coreL L=tellC ts (at'.take (k + 1))):=by
      show _=_;rw [HL.out,Hsn.out,List.take_length];rfl
     clear HL
     go_wp2_with fail
     go_roundw
     case rel=>exact ⟨k + 1,q0,L,by omega,by go_num,HO,HL2,S1⟩
     case measure=>simp [intOf];omega
  ·obtain rfl:k=at'.length:=by omega
   have HL2:Hid (coreL L=tellC ts at'):=by
    show _=_;rw [HL.out,List.take_length]
   have HS:Hid (Mem w wr [.mapG keyStr M (qs.map TS.kv),.tslots qs]):=S1.frzTS.del 0;clear S1
   go_wp2_with fail
   go_ret
   exact ⟨M,qs,L,rfl,HO.out,HL2.out,HS.out⟩
end
section
open Go Go.RowKit Go.Sort Go.Shelf Go.MapKept
def cmpNm (a b:Fld):Int:=cmpS a.name b.name
theorem cmpNm_ok:CmpOk cmpNm:=cmpOkS.of (fun f:Fld=>f.name)
theorem rec1_any (a b:Fld)(w:World):Calls Tryz.prog 110 #[.agg (fdCs a),.agg (fdCs b)] w fun e w'=>e=.returned (.int .i64 (cmpNm a b))∧Grew w w':=by
 obtain ⟨X,hX⟩:∃ X,X=w.heap.size:=⟨_,rfl⟩;have S1:=(Mem.start w).newAt (fdCs a) 59 X hX;have S:Mem w _ [.loc X (fdCs a) 59,.loc (X + 1) (fdCs b) 59]:=S1.newAt (fdCs b) 59 (X + 1) (by rw [hX,World.size_alloc]);have Hg:Hid (Grew w ((w.alloc (.cells (fdCs a) 59)).alloc (.cells (fdCs b) 59))):=((Grew.refl _).alloc _).alloc _;clear S1
 go_enter Tryz.func110,Tryz.ntmps110
 go_upto_region 1 with fail
 rw [← hX];clear hX;generalize (w.alloc (.cells (fdCs a) 59)).alloc (.cells (fdCs b) 59)=w2 at *;have l0:=(S.lv 0 rfl).all;have l1:=(S.lv 1 rfl).all;have Hc:=Lib.hid (compareS_any a.name b.name w2)
 go_wp2_with fail
 ((with_reducible refine (Hc.out).mono ?_);rintro e _ ⟨rfl,rfl⟩)
 go_wp2_with fail
 go_ret
 exact ⟨rfl,Hg.out⟩
theorem sortFld_any {w0 w:World}{cs:List Chunk}(S:Mem w0 w cs)(i:Nat){B:Nat}{v:Value}{xs:List Fld}(hi:cs[i]? =some (.own rFld B 59 v xs))(hl:xs.length≤1000000) :
  Calls Tryz.prog 109 #[v,.func (.func 110) #[] #[]] w (GivesSorted rFld cmpNm w0 cs i B 59 v xs) :=
 haveI:Inhabited Fld:=⟨⟨⟨#[]⟩,0,⟨#[]⟩,0⟩⟩
 sortFn_own flatFld (by decide) (fun _=>rfl) oneFld Tryz.laysSf109 Tryz.isAgg59 Tryz.sizeOf59 (fun _=>True) cmpNm cmpNm cmpNm_ok (fun _ _=>Iff.rfl) 110 (enters_of Tryz.func110 (by kernel_rfl) rfl) (fun a b _ _ w=>rec1_any a b w) S i hi (fun _ _=>trivial) hl
def recF (sv:ByteArray→Tc→List Tc→Vt)(C:List (ByteArray×Tc))(nm:ByteArray):Fld:=match selC nm C with
 | []=>⟨nm,0,⟨#[]⟩,0⟩
 | x0::r0=>⟨nm,(sv nm x0 r0).k,(sv nm x0 r0).t,(sv nm x0 r0).n⟩
def IsRec (sv:ByteArray→Tc→List Tc→Vt)(C:List (ByteArray×Tc))(l:List Fld):Prop:=l.Pairwise (fun a b=>ltS a.name b.name=true)∧∀ f,f∈l ↔ selC f.name C≠[]∧recF sv C f.name=f
theorem recF_name (sv:ByteArray→Tc→List Tc→Vt)(C:List (ByteArray×Tc))(nm:ByteArray):(recF sv C nm).name=nm:=by unfold recF;split <;> rfl
theorem IsRec.uniq {sv sv2:ByteArray→Tc→List Tc→Vt}{C C2:List (ByteArray×Tc)}{l m:List Fld}(h:IsRec sv C l)(g:IsRec sv2 C2 m)(hC:C=C2)(hs:∀ nm x0 r0,selC nm C=x0::r0→sv nm x0 r0=sv2 nm x0 r0):l=m:=by
 subst hC;refine strict_eq (fun a b:Fld=>ltS a.name b.name=true) (fun x hx=>by rw [ltS_irr] at hx;cases hx) (fun _ _ _ h1 h2=>ltS_trans h1 h2) _ _ h.1 g.1 (fun f=>?_);rw [h.2,g.2];refine and_congr_right fun hne=>?_;have e:recF sv C f.name=recF sv2 C f.name:=by
  unfold recF;cases hq:selC f.name C with
  | nil=>rfl
  | cons x0 r0=>simp only [hs _ _ _ hq]
 rw [e]
theorem rec_is {sv:ByteArray→Tc→List Tc→Vt}{L:List (ByteArray×Tld)}{C:List (ByteArray×Tc)}{qs:List TS}{ys:List Fld}{dq:List (ByteArray×Value)}(hT:TelOk L qs)(hC:coreL L=C)(hp:dq.Perm (qs.map TS.kv))(hy:ys.Perm (dq.map (fun p=>recF sv C p.1)))(ho:ys.Pairwise (fun a b=>cmpNm a b≤0)):IsRec sv C ys:=by
 have hsel:∀ nm,(sel nm L).map Tld.q=selC nm C:=fun nm=>by rw [sel_core,← hC];rfl
 have hkey:∀ nm,nm∈qs.map TS.x ↔ selC nm C≠[]:=fun nm=>by
  rw [← hsel];have h1:=hT.is nm;constructor
  ·intro hm e;have e2:sel nm L=[]:=List.map_eq_nil_iff.1 e;rw [if_pos e2] at h1;exact getG_none.1 h1 (by rw [tkl_keys];exact hm)
  ·intro hne;have e2:sel nm L≠[]:=fun e=>hne (by rw [e];rfl);rw [if_neg e2] at h1;by_cases hm:nm∈qs.map TS.x
   ·exact hm
   ·rw [getG_none.2 (by rw [tkl_keys];exact hm)] at h1;cases h1
 have hnm:(ys.map Fld.name).Perm (qs.map TS.x):=by
  have h1:=hy.map Fld.name;rw [List.map_map] at h1;have e:(Fld.name ∘ fun p:ByteArray×Value=>recF sv C p.1)=Prod.fst:=by
   funext p
   exact recF_name sv C p.1
  rw [e] at h1;have h2:=hp.map Prod.fst;rw [tkv_keys] at h2;exact h1.trans h2
 refine ⟨?_,fun f=>?_⟩
 ·have hnd:(ys.map Fld.name).Nodup:=hnm.nodup_iff.2 hT.nd;rw [List.Nodup,List.pairwise_map] at hnd;refine (List.pairwise_and_iff.2 ⟨ho,hnd⟩).imp (fun {a b} h=>?_);obtain ⟨h1,h2⟩:=h;unfold cmpNm at h1;have h3:cmpS a.name b.name≠0:=fun e=>h2 ((cmpS_zero _ _).1 e);exact (cmpS_neg _ _).1 (by omega)
 ·constructor
  ·intro hf;have h1:f.name∈qs.map TS.x:=hnm.mem_iff.1 (List.mem_map_of_mem hf);refine ⟨(hkey _).1 h1,?_⟩;obtain ⟨p,_,rfl⟩:=List.mem_map.1 (hy.mem_iff.1 hf);rw [recF_name]
  ·rintro ⟨hne,hr⟩;have h1:f.name∈ys.map Fld.name:=hnm.mem_iff.2 ((hkey _).2 hne);obtain ⟨g,hg,e⟩:=List.mem_map.1 h1;obtain ⟨p,_,rfl⟩:=List.mem_map.1 (hy.mem_iff.1 hg);rw [recF_name] at e;rw [← hr,← e];exact hg
theorem sel_mem {x:ByteArray}{L:List (ByteArray×Tld)}{t:Tld}(h:t∈sel x L):(x,t.q)∈coreL L:=by
 unfold sel at h;obtain ⟨p,hp,rfl⟩:=List.mem_map.1 h;obtain ⟨hp1,hp2⟩:=List.mem_filter.1 hp;have e:=of_decide_eq_true hp2;unfold coreL;exact List.mem_map.2 ⟨p,hp1,by rw [e]⟩
def SmC (C:List (ByteArray×Tc)):Prop:=∀ p∈C,p.2.v.t.size≤1000000∧-4611686018427387904≤p.2.v.n∧p.2.v.n≤4611686018427387904
end
section
open Go Go.RowKit Go.Sort Go.Shelf Go.MapKept
def svP (r:Rul)(nm:ByteArray)(x0:Tc)(r0:List Tc):Vt:=(survP (surHow r nm) (surSrc r nm) x0 r0).v
def GivesRec (sv:ByteArray→Tc→List Tc→Vt)(C:List (ByteArray×Tc))(w:World)(e:Ending)(w':World):Prop :=
 ∃ (A:Option Addr) (c:Nat) (l:List Fld),e=.returned (.slice A l.length c)∧IsRec sv C l∧l.length≤C.length∧Mem w w' [.sl rFld A l]
theorem tel_len {L:List (ByteArray×Tld)}{qs:List TS}(h:TelOk L qs):qs.length≤L.length:=by
 have h1:(qs.map TS.x).length≤(L.map Prod.fst).length:=sub_len h.nd (fun x hx=>by
  by_cases hm:x∈L.map Prod.fst
  ·exact hm
  ·have e:sel x L=[]:=by
    unfold sel;rw [List.map_eq_nil_iff,List.filter_eq_nil_iff];intro p hp hh;exact hm (List.mem_map.2 ⟨p,hp,of_decide_eq_true hh⟩)
   have h2:=h.is x;rw [if_pos e] at h2;exact absurd (by rw [tkl_keys];exact hx) (getG_none.1 h2))
 rw [List.length_map,List.length_map] at h1;exact h1
set_option maxHeartbeats 8000000 in
set_option maxRecDepth 100000 in
theorem record_any (G X:Nat)(r:Rul)(K W S A:Option Addr)(ck cw cs c:Nat)(ts:List Tch)(hqs:List HQ)(a9:Int)(b9:ByteArray)(A1 A2 A3:Option Addr)(n1 c1 n2 c2 c3:Nat)(at':List Nat)(w:World)(hG:Grp (fun _=>False) w G X r K W S A ck cw cs c ts hqs)(hat:∀ i∈at',i < ts.length)(hal:at'.length≤2000)(htl:ts.length≤2000)(hfl:∀ t∈ts,t.flds.length≤1000)(hC:Sl rInt (fun _=>False) w A3 (iL at'))
  (hsv:RiseV r.surv) (hsl:r.surv.length≤30) (hss:∀ s∈r.surv,s.srcs.length≤1000000) (hsm:SmC (tellC ts at')) (hcl:(tellC ts at').length≤900000) :
  Calls Tryz.prog 52 #[.pointer (some ⟨G,0,none⟩),.agg #[.int .i64 a9,.string b9,.slice A1 n1 c1,.slice A2 n2 c2,.slice A3 at'.length c3]] w (GivesRec (svP r) (tellC ts at') w):=by
 have Htl:=Lib.hid (fun w' (h:Below w.heap.size w w')=>tellings_any G X r K W S A ck cw cs c ts hqs a9 b9 A1 A2 A3 n1 c1 n2 c2 c3 at' w' (hG.keepB h) hat hal htl hfl (hC.keepB h));have Hsv:=Lib.hid (fun (M:Nat→Prop) nm A5 x0 r0 n c5 w' (h:Below w.heap.size w w')=>survives_any G X r K W S A ck cw cs c ts hqs nm M A5 x0 r0 n c5 w' (hG.keepB h) hsv hsl hss);have Hsm:=Lib.hid hsm;obtain ⟨C,hCe⟩:∃ C,tellC ts at'=C:=⟨_,rfl⟩;rw [hCe] at Htl Hsm hcl ⊢;obtain ⟨sv,hsve⟩:∃ sv,svP r=sv:=⟨_,rfl⟩;rw [hsve];have Hsve:=Lib.hid hsve;obtain ⟨Y,hY⟩:∃ Y,Y=w.heap.size:=⟨_,rfl⟩;have T:Mem w (w.alloc (.cells #[.int .i64 a9,.string b9,.slice A1 n1 c1,.slice A2 n2 c2,.slice A3 at'.length c3] 101)) [.loc Y #[.int .i64 a9,.string b9,.slice A1 n1 c1,.slice A2 n2 c2,.slice A3 at'.length c3] 101]:=(Mem.start w).newAt _ 101 Y hY;have Hb:=Lib.hid hY;clear hG hC hat hfl hsv hss hsm hCe hsve
 go_enter Tryz.func52,Tryz.ntmps52
 go_upto_region 1 with fail
 rw [← hY];clear hY;generalize w.alloc (.cells #[.int .i64 a9,.string b9,.slice A1 n1 c1,.slice A2 n2 c2,.slice A3 at'.length c3] 101)=w1 at *;have y0:=(T.lv 0 rfl).all
 go_wp2_with fail
 ((with_reducible refine (Htl.out w1 T.b).mono ?_);rintro e w2 ⟨M,qs,L,rfl,hTL,hLC,M2⟩)
 have S2:=T.join M2;have hTl2:=tel_len hTL;have hql:qs.length≤900000:=by
  have h1:=congrArg List.length hLC;unfold coreL at h1;rw [List.length_map] at h1;omega
 have HTL:=Lib.hid hTL;have HLC:=Lib.hid hLC;obtain ⟨es,clock,hE,S3⟩:=S2.openG 1 rfl;have HE:=Lib.hid hE;obtain ⟨hrg,S4⟩:=S3.rangeO (S3.atF 1 rfl) (T:=106) (k:=9) (e:=105) (by kernel_rfl);obtain ⟨Zr,hZr⟩:∃ Zr,Zr=w2.heap.size:=⟨_,rfl⟩;rw [← hZr] at hrg S4;have S5:Mem w (w2.alloc (.mapIter (some M) clock #[] clock)) [.own rFld Y 59 (.slice none 0 0) [],.loc Y #[.int .i64 a9,.string b9,.slice A1 n1 c1,.slice A2 n2 c2,.slice A3 at'.length c3] 101,.mapF M es clock,.tslots qs,.iter Zr M clock #[] clock]:=(S4.nil rFld Y 59).front;clear T M2 S2 S3 S4 hZr hE hTL hLC hTl2 Htl y0
 go_wp2_with fail
 clear hrg;generalize w2.alloc (.mapIter (some M) clock #[] clock)=w4 at *;have HR0:Hid (RngOk keyStr es clock #[] (qs.map TS.kv) [] (qs.map TS.kv)):=RngOk.start HE.out
 go_loopw [5] (fun v wr=>∃ (seen:Array Nat) (dq left:List (ByteArray×Value)) (xs:List Fld) (A8:Option Addr) (c8:Nat),v=.slice A8 xs.length c8∧Hid (RngOk keyStr es clock seen (qs.map TS.kv) dq left)∧Hid (xs=dq.map (fun p=>recF sv C p.1))∧Mem w wr [.own rFld Y 59 (.slice A8 xs.length c8) xs,.loc Y #[.int .i64 a9,.string b9,.slice A1 n1 c1,.slice A2 n2 c2,.slice A3 at'.length c3] 101,.mapF M es clock,.tslots qs,.iter Zr M clock seen clock]) (fun _ wr=>iterLeft es Zr wr)
 case atStart=>exact ⟨#[],[],qs.map TS.kv,[],none,0,rfl,HR0,rfl,S5⟩
 case round =>
  clear S5 HR0;obtain ⟨seen,dq,left,xs,A8,c8,rfl,HRg,Hxs,S3⟩:=hrel;have hsz3:Hid (iterLeft es Zr wr=left.length):=S3.iterSize 4 rfl HRg.out;have hxl:xs.length≤900000:=by
   have h1:=HRg.out.perm.length_eq;have h2:=congrArg List.length Hxs.out;rw [List.length_map] at h2;rw [List.length_append,List.length_map] at h1;omega
  rcases S3.nextO 4 (S3.atF 2 rfl) rfl (Nat.le_refl _) HRg.out with ⟨hl0,hp0,hnx⟩ | ⟨pq,left',seen',w5,hpm,hll,hrg,hnx,hen,S5⟩
  ·have S6:Mem w wr [.own rFld Y 59 (.slice A8 xs.length c8) xs]:=(((S3.del 4).del 3).del 2).del 1;have Hp0:=Lib.hid hp0;have Hs9:=Lib.hid (sortFld_any S6 0 rfl (by omega));clear hp0 hl0 S3 S6 hsz3
   go_wp2_with fail
   ((with_reducible refine (Hs9.out).mono ?_);rintro e w6 ⟨rfl,ys,hperm,hord,S7⟩)
   have HI:Hid (IsRec sv C ys):=rec_is HTL.out HLC.out Hp0.out (by rw [← Hxs.out];exact hperm) hord;have Hyl:Hid (ys.length≤C.length):=by
    have h1:=hperm.length_eq;have h2:=congrArg List.length Hxs.out;have h3:=Hp0.out.length_eq;have h4:=tel_len HTL.out;have h5:=congrArg List.length HLC.out;unfold coreL at h5;rw [List.length_map] at h2 h3 h5;show _≤_;omega
   have hyl:=hperm.length_eq;obtain ⟨A9,c9,e9,S8⟩:=S7.frz 0 rfl;have HS8:=Lib.hid S8;have He9:=Lib.hid e9;clear Hs9 hperm hord S7 S8 e9
   go_wp2_with fail
   go_ret
   exact ⟨A9,c9,ys,congrArg Ending.returned He9.out,HI.out,Hyl.out,HS8.out⟩
  ·obtain ⟨q,hqm,hqe⟩:=List.mem_map.1 (HRg.out.perm.mem_iff.1 (List.mem_append_right _ hpm));obtain ⟨nm,val⟩:=pq;unfold TS.kv at hqe;simp only [Prod.mk.injEq] at hqe
   obtain ⟨hqn,rfl⟩:=hqe;have hgl:getG nm (qs.map TS.kl)=some q.ls:=by
    obtain ⟨j,hj⟩:=List.mem_iff_getElem?.1 hqm;exact (getG_at (L:=qs.map TS.kl) (j:=j) (k:=nm) (v:=q.ls) (by rw [tkl_keys];exact HTL.out.nd) (by rw [List.getElem?_map,hj,← hqn];rfl)).1
   have hselE:q.ls=sel nm L∧sel nm L≠[]:=by
    have h1:=HTL.out.is nm;rw [hgl] at h1;split at h1
    ·cases h1
    ·rename_i h2
     exact ⟨Option.some.inj h1,h2⟩
   obtain ⟨x0,r0,hx0⟩:∃ x0 r0,q.ls=x0::r0:=by
    cases h:q.ls with
    | nil=>exact absurd (hselE.1.symm.trans h) hselE.2
    | cons a b=>exact ⟨a,b,rfl⟩
   have hcore:selC nm C=x0.q::r0.map Tld.q:=by
    have h1:(sel nm L).map Tld.q=selC nm C:=by rw [sel_core,← HLC.out];rfl
    rw [← h1,← hselE.1,hx0];rfl
   have Hok:Hid (∀ a∈x0::r0,a.q.v.t.size≤1000000∧-4611686018427387904≤a.q.v.n∧a.q.v.n≤4611686018427387904):=fun a ha=>by
    have h1:a∈sel nm L:=by rw [← hselE.1,hx0];exact ha
    have h2:=sel_mem h1;rw [HLC.out] at h2;exact Hsm.out _ h2
   have hll0:(x0::r0).length≤1000000:=by
    rw [← hx0,hselE.1];have h1:=sel_le nm L;have h2:=congrArg List.length HLC.out;unfold coreL at h2;rw [List.length_map] at h2;omega
   have Hll0:=Lib.hid hll0;obtain ⟨n5,hn5⟩:∃ n5,q.ls.length=n5:=⟨_,rfl⟩;obtain ⟨A5,hA5⟩:∃ A5,q.A=A5:=⟨_,rfl⟩;obtain ⟨c5,hc5⟩:∃ c5,q.c=c5:=⟨_,rfl⟩;have Hn5:Hid (n5=(x0::r0).length):=by show _=_;rw [← hn5,hx0]
   have Hsl:Hid (Sl rTld (fun _=>False) w5 A5 (x0::r0)):=by
    have h1:TSlotsOk _ w5 qs:=S5.ok (.tslots qs) (.tail _ (.tail _ (.tail _ (.head _))));have h2:=(h1 q hqm).1;rw [hx0,hA5] at h2;exact h2.mono (fun _ _ h=>h.elim)
   have Hrec:Hid (recF sv C nm=⟨nm,(svP r nm x0.q (r0.map Tld.q)).k,(svP r nm x0.q (r0.map Tld.q)).t,(svP r nm x0.q (r0.map Tld.q)).n⟩):=by
    show _=_;unfold recF;rw [hcore,← Hsve.out]
   have Hrg:=Lib.hid hrg;have Hll:=Lib.hid hll;rw [hn5,hA5,hc5] at hnx hen Hrg;have hnx2:∀ ty,(Instr.next (.pointer (some ⟨Zr,0,none⟩)) false ty).run Tryz.prog wr=.ok (.tuple #[.bool true,.string nm,.slice A5 n5 c5]) w5:=hnx;have hen2:(Instr.entry (.pointer (some ⟨Zr,0,none⟩))).run Tryz.prog w5=.ok (.tuple #[.string nm,.slice A5 n5 c5]) w5:=hen;have Hcl:=Lib.hid (Hsv.out (fun _=>False) nm A5 x0 r0 n5 c5 w5 S5.b Hsl.out Hn5.out Hll0.out Hok.out);unfold svP at Hrec;obtain ⟨V,hV⟩:∃ V,(survP (surHow r nm) (surSrc r nm) x0.q (r0.map Tld.q)).v=V:=⟨_,rfl⟩;rw [hV] at Hrec Hcl;have Hsn:Hid (xs++[(⟨nm,V.k,V.t,V.n⟩:Fld)]=(dq++[(nm,Value.slice A5 n5 c5)]).map (fun p=>recF sv C p.1)):=by
    show _=_;rw [List.map_append,← Hxs.out,List.map_cons,List.map_nil,Hrec.out]
   clear hnx hen S3 hpm hll hrg hqm hqn hgl hselE hx0 hcore hll0 hn5 hA5 hc5 hV
   go_wp2_with fail
   clear hnx2 hen2;((with_reducible refine (Hcl.out).mono ?_);rintro e w6 ⟨rfl,hl6⟩)
   have S6:=S5.below hl6;have hsz:Y≤w6.heap.size:=by rw [Hb.out];exact S6.b.size
   clear S5 hl6 Hcl;have HS6:=Lib.hid S6;clear S6
   go_wp2_with (at_builtin;refine HS6.out.app 0 rfl tyFld rfl _ _ rfl ⟨nm,V.k,V.t,V.n⟩ 1 rfl rfl rfl (oneFld ⟨nm,V.k,V.t,V.n⟩) hsz (by omega) (by decide) ?_;intro v' w7 S7)
   obtain ⟨A7,c7,e7⟩:=(S7.ow 0 rfl).len;subst e7;replace S7:Mem w w7 [.own rFld Y 59 (.slice A7 (xs++[(⟨nm,V.k,V.t,V.n⟩:Fld)]).length c7) (xs++[(⟨nm,V.k,V.t,V.n⟩:Fld)]),.loc Y #[.int .i64 a9,.string b9,.slice A1 n1 c1,.slice A2 n2 c2,.slice A3 at'.length c3] 101,.mapF M es clock,.tslots qs,.iter Zr M clock seen' clock]:=S7
   go_roundw
   case rel=>exact ⟨seen',_,left',_,A7,c7,rfl,Hrg,Hsn,S7⟩
   case measure=>rw [hsz3.out,S7.iterSize 4 rfl Hrg.out];have:=Hll.out;omega
end
end Go.Proofs.YtfdcgedcfafmcaaGreatDoor
