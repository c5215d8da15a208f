/- Several texts in one: MapF, TelMem, TelP, RecP, RecW. -/
import Derived.Test.YtmkkppknaikjjaaGreatDoorPackF
import Derived.Test.YtmkkppknaikjjaaGreatDoorPackH
/- A map of the call's own that is looped over and written afterwards: its entries by name. -/
set_option maxHeartbeats 8000000
set_option maxRecDepth 100000
open Go.Lib renaming hid→Z9
open List renaming getElem?_eq_getElem→Z8, mem_of_getElem?→Z7, length_append→Z4, getElem?_set_self→ZY, length_map→ZW, length_cons→ZV, getElem?_map→ZT, length_take→ZR, map_append→ZP, append_assoc→ZM, append_nil→ZH, length_singleton→ZA, getElem?_set→Zv, ext_getElem?→Zu, map_cons→Zt, take_length→Zp, map_set→Zg, length→Zf, mem_map_of_mem→Zd, flatMap_cons→Y5, set_append_right→YZ, filter_cons→YX, filter_append→YJ, mem_singleton→YB
open Nat renaming le_refl→Z5, zero_le→ZN, le_trans→ZE, zero_add→Zh
open Go.RowKit.Below renaming refl→ZX
open Prod renaming fst→Zw
namespace Go.Proofs.YtmkkppknaikjjaaGreatDoor
section
open Go Go.RowKit Go.MapKept
def Chunk.xZ (X:Nat)(es:Array MapEntry)(clock:Nat):Chunk :=
 ⟨some X,fun _ w=>w.heap[X]? =some (.map es clock),fun k _ hd h=>(k.block X (Array.getElem?_eq_some_iff.1 h).1 (hd X rfl)).trans h,fun _ h=>h,fun h _ e=>by cases e;exact (Array.getElem?_eq_some_iff.1 h).1⟩
section
variable {κ:Type} {w0 w:World} {cs:List Chunk}
theorem Mem.WS {K:gu κ}(S:Mem w0 w cs)(i:Nat){X:Nat}{L:List (κ×Value)}(hi:cs[i]? =some (.aJ K X L)):∃ es clock,sU K es clock L∧Mem w0 w (cs.set i (.xZ X es clock)):=by
 obtain ⟨es,clock,hb,he⟩:=S.ok _ (Z7 hi);exact ⟨es,clock,he,S.upd i hi (.xZ X es clock) ⟨Z5 _,fun _ _ _=>rfl⟩ S.b (fun _ e=>.inl e) hb⟩
theorem Mem.LP (S:Mem w0 w cs)(i:Nat){X:Nat}{es:Array MapEntry}{clock:Nat}(hi:cs[i]? =some (.xZ X es clock)):w.heap[X]? =some (.map es clock):=S.ok _ (Z7 hi)
end
end
section
open Go Go.RowKit
structure TS where
 x:ByteArray
 A:Option Addr
 c:Nat
 ls:List aj
def TS.v (q:TS):Value:=.slice q.A q.ls.length q.c
def TS.kv (q:TS):ByteArray×Value:=(q.x,.slice q.A q.ls.length q.c)
def TS.kl (q:TS):ByteArray×List aj:=(q.x,q.ls)
def dZ (B E:Nat)(q:TS):Chunk:=.own bU B E (.slice q.A q.ls.length q.c) q.ls
theorem KH (qs:List TS):(qs.map TS.kv).map Zw=qs.map TS.x:=by simp [TS.kv,Function.comp_def]
theorem x9 (qs:List TS):(qs.map TS.kl).map Zw=qs.map TS.x:=by simp [TS.kl,Function.comp_def]
theorem ai9 (qs:List TS)(hn:(qs.map TS.x).Nodup)(x:ByteArray) :
  (x ∉ qs.map TS.x∧aT x (qs.map TS.kv)=none∧aT x (qs.map TS.kl)=none) ∨
  ∃ (j:Nat) (q:TS),qs[j]? =some q∧q.x=x∧aT x (qs.map TS.kv)=some q.v∧aT x (qs.map TS.kl)=some q.ls:=by
 by_cases h:x∈qs.map TS.x
 ·right
  obtain ⟨q,hq,e⟩:=List.mem_map.1 h;obtain ⟨j,hj⟩:=List.mem_iff_getElem?.1 hq;refine ⟨j,q,hj,e,?_,?_⟩
  ·exact (kR (L:=qs.map TS.kv) (j:=j) (k:=x) (v:=q.v) (by rw [KH];exact hn) (by rw [ZT,hj];subst e;rfl)).1
  ·exact (kR (L:=qs.map TS.kl) (j:=j) (k:=x) (v:=q.ls) (by rw [x9];exact hn) (by rw [ZT,hj];subst e;rfl)).1
 ·exact .inl ⟨h,qY.2 (by rw [KH];exact h),qY.2 (by rw [x9];exact h)⟩
theorem WI (qs:List TS)(hn:(qs.map TS.x).Nodup)(x:ByteArray):∃ (aI:List TS) (j:Nat) (q:TS),aI[j]? =some q∧q.x=x∧(aI.map TS.x).Nodup∧(aT x (qs.map TS.kv)).getD (.slice none 0 0)=.slice q.A q.ls.length q.c ∧
  (aT x (qs.map TS.kl)).getD []=q.ls∧(∀ q':TS,q'.x=x→bI x q'.v (qs.map TS.kv)=(aI.set j q').map TS.kv∧bI x q'.ls (qs.map TS.kl)=(aI.set j q').map TS.kl) ∧
  ∀ (B E:Nat) (w0 w:World) (cs:List Chunk),Mem w0 w (cs++qs.map (dZ B E))→Mem w0 w (cs++aI.map (dZ B E)):=by
 rcases ai9 qs hn x with ⟨h1,h2,h3⟩ | ⟨j,q,h1,h2,h3,h4⟩
 ·have hn1:((qs++[(⟨x,none,0,[]⟩:TS)]).map TS.x).Nodup:=by
   rw [ZP,List.nodup_append];refine ⟨hn,by simp,fun a ha b hb e=>?_⟩;simp only [Zt,List.map_nil,YB] at hb;subst hb;subst e;exact h1 ha
  have hj:(qs++[(⟨x,none,0,[]⟩:TS)])[qs.length]? =some ⟨x,none,0,[]⟩:=by simp
  refine ⟨qs++[⟨x,none,0,[]⟩],qs.length,⟨x,none,0,[]⟩,hj,rfl,hn1,by rw [h2];rfl,by rw [h3];rfl,fun q' e=>?_,fun B E w0 w cs S=>?_⟩
  ·subst e;rw [show (qs++[(⟨q'.x,none,0,[]⟩:TS)]).set qs.length q'=qs++[q'] by rw [YZ _ _ (Z5 _)];simp];constructor
   ·rw [vU (by rw [KH];exact h1),ZP];rfl
   ·rw [vU (by rw [x9];exact h1),ZP];rfl
  ·have S1:=S.nil bU B E;rw [ZM] at S1;rw [ZP];exact S1
 ·subst h2;refine ⟨qs,j,q,h1,rfl,hn,by rw [h3];rfl,by rw [h4];rfl,fun q' e=>⟨?_,?_⟩,fun _ _ _ _ _ S=>S⟩
  ·rw [(kR (L:=qs.map TS.kv) (j:=j) (k:=q.x) (v:=q.v) (by rw [KH];exact hn) (by rw [ZT,h1];rfl)).2 q'.v,Zg];rw [← e];rfl
  ·rw [(kR (L:=qs.map TS.kl) (j:=j) (k:=q.x) (v:=q.ls) (by rw [x9];exact hn) (by rw [ZT,h1];rfl)).2 q'.ls,Zg];rw [← e];rfl
def LU (M:Nat→Prop)(w:World)(qs:List TS):Prop:=∀ q∈qs,Sl bU M w q.A q.ls∧q.ls.length≤q.c
def Chunk.qh (qs:List TS):Chunk :=
 ⟨none,fun M w=>LU M w qs,fun k hd _ h q hq=>⟨(h q hq).1.keep (k.mono hd),(h q hq).2⟩,fun hm h q hq=>⟨(h q hq).1.mono (fun k hk e=>(hm k hk e).resolve_right (by simp)),(h q hq).2⟩,fun _ _ e=>by cases e⟩
theorem Mem.WQ {w0 w:World}{cs:List Chunk}{B E:Nat}{qs:List TS}(S:Mem w0 w (cs++qs.map (dZ B E))):Mem w0 w (cs++[.qh qs]):=by
 refine S.Bj (.qh qs) rfl (fun q hq'=>?_);have hmem:dZ B E q∈cs++qs.map (dZ B E):=List.mem_append_right _ (Zd hq');have ho:Own bU (bT w0.heap.size (cs++qs.map (dZ B E))) B E w (.slice q.A q.ls.length q.c) q.ls:=S.ok _ hmem;have hs:=ho.xR jF;have hc:q.ls.length≤q.c:=by
  obtain ⟨A2,c2,e,h2,_⟩:=(ho.FP jF (M':=fun _=>False)).Yq (fun _ _ h=>h);simp only [Value.slice.injEq] at e;obtain ⟨_,_,rfl⟩:=e;exact h2
 refine ⟨?_,hc⟩;intro i x hx;obtain ⟨blk,off,l,e1,h1,_,h3,h4⟩:=hs i x hx;refine ⟨blk,off,l,e1,h1,fun hm=>?_,h3,h4⟩;have hb:(dZ B E q).blk=some blk:=by
  show (Value.slice q.A q.ls.length q.c).ownBlock=some blk;rw [e1];rfl
 have hnew:=S.new _ hmem blk hb;rcases hm with hm | ⟨d,hd,e⟩
 ·omega
 ·exact (List.pairwise_append.1 S.sep).2.2 d hd _ (Zd hq') blk e hb
def sel (x:ByteArray)(L:List (ByteArray×aj)):List aj:=(L.filter (fun p=>decide (p.1=x))).map Prod.snd
def selC (x:ByteArray)(L:List (ByteArray×Tc)):List Tc:=(L.filter (fun p=>decide (p.1=x))).map Prod.snd
theorem aja (x:ByteArray)(L:List (ByteArray×aj))(y:ByteArray)(t:aj):sel x (L++[(y,t)])=sel x L++if y=x then [t] else []:=by
 unfold sel;rw [YJ,ZP];congr 1
 by_cases e:y=x <;> simp [e]
theorem Qd (x:ByteArray)(L:List (ByteArray×aj)):(sel x L).map aj.q=selC x (L.map (fun p=>(p.1,p.2.q))):=by
 unfold sel selC;induction L with
 | nil=>rfl
 | cons a r ih =>
  rw [Zt,YX,YX];by_cases e:a.1=x
  ·rw [if_pos (decide_eq_true e),if_pos (decide_eq_true e),Zt,Zt,Zt,ih]
  ·rw [if_neg (by simpa using e),if_neg (by simpa using e),ih]
structure kY (L:List (ByteArray×aj)) (qs:List TS):Prop where
 nd:(qs.map TS.x).Nodup
 is:∀ x,aT x (qs.map TS.kl)=if sel x L=[] then none else some (sel x L)
theorem kY.start:kY [] []:=⟨by simp,fun x=>rfl⟩
theorem kY.getD {L:List (ByteArray×aj)}{qs:List TS}(h:kY L qs)(x:ByteArray):(aT x (qs.map TS.kl)).getD []=sel x L:=by
 rw [h.is];split
 ·rename_i e;rw [e];rfl
 ·rfl
theorem kY.put {L:List (ByteArray×aj)}{qs aI:List TS}{j:Nat}{q':TS}{x:ByteArray}{t:aj}(h:kY L qs)(hx:q'.x=x)(hl:q'.ls=sel x L++[t])(hu:bI x q'.ls (qs.map TS.kl)=(aI.set j q').map TS.kl)(hn:(aI.map TS.x).Nodup)(hj:∃ q,aI[j]? =some q∧q.x=x):kY (L++[(x,t)]) (aI.set j q'):=by
 refine ⟨?_,fun y=>?_⟩
 ·rw [Zg];obtain ⟨q,h1,h2⟩:=hj;have e:(aI.map TS.x).set j q'.x=aI.map TS.x:=by
   apply Zu;intro i;rw [Zv];by_cases e3:j=i
   ·subst e3;rw [if_pos rfl,ZT,h1];simp [bM h1,h2,hx]
   ·rw [if_neg e3]
  rw [e];exact hn
 ·rw [← hu,tY,aja];by_cases e:y=x
  ·subst e;rw [if_pos rfl,if_pos rfl,if_neg (by simp),hl]
  ·rw [show (if x=y then [t] else [])=([]:List aj) from if_neg (fun h=>e h.symm),ZH,if_neg e,h.is]
end
section
open Go Go.RowKit
def tH (t:ak)(f:aQ):ByteArray×Tc:=(f.name,⟨t.no,t.at',t.src,⟨f.kind,f.text,f.num⟩⟩)
def wM (t:ak):List (ByteArray×Tc):=t.aB.map (tH t)
def fH (ts:List ak)(at':List Nat):List (ByteArray×Tc):=at'.flatMap (fun i=>(ts[i]?.map wM).getD [])
def jr (L:List (ByteArray×aj)):List (ByteArray×Tc):=L.map (fun p=>(p.1,p.2.q))
theorem WH (L:List (ByteArray×aj))(x:ByteArray)(t:aj):jr (L++[(x,t)])=jr L++[(x,t.q)]:=by unfold jr;rw [ZP];rfl
theorem ajb {ts:List ak}{at':List Nat}{k i:Nat}{t:ak}(h:at'[k]? =some i)(ht:ts[i]? =some t):fH ts (at'.take (k + 1))=fH ts (at'.take k)++wM t:=by
 unfold fH;rw [take_snoc h,List.flatMap_append,List.flatMap_singleton,ht];rfl
theorem WG {t:ak}{n:Nat}{f:aQ}(h:t.aB[n]? =some f):(t.aB.take (n + 1)).map (tH t)=(t.aB.take n).map (tH t)++[tH t f]:=by
 rw [take_snoc h,ZP];rfl
theorem Lu {ts:List ak}(hf:∀ t∈ts,t.aB.length≤1000):∀ at':List Nat,(fH ts at').length≤1000 * at'.length
 | []=>ZN _
 | i::r=>by
  unfold fH;rw [Y5,Z4,ZV];have h1:=Lu hf r;unfold fH at h1;have h2:((ts[i]?.map wM).getD []).length≤1000:=by
   cases h:ts[i]? with
   | none=>exact ZN _
   | some t=>show (wM t).length≤1000;unfold wM;rw [ZW];exact hf t (Z7 h)
  omega
def WC (C:List (ByteArray×Tc))(w:World)(e:Ending)(w':World):Prop :=
 ∃ X qs L,e=.returned (.map (some X))∧kY L qs∧jr L=C∧Mem w w' [.aJ dH X (qs.map TS.kv),.qh qs]
theorem LK (x:ByteArray)(L:List (ByteArray×aj)):(sel x L).length≤L.length:=by
 unfold sel;rw [ZW];exact List.length_filter_le _ _
theorem abN (w:World):(zeroValue 187).run Tryz.prog w=.ok (.slice none 0 0) w:=by kernel_rfl
theorem WM (w:World):(zeroValue 212).run Tryz.prog w=.ok (.slice none 0 0) w:=by kernel_rfl
theorem WL {w:World}{X o:Nat}{k n:Int}{t:ByteArray}(h0:w.cell? ⟨X,o,none⟩=some (.int .i64 k))(h1:w.cell? ⟨X,o + 1,none⟩=some (.string t))(h2:w.cell? ⟨X,o + 2,none⟩=some (.int .i64 n)):(Instr.loadAt 174 (.pointer (some ⟨X,o,none⟩))).run Tryz.prog w=.ok (.agg #[.int .i64 k,.string t,.int .i64 n]) w:=by
 go_simp
theorem WJ {w:World}{X o:Nat}{a b:Int}{s:ByteArray}{u v:Value}(h0:w.cell? ⟨X,o,none⟩=some (.int .i64 a))(h1:w.cell? ⟨X,o + 1,none⟩=some (.int .i64 b))(h2:w.cell? ⟨X,o + 2,none⟩=some (.string s))(h3:w.cell? ⟨X,o + 3,none⟩=some u)(h4:w.cell? ⟨X,o + 4,none⟩=some v)(hu:∃ A n c,u=.slice A n c)(hv:∃ A n c,v=.slice A n c):(Instr.loadAt 58 (.pointer (some ⟨X,o,none⟩))).run Tryz.prog w=.ok (.agg #[.int .i64 a,.int .i64 b,.string s,u,v]) w:=by
 obtain ⟨A,n,c,rfl⟩:=hu;obtain ⟨B,m,d,rfl⟩:=hv;go_simp
abbrev dI (f:aQ):Array Value:=#[.string f.name,.int .i64 f.kind,.string f.text,.int .i64 f.num]
theorem ajc (G X:Nat)(r:aP)(K W S A:Option Addr)(ck cw cs c:Nat)(ts:List ak)(lC:List HQ)(a9:Int)(b9:ByteArray)(A1 A2 A3:Option Addr)(n1 c1 n2 c2 c3:Nat)(at':List Nat)(w:World)(hG:vM (fun _=>False) w G X r K W S A ck cw cs c ts lC)(hat:∀ i∈at',i < ts.length)(hal:at'.length≤2000)(_amn:ts.length≤2000)(hfl:∀ t∈ts,t.aB.length≤1000)(hC:Sl ay (fun _=>False) w A3 (iL at')) :
  Calls Tryz.prog 118 #[.pointer (some ⟨G,0,none⟩),.agg #[.int .i64 a9,.string b9,.slice A1 n1 c1,.slice A2 n2 c2,.slice A3 at'.length c3]] w (WC (fH ts at') w):=by
 have HG:=Z9 (fun w' (h:Below w.heap.size w w')=>(hG.aK h).g);have HT:=Z9 (fun w' (h:Below w.heap.size w w')=>hG.t.aK h);have HC:=Z9 (fun w' (h:Below w.heap.size w w')=>hC.aK h);have Ci:=Z9 hat;have Ig:=Z9 hfl;have hmm:=@run_makeMap Tryz.prog;obtain ⟨Y,hY⟩:∃ Y,Y=w.heap.size:=⟨_,rfl⟩;have T0:Mem w (w.alloc (.cells #[.int .i64 a9,.string b9,.slice A1 n1 c1,.slice A2 n2 c2,.slice A3 at'.length c3] 107)) [.loc Y #[.int .i64 a9,.string b9,.slice A1 n1 c1,.slice A2 n2 c2,.slice A3 at'.length c3] 107]:=(Mem.start w).newAt _ 107 Y hY;have Hb:=Z9 hY;clear hG hC hat hfl;go_enter Tryz.func118,Tryz.ntmps118
 go_upto_region 1 with fail
 rw [← hY];clear hY;generalize w.alloc (.cells #[.int .i64 a9,.string b9,.slice A1 n1 c1,.slice A2 n2 c2,.slice A3 at'.length c3] 107)=w1 at *;obtain ⟨M,hM⟩:∃ M,M=w1.heap.size:=⟨_,rfl⟩;have T1:Mem w (w1.alloc (.map #[] 0)) ([.loc Y #[.int .i64 a9,.string b9,.slice A1 n1 c1,.slice A2 n2 c2,.slice A3 at'.length c3] 107,.aJ dH M (([]:List TS).map TS.kv)]++([]:List TS).map (dZ Y 266)):=T0.zD dH M hM;go_upto_region 2 with fail
 rw [← hM];clear hM hmm T0;generalize w1.alloc (.map #[] 0)=w2 at *;have l0:=(T1.lv 0 rfl).all;go_wp2_with fail
 clear l0;go_loopw [14] (fun ix wr=>∃ (k:Nat) (qs:List TS) (L:List (ByteArray×aj)),k≤at'.length∧ix=.int .i64 k∧Hid (kY L qs)∧Hid (jr L=fH ts (at'.take k))∧Mem w wr ([.loc Y #[.int .i64 a9,.string b9,.slice A1 n1 c1,.slice A2 n2 c2,.slice A3 at'.length c3] 107,.aJ dH M (qs.map TS.kv)]++qs.map (dZ Y 266))) (fun ix _=>at'.length - (intOf ix).toNat)
 case atStart=>exact ⟨0,[],[],ZN _,rfl,kY.start,rfl,T1⟩
 case round =>
  clear T1;obtain ⟨k,qs,L,hk,rfl,HO,HL,S1⟩:=hrel;by_cases hlt:k < at'.length
  ·obtain ⟨i,hi⟩:∃ i,at'[k]? =some i:=⟨_,Z8 hlt⟩;have hin:i < ts.length:=Ci.out i (Z7 hi);obtain ⟨t,ht⟩:∃ t,ts[i]? =some t:=⟨_,Z8 hin⟩;obtain ⟨b5,o5,rfl,hb5,d0⟩:=(HC.out wr S1.b).int k (i:Int) (by unfold iL;rw [ZT,hi];rfl);obtain ⟨bt,ot,Ai,ci,Af,cf,rfl,hbt,t0,t1,t2,t3,t4,_,hsf⟩:=(HT.out w (ZX _ _)).aC i t ht;have g0:=(HG.out wr S1.b).all;have e4:=(S1.b.cell (p:=⟨bt,ot + i * 5 + 4,none⟩) hbt).trans t4;have HF:=Z9 (fun w' (h:Below w.heap.size w w')=>hsf.aK h);have Gp:Hid (∀ w',Below w.heap.size w w'→(Instr.loadAt 58 (.pointer (some ⟨bt,ot + i * 5,none⟩))).run Tryz.prog w'=.ok (.agg (aS t Ai ci Af cf)) w'):=fun w' h =>
    WJ ((h.cell (p:=⟨bt,ot + i * 5,none⟩) hbt).trans t0) ((h.cell (p:=⟨bt,ot + i * 5 + 1,none⟩) hbt).trans t1) ((h.cell (p:=⟨bt,ot + i * 5 + 2,none⟩) hbt).trans t2) ((h.cell (p:=⟨bt,ot + i * 5 + 3,none⟩) hbt).trans t3) ((h.cell (p:=⟨bt,ot + i * 5 + 4,none⟩) hbt).trans t4) ⟨_,_,_,rfl⟩ ⟨_,_,_,rfl⟩
   have hfl:t.aB.length≤1000:=Ig.out t (Z7 ht);have rM:=Z9 (ajb hi ht);have Hlen:Hid ((fH ts (at'.take k)).length + t.aB.length≤2001000):=by
    show _≤_;have h1:=Lu Ig.out (at'.take k);rw [ZR] at h1;omega
   clear t0 t1 t2 t3 t4 hsf hi ht;go_wp2_with fail
   clear d0 g0 e4;go_loopw [27] (fun ix wr=>∃ (n:Nat) (qs:List TS) (L:List (ByteArray×aj)),n≤t.aB.length∧ix=.int .i64 n∧Hid (kY L qs)∧Hid (jr L=fH ts (at'.take k)++(t.aB.take n).map (tH t))∧Mem w wr ([.loc Y #[.int .i64 a9,.string b9,.slice A1 n1 c1,.slice A2 n2 c2,.slice (some ⟨b5,o5,none⟩) at'.length c3] 107,.aJ dH M (qs.map TS.kv)]++qs.map (dZ Y 266))) (fun ix _=>t.aB.length - (intOf ix).toNat)
   case atStart=>exact ⟨0,qs,L,ZN _,rfl,HO,(by show _=_;rw [HL.out];simp),S1⟩
   case round =>
    clear S1 HO HL;obtain ⟨n,q0,L,hn,rfl,HO,HL,S1⟩:=hrel;by_cases hlt2:n < t.aB.length
    ·obtain ⟨f,hf⟩:∃ f,t.aB[n]? =some f:=⟨_,Z8 hlt2⟩;obtain ⟨b7,o7,rfl,hb7,f0,f1,f2,f3⟩:=(HF.out wr S1.b).wO n f hf;have HL2:Hid (jr (L++[(f.name,(⟨⟨t.no,t.at',t.src,⟨f.kind,f.text,f.num⟩⟩,Ai,t.ids.length,ci,some ⟨b7,o7,none⟩,t.aB.length,cf⟩:aj))])=fH ts (at'.take k)++(t.aB.take (n + 1)).map (tH t)):=by
      show _=_;rw [WH,HL.out,WG hf,ZM];rfl
     have PZ:Hid (L.length≤2001000):=by
      have h1:=congrArg Zf HL.out;unfold jr at h1;rw [ZW,Z4,ZW,ZR] at h1;have:=Hlen.out
      show _≤_;omega
     clear hf;obtain ⟨V,hV⟩:∃ V,V=wr.heap.size:=⟨_,rfl⟩;have S2:Mem w (wr.alloc (.cells (dI f) 176)) (.loc V (dI f) 176::([.loc Y #[.int .i64 a9,.string b9,.slice A1 n1 c1,.slice A2 n2 c2,.slice (some ⟨b5,o5,none⟩) at'.length c3] 107,.aJ dH M (q0.map TS.kv)]++q0.map (dZ Y 266))):=(S1.newAt (dI f) 176 V hV).front;go_upto_region 8 with fail
     rw [← hV];clear hV S1 f0 f1 f2 f3;generalize wr.alloc (.cells (dI f) 176)=w4 at *;obtain ⟨aI,j,q,e1,e2,e3,e4,e5,e6,e7⟩:=WI q0 HO.out.nd f.name;have T:=e7 Y 266 w w4 (.loc V (dI f) 176::[.loc Y #[.int .i64 a9,.string b9,.slice A1 n1 c1,.slice A2 n2 c2,.slice (some ⟨b5,o5,none⟩) at'.length c3] 107,.aJ dH M (q0.map TS.kv)]) S2;replace T:Mem w w4 (.loc V (dI f) 176::.loc Y #[.int .i64 a9,.string b9,.slice A1 n1 c1,.slice A2 n2 c2,.slice (some ⟨b5,o5,none⟩) at'.length c3] 107::.aJ dH M (q0.map TS.kv)::aI.map (dZ Y 266)):=T;have bY:Hid (q.ls.length≤2001000):=by
      show _≤_;rw [← e5,HO.out.getD];exact ZE (LK _ _) PZ.out
     obtain ⟨tl,htl⟩:∃ tl:aj,(⟨⟨t.no,t.at',t.src,⟨f.kind,f.text,f.num⟩⟩,Ai,t.ids.length,ci,some ⟨b7,o7,none⟩,t.aB.length,cf⟩:aj)=tl:=⟨_,rfl⟩;have ajd:=htl;rw [htl] at HL2;subst htl;have e1:=Z9 e1;have e2:=Z9 e2;have e3:=Z9 e3;have e4:=Z9 e4;have e5:=Z9 e5;have e6:=Z9 e6;clear S2 e7 ajd;refine wJ [] (fun w'=>Below w.heap.size w w'∧LV w' V (dI f) 176) (.p 0 (.p 1 (.q 2 (.p 3 (.p 4 (.q 5 (.p 7 (.p 8 (.p 9 (.q 10 (.p 11 (.p 12 (.q 13 (.p 14 (.q 15 (.p 16 (.e2 6 (.e 17 (.e 18 (.e 19 .z))) 17 (.e 6 (.e 18 (.e 19 .z)))))))))))))))))))) (by kernel_rfl) (by kernel_rfl) (fun w' hd=>⟨(T.below (hd.below _)).b,(T.below (hd.below _)).lv 0 rfl⟩) (fun KK aF wd hd=>?_);replace T:=T.below (hd.below _);clear hd;refine dN ?_;refine jc (.string f.name) rfl rfl rfl rfl (fun w' h=>eX rfl (h.2.cell 0 _ rfl)) ?_;refine dN ?_;refine jc (.string f.name) rfl rfl rfl rfl (fun w' h=>eX rfl (h.2.cell 0 _ rfl)) ?_;refine dN ?_;refine jc (.slice (some ⟨bt,ot,none⟩) ts.length c) rfl rfl rfl rfl (fun w' h=>eX rfl ((HG.out w' h.1).cell 4 _ rfl)) ?_;refine dN ?_;refine jc (.agg (aS t Ai ci (some ⟨b7,o7,none⟩) cf)) rfl rfl rfl rfl (fun w' h=>Gp.out w' h.1) ?_;refine dN ?_;refine jc (.agg #[.int .i64 f.kind,.string f.text,.int .i64 f.num]) rfl rfl rfl rfl (fun w' h=>WL (h.2.cell 1 _ rfl) (h.2.cell 2 _ rfl) (h.2.cell 3 _ rfl)) ?_;refine dN ?_;refine EW (qM rfl rfl (fun K9 hK9=>?_)) (qM rfl rfl (fun K9 hK9=>?_))
     ·have hlk:=tJ (K:=dH) (T:=185) (E:=187) (T.ok (.aJ dH M (q0.map TS.kv)) (by simp):mO dH wd M (q0.map TS.kv)) (by kernel_rfl) (abN wd) f.name false;rw [if_neg (by decide),e4.out] at hlk;replace hlk:(Instr.lookup 185 (.map (some M)) (.string f.name) false).run Tryz.prog wd=.ok (.slice q.A q.ls.length q.c) wd:=hlk;go_wp2_with fail
      refine ⟨⟨T.b,(by first | exact T.lv 0 rfl | exact ⟨T.lv 0 rfl,T.lv (0 + 1) rfl⟩)⟩,?_⟩;clear hlk;refine gX rfl rfl (fun K9 hK9=>?_);go_wp2_with fail
      obtain ⟨U,hU⟩:∃ U,U=(wd).heap.size:=⟨_,rfl⟩;replace T:Mem w ((wd).alloc (.cells #[.int .i64 t.no,.int .i64 t.at',.string t.src,.slice Ai t.ids.length ci,.slice (some ⟨b7,o7,none⟩) t.aB.length cf,.int .i64 f.kind,.string f.text,.int .i64 f.num] 266)) (.loc U #[.int .i64 t.no,.int .i64 t.at',.string t.src,.slice Ai t.ids.length ci,.slice (some ⟨b7,o7,none⟩) t.aB.length cf,.int .i64 f.kind,.string f.text,.int .i64 f.num] 266::.loc V (dI f) 176::(.loc Y #[.int .i64 a9,.string b9,.slice A1 n1 c1,.slice A2 n2 c2,.slice (some ⟨b5,o5,none⟩) at'.length c3] 107)::.aJ dH M (q0.map TS.kv)::aI.map (dZ Y 266)):=(T.newAt _ 266 U hU).front;rw [← hU];clear hU;generalize (wd).alloc (.cells #[.int .i64 t.no,.int .i64 t.at',.string t.src,.slice Ai t.ids.length ci,.slice (some ⟨b7,o7,none⟩) t.aB.length cf,.int .i64 f.kind,.string f.text,.int .i64 f.num] 266)=we at *;refine ⟨⟨T.b,(by first | exact T.lv 1 rfl | exact ⟨T.lv 1 rfl,T.lv 2 rfl⟩)⟩,?_⟩;have hcs:∀ (j:Nat) (u:Value),([(⟨⟨t.no,t.at',t.src,⟨f.kind,f.text,f.num⟩⟩,Ai,t.ids.length,ci,some ⟨b7,o7,none⟩,t.aB.length,cf⟩:aj)].map aj.cells).flatten[j]? =some u→(we).cell? ((⟨U,0,none⟩:Addr).add j)=some u:=fun j u hu=>by
       have h0:=(T.lv 0 rfl).cell j u (by simpa [aj.cells] using hu);rw [qN,Zh];exact h0
      have hsB:Y≤(we).heap.size:=by rw [Hb.out];exact T.b.size
      refine gX rfl rfl (fun K9 hK9=>?_);refine T.nJ jF (j + 4) (by show (aI.map (dZ Y 266))[j]? =_;rw [ZT,e1.out];rfl) Jd rfl _ _ rfl [(⟨⟨t.no,t.at',t.src,⟨f.kind,f.text,f.num⟩⟩,Ai,t.ids.length,ci,some ⟨b7,o7,none⟩,t.aB.length,cf⟩:aj)] 1 1 rfl rfl ⟨U,0,none⟩ rfl hcs (fun y _=>Ii y) (fun _=>rfl) hsB (by simp only [ZA];have:=bY.out;omega) (by decide) ?_;intro v9 w9 S9;have hi9:((aI.map (dZ Y 266)).set j (.own bU Y 266 v9 (q.ls++[(⟨⟨t.no,t.at',t.src,⟨f.kind,f.text,f.num⟩⟩,Ai,t.ids.length,ci,some ⟨b7,o7,none⟩,t.aB.length,cf⟩:aj)])))[j]? =some (.own bU Y 266 v9 (q.ls++[(⟨⟨t.no,t.at',t.src,⟨f.kind,f.text,f.num⟩⟩,Ai,t.ids.length,ci,some ⟨b7,o7,none⟩,t.aB.length,cf⟩:aj)])):=ZY (by rw [ZW];exact bM e1.out);replace S9:Mem w w9 (.loc U #[.int .i64 t.no,.int .i64 t.at',.string t.src,.slice Ai t.ids.length ci,.slice (some ⟨b7,o7,none⟩) t.aB.length cf,.int .i64 f.kind,.string f.text,.int .i64 f.num] 266::.loc V (dI f) 176::(.loc Y #[.int .i64 a9,.string b9,.slice A1 n1 c1,.slice A2 n2 c2,.slice (some ⟨b5,o5,none⟩) at'.length c3] 107)::.aJ dH M (q0.map TS.kv)::(aI.map (dZ Y 266)).set j (.own bU Y 266 v9 (q.ls++[(⟨⟨t.no,t.at',t.src,⟨f.kind,f.text,f.num⟩⟩,Ai,t.ids.length,ci,some ⟨b7,o7,none⟩,t.aB.length,cf⟩:aj)]))):=S9;obtain ⟨A9,c9,e9⟩:=(S9.ow (j + 4) hi9).len;subst e9;replace S9:Mem w w9 (.loc U #[.int .i64 t.no,.int .i64 t.at',.string t.src,.slice Ai t.ids.length ci,.slice (some ⟨b7,o7,none⟩) t.aB.length cf,.int .i64 f.kind,.string f.text,.int .i64 f.num] 266::.loc V (dI f) 176::(.loc Y #[.int .i64 a9,.string b9,.slice A1 n1 c1,.slice A2 n2 c2,.slice (some ⟨b5,o5,none⟩) at'.length c3] 107)::.aJ dH M (q0.map TS.kv)::(aI.set j ⟨f.name,A9,c9,q.ls++[(⟨⟨t.no,t.at',t.src,⟨f.kind,f.text,f.num⟩⟩,Ai,t.ids.length,ci,some ⟨b7,o7,none⟩,t.aB.length,cf⟩:aj)]⟩).map (dZ Y 266)):=by rw [Zg];exact S9
      clear hcs hi9 T;go_wp2_with fail
      refine ⟨⟨S9.b,(by first | exact S9.lv 1 rfl | exact ⟨S9.lv 1 rfl,S9.lv 2 rfl⟩)⟩,?_⟩;refine gX rfl rfl (fun K9 hK9=>?_);refine S9.wP 3 rfl (T:=185) (E:=187) (by kernel_rfl) rfl _ _ _ rfl rfl f.name rfl (.slice A9 (q.ls++[(⟨⟨t.no,t.at',t.src,⟨f.kind,f.text,f.num⟩⟩,Ai,t.ids.length,ci,some ⟨b7,o7,none⟩,t.aB.length,cf⟩:aj)]).length c9) rfl ?_;intro w10 aZ;obtain ⟨u1,u2⟩:=e6.out ⟨f.name,A9,c9,q.ls++[(⟨⟨t.no,t.at',t.src,⟨f.kind,f.text,f.num⟩⟩,Ai,t.ids.length,ci,some ⟨b7,o7,none⟩,t.aB.length,cf⟩:aj)]⟩ rfl;replace aZ:Mem w w10 (.loc U #[.int .i64 t.no,.int .i64 t.at',.string t.src,.slice Ai t.ids.length ci,.slice (some ⟨b7,o7,none⟩) t.aB.length cf,.int .i64 f.kind,.string f.text,.int .i64 f.num] 266::.loc V (dI f) 176::(.loc Y #[.int .i64 a9,.string b9,.slice A1 n1 c1,.slice A2 n2 c2,.slice (some ⟨b5,o5,none⟩) at'.length c3] 107)::.aJ dH M ((aI.set j ⟨f.name,A9,c9,q.ls++[(⟨⟨t.no,t.at',t.src,⟨f.kind,f.text,f.num⟩⟩,Ai,t.ids.length,ci,some ⟨b7,o7,none⟩,t.aB.length,cf⟩:aj)]⟩).map TS.kv)::(aI.set j ⟨f.name,A9,c9,q.ls++[(⟨⟨t.no,t.at',t.src,⟨f.kind,f.text,f.num⟩⟩,Ai,t.ids.length,ci,some ⟨b7,o7,none⟩,t.aB.length,cf⟩:aj)]⟩).map (dZ Y 266)):=by rw [← u1];exact aZ
      have CG:Hid (kY (L++[(f.name,(⟨⟨t.no,t.at',t.src,⟨f.kind,f.text,f.num⟩⟩,Ai,t.ids.length,ci,some ⟨b7,o7,none⟩,t.aB.length,cf⟩:aj))]) (aI.set j ⟨f.name,A9,c9,q.ls++[(⟨⟨t.no,t.at',t.src,⟨f.kind,f.text,f.num⟩⟩,Ai,t.ids.length,ci,some ⟨b7,o7,none⟩,t.aB.length,cf⟩:aj)]⟩)):=HO.out.put rfl (by show q.ls++[(⟨⟨t.no,t.at',t.src,⟨f.kind,f.text,f.num⟩⟩,Ai,t.ids.length,ci,some ⟨b7,o7,none⟩,t.aB.length,cf⟩:aj)]=_;rw [← e5.out,HO.out.getD]) u2 e3.out ⟨q,e1.out,e2.out⟩;clear S9 u1 u2;go_wp2_with fail
      refine ⟨⟨aZ.b,(by first | exact aZ.lv 1 rfl | exact ⟨aZ.lv 1 rfl,aZ.lv 2 rfl⟩)⟩,?_⟩;refine rJ ?_;simp only [Exit.then];refine aF _ _ ?_;clear aF KK;go_wp2_with fail
      go_roundw
      case rel=>exact ⟨n + 1,aI.set j ⟨f.name,A9,c9,q.ls++[(⟨⟨t.no,t.at',t.src,⟨f.kind,f.text,f.num⟩⟩,Ai,t.ids.length,ci,some ⟨b7,o7,none⟩,t.aB.length,cf⟩:aj)]⟩,L++[(f.name,(⟨⟨t.no,t.at',t.src,⟨f.kind,f.text,f.num⟩⟩,Ai,t.ids.length,ci,some ⟨b7,o7,none⟩,t.aB.length,cf⟩:aj))],by omega,by go_num,CG,HL2,aZ.drop2⟩
      case measure=>simp [intOf];omega
     ·go_wp2_with fail
      obtain ⟨U,hU⟩:∃ U,U=(wd).heap.size:=⟨_,rfl⟩;replace T:Mem w ((wd).alloc (.cells #[.int .i64 t.no,.int .i64 t.at',.string t.src,.slice Ai t.ids.length ci,.slice (some ⟨b7,o7,none⟩) t.aB.length cf,.int .i64 f.kind,.string f.text,.int .i64 f.num] 266)) (.loc U #[.int .i64 t.no,.int .i64 t.at',.string t.src,.slice Ai t.ids.length ci,.slice (some ⟨b7,o7,none⟩) t.aB.length cf,.int .i64 f.kind,.string f.text,.int .i64 f.num] 266::.loc V (dI f) 176::(.loc Y #[.int .i64 a9,.string b9,.slice A1 n1 c1,.slice A2 n2 c2,.slice (some ⟨b5,o5,none⟩) at'.length c3] 107)::.aJ dH M (q0.map TS.kv)::aI.map (dZ Y 266)):=(T.newAt _ 266 U hU).front;rw [← hU];clear hU;generalize (wd).alloc (.cells #[.int .i64 t.no,.int .i64 t.at',.string t.src,.slice Ai t.ids.length ci,.slice (some ⟨b7,o7,none⟩) t.aB.length cf,.int .i64 f.kind,.string f.text,.int .i64 f.num] 266)=we at *;refine ⟨⟨T.b,(by first | exact T.lv 1 rfl | exact ⟨T.lv 1 rfl,T.lv 2 rfl⟩)⟩,?_⟩;refine gX rfl rfl (fun K9 hK9=>?_);have hlk:=tJ (K:=dH) (T:=185) (E:=187) (T.ok (.aJ dH M (q0.map TS.kv)) (by simp):mO dH we M (q0.map TS.kv)) (by kernel_rfl) (abN we) f.name false;rw [if_neg (by decide),e4.out] at hlk;replace hlk:(Instr.lookup 185 (.map (some M)) (.string f.name) false).run Tryz.prog we=.ok (.slice q.A q.ls.length q.c) we:=hlk;go_wp2_with fail
      refine ⟨⟨T.b,(by first | exact T.lv 1 rfl | exact ⟨T.lv 1 rfl,T.lv (1 + 1) rfl⟩)⟩,?_⟩;clear hlk;have hcs:∀ (j:Nat) (u:Value),([(⟨⟨t.no,t.at',t.src,⟨f.kind,f.text,f.num⟩⟩,Ai,t.ids.length,ci,some ⟨b7,o7,none⟩,t.aB.length,cf⟩:aj)].map aj.cells).flatten[j]? =some u→(we).cell? ((⟨U,0,none⟩:Addr).add j)=some u:=fun j u hu=>by
       have h0:=(T.lv 0 rfl).cell j u (by simpa [aj.cells] using hu);rw [qN,Zh];exact h0
      have hsB:Y≤(we).heap.size:=by rw [Hb.out];exact T.b.size
      refine gX rfl rfl (fun K9 hK9=>?_);refine T.nJ jF (j + 4) (by show (aI.map (dZ Y 266))[j]? =_;rw [ZT,e1.out];rfl) Jd rfl _ _ rfl [(⟨⟨t.no,t.at',t.src,⟨f.kind,f.text,f.num⟩⟩,Ai,t.ids.length,ci,some ⟨b7,o7,none⟩,t.aB.length,cf⟩:aj)] 1 1 rfl rfl ⟨U,0,none⟩ rfl hcs (fun y _=>Ii y) (fun _=>rfl) hsB (by simp only [ZA];have:=bY.out;omega) (by decide) ?_;intro v9 w9 S9;have hi9:((aI.map (dZ Y 266)).set j (.own bU Y 266 v9 (q.ls++[(⟨⟨t.no,t.at',t.src,⟨f.kind,f.text,f.num⟩⟩,Ai,t.ids.length,ci,some ⟨b7,o7,none⟩,t.aB.length,cf⟩:aj)])))[j]? =some (.own bU Y 266 v9 (q.ls++[(⟨⟨t.no,t.at',t.src,⟨f.kind,f.text,f.num⟩⟩,Ai,t.ids.length,ci,some ⟨b7,o7,none⟩,t.aB.length,cf⟩:aj)])):=ZY (by rw [ZW];exact bM e1.out);replace S9:Mem w w9 (.loc U #[.int .i64 t.no,.int .i64 t.at',.string t.src,.slice Ai t.ids.length ci,.slice (some ⟨b7,o7,none⟩) t.aB.length cf,.int .i64 f.kind,.string f.text,.int .i64 f.num] 266::.loc V (dI f) 176::(.loc Y #[.int .i64 a9,.string b9,.slice A1 n1 c1,.slice A2 n2 c2,.slice (some ⟨b5,o5,none⟩) at'.length c3] 107)::.aJ dH M (q0.map TS.kv)::(aI.map (dZ Y 266)).set j (.own bU Y 266 v9 (q.ls++[(⟨⟨t.no,t.at',t.src,⟨f.kind,f.text,f.num⟩⟩,Ai,t.ids.length,ci,some ⟨b7,o7,none⟩,t.aB.length,cf⟩:aj)]))):=S9;obtain ⟨A9,c9,e9⟩:=(S9.ow (j + 4) hi9).len;subst e9;replace S9:Mem w w9 (.loc U #[.int .i64 t.no,.int .i64 t.at',.string t.src,.slice Ai t.ids.length ci,.slice (some ⟨b7,o7,none⟩) t.aB.length cf,.int .i64 f.kind,.string f.text,.int .i64 f.num] 266::.loc V (dI f) 176::(.loc Y #[.int .i64 a9,.string b9,.slice A1 n1 c1,.slice A2 n2 c2,.slice (some ⟨b5,o5,none⟩) at'.length c3] 107)::.aJ dH M (q0.map TS.kv)::(aI.set j ⟨f.name,A9,c9,q.ls++[(⟨⟨t.no,t.at',t.src,⟨f.kind,f.text,f.num⟩⟩,Ai,t.ids.length,ci,some ⟨b7,o7,none⟩,t.aB.length,cf⟩:aj)]⟩).map (dZ Y 266)):=by rw [Zg];exact S9
      clear hcs hi9 T;go_wp2_with fail
      refine ⟨⟨S9.b,(by first | exact S9.lv 1 rfl | exact ⟨S9.lv 1 rfl,S9.lv 2 rfl⟩)⟩,?_⟩;refine gX rfl rfl (fun K9 hK9=>?_);refine S9.wP 3 rfl (T:=185) (E:=187) (by kernel_rfl) rfl _ _ _ rfl rfl f.name rfl (.slice A9 (q.ls++[(⟨⟨t.no,t.at',t.src,⟨f.kind,f.text,f.num⟩⟩,Ai,t.ids.length,ci,some ⟨b7,o7,none⟩,t.aB.length,cf⟩:aj)]).length c9) rfl ?_;intro w10 aZ;obtain ⟨u1,u2⟩:=e6.out ⟨f.name,A9,c9,q.ls++[(⟨⟨t.no,t.at',t.src,⟨f.kind,f.text,f.num⟩⟩,Ai,t.ids.length,ci,some ⟨b7,o7,none⟩,t.aB.length,cf⟩:aj)]⟩ rfl;replace aZ:Mem w w10 (.loc U #[.int .i64 t.no,.int .i64 t.at',.string t.src,.slice Ai t.ids.length ci,.slice (some ⟨b7,o7,none⟩) t.aB.length cf,.int .i64 f.kind,.string f.text,.int .i64 f.num] 266::.loc V (dI f) 176::(.loc Y #[.int .i64 a9,.string b9,.slice A1 n1 c1,.slice A2 n2 c2,.slice (some ⟨b5,o5,none⟩) at'.length c3] 107)::.aJ dH M ((aI.set j ⟨f.name,A9,c9,q.ls++[(⟨⟨t.no,t.at',t.src,⟨f.kind,f.text,f.num⟩⟩,Ai,t.ids.length,ci,some ⟨b7,o7,none⟩,t.aB.length,cf⟩:aj)]⟩).map TS.kv)::(aI.set j ⟨f.name,A9,c9,q.ls++[(⟨⟨t.no,t.at',t.src,⟨f.kind,f.text,f.num⟩⟩,Ai,t.ids.length,ci,some ⟨b7,o7,none⟩,t.aB.length,cf⟩:aj)]⟩).map (dZ Y 266)):=by rw [← u1];exact aZ
      have CG:Hid (kY (L++[(f.name,(⟨⟨t.no,t.at',t.src,⟨f.kind,f.text,f.num⟩⟩,Ai,t.ids.length,ci,some ⟨b7,o7,none⟩,t.aB.length,cf⟩:aj))]) (aI.set j ⟨f.name,A9,c9,q.ls++[(⟨⟨t.no,t.at',t.src,⟨f.kind,f.text,f.num⟩⟩,Ai,t.ids.length,ci,some ⟨b7,o7,none⟩,t.aB.length,cf⟩:aj)]⟩)):=HO.out.put rfl (by show q.ls++[(⟨⟨t.no,t.at',t.src,⟨f.kind,f.text,f.num⟩⟩,Ai,t.ids.length,ci,some ⟨b7,o7,none⟩,t.aB.length,cf⟩:aj)]=_;rw [← e5.out,HO.out.getD]) u2 e3.out ⟨q,e1.out,e2.out⟩;clear S9 u1 u2;go_wp2_with fail
      refine ⟨⟨aZ.b,(by first | exact aZ.lv 1 rfl | exact ⟨aZ.lv 1 rfl,aZ.lv 2 rfl⟩)⟩,?_⟩;refine rJ ?_;simp only [Exit.then];refine aF _ _ ?_;clear aF KK;go_wp2_with fail
      go_roundw
      case rel=>exact ⟨n + 1,aI.set j ⟨f.name,A9,c9,q.ls++[(⟨⟨t.no,t.at',t.src,⟨f.kind,f.text,f.num⟩⟩,Ai,t.ids.length,ci,some ⟨b7,o7,none⟩,t.aB.length,cf⟩:aj)]⟩,L++[(f.name,(⟨⟨t.no,t.at',t.src,⟨f.kind,f.text,f.num⟩⟩,Ai,t.ids.length,ci,some ⟨b7,o7,none⟩,t.aB.length,cf⟩:aj))],by omega,by go_num,CG,HL2,aZ.drop2⟩
      case measure=>simp [intOf];omega
    ·obtain rfl:n=t.aB.length:=by omega
     have HL2:Hid (jr L=fH ts (at'.take (k + 1))):=by
      show _=_;rw [HL.out,rM.out,Zp];rfl
     clear HL;go_wp2_with fail
     go_roundw
     case rel=>exact ⟨k + 1,q0,L,by omega,by go_num,HO,HL2,S1⟩
     case measure=>simp [intOf];omega
  ·obtain rfl:k=at'.length:=by omega
   have HL2:Hid (jr L=fH ts at'):=by
    show _=_;rw [HL.out,Zp]
   have HS:Hid (Mem w wr [.aJ dH M (qs.map TS.kv),.qh qs]):=S1.WQ.del 0;clear S1;go_wp2_with fail
   go_ret;exact ⟨M,qs,L,rfl,HO.out,HL2.out,HS.out⟩
end
section
open Go Go.RowKit Go.Sort Go.Shelf Go.MapKept
def rO (a b:aQ):Int:=eY a.name b.name
theorem Il:fC rO:=Yv.of (fun f:aQ=>f.name)
theorem aje (a b:aQ)(w:World):Calls Tryz.prog 121 #[.agg (dI a),.agg (dI b)] w fun e w'=>e=.returned (.int .i64 (rO a b))∧Grew w w':=by
 obtain ⟨X,hX⟩:∃ X,X=w.heap.size:=⟨_,rfl⟩;have S1:=(Mem.start w).newAt (dI a) 176 X hX;have S:Mem w _ [.loc X (dI a) 176,.loc (X + 1) (dI b) 176]:=S1.newAt (dI b) 176 (X + 1) (by rw [hX,World.size_alloc]);have Hg:Hid (Grew w ((w.alloc (.cells (dI a) 176)).alloc (.cells (dI b) 176))):=((Grew.refl _).alloc _).alloc _;clear S1;go_enter Tryz.func121,Tryz.ntmps121
 go_upto_region 1 with fail
 rw [← hX];clear hX;generalize (w.alloc (.cells (dI a) 176)).alloc (.cells (dI b) 176)=w2 at *;have l0:=(S.lv 0 rfl).all;have l1:=(S.lv 1 rfl).all;have Hc:=Z9 (JU a.name b.name w2);go_wp2_with fail
 refine (Hc.out).mono ?_;rintro e _ ⟨rfl,rfl⟩;go_wp2_with fail
 go_ret;exact ⟨rfl,Hg.out⟩
theorem ajf {w0 w:World}{cs:List Chunk}(S:Mem w0 w cs)(i:Nat){B:Nat}{v:Value}{xs:List aQ}(hi:cs[i]? =some (.own bK B 176 v xs))(hl:xs.length≤1000000) :
  Calls Tryz.prog 120 #[v,.func (.func 121) #[] #[]] w (Ij bK rO w0 cs i B 176 v xs) :=
 haveI:Inhabited aQ:=⟨⟨⟨#[]⟩,0,⟨#[]⟩,0⟩⟩
 LM Ik (by decide) (fun _=>rfl) EX Tryz.laysSf120 Tryz.isAgg176 Tryz.sizeOf176 (fun _=>True) rO rO Il (fun _ _=>Iff.rfl) 121 (enters_of Tryz.func121 (by kernel_rfl) rfl) (fun a b _ _ w=>aje a b w) S i hi (fun _ _=>trivial) hl
def nK (sv:ByteArray→Tc→List Tc→Vt)(C:List (ByteArray×Tc))(nm:ByteArray):aQ:=match selC nm C with
 | []=>⟨nm,0,⟨#[]⟩,0⟩
 | x0::r0=>⟨nm,(sv nm x0 r0).k,(sv nm x0 r0).t,(sv nm x0 r0).n⟩
def nH (sv:ByteArray→Tc→List Tc→Vt)(C:List (ByteArray×Tc))(l:List aQ):Prop:=l.Pairwise (fun a b=>eP a.name b.name=true)∧∀ f,f∈l ↔ selC f.name C≠[]∧nK sv C f.name=f
theorem Ur (sv:ByteArray→Tc→List Tc→Vt)(C:List (ByteArray×Tc))(nm:ByteArray):(nK sv C nm).name=nm:=by unfold nK;split <;> rfl
theorem nH.uniq {sv uJ:ByteArray→Tc→List Tc→Vt}{C C2:List (ByteArray×Tc)}{l m:List aQ}(h:nH sv C l)(g:nH uJ C2 m)(hC:C=C2)(hs:∀ nm x0 r0,selC nm C=x0::r0→sv nm x0 r0=uJ nm x0 r0):l=m:=by
 subst hC;refine Me (fun a b:aQ=>eP a.name b.name=true) (fun x hx=>by rw [zO] at hx;cases hx) (fun _ _ _ h1 h2=>yP h1 h2) _ _ h.1 g.1 (fun f=>?_);rw [h.2,g.2];refine and_congr_right fun hne=>?_;have e:nK sv C f.name=nK uJ C f.name:=by
  unfold nK;cases hq:selC f.name C with
  | nil=>rfl
  | cons x0 r0=>simp only [hs _ _ _ hq]
 rw [e]
theorem P5 {sv:ByteArray→Tc→List Tc→Vt}{L:List (ByteArray×aj)}{C:List (ByteArray×Tc)}{qs:List TS}{ys:List aQ}{dq:List (ByteArray×Value)}(hT:kY L qs)(hC:jr L=C)(hp:dq.Perm (qs.map TS.kv))(hy:ys.Perm (dq.map (fun p=>nK sv C p.1)))(ho:ys.Pairwise (fun a b=>rO a b≤0)):nH sv C ys:=by
 have hsel:∀ nm,(sel nm L).map aj.q=selC nm C:=fun nm=>by rw [Qd,← hC];rfl
 have hkey:∀ nm,nm∈qs.map TS.x ↔ selC nm C≠[]:=fun nm=>by
  rw [← hsel];have h1:=hT.is nm;constructor
  ·intro hm e;have e2:sel nm L=[]:=List.map_eq_nil_iff.1 e;rw [if_pos e2] at h1;exact qY.1 h1 (by rw [x9];exact hm)
  ·intro hne;have e2:sel nm L≠[]:=fun e=>hne (by rw [e];rfl);rw [if_neg e2] at h1;by_cases hm:nm∈qs.map TS.x
   ·exact hm
   ·rw [qY.2 (by rw [x9];exact hm)] at h1;cases h1
 have hnm:(ys.map aQ.name).Perm (qs.map TS.x):=by
  have h1:=hy.map aQ.name;rw [List.map_map] at h1;have e:(aQ.name ∘ fun p:ByteArray×Value=>nK sv C p.1)=Zw:=by
   funext p
   exact Ur sv C p.1
  rw [e] at h1;have h2:=hp.map Zw;rw [KH] at h2;exact h1.trans h2
 refine ⟨?_,fun f=>?_⟩
 ·have hnd:(ys.map aQ.name).Nodup:=hnm.nodup_iff.2 hT.nd;rw [List.Nodup,List.pairwise_map] at hnd;refine (List.pairwise_and_iff.2 ⟨ho,hnd⟩).imp (fun {a b} h=>?_);obtain ⟨h1,h2⟩:=h;unfold rO at h1;have h3:eY a.name b.name≠0:=fun e=>h2 ((Ah _ _).1 e);exact (D7 _ _).1 (by omega)
 ·constructor
  ·intro hf;have h1:f.name∈qs.map TS.x:=hnm.mem_iff.1 (Zd hf);refine ⟨(hkey _).1 h1,?_⟩;obtain ⟨p,_,rfl⟩:=List.mem_map.1 (hy.mem_iff.1 hf);rw [Ur]
  ·rintro ⟨hne,hr⟩;have h1:f.name∈ys.map aQ.name:=hnm.mem_iff.2 ((hkey _).2 hne);obtain ⟨g,hg,e⟩:=List.mem_map.1 h1;obtain ⟨p,_,rfl⟩:=List.mem_map.1 (hy.mem_iff.1 hg);rw [Ur] at e;rw [← hr,← e];exact hg
theorem WT {x:ByteArray}{L:List (ByteArray×aj)}{t:aj}(h:t∈sel x L):(x,t.q)∈jr L:=by
 unfold sel at h;obtain ⟨p,hp,rfl⟩:=List.mem_map.1 h;obtain ⟨hp1,hp2⟩:=List.mem_filter.1 hp;have e:=of_decide_eq_true hp2;unfold jr;exact List.mem_map.2 ⟨p,hp1,by rw [e]⟩
def P6 (C:List (ByteArray×Tc)):Prop:=∀ p∈C,p.2.v.t.size≤1000000∧-4611686018427387904≤p.2.v.n∧p.2.v.n≤4611686018427387904
end
section
open Go Go.RowKit Go.Sort Go.Shelf Go.MapKept
def kM (r:aP)(nm:ByteArray)(x0:Tc)(r0:List Tc):Vt:=(kT (pz r nm) (pF r nm) x0 r0).v
def ajg (sv:ByteArray→Tc→List Tc→Vt)(C:List (ByteArray×Tc))(w:World)(e:Ending)(w':World):Prop :=
 ∃ (A:Option Addr) (c:Nat) (l:List aQ),e=.returned (.slice A l.length c)∧nH sv C l∧l.length≤C.length∧Mem w w' [.sl bK A l]
theorem Qa {L:List (ByteArray×aj)}{qs:List TS}(h:kY L qs):qs.length≤L.length:=by
 have h1:(qs.map TS.x).length≤(L.map Zw).length:=Us h.nd (fun x hx=>by
  by_cases hm:x∈L.map Zw
  ·exact hm
  ·have e:sel x L=[]:=by
    unfold sel;rw [List.map_eq_nil_iff,List.filter_eq_nil_iff];intro p hp hh;exact hm (List.mem_map.2 ⟨p,hp,of_decide_eq_true hh⟩)
   have h2:=h.is x;rw [if_pos e] at h2;exact absurd (by rw [x9];exact hx) (qY.1 h2))
 rw [ZW,ZW] at h1;exact h1
theorem ae9 (G X:Nat)(r:aP)(K W S A:Option Addr)(ck cw cs c:Nat)(ts:List ak)(lC:List HQ)(a9:Int)(b9:ByteArray)(A1 A2 A3:Option Addr)(n1 c1 n2 c2 c3:Nat)(at':List Nat)(w:World)(hG:vM (fun _=>False) w G X r K W S A ck cw cs c ts lC)(hat:∀ i∈at',i < ts.length)(hal:at'.length≤2000)(htl:ts.length≤2000)(hfl:∀ t∈ts,t.aB.length≤1000)(hC:Sl ay (fun _=>False) w A3 (iL at'))
  (hsv:Oa r.aX) (hsl:r.aX.length≤30) (hss:∀ s∈r.aX,s.srcs.length≤1000000) (hsm:P6 (fH ts at')) (hcl:(fH ts at').length≤900000) :
  Calls Tryz.prog 56 #[.pointer (some ⟨G,0,none⟩),.agg #[.int .i64 a9,.string b9,.slice A1 n1 c1,.slice A2 n2 c2,.slice A3 at'.length c3]] w (ajg (kM r) (fH ts at') w):=by
 have nD:=Z9 (fun w' (h:Below w.heap.size w w')=>ajc G X r K W S A ck cw cs c ts lC a9 b9 A1 A2 A3 n1 c1 n2 c2 c3 at' w' (hG.aK h) hat hal htl hfl (hC.aK h));have FV:=Z9 (fun (M:Nat→Prop) nm A5 x0 r0 n c5 w' (h:Below w.heap.size w w')=>ag9 G X r K W S A ck cw cs c ts lC nm M A5 x0 r0 n c5 w' (hG.aK h) hsv hsl hss);have Hsm:=Z9 hsm;obtain ⟨C,Io⟩:∃ C,fH ts at'=C:=⟨_,rfl⟩;rw [Io] at nD Hsm hcl ⊢;obtain ⟨sv,CJ⟩:∃ sv,kM r=sv:=⟨_,rfl⟩;rw [CJ];have P7:=Z9 CJ;obtain ⟨Y,hY⟩:∃ Y,Y=w.heap.size:=⟨_,rfl⟩;have T:Mem w (w.alloc (.cells #[.int .i64 a9,.string b9,.slice A1 n1 c1,.slice A2 n2 c2,.slice A3 at'.length c3] 107)) [.loc Y #[.int .i64 a9,.string b9,.slice A1 n1 c1,.slice A2 n2 c2,.slice A3 at'.length c3] 107]:=(Mem.start w).newAt _ 107 Y hY;have Hb:=Z9 hY;clear hG hC hat hfl hsv hss hsm Io CJ;go_enter Tryz.func56,Tryz.ntmps56
 go_upto_region 1 with fail
 rw [← hY];clear hY;generalize w.alloc (.cells #[.int .i64 a9,.string b9,.slice A1 n1 c1,.slice A2 n2 c2,.slice A3 at'.length c3] 107)=w1 at *;have y0:=(T.lv 0 rfl).all;go_wp2_with fail
 refine (nD.out w1 T.b).mono ?_;rintro e w2 ⟨M,qs,L,rfl,hTL,hLC,M2⟩;have S2:=T.join M2;have P8:=Qa hTL;have jG:qs.length≤900000:=by
  have h1:=congrArg Zf hLC;unfold jr at h1;rw [ZW] at h1;omega
 have xY:=Z9 hTL;have uG:=Z9 hLC;obtain ⟨es,clock,hE,S3⟩:=S2.WS 1 rfl;have HE:=Z9 hE;obtain ⟨hrg,S4⟩:=S3.Qb (S3.LP 1 rfl) (T:=185) (k:=9) (e:=187) (by kernel_rfl);obtain ⟨Zr,Ip⟩:∃ Zr,Zr=w2.heap.size:=⟨_,rfl⟩;rw [← Ip] at hrg S4;have S5:Mem w (w2.alloc (.mapIter (some M) clock #[] clock)) [.own bK Y 176 (.slice none 0 0) [],.loc Y #[.int .i64 a9,.string b9,.slice A1 n1 c1,.slice A2 n2 c2,.slice A3 at'.length c3] 107,.xZ M es clock,.qh qs,.iter Zr M clock #[] clock]:=(S4.nil bK Y 176).front;clear T M2 S2 S3 S4 Ip hE hTL hLC P8 nD y0;go_wp2_with fail
 clear hrg;generalize w2.alloc (.mapIter (some M) clock #[] clock)=w4 at *;have HR0:Hid (gY dH es clock #[] (qs.map TS.kv) [] (qs.map TS.kv)):=gY.start HE.out;go_loopw [5] (fun v wr=>∃ (seen:Array Nat) (dq left:List (ByteArray×Value)) (xs:List aQ) (A8:Option Addr) (c8:Nat),v=.slice A8 xs.length c8∧Hid (gY dH es clock seen (qs.map TS.kv) dq left)∧Hid (xs=dq.map (fun p=>nK sv C p.1))∧Mem w wr [.own bK Y 176 (.slice A8 xs.length c8) xs,.loc Y #[.int .i64 a9,.string b9,.slice A1 n1 c1,.slice A2 n2 c2,.slice A3 at'.length c3] 107,.xZ M es clock,.qh qs,.iter Zr M clock seen clock]) (fun _ wr=>wQ es Zr wr)
 case atStart=>exact ⟨#[],[],qs.map TS.kv,[],none,0,rfl,HR0,rfl,S5⟩
 case round =>
  clear S5 HR0;obtain ⟨seen,dq,left,xs,A8,c8,rfl,mP,Hxs,S3⟩:=hrel;have hsz3:Hid (wQ es Zr wr=left.length):=S3.uH 4 rfl mP.out;have hxl:xs.length≤900000:=by
   have h1:=mP.out.perm.length_eq;have h2:=congrArg Zf Hxs.out;rw [ZW] at h2;rw [Z4,ZW] at h1;omega
  rcases S3.LQ 4 (S3.LP 2 rfl) rfl (Z5 _) mP.out with ⟨hl0,hp0,hnx⟩ | ⟨pq,left',seen',w5,hpm,hll,hrg,hnx,hen,S5⟩
  ·have S6:Mem w wr [.own bK Y 176 (.slice A8 xs.length c8) xs]:=(((S3.del 4).del 3).del 2).del 1;have uI:=Z9 hp0;have Iq:=Z9 (ajf S6 0 rfl (by omega));clear hp0 hl0 S3 S6 hsz3;go_wp2_with fail
   refine (Iq.out).mono ?_;rintro e w6 ⟨rfl,ys,hperm,hord,S7⟩;have HI:Hid (nH sv C ys):=P5 xY.out uG.out uI.out (by rw [← Hxs.out];exact hperm) hord;have Ec:Hid (ys.length≤C.length):=by
    have h1:=hperm.length_eq;have h2:=congrArg Zf Hxs.out;have h3:=uI.out.length_eq;have h4:=Qa xY.out;have h5:=congrArg Zf uG.out;unfold jr at h5;rw [ZW] at h2 h3 h5;show _≤_;omega
   have hyl:=hperm.length_eq;obtain ⟨A9,c9,e9,S8⟩:=S7.cO 0 rfl;have CO:=Z9 S8;have Qc:=Z9 e9;clear Iq hperm hord S7 S8 e9;go_wp2_with fail
   go_ret;exact ⟨A9,c9,ys,congrArg Ending.returned Qc.out,HI.out,Ec.out,CO.out⟩
  ·obtain ⟨q,hqm,hqe⟩:=List.mem_map.1 (mP.out.perm.mem_iff.1 (List.mem_append_right _ hpm));obtain ⟨nm,val⟩:=pq;unfold TS.kv at hqe;simp only [Prod.mk.injEq] at hqe;obtain ⟨wR,rfl⟩:=hqe;have hgl:aT nm (qs.map TS.kl)=some q.ls:=by
    obtain ⟨j,hj⟩:=List.mem_iff_getElem?.1 hqm;exact (kR (L:=qs.map TS.kl) (j:=j) (k:=nm) (v:=q.ls) (by rw [x9];exact xY.out.nd) (by rw [ZT,hj,← wR];rfl)).1
   have rP:q.ls=sel nm L∧sel nm L≠[]:=by
    have h1:=xY.out.is nm;rw [hgl] at h1;split at h1
    ·cases h1
    ·rename_i h2;exact ⟨Option.some.inj h1,h2⟩
   obtain ⟨x0,r0,hx0⟩:∃ x0 r0,q.ls=x0::r0:=by
    cases h:q.ls with
    | nil=>exact absurd (rP.1.symm.trans h) rP.2
    | cons a b=>exact ⟨a,b,rfl⟩
   have hcore:selC nm C=x0.q::r0.map aj.q:=by
    have h1:(sel nm L).map aj.q=selC nm C:=by rw [Qd,← uG.out];rfl
    rw [← h1,← rP.1,hx0];rfl
   have kE:Hid (∀ a∈x0::r0,a.q.v.t.size≤1000000∧-4611686018427387904≤a.q.v.n∧a.q.v.n≤4611686018427387904):=fun a ha=>by
    have h1:a∈sel nm L:=by rw [← rP.1,hx0];exact ha
    have h2:=WT h1;rw [uG.out] at h2;exact Hsm.out _ h2
   have Ir:(x0::r0).length≤1000000:=by
    rw [← hx0,rP.1];have h1:=LK nm L;have h2:=congrArg Zf uG.out;unfold jr at h2;rw [ZW] at h2;omega
   have Qe:=Z9 Ir;obtain ⟨n5,zF⟩:∃ n5,q.ls.length=n5:=⟨_,rfl⟩;obtain ⟨A5,CP⟩:∃ A5,q.A=A5:=⟨_,rfl⟩;obtain ⟨c5,hc5⟩:∃ c5,q.c=c5:=⟨_,rfl⟩;have Qg:Hid (n5=(x0::r0).length):=by show _=_;rw [← zF,hx0]
   have qK:Hid (Sl bU (fun _=>False) w5 A5 (x0::r0)):=by
    have h1:LU _ w5 qs:=S5.ok (.qh qs) (.tail _ (.tail _ (.tail _ (.head _))));have h2:=(h1 q hqm).1;rw [hx0,CP] at h2;exact h2.mono (fun _ _ h=>h.elim)
   have oh:Hid (nK sv C nm=⟨nm,(kM r nm x0.q (r0.map aj.q)).k,(kM r nm x0.q (r0.map aj.q)).t,(kM r nm x0.q (r0.map aj.q)).n⟩):=by
    show _=_;unfold nK;rw [hcore,← P7.out]
   have kS:=Z9 hrg;have Hll:=Z9 hll;rw [zF,CP,hc5] at hnx hen kS;have hnx2:∀ ty,(Instr.next (.pointer (some ⟨Zr,0,none⟩)) false ty).run Tryz.prog wr=.ok (.tuple #[.bool true,.string nm,.slice A5 n5 c5]) w5:=hnx;have CQ:(Instr.entry (.pointer (some ⟨Zr,0,none⟩))).run Tryz.prog w5=.ok (.tuple #[.string nm,.slice A5 n5 c5]) w5:=hen;have uT:=Z9 (FV.out (fun _=>False) nm A5 x0 r0 n5 c5 w5 S5.b qK.out Qg.out Qe.out kE.out);unfold kM at oh;obtain ⟨V,hV⟩:∃ V,(kT (pz r nm) (pF r nm) x0.q (r0.map aj.q)).v=V:=⟨_,rfl⟩;rw [hV] at oh uT;have rM:Hid (xs++[(⟨nm,V.k,V.t,V.n⟩:aQ)]=(dq++[(nm,Value.slice A5 n5 c5)]).map (fun p=>nK sv C p.1)):=by
    show _=_;rw [ZP,← Hxs.out,Zt,List.map_nil,oh.out]
   clear hnx hen S3 hpm hll hrg hqm wR hgl rP hx0 hcore Ir zF CP hc5 hV;go_wp2_with fail
   clear hnx2 CQ;refine (uT.out).mono ?_;rintro e w6 ⟨rfl,uF⟩;have S6:=S5.below uF;have hsz:Y≤w6.heap.size:=by rw [Hb.out];exact S6.b.size
   clear S5 uF uT;have tK:=Z9 S6;clear S6;go_wp2_with (at_builtin;refine tK.out.app 0 rfl LW rfl _ _ rfl ⟨nm,V.k,V.t,V.n⟩ 1 rfl rfl rfl (EX ⟨nm,V.k,V.t,V.n⟩) hsz (by omega) (by decide) ?_;intro v' w7 S7)
   obtain ⟨A7,c7,e7⟩:=(S7.ow 0 rfl).len;subst e7;replace S7:Mem w w7 [.own bK Y 176 (.slice A7 (xs++[(⟨nm,V.k,V.t,V.n⟩:aQ)]).length c7) (xs++[(⟨nm,V.k,V.t,V.n⟩:aQ)]),.loc Y #[.int .i64 a9,.string b9,.slice A1 n1 c1,.slice A2 n2 c2,.slice A3 at'.length c3] 107,.xZ M es clock,.qh qs,.iter Zr M clock seen' clock]:=S7;go_roundw
   case rel=>exact ⟨seen',_,left',_,A7,c7,rfl,kS,rM,S7⟩
   case measure=>rw [hsz3.out,S7.uH 4 rfl kS.out];have:=Hll.out;omega
end
end Go.Proofs.YtmkkppknaikjjaaGreatDoor
