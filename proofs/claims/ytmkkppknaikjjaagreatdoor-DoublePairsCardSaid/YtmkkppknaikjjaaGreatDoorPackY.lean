/- Several texts in one: LabLaw, RtOn, RefJn, BackI, RefPq, RefPs. -/
import Derived.Test.YtmkkppknaikjjaaGreatDoorPackX
/- Labels that fall until they stand: the plain law of the reference's persons. -/
set_option maxHeartbeats 16000000
set_option maxRecDepth 100000
open Go.Lib renaming hid→Z9
open List renaming getElem?_eq_getElem→Z8, mem_of_getElem?→Z7, length_append→Z4, length_map→ZW, length_cons→ZV, getElem?_map→ZT, length_take→ZR, map_append→ZP, length_nil→ZO, append_assoc→ZM, append_nil→ZH, getElem?_eq_none→ZG, getElem?_append_right→ZF, size_toArray→ZC, length_singleton→ZA, ext_getElem?→Zu, map_cons→Zt, take_length→Zp, length→Zf, mem_map_of_mem→Zd, nil_append→Y4, range→YW, pairwise_singleton→YS, not_mem_nil→YI, mem_singleton→YB
open Nat renaming le_refl→Z5, zero_le→ZN, le_trans→ZE, zero_add→Zh, lt_or_ge→YL
open Go.RowKit.Below renaming refl→ZX, heap_setCell→Zo
open Option renaming map_some→Zx
open Prod renaming fst→Zw
open Array renaming length_toList→Y8, replicate→Y3, getElem?_toList→YQ, getElem?_eq_getElem→YE
namespace Go.Proofs.YtmkkppknaikjjaaGreatDoor
section
open Go Go.RowKit
def qH (l:List ak)(k m:Nat)(x:ah)(i:Nat):Prop:=(i < k∧x∈cZ l i)∨(i=k∧x∈(cZ l k).take m)
theorem qH.ids {l:List ak}{k m i:Nat}{x:ah}(h:qH l k m x i):x∈cZ l i:=by
 rcases h with ⟨_,h⟩ | ⟨rfl,h⟩
 ·exact h
 ·exact List.mem_of_mem_take h
theorem qH.lt {l:List ak}{k m i:Nat}{x:ah}(h:qH l k m x i):i < l.length:=KD (En.1 h.ids)
theorem seen_none {l:List ak}{x:ah}{i:Nat}:¬ qH l 0 0 x i:=by
 rintro (⟨h,_⟩ | ⟨_,h⟩)
 ·omega
 ·simp at h
theorem Vd {l:List ak}{k:Nat}{x:ah}{i:Nat}:qH l k (cZ l k).length x i ↔ qH l (k + 1) 0 x i:=by
 unfold qH;rw [Zp,List.take_zero];constructor
 ·rintro (⟨h1,h2⟩ | ⟨rfl,h2⟩)
  ·exact .inl ⟨by omega,h2⟩
  ·exact .inl ⟨by omega,h2⟩
 ·rintro (⟨h1,h2⟩ | ⟨_,h2⟩)
  ·by_cases e:i=k
   ·subst e;exact .inr ⟨rfl,h2⟩
   ·exact .inl ⟨by omega,h2⟩
  ·cases h2
theorem EI {l:List ak}{k m:Nat}{x y:ah}{i:Nat}(h:(cZ l k)[m]? =some y):qH l k (m + 1) x i ↔ qH l k m x i∨(i=k∧x=y):=by
 unfold qH;rw [take_snoc h,List.mem_append,YB];constructor
 ·rintro (h | ⟨h1,h2 | h2⟩)
  ·exact .inl (.inl h)
  ·exact .inl (.inr ⟨h1,h2⟩)
  ·exact .inr ⟨h1,h2⟩
 ·rintro ((h | ⟨h1,h2⟩) | ⟨h1,h2⟩)
  ·exact .inl h
  ·exact .inr ⟨h1,.inl h2⟩
  ·exact .inr ⟨h1,.inr h2⟩
structure jM (r:aP) (l:List ak) (p:List Nat) (k m:Nat) (L:List (ah×Nat)):Prop where
 nd:(L.map Zw).Nodup
 of:∀ x n,aT x L=some n→mD r l x=true∧∃ i,qH l k m x i∧p[i]? =some n
 le:∀ x i q,mD r l x=true→qH l k m x i→p[i]? =some q→∃ n,aT x L=some n∧n≤q
theorem jM.start (r:aP)(l:List ak)(p:List Nat):jM r l p 0 0 [] :=
 ⟨by simp,fun x n h=>by simp [aT] at h,fun x i q _ h=>absurd h seen_none⟩
theorem jM.next {r:aP}{l:List ak}{p:List Nat}{k:Nat}{L:List (ah×Nat)}(h:jM r l p k (cZ l k).length L):jM r l p (k + 1) 0 L :=
 ⟨h.nd,fun x n e=>by
  obtain ⟨a,i,b,c⟩:=h.of x n e;exact ⟨a,i,Vd.1 b,c⟩,fun x i q a b c=>h.le x i q a (Vd.2 b) c⟩
theorem jM.put {r:aP}{l:List ak}{p:List Nat}{k m:Nat}{L:List (ah×Nat)}(h:jM r l p k m L){y:ah}(hy:(cZ l k)[m]? =some y)(hj:mD r l y=true){q:Nat}(hq:p[k]? =some q)(hlt:∀ n,aT y L=some n→q < n):jM r l p k (m + 1) (bI y q L):=by
 refine ⟨KC h.nd,fun x n e=>?_,fun x i q' a b c=>?_⟩
 ·rw [tY] at e;by_cases exy:x=y
  ·subst exy;rw [if_pos rfl] at e;obtain rfl:=Option.some.inj e;exact ⟨hj,k,(EI hy).2 (.inr ⟨rfl,rfl⟩),hq⟩
  ·rw [if_neg exy] at e;obtain ⟨a,i,b,c⟩:=h.of x n e;exact ⟨a,i,(EI hy).2 (.inl b),c⟩
 ·rw [tY];by_cases exy:x=y
  ·subst exy;rw [if_pos rfl];refine ⟨q,rfl,?_⟩;rcases (EI hy).1 b with b | ⟨rfl,_⟩
   ·obtain ⟨n,e1,e2⟩:=h.le x i q' a b c;have:=hlt n e1
    omega
   ·rw [hq] at c;obtain rfl:=Option.some.inj c;exact Z5 _
  ·rw [if_neg exy];rcases (EI hy).1 b with b | ⟨_,e⟩
   ·exact h.le x i q' a b c
   ·exact absurd e exy
theorem jM.skip {r:aP}{l:List ak}{p:List Nat}{k m:Nat}{L:List (ah×Nat)}(h:jM r l p k m L){y:ah}(hy:(cZ l k)[m]? =some y){q:Nat}(hq:p[k]? =some q)(hn:mD r l y=true→∃ n,aT y L=some n∧n≤q):jM r l p k (m + 1) L:=by
 refine ⟨h.nd,fun x n e=>?_,fun x i q' a b c=>?_⟩
 ·obtain ⟨a,i,b,c⟩:=h.of x n e;exact ⟨a,i,(EI hy).2 (.inl b),c⟩
 ·rcases (EI hy).1 b with b | ⟨rfl,rfl⟩
  ·exact h.le x i q' a b c
  ·rw [hq] at c;obtain rfl:=Option.some.inj c;exact hn a
structure Falls (r:aP) (l:List ak) (p:List Nat) (L:List (ah×Nat)) (k m:Nat) (q:List Nat) (ch:Bool):Prop where
 st:Stand l.length (Edge r l) q
 no:ch=false→q=p∧∀ x i n a,qH l k m x i→aT x L=some n→p[i]? =some a→a≤n
 yes:ch=true→q.sum < p.sum
theorem Falls.start {r:aP}{l:List ak}{p:List Nat}(L:List (ah×Nat))(h:Stand l.length (Edge r l) p):Falls r l p L 0 0 p false :=
 ⟨h,fun _=>⟨rfl,fun _ _ _ _ a=>absurd a seen_none⟩,fun e=>by cases e⟩
theorem Falls.next {r:aP}{l:List ak}{p q:List Nat}{L:List (ah×Nat)}{k:Nat}{ch:Bool}(h:Falls r l p L k (cZ l k).length q ch):Falls r l p L (k + 1) 0 q ch :=
 ⟨h.st,fun e=>⟨(h.no e).1,fun x i n a b c d=>(h.no e).2 x i n a (Vd.2 b) c d⟩,h.yes⟩
theorem acR:∀ {q:List Nat} {k a n:Nat},q[k]? =some a→n < a→(q.set k n).sum < q.sum
 | [],_,_,_,h,_=>by simp at h
 | x::r,0,a,n,h,hn=>by
  obtain rfl:x=a:=by simpa using h
  simp;omega
 | x::r,k + 1,a,n,h,hn=>by
  have:=acR (q:=r) (k:=k) (by simpa using h) hn
  simp;omega
theorem Falls.put {r:aP}{l:List ak}{p q:List Nat}{L:List (ah×Nat)}{K M k m:Nat}{ch:Bool}(h:Falls r l p L k m q ch)(hp:Stand l.length (Edge r l) p)(hL:jM r l p K M L){y:ah}(hy:(cZ l k)[m]? =some y){a n:Nat}(ha:q[k]? =some a)(hn:aT y L=some n)(hlt:n < a):Falls r l p L k (m + 1) (q.set k n) true:=by
 have hle:=h.st.le k a ha;refine ⟨h.st.set (by omega) ?_,(fun e=>by cases e),fun _=>?_⟩
 ·obtain ⟨hj,i,hs,hi⟩:=hL.of y n hn;have hk:k < l.length:=by rw [← h.st.len];exact bM ha
  exact (lZ.one hk hs.lt ⟨y,hj,Z7 hy,hs.ids⟩).trans (hp.conn i n hi)
 ·have h1:=acR ha hlt;cases ch with
  | false=>rw [(h.no rfl).1] at h1 ⊢;exact h1
  | true=>have:=h.yes rfl;omega
theorem Falls.skip {r:aP}{l:List ak}{p q:List Nat}{L:List (ah×Nat)}{k m:Nat}{ch:Bool}(h:Falls r l p L k m q ch){y:ah}(hy:(cZ l k)[m]? =some y){a:Nat}(ha:q[k]? =some a)(hn:∀ n,aT y L=some n→a≤n):Falls r l p L k (m + 1) q ch:=by
 refine ⟨h.st,fun e=>⟨(h.no e).1,fun x i n b hs hg hb=>?_⟩,h.yes⟩;rcases (EI hy).1 hs with hs | ⟨rfl,rfl⟩
 ·exact (h.no e).2 x i n b hs hg hb
 ·rw [(h.no e).1,hb] at ha;obtain rfl:=Option.some.inj ha;exact hn n hg
theorem O1 {l:List ak}{x:ah}{i:Nat}(h:x∈cZ l i):qH l l.length 0 x i:=.inl ⟨KD (En.1 h),h⟩
theorem Falls.part {r:aP}{l:List ak}{p q:List Nat}{L:List (ah×Nat)}(h:Falls r l p L l.length 0 q false)(hL:jM r l p l.length 0 L):q=p∧iO l.length (Edge r l) (dX p):=by
 obtain ⟨rfl,hno⟩:=h.no rfl;refine ⟨rfl,h.st.part fun i j hi hj ⟨x,hx,h1,h2⟩=>?_⟩;have hg:∀ i,i < l.length→q[i]? =some (dX q i):=fun i hi=>by
  unfold dX;rw [List.getD_eq_getElem?_getD,Z8 (by rw [h.st.len];exact hi)];rfl
 obtain ⟨n,e1,e2⟩:=hL.le x i _ hx (O1 h1) (hg i hi);obtain ⟨n',e3,e4⟩:=hL.le x j _ hx (O1 h2) (hg j hj);rw [e1] at e3;obtain rfl:=Option.some.inj e3;have a1:=hno x i n _ (O1 h1) e1 (hg i hi);have a2:=hno x j n _ (O1 h2) e1 (hg j hj);omega
section
variable {κ:Type} [DecidableEq κ] {β γ:Type}
theorem Ve (f:β→γ)(k:κ):∀ L:List (κ×β),aT k (L.map fun p=>(p.1,f p.2))=(aT k L).map f
 | []=>rfl
 | p::r=>by
  rw [Zt,aT,aT,Ve f k r];split <;> rfl
theorem Vf (f:β→γ)(k:κ)(v:β):∀ L:List (κ×β),bI k (f v) (L.map fun p=>(p.1,f p.2))=(bI k v L).map fun p=>(p.1,f p.2)
 | []=>rfl
 | p::r=>by
  rw [Zt,bI,bI,Vf f k v r];split <;> rfl
end
end
section
open Go Go.RowKit
structure GN (r:aP) (ts:List ak):Prop where
 wl:r.weak.length≤1000000
 kl:r.kinds.length≤1000000
 tl:ts.length≤1000000
 up:∀ t∈ts,oJ t.ids
 il:∀ t∈ts,t.ids.length≤1000000
 ne:∀ t∈ts,t.ids≠[]
 tb:ts.length≤2000
 ib:∀ t∈ts,t.ids.length≤10
theorem lM.on {r:aP}{ts:List ak}(h:lM r ts):GN r ts:=⟨h.wl,h.kl,h.tl,h.up,h.il,h.ne,h.tb,h.ib⟩
theorem GN.cZ {r:aP}{ts:List ak}(h:GN r ts)(i:Nat):(cZ ts i).length≤10:=by
 unfold Go.Proofs.YtmkkppknaikjjaaGreatDoor.cZ;cases e:ts[i]? with
 | none=>simp
 | some t=>exact h.ib t (Z7 e)
end
section
open Go Go.RowKit
theorem JK {κ:Type}[DecidableEq κ]{β:Type}(k:κ)(u v:β):∀ L:List (κ×β),bI k u (bI k v L)=bI k u L
 | []=>by simp [bI]
 | p::r=>by
  rw [bI];by_cases h:p.1=k
  ·rw [if_pos h,bI,if_pos rfl,bI,if_pos h]
  ·rw [if_neg h,bI,if_neg h,JK k u v r,bI,if_neg h]
def jh (p:ah×List Nat):ah×Value:=(p.1,Value.int .i64 (p.2.length:Nat))
theorem ak8 (x:ah)(L:List (ah×List Nat)):aT x (L.map jh)=(aT x L).map (fun js=>Value.int .i64 (js.length:Nat)):=Ve (fun js:List Nat=>Value.int .i64 (js.length:Nat)) x L
theorem ak9 (x:ah)(js:List Nat)(L:List (ah×List Nat)):bI x (Value.int .i64 (js.length:Nat)) (L.map jh)=(bI x js L).map jh:=Vf (fun js:List Nat=>Value.int .i64 (js.length:Nat)) x js L
theorem acS (x:ah)(L:List (ah×List Nat)):(aT x (L.map jh)).getD (.int .i64 0)=.int .i64 (((aT x L).getD []).length:Nat):=by
 rw [ak8];cases aT x L <;> rfl
theorem acT (x:ah)(k:Nat)(L:List (ah×List Nat)):bI x (Value.int .i64 ((((aT x L).getD []).length:Nat) + 1)) (L.map jh)=(uh L k x).map jh:=by
 unfold uh;rw [← ak9,Z4,ZA];rfl
section
variable {w0 w:World} {cs:List Chunk} {ops:Array Oper} {rest:List Oper} {o:Oper} {a:Act} {Q:Exit→Act→World→Prop} {κ:Type} [DecidableEq κ]
theorem Mem.aaF {K:gu κ}(S:Mem w0 w cs)(i:Nat){X:Nat}{L:List (κ×Value)}{k:κ}{st:Nat}(hi:cs[i]? =some (.ent K X L k st)){T E:TypeId}(hT:Tryz.prog.underlying T=some (.map K.ty E)){z:Value}(hz:∀ w,(zeroValue E).run Tryz.prog w=.ok z w)
  (hgd:o.guard=none) (m x:Operand) (ok:Bool) (hop:o.op=.lookup T m x ok) (hm:a.eval m=.map (some X)) (y:κ) (hx:a.eval x=K.kv y) (h:wpList Tryz.prog ops Q rest (a.put o.dst (if ok then .tuple #[(aT y L).getD z,.bool (aT y L).isSome] else (aT y L).getD z)) w):wpList Tryz.prog ops Q (o::rest) a w:=by
 obtain ⟨es,clock,j,e,hb,he,_⟩:=S.ok _ (Z7 hi);have hrun:=tJ ⟨es,clock,hb,he⟩ hT (hz w) y ok;refine wpList_plain hgd fun K' hK'=>?_;unfold Oper.wp;simp only [execOp,hop,hm,hx,hrun,Sem.run_bind,Sem.run_pure,Result.andThen_ok];exact hK' _ _ h
end
theorem xu (w:World):(zeroValue 3).run Tryz.prog w=.ok (.int .i64 0) w:=by kernel_rfl
def jv (r:aP)(x:ah)(n:Nat):Bool:=decide (x.k∈r.kinds) && !decide (x∈r.weak) && decide ((n:Int)≤r.most)
theorem gY.keys {κ:Type}[DecidableEq κ]{K:gu κ}{es:Array MapEntry}{clock:Nat}{seen:Array Nat}{L done left:List (κ×Value)}(h:gY K es clock seen L done left):(done.map Zw).Nodup:=by
 have h1:=(h.perm.map Zw).nodup_iff.2 h.ok.nd;rw [ZP] at h1;exact (List.nodup_append.1 h1).1
theorem La (L:List (ah×List Nat)):(L.map jh).map Zw=L.map Zw:=by rw [List.map_map];rfl
theorem Vg {κ:Type}[DecidableEq κ]{β:Type}{L:List (κ×β)}{x:κ}{v:β}(h:((L++[(x,v)]).map Zw).Nodup)(y:κ):aT y (L++[(x,v)])=if y=x then some v else aT y L:=by
 rw [ZP,List.nodup_append] at h;have hx:x ∉ L.map Zw:=fun hx=>h.2.2 x hx x (by simp) rfl;rw [← vU hx,tY]
theorem ala {r:aP}{ts:List ak}{q0 dq:List (ah×List Nat)}(hO:gB ts ts.length [] q0)(hd:∀ q∈dq,q∈q0)(hp:(dq.map jh).Perm (q0.map jh))(x:ah) :
  (aT x dq).map (fun js=>Value.bool (jv r x js.length))=if hav ts x=[] then none else some (.bool (mD r ts x)):=by
 have h2:=hO.2 x;rw [Zp] at h2;simp only [YI,if_false,ZH] at h2;have hk:(dq.map Zw).Nodup:=by
  have h1:=(hp.map Zw).nodup_iff.2 (by rw [La];exact hO.1);rw [La] at h1;exact h1
 by_cases hh:hav ts x=[]
 ·rw [if_pos hh];rw [hh] at h2;have h3:aT x q0=none:=h2;have h4:aT x dq=none:=qY.2 (fun hx=>by
   obtain ⟨q,hq,e⟩:=List.mem_map.1 hx;exact qY.1 h3 (by rw [← e];exact Zd (hd q hq)))
  rw [h4];rfl
 ·rw [if_neg hh];have h3:aT x q0=some (hav ts x):=by rw [h2];unfold some1;rw [if_neg hh]
  have hm:=Ud h3;have hm2:jh (x,hav ts x)∈dq.map jh:=hp.mem_iff.2 (Zd hm);obtain ⟨q,hq,e⟩:=List.mem_map.1 hm2;have ex:q.1=x:=congrArg Zw e;obtain ⟨i,hi⟩:=List.mem_iff_getElem?.1 (hd q hq);have h5:=(kR hO.1 (j:=i) (k:=q.1) (v:=q.2) hi).1;rw [ex,h3] at h5;have eq2:q.2=hav ts x:=(Option.some.inj h5).symm;obtain ⟨j,hj⟩:=List.mem_iff_getElem?.1 hq;have h6:=(kR hk (j:=j) (k:=q.1) (v:=q.2) hj).1;rw [ex,eq2] at h6;rw [h6];rfl
def alb (r:aP)(ts:List ak)(w:World)(e:Ending)(w':World):Prop :=
 ∃ (X:Nat) (L:List (ah×Value)),e=.returned (.map (some X))∧(∀ x,aT x L=if hav ts x=[] then none else some (.bool (mD r ts x)))∧Mem w w' [.aJ aU X L]
theorem alc {ts:List ak}{k:Nat}{xs:List ah}{L:List (ah×List Nat)}(h:gB ts k xs L)(x:ah):((aT x L).getD []).length≤ts.length + 1:=by
 rw [h.2 x,Uh,Z4];have h2:=Ug (ts.take k) x;rw [ZR] at h2;have h3:(if x∈xs then [k] else []).length≤1:=by split <;> simp
 omega
theorem ald (N:Nat→Prop)(r:aP)(K W S A:Option Addr)(ck cw cs c:Nat)(ts:List ak)(w:World)(hR:kN N w r K W S)(hT:Sl fU N w A ts)(ho:GN r ts) :
  Calls Tryz.prog 75 #[.agg (aN r K ck W cw S cs),.slice A ts.length c] w (alb r ts w):=by
 have HR:=Z9 (fun w' (h:Below w.heap.size w w')=>hR.aK h);have HT:=Z9 (fun w' (h:Below w.heap.size w w')=>hT.aK h);have Ho:=Z9 ho;have hl:=ho.tl;have hmm:=@run_makeMap Tryz.prog;obtain ⟨Y,hY⟩:∃ Y,Y=w.heap.size:=⟨_,rfl⟩;obtain ⟨X,hX⟩:∃ X,X=w.heap.size + 1:=⟨_,rfl⟩;have S0:Mem w _ [.loc Y (aN r K ck W cw S cs) 29,.aJ aU X []]:=((Mem.start w).newAt (aN r K ck W cw S cs) 29 Y hY).zD aU X (by rw [uU];exact hX);have Hy:=Z9 hY;have Hx:=Z9 hX;clear hR hT ho hY hX;go_enter Tryz.func75,Tryz.ntmps75
 go_upto_region 2 with fail
 rw [← Hx.out,← Hy.out];clear hmm;generalize World.alloc _ _=w1 at S0 ⊢;replace S0:Mem w w1 (.loc Y (aN r K ck W cw S cs) 29::.aJ aU X (([]:List (ah×List Nat)).map jh)::[]):=S0;go_wp2_with fail
 go_loopw [16] (fun i wr=>∃ (k:Nat) (q1:List (ah×List Nat)),k≤ts.length∧i=.int .i64 k∧Hid (gB ts k [] q1)∧Mem w wr (.loc Y (aN r K ck W cw S cs) 29::.aJ aU X (q1.map jh)::[])) (fun i _=>ts.length - (intOf i).toNat)
 case atStart=>exact ⟨0,[],ZN _,rfl,gB.start ts,S0⟩
 case round =>
  clear S0;obtain ⟨k,q0,hk,rfl,HO,S2⟩:=hrel;by_cases hlt:k < ts.length
  ·obtain ⟨t,ht⟩:∃ t,ts[k]? =some t:=⟨_,Z8 hlt⟩;obtain ⟨blk,off,Ai,ci,Af,cf,rfl,hblk,d0,d1,d2,d3,d4,hi,hf⟩:=(HT.out w (ZX _ _)).aC k t ht;have hcl:=fun (p:Addr) (hp:p.block < w.heap.size)=>S2.b.cell hp;rw [← hcl _ hblk] at d0 d1 d2 d3 d4;clear hcl;have HI:=Z9 (fun w' (h:Below w.heap.size w w')=>hi.aK h);have hil:t.ids.length≤10:=Ho.out.ib t (Z7 ht);have Hnd:=Z9 ((Ho.out.up t (Z7 ht)).nodup);have Ht:=Z9 ht;clear hi hf ht;go_upto_region 5 with fail
   clear d0 d1 d2 d3 d4;obtain ⟨U,hU⟩:∃ U,U=wr.heap.size:=⟨_,rfl⟩;have S3:Mem w _ (.loc U (aS t Ai ci Af cf) 58::.loc Y (aN r K ck W cw S cs) 29::.aJ aU X (q0.map jh)::[]):=(S2.newAt (aS t Ai ci Af cf) 58 U hU).front;rw [← hU];clear hU S2;generalize wr.alloc (.cells (aS t Ai ci Af cf) 58)=w4 at *;have y0:=(S3.lv 0 rfl).all;go_wp2_with fail
   clear y0;go_loopw [23] (fun i wr=>∃ (m:Nat) (q1:List (ah×List Nat)),m≤t.ids.length∧i=.int .i64 m∧Hid (gB ts k (t.ids.take m) q1)∧Mem w wr (.loc U (aS t Ai ci Af cf) 58::.loc Y (aN r K ck W cw S cs) 29::.aJ aU X (q1.map jh)::[])) (fun i _=>t.ids.length - (intOf i).toNat)
   case atStart=>exact ⟨0,q0,ZN _,rfl,HO.out,S3⟩
   case round =>
    clear S3 HO;obtain ⟨m,q1,hm,rfl,HO,S3⟩:=hrel;by_cases hlt2:m < t.ids.length
    ·obtain ⟨x,hx⟩:∃ x,t.ids[m]? =some x:=⟨_,Z8 hlt2⟩;obtain ⟨ib,io,rfl,hib,c0,c1⟩:=(HI.out wr S3.b).qx m x hx;have qI:=Z9 hx;have hvl:=alc HO.out x;clear hx;go_upto_region 8 with fail
     clear c0 c1;obtain ⟨Z,hZ⟩:∃ Z,Z=wr.heap.size:=⟨_,rfl⟩;have S4:Mem w _ (.loc Z #[.int .i64 x.k,.string x.t] 46::.loc U (aS t (some ⟨ib,io,none⟩) ci Af cf) 58::.loc Y (aN r K ck W cw S cs) 29::.aJ aU X (q1.map jh)::[]):=(S3.newAt #[.int .i64 x.k,.string x.t] 46 Z hZ).front;rw [← hZ];clear hZ S3;generalize wr.alloc (.cells #[.int .i64 x.k,.string x.t] 46)=w5 at *;go_upto_region 8 with fail
     refine wJ [6] (fun w'=>LV w' Z #[.int .i64 x.k,.string x.t] 46) (.p 0 (.q 1 (.e2 2 (.p 3 (.e 4 (.p 5 (.b 6 .z)))) 4 (.p 5 (.e 2 (.p 3 (.b 6 .z))))))) (by kernel_rfl) (by kernel_rfl) (fun w' hd=>(S4.below (hd.below _)).lv 0 rfl) (fun KK aF wd hd=>?_);have S5:Mem w wd (.loc Z #[.int .i64 x.k,.string x.t] 46::.loc U (aS t (some ⟨ib,io,none⟩) ci Af cf) 58::.loc Y (aN r K ck W cw S cs) 29::.aJ aU X (q1.map jh)::[]):=S4.below (hd.below _);clear hd S4;refine dN ?_;refine jc (.agg #[.int .i64 x.k,.string x.t]) rfl rfl rfl rfl (fun w' h=>gU (h.cell 0 _ rfl) (h.cell 1 _ rfl)) ?_;go_simp;refine EW (qM rfl rfl (fun K9 hK9=>?_)) (qM rfl rfl (fun K9 hK9=>?_))
     ·refine S5.SB 3 rfl (T:=135) (E:=3) (by kernel_rfl) xu rfl _ _ false rfl rfl x rfl ?_;rw [if_neg (by decide),acS];go_wp2_with fail
      refine ⟨S5.lv 0 rfl,?_⟩;have hwr:IntKind.i64.wrap ((((aT x q1).getD []).length:Nat) + 1)=(((aT x q1).getD []).length:Nat) + 1:=IntWalk.i64_in _ (by omega);refine dN ?_;refine gX rfl rfl (fun K9 hK9=>?_);refine S5.JI (K:=aU) 3 rfl (T:=135) (E:=3) (by kernel_rfl) xu rfl _ _ rfl rfl x rfl ?_;intro st w7 S7 _;have sD:=S7.lv 0 rfl;clear S5;go_wp2_with fail
      refine ⟨sD,?_⟩;clear sD;refine dN ?_;refine BG rfl rfl (fun K9 hK9=>?_);refine S7.JJ 3 rfl rfl _ _ _ rfl rfl rfl (.int .i64 ((((aT x q1).getD []).length:Nat) + 1)) rfl ?_;intro w9 S9;rw [JK,acT] at S9;have eU:Hid (Mem w w9 (.loc Z #[.int .i64 x.k,.string x.t] 46::.loc U (aS t (some ⟨ib,io,none⟩) ci Af cf) 58::.loc Y (aN r K ck W cw S cs) 29::.aJ aU X ((uh q1 k x).map jh)::[])):=S9;clear S9 S7;go_wp2_with fail
      refine ⟨trivial,?_⟩;refine rJ ?_;simp only [Exit.then];refine aF _ _ ?_;clear aF KK;have aZ:=eU.out.del 0;have su:Hid (gB ts k (t.ids.take (m + 1)) (uh q1 k x)):=by
       show gB _ _ _ _;rw [take_snoc qI.out];exact HO.out.add (Ut Hnd.out qI.out)
      clear eU HO;go_wp2_with fail
      go_roundw
      case rel=>exact ⟨m + 1,uh q1 k x,by omega,by go_num,su.out,aZ⟩
      case measure=>simp [intOf];omega
     ·refine S5.JI (K:=aU) 3 rfl (T:=135) (E:=3) (by kernel_rfl) xu rfl _ _ rfl rfl x rfl ?_;intro st w7 S7 _;have sD:=S7.lv 0 rfl;clear S5;go_wp2_with fail
      refine ⟨sD,?_⟩;refine dN ?_;refine gX rfl rfl (fun K9 hK9=>?_);refine S7.aaF 3 rfl (T:=135) (E:=3) (by kernel_rfl) xu rfl _ _ false rfl rfl x rfl ?_;rw [if_neg (by decide),tY,if_pos rfl,Option.getD_some,acS];have hwr:IntKind.i64.wrap ((((aT x q1).getD []).length:Nat) + 1)=(((aT x q1).getD []).length:Nat) + 1:=IntWalk.i64_in _ (by omega);go_wp2_with fail
      refine ⟨sD,?_⟩;clear sD;refine dN ?_;refine BG rfl rfl (fun K9 hK9=>?_);refine S7.JJ 3 rfl rfl _ _ _ rfl rfl rfl (.int .i64 ((((aT x q1).getD []).length:Nat) + 1)) rfl ?_;intro w9 S9;rw [JK,acT] at S9;have eU:Hid (Mem w w9 (.loc Z #[.int .i64 x.k,.string x.t] 46::.loc U (aS t (some ⟨ib,io,none⟩) ci Af cf) 58::.loc Y (aN r K ck W cw S cs) 29::.aJ aU X ((uh q1 k x).map jh)::[])):=S9;clear S9 S7;go_wp2_with fail
      refine ⟨trivial,?_⟩;refine rJ ?_;simp only [Exit.then];refine aF _ _ ?_;clear aF KK;have aZ:=eU.out.del 0;have su:Hid (gB ts k (t.ids.take (m + 1)) (uh q1 k x)):=by
       show gB _ _ _ _;rw [take_snoc qI.out];exact HO.out.add (Ut Hnd.out qI.out)
      clear eU HO;go_wp2_with fail
      go_roundw
      case rel=>exact ⟨m + 1,uh q1 k x,by omega,by go_num,su.out,aZ⟩
      case measure=>simp [intOf];omega
    ·obtain rfl:m=t.ids.length:=by omega
     have su:Hid (gB ts (k + 1) [] q1):=gB.next Ht.out (by have:=HO.out;rw [Zp] at this;exact this);have S9:=S3.del 0;clear S3 HO;go_wp2_with fail
     go_roundw
     case rel=>exact ⟨k + 1,q1,by omega,by go_num,su.out,S9⟩
     case measure=>simp [intOf];omega
  ·obtain rfl:k=ts.length:=by omega
   obtain ⟨es,clock,hE,S3⟩:=S2.aiE 1 rfl;have HE:=Z9 hE;have hmm:=@run_makeMap Tryz.prog;obtain ⟨X2,hX2⟩:∃ X2,X2=wr.heap.size:=⟨_,rfl⟩;have S4:Mem w (wr.alloc (.map #[] 0)) [.loc Y (aN r K ck W cw S cs) 29,.xH X es clock,.aJ aU X2 []]:=S3.zD aU X2 hX2;have Hx2:=Z9 hX2;clear S2 S3 hE hX2;go_upto_region 12 with fail
   rw [← Hx2.out];generalize wr.alloc (.map #[] 0)=w3 at *;obtain ⟨hrg,S5⟩:=S4.aiF 1 rfl (T:=135) (k:=46) (e:=3) (by kernel_rfl);obtain ⟨Z,hZ⟩:∃ Z,Z=w3.heap.size:=⟨_,rfl⟩;rw [← hZ] at hrg S5;replace S5:Mem w (w3.alloc (.mapIter (some X) clock #[] clock)) [.loc Y (aN r K ck W cw S cs) 29,.xH X es clock,.aJ aU X2 [],.iter Z X clock #[] clock]:=S5;clear hmm hZ S4;go_wp2_with fail
   clear hrg;generalize w3.alloc (.mapIter (some X) clock #[] clock)=w4 at *;have HR0:Hid (gY aU es clock #[] (q0.map jh) (([]:List (ah×List Nat)).map jh) (q0.map jh)):=gY.start HE.out;go_loopw [12] (fun _ wr=>∃ (seen:Array Nat) (dq:List (ah×List Nat)) (left:List (ah×Value)) (L2:List (ah×Value)),Hid (∀ q∈dq,q∈q0)∧Hid (gY aU es clock seen (q0.map jh) (dq.map jh) left)∧Hid (∀ x,aT x L2=(aT x dq).map (fun js=>Value.bool (jv r x js.length)))∧Mem w wr [.loc Y (aN r K ck W cw S cs) 29,.xH X es clock,.aJ aU X2 L2,.iter Z X clock seen clock]) (fun _ wr=>wQ es Z wr)
   case atStart=>exact ⟨#[],[],_,[],(fun q hq=>by cases hq),HR0.out,(fun x=>rfl),S5⟩
   case round =>
    clear S5 HR0;obtain ⟨seen,dq,left,L2,Gs,mP,HL2,S3⟩:=hrel;have hsz3:Hid (wQ es Z wr=left.length):=S3.uH 3 rfl mP.out;rcases S3.aiG 1 3 rfl rfl (Z5 _) mP.out with ⟨hl0,hp0,hnx⟩ | ⟨pq,left',seen',w5,hpm,hll,hrg,hnx,hen,S5⟩
    ·have HF:Hid (∀ x,aT x L2=if hav ts x=[] then none else some (.bool (mD r ts x))):=fun x=>by rw [HL2.out x];exact ala HO.out Gs.out hp0 x
     have yj:Hid (Mem w wr [.aJ aU X2 L2]):=((S3.del 3).del 1).del 0;clear hp0 hl0 S3 HL2 mP hsz3;go_wp2_with fail
     go_ret;exact ⟨X2,L2,rfl,HF.out,yj.out⟩
    ·obtain ⟨q,hq,rfl⟩:∃ q∈q0,jh q=pq:=by
      have:=mP.out.perm.mem_iff.1 (List.mem_append_right _ hpm)
      obtain ⟨q,hq,e⟩:=List.mem_map.1 this;exact ⟨q,hq,e⟩
     obtain ⟨x,js⟩:=q;have kS:Hid (gY aU es clock seen' (q0.map jh) ((dq++[(x,js)]).map jh) left'):=by
      show gY _ _ _ _ _ _ _;rw [ZP];exact hrg
     have Hll:=Z9 hll;have Gv:Hid (∀ q∈dq++[(x,js)],q∈q0):=fun q' hq'=>by
      rcases List.mem_append.1 hq' with hq' | hq'
      ·exact Gs.out q' hq'
      ·rw [List.mem_singleton.1 hq'];exact hq
     have hnx2:∀ ty,(Instr.next (.pointer (some ⟨Z,0,none⟩)) false ty).run Tryz.prog wr=.ok (.tuple #[.bool true,.agg #[.int .i64 x.k,.string x.t],.int .i64 (js.length:Nat)]) w5:=hnx;have CQ:(Instr.entry (.pointer (some ⟨Z,0,none⟩))).run Tryz.prog w5=.ok (.tuple #[.agg #[.int .i64 x.k,.string x.t],.int .i64 (js.length:Nat)]) w5:=hen;clear hnx hen S3 hpm hll hrg hq;go_upto_region 15 with fail
     clear hnx2 CQ;obtain ⟨V,hV⟩:∃ V,V=w5.heap.size:=⟨_,rfl⟩;have S6:Mem w (w5.alloc (.cells #[.int .i64 x.k,.string x.t] 46)) [.loc V #[.int .i64 x.k,.string x.t] 46,.loc Y (aN r K ck W cw S cs) 29,.xH X es clock,.aJ aU X2 L2,.iter Z X clock seen' clock]:=(S5.newAt #[.int .i64 x.k,.string x.t] 46 V hV).front;rw [← hV];clear hV S5;generalize w5.alloc (.cells #[.int .i64 x.k,.string x.t] 46)=w6 at *;obtain ⟨kc,GR⟩:∃ kc,Hid (r.kinds.contains x.k=kc):=⟨_,Z9 rfl⟩;obtain ⟨wk,Lc⟩:∃ wk,Hid (decide (x∈r.weak)=wk):=⟨_,Z9 rfl⟩;cases kc
     ·refine dF (fun w'=>LV w' Y (aN r K ck W cw S cs) 29∧LV w' V #[.int .i64 x.k,.string x.t] 46) [(true,0),(true,1),(true,2),(true,3),(true,4),(true,5),(false,6),(true,7),(true,8),(true,9),(true,10),(false,11),(true,12),(true,13),(true,14),(true,15),(true,16),(true,17),(true,18),(true,19),(false,20)] (by kernel_rfl) (by kernel_rfl) (fun w' hd=>⟨(S6.below (hd.below _)).lv 1 rfl,(S6.below (hd.below _)).lv 0 rfl⟩) (fun KK aF wd hd=>?_);have S7:=S6.below (hd.below _);have hC:LV wd Y (aN r K ck W cw S cs) 29∧LV wd V #[.int .i64 x.k,.string x.t] 46:=⟨S7.lv 1 rfl,S7.lv 0 rfl⟩;clear hd S6;refine aA ?_;refine bV (.agg #[.int .i64 x.k,.string x.t]) rfl rfl rfl (fun w' h=>gU (h.2.cell 0 _ rfl) (h.2.cell 1 _ rfl)) ?_;refine aA ?_;refine bV (.slice K r.kinds.length ck) rfl rfl rfl (fun w' h=>eX rfl (h.1.cell 0 _ rfl)) ?_;refine aA ?_;refine bV (.int .i64 x.k) rfl rfl rfl (fun w' h=>eX rfl (h.2.cell 0 _ rfl)) ?_;refine aV rfl (fun K9 hK9=>?_) hC;have gW:=Z9 (Ih N K r.kinds ck r.kinds.length x.k wd (HR.out wd S7.b).kd (Z5 _) Ho.out.kl);rw [Zp,GR.out] at gW;go_wp2_with fail
      refine (gW.out).mono ?_;rintro e _ ⟨rfl,rfl⟩;clear gW;go_wp2_with fail
      refine ⟨hC,?_⟩;refine aA ?_;refine aV rfl (fun K9 hK9=>?_) hC;go_wp2_with fail
      refine ⟨hC,?_⟩;refine aA ?_;refine aV rfl (fun K9 hK9=>?_) hC;go_simp;refine S7.wP 3 rfl (T:=133) (E:=4) (by kernel_rfl) rfl _ _ _ rfl rfl x rfl (.bool (false)) rfl ?_;intro w9 S9;have eU:Hid (Mem w w9 [.loc V #[.int .i64 x.k,.string x.t] 46,.loc Y (aN r K ck W cw S cs) 29,.xH X es clock,.aJ aU X2 (bI x (.bool (false)) L2),.iter Z X clock seen' clock]):=S9;have lS:LV w9 Y (aN r K ck W cw S cs) 29∧LV w9 V #[.int .i64 x.k,.string x.t] 46:=⟨eU.out.lv 1 rfl,eU.out.lv 0 rfl⟩;clear S9 S7 hC;go_wp2_with fail
      refine ⟨lS,?_⟩;refine dG ?_;simp only [Exit.then];refine aF _ _ ?_;clear aF KK lS;have BM:Hid (∀ y,aT y (bI x (.bool (false)) L2)=(aT y (dq++[(x,js)])).map (fun js=>Value.bool (jv r y js.length))):=fun y=>by
       rw [tY,Vg (by have:=kS.out.keys;rw [La] at this;exact this)];by_cases hy:y=x
       ·subst hy;rw [if_pos rfl,if_pos rfl];have e1:=GR.out;have e2:=Lc.out;rw [List.contains_eq_mem] at e1;simp only [Zx,jv,e1,e2];rfl
       ·rw [if_neg hy,if_neg hy];exact HL2.out y
      go_wp2_with fail
      go_roundw
      case rel =>
       (repeat apply Exists.intro)
       exact ⟨⟨seen',dq++[(x,js)],left',_,Gv.out,kS.out,BM.out,eU.out.del 0⟩,rfl⟩
      case measure=>rw [hsz3.out,(eU.out.del 0).uH 3 rfl kS.out];have:=Hll.out;omega
     ·cases wk
      ·refine dF (fun w'=>LV w' Y (aN r K ck W cw S cs) 29∧LV w' V #[.int .i64 x.k,.string x.t] 46) [(true,0),(true,1),(true,2),(true,3),(true,4),(true,5),(false,6),(true,7),(true,8),(true,9),(true,10),(false,11),(true,12),(true,13),(true,14),(true,15),(true,16),(true,17),(true,18),(true,19),(false,20)] (by kernel_rfl) (by kernel_rfl) (fun w' hd=>⟨(S6.below (hd.below _)).lv 1 rfl,(S6.below (hd.below _)).lv 0 rfl⟩) (fun KK aF wd hd=>?_);have S7:=S6.below (hd.below _);have hC:LV wd Y (aN r K ck W cw S cs) 29∧LV wd V #[.int .i64 x.k,.string x.t] 46:=⟨S7.lv 1 rfl,S7.lv 0 rfl⟩;clear hd S6;refine aA ?_;refine bV (.agg #[.int .i64 x.k,.string x.t]) rfl rfl rfl (fun w' h=>gU (h.2.cell 0 _ rfl) (h.2.cell 1 _ rfl)) ?_;refine aA ?_;refine bV (.slice K r.kinds.length ck) rfl rfl rfl (fun w' h=>eX rfl (h.1.cell 0 _ rfl)) ?_;refine aA ?_;refine bV (.int .i64 x.k) rfl rfl rfl (fun w' h=>eX rfl (h.2.cell 0 _ rfl)) ?_;refine aV rfl (fun K9 hK9=>?_) hC;have gW:=Z9 (Ih N K r.kinds ck r.kinds.length x.k wd (HR.out wd S7.b).kd (Z5 _) Ho.out.kl);rw [Zp,GR.out] at gW;go_wp2_with fail
       refine (gW.out).mono ?_;rintro e _ ⟨rfl,rfl⟩;clear gW;go_wp2_with fail
       refine ⟨hC,?_⟩;refine aA ?_;refine bV (.slice W r.weak.length cw) rfl rfl rfl (fun w' h=>eX rfl (h.1.cell 2 _ rfl)) ?_;refine bV (.agg #[.int .i64 x.k,.string x.t]) rfl rfl rfl (fun w' h=>gU (h.2.cell 0 _ rfl) (h.2.cell 1 _ rfl)) ?_;refine aV rfl (fun K9 hK9=>?_) hC;have gW:=Z9 (Oj N W r.weak cw x wd (HR.out wd S7.b).wk Ho.out.wl);rw [Lc.out] at gW;go_wp2_with fail
       refine (gW.out).mono ?_;rintro e w8 ⟨rfl,eG⟩;have S8:=S7.below eG;have oq:LV w8 Y (aN r K ck W cw S cs) 29∧LV w8 V #[.int .i64 x.k,.string x.t] 46:=⟨S8.lv 1 rfl,S8.lv 0 rfl⟩;clear gW eG S7 hC;go_wp2_with fail
       refine ⟨oq,?_⟩;refine aA ?_;refine bV (.int .i64 r.most) rfl rfl rfl (fun w' h=>eX rfl (h.1.cell 1 _ rfl)) ?_;refine aA ?_;refine aV rfl (fun K9 hK9=>?_) oq;go_simp;refine S8.wP 3 rfl (T:=133) (E:=4) (by kernel_rfl) rfl _ _ _ rfl rfl x rfl (.bool (decide ((js.length:Int)≤r.most))) rfl ?_;intro w9 S9;have eU:Hid (Mem w w9 [.loc V #[.int .i64 x.k,.string x.t] 46,.loc Y (aN r K ck W cw S cs) 29,.xH X es clock,.aJ aU X2 (bI x (.bool (decide ((js.length:Int)≤r.most))) L2),.iter Z X clock seen' clock]):=S9;have lS:LV w9 Y (aN r K ck W cw S cs) 29∧LV w9 V #[.int .i64 x.k,.string x.t] 46:=⟨eU.out.lv 1 rfl,eU.out.lv 0 rfl⟩;clear S9 S8 oq;go_wp2_with fail
       refine ⟨lS,?_⟩;refine dG ?_;simp only [Exit.then];refine aF _ _ ?_;clear aF KK lS;have BM:Hid (∀ y,aT y (bI x (.bool (decide ((js.length:Int)≤r.most))) L2)=(aT y (dq++[(x,js)])).map (fun js=>Value.bool (jv r y js.length))):=fun y=>by
        rw [tY,Vg (by have:=kS.out.keys;rw [La] at this;exact this)];by_cases hy:y=x
        ·subst hy;rw [if_pos rfl,if_pos rfl];have e1:=GR.out;have e2:=Lc.out;rw [List.contains_eq_mem] at e1;simp only [Zx,jv,e1,e2];rfl
        ·rw [if_neg hy,if_neg hy];exact HL2.out y
       go_wp2_with fail
       go_roundw
       case rel =>
        (repeat apply Exists.intro)
        exact ⟨⟨seen',dq++[(x,js)],left',_,Gv.out,kS.out,BM.out,eU.out.del 0⟩,rfl⟩
       case measure=>rw [hsz3.out,(eU.out.del 0).uH 3 rfl kS.out];have:=Hll.out;omega
      ·refine dF (fun w'=>LV w' Y (aN r K ck W cw S cs) 29∧LV w' V #[.int .i64 x.k,.string x.t] 46) [(true,0),(true,1),(true,2),(true,3),(true,4),(true,5),(false,6),(true,7),(true,8),(true,9),(true,10),(false,11),(true,12),(true,13),(true,14),(true,15),(true,16),(true,17),(true,18),(true,19),(false,20)] (by kernel_rfl) (by kernel_rfl) (fun w' hd=>⟨(S6.below (hd.below _)).lv 1 rfl,(S6.below (hd.below _)).lv 0 rfl⟩) (fun KK aF wd hd=>?_);have S7:=S6.below (hd.below _);have hC:LV wd Y (aN r K ck W cw S cs) 29∧LV wd V #[.int .i64 x.k,.string x.t] 46:=⟨S7.lv 1 rfl,S7.lv 0 rfl⟩;clear hd S6;refine aA ?_;refine bV (.agg #[.int .i64 x.k,.string x.t]) rfl rfl rfl (fun w' h=>gU (h.2.cell 0 _ rfl) (h.2.cell 1 _ rfl)) ?_;refine aA ?_;refine bV (.slice K r.kinds.length ck) rfl rfl rfl (fun w' h=>eX rfl (h.1.cell 0 _ rfl)) ?_;refine aA ?_;refine bV (.int .i64 x.k) rfl rfl rfl (fun w' h=>eX rfl (h.2.cell 0 _ rfl)) ?_;refine aV rfl (fun K9 hK9=>?_) hC;have gW:=Z9 (Ih N K r.kinds ck r.kinds.length x.k wd (HR.out wd S7.b).kd (Z5 _) Ho.out.kl);rw [Zp,GR.out] at gW;go_wp2_with fail
       refine (gW.out).mono ?_;rintro e _ ⟨rfl,rfl⟩;clear gW;go_wp2_with fail
       refine ⟨hC,?_⟩;refine aA ?_;refine bV (.slice W r.weak.length cw) rfl rfl rfl (fun w' h=>eX rfl (h.1.cell 2 _ rfl)) ?_;refine bV (.agg #[.int .i64 x.k,.string x.t]) rfl rfl rfl (fun w' h=>gU (h.2.cell 0 _ rfl) (h.2.cell 1 _ rfl)) ?_;refine aV rfl (fun K9 hK9=>?_) hC;have gW:=Z9 (Oj N W r.weak cw x wd (HR.out wd S7.b).wk Ho.out.wl);rw [Lc.out] at gW;go_wp2_with fail
       refine (gW.out).mono ?_;rintro e w8 ⟨rfl,eG⟩;have S8:=S7.below eG;have oq:LV w8 Y (aN r K ck W cw S cs) 29∧LV w8 V #[.int .i64 x.k,.string x.t] 46:=⟨S8.lv 1 rfl,S8.lv 0 rfl⟩;clear gW eG S7 hC;go_wp2_with fail
       refine ⟨oq,?_⟩;refine aA ?_;refine aV rfl (fun K9 hK9=>?_) oq;go_simp;refine S8.wP 3 rfl (T:=133) (E:=4) (by kernel_rfl) rfl _ _ _ rfl rfl x rfl (.bool (false)) rfl ?_;intro w9 S9;have eU:Hid (Mem w w9 [.loc V #[.int .i64 x.k,.string x.t] 46,.loc Y (aN r K ck W cw S cs) 29,.xH X es clock,.aJ aU X2 (bI x (.bool (false)) L2),.iter Z X clock seen' clock]):=S9;have lS:LV w9 Y (aN r K ck W cw S cs) 29∧LV w9 V #[.int .i64 x.k,.string x.t] 46:=⟨eU.out.lv 1 rfl,eU.out.lv 0 rfl⟩;clear S9 S8 oq;go_wp2_with fail
       refine ⟨lS,?_⟩;refine dG ?_;simp only [Exit.then];refine aF _ _ ?_;clear aF KK lS;have BM:Hid (∀ y,aT y (bI x (.bool (false)) L2)=(aT y (dq++[(x,js)])).map (fun js=>Value.bool (jv r y js.length))):=fun y=>by
        rw [tY,Vg (by have:=kS.out.keys;rw [La] at this;exact this)];by_cases hy:y=x
        ·subst hy;rw [if_pos rfl,if_pos rfl];have e1:=GR.out;have e2:=Lc.out;rw [List.contains_eq_mem] at e1;simp only [Zx,jv,e1,e2];rfl
        ·rw [if_neg hy,if_neg hy];exact HL2.out y
       go_wp2_with fail
       go_roundw
       case rel =>
        (repeat apply Exists.intro)
        exact ⟨⟨seen',dq++[(x,js)],left',_,Gv.out,kS.out,BM.out,eU.out.del 0⟩,rfl⟩
       case measure=>rw [hsz3.out,(eU.out.del 0).uH 3 rfl kS.out];have:=Hll.out;omega
end
section
open Go Go.RowKit Go.Shelf
attribute [local go_sem] Oper.semAt_some
def oQ (n PB:Nat)(W W':World):Prop:=∀ k,k < n→k≠PB→W'.heap[k]? =W.heap[k]?
theorem oQ.refl (n PB:Nat)(W:World):oQ n PB W W:=fun _ _ _=>rfl
theorem oQ.trans {n PB:Nat}{W W' W'':World}(h:oQ n PB W W')(g:oQ n PB W' W''):oQ n PB W W'':=fun k h1 h2=>(g k h1 h2).trans (h k h1 h2)
theorem oQ.cell {n PB:Nat}{W W':World}(h:oQ n PB W W'){p:Addr}(h1:p.block < n)(h2:p.block≠PB):W'.cell? p=W.cell? p:=by
 unfold World.cell?;rw [h p.block h1 h2]
theorem oQ.below {n PB:Nat}{W W':World}(h:Below n W W'):oQ n PB W W':=fun k h1 _=>h.block k h1
def rD (qs:List ah)(j:Nat):ah:=(qs[j]?).getD ⟨0,⟨#[]⟩⟩
theorem acU {qs:List ah}{j:Nat}{q:ah}(h:qs[j]? =some q):rD qs j=q:=by rw [rD,h];rfl
def qJ (qs:List ah)(k:Nat):List Nat:=(YW k).map fun j=>qs.length - 1 - j
theorem ale (qs:List ah)(k:Nat):qJ qs (k + 1)=qJ qs k++[qs.length - 1 - k]:=by simp [qJ,List.range_succ]
theorem O4 (qs:List ah)(k:Nat):(qJ qs k).length=k:=by simp [qJ]
def EJ (n₀:Nat)(W:World)(A:Option Addr)(qs:List ah):Prop:=∀ (k:Nat) (q:ah),qs[k]? =some q→∃ blk off,A=some ⟨blk,off,none⟩∧blk < n₀ ∧
 W.cell? ⟨blk,off + k * 2,none⟩=some (.int .i64 q.k)∧W.cell? ⟨blk,off + k * 2 + 1,none⟩=some (.string q.t)
theorem EJ.below {n₀:Nat}{W W':World}{A:Option Addr}{qs:List ah}(h:EJ n₀ W A qs)(k:Below n₀ W W'):EJ n₀ W' A qs:=fun i q hq=>by
 obtain ⟨blk,off,e,h1,c0,c1⟩:=h i q hq;exact ⟨blk,off,e,h1,(k.cell (p:=⟨blk,off + i * 2,none⟩) h1).trans c0,(k.cell (p:=⟨blk,off + i * 2 + 1,none⟩) h1).trans c1⟩
theorem Sl.inI {N:Nat→Prop}{w:World}{A:Option Addr}{qs:List ah}(h:Sl aO N w A qs):EJ w.heap.size w A qs:=fun i q hq=>by
 obtain ⟨blk,off,l,e,h1,_,h3,h4⟩:=h i q hq;obtain rfl:l=ah.cells q:=h3;exact ⟨blk,off,e,h1,h4 0 _ rfl,h4 1 _ rfl⟩
theorem alf (F:Fence)(n:Nat)(hf:F.fn 150)(hro:F.round=none)(hn:1≤n)(l Bs n₀ PB cap:Nat)(A:Option Addr)(qs:List ah)(hlen:qs.length≤1000000)(hBs:Bs < n₀)(Ld:Bs≠PB)(zh:PB≤n₀)(J Jx:List Nat→World→Prop)
  (hY:∀ (pre:List Nat) (x:Nat) (W:World),J pre W→pre.length < qs.length→YieldAt F (n - 1) Tryz.prog l #[.int .i64 (x:Int),.agg #[.int .i64 (rD qs x).k,.string (rD qs x).t]] W fun e W' =>
   (e=.returned (.bool true)∧J (pre++[x]) W'∧oQ n₀ PB W W')∨(e=.returned (.bool false)∧Jx (pre++[x]) W'))
  (W:World) (hc:W.cell? ⟨Bs,0,none⟩=some (.slice A qs.length cap)) (hS:EJ PB W A qs) (h0:J [] W) :
  CallsIn F n Tryz.prog 150 #[.func (.yield l) #[] #[],.pointer (some ⟨Bs,0,none⟩)] W fun e W'=>(∃ v,e=.returned v) ∧
   ((∃ ys,ys=qJ qs qs.length∧J ys W')∨(∃ pre,(∃ k,k≤qs.length∧pre=qJ qs k)∧Jx pre W')):=by
 have HS:=Z9 hS;clear hS;refine callsIn_of_wp Tryz.func150 rfl hf ?_ hro;simp only [Tryz.ntmps150,ZC,ZV,ZO,Nat.reduceAdd,Nat.reduceSub,Array.replicate_succ,Array.replicate_zero,List.push_toArray,List.append_toArray,Y4,List.cons_append];gi_wp2
 gi_loopw [3] (fun i wr=>∃ j k:Nat,j + k=qs.length∧i=.int .i64 ((j:Int) - 1)∧J (qJ qs k) wr∧oQ n₀ PB W wr)
  (fun i _=>(intOf i + 1).toNat)
 case atStart=>exact ⟨qs.length,0,rfl,rfl,h0,oQ.refl _ _ _⟩
 case round =>
  obtain ⟨j,k,hjk,rfl,hJs,hnx⟩:=hrel;have hcr:=(hnx.cell (p:=⟨Bs,0,none⟩) hBs Ld).trans hc;rcases j with _ | j
  ·have e1:((0:Nat):Int) - 1=-1:=rfl;rw [e1];gi_wp2
   go_end0;obtain rfl:k=qs.length:=by omega
   exact ⟨⟨_,rfl⟩,.inl ⟨_,rfl,hJs⟩⟩
  ·have e1:((j + 1:Nat):Int) - 1=(j:Int):=by omega
   rw [e1];have hj:j < qs.length:=by omega
   obtain ⟨s,hs⟩:∃ s,qs[j]? =some s:=⟨_,Z8 hj⟩;obtain ⟨blk,off,rfl,hblk,c0,c1⟩:=HS.out j s hs;have d0:=(hnx.cell (p:=⟨blk,off + j * 2,none⟩) (by show blk < _;omega) (by show blk≠_;omega)).trans c0;have d1:=(hnx.cell (p:=⟨blk,off + j * 2 + 1,none⟩) (by show blk < _;omega) (by show blk≠_;omega)).trans c1;obtain ⟨fn,tmps,assign,body,hy,hR⟩:=hY _ j wr hJs (by rw [O4];omega);rw [acU hs] at hy;have Hb:Hid (qJ qs (k + 1)=qJ qs k++[j]):=by
    show _=_;rw [ale,show qs.length - 1 - k=j by omega]
   clear hs c0 c1 hc;gi_wp2
   refine hR.mono ?_;rintro e W3 (⟨rfl,hJ3,hk3⟩ | ⟨rfl,hJx3⟩)
   ·gi_wp2
    go_roundw
    case rel=>exact ⟨j,k + 1,by omega,rfl,by rw [Hb.out];exact hJ3,hnx.trans hk3⟩
    case measure=>simp [intOf]
   ·gi_wp2
    refine bodyPost_ret (results_none rfl _ _ _) rfl ?_;exact ⟨⟨_,rfl⟩,.inr ⟨_,⟨k + 1,by omega,Hb.out.symm⟩,hJx3⟩⟩
theorem alg (F:Fence)(n:Nat)(hf:F.fn 76)(hro:F.round=none)(a:Option Addr)(len cap:Nat)(w:World) :
  CallsIn F n Tryz.prog 76 #[.slice a len cap] w fun e w'=>e=.returned (.func (.func 150) #[] #[.pointer (some ⟨w.heap.size,0,none⟩)])∧w'=w.alloc (.cells #[.slice a len cap] 26):=by
 refine callsIn_of_wp Tryz.func76 rfl hf ?_ hro;simp only [Tryz.ntmps76,ZC,ZV,ZO,Nat.reduceAdd,Nat.reduceSub,Array.replicate_succ,Array.replicate_zero,List.push_toArray,List.append_toArray,Y4,List.cons_append];gi_wp2
 go_ret;exact ⟨rfl,rfl⟩
theorem alh (F:Fence)(n:Nat)(hf:F.fn 150)(hro:F.round=none)(hn:1≤n)(Bs n₀ PB cap:Nat)(A:Option Addr)(qs:List ah)(hlen:qs.length≤1000000)(w:World)(hBs:Bs < n₀)(Ld:Bs≠PB)(zh:PB≤n₀)(hn₀:n₀≤w.heap.size)
  (hc:w.cell? ⟨Bs,0,none⟩=some (.slice A qs.length cap)) (hS:EJ PB w A qs) :
  SeqStopsK F n Tryz.prog 150 #[.pointer (some ⟨Bs,0,none⟩)] (fun x:Nat=>#[Value.int .i64 (x:Int),.agg #[.int .i64 (rD qs x).k,.string (rD qs x).t]]) (oQ n₀ PB) (fun ys=>ys=qJ qs qs.length)
   (fun pre=>∃ k,k≤qs.length∧pre=qJ qs k) qs.length w:=fun l J Jx W hW _ _ hY h0 =>
 alf F n hf hro hn l Bs n₀ PB cap A qs hlen hBs Ld zh J Jx hY W ((hW.cell (p:=⟨Bs,0,none⟩) (by show Bs < _;omega)).trans hc) (hS.below (hW.mono (by omega))) h0
end
section
open Go Go.RowKit
def oU (p:ah×Nat):ah×Value:=(p.1,Value.int .i64 (p.2:Nat))
theorem acV (x:ah)(L:List (ah×Nat)):aT x (L.map oU)=(aT x L).map (fun n=>Value.int .i64 (n:Nat)):=Ve (fun n:Nat=>Value.int .i64 (n:Nat)) x L
theorem acW (x:ah)(n:Nat)(L:List (ah×Nat)):bI x (Value.int .i64 (n:Nat)) (L.map oU)=(bI x n L).map oU:=Vf (fun n:Nat=>Value.int .i64 (n:Nat)) x n L
def Le (w:World)(g n:Nat):Nat:=((YW n).map fun i=>match w.cell? ⟨g,i,none⟩ with | some (.int _ z)=>z.toNat | _=>0).sum
theorem acX {M:Nat→Prop}{B E g n cap:Nat}{w:World}{p:List Nat}(h:Own ay M B E w (.slice (some ⟨g,0,none⟩) n cap) (iL p))(hn:n=p.length):Le w g n=p.sum:=by
 unfold Le;congr 1
 apply Zu;intro i;rw [ZT];rcases YL i n with hi | hi
 ·obtain ⟨q,hq⟩:∃ q,p[i]? =some q:=⟨_,Z8 (by omega)⟩;have h1:=(h.sO (by rw [kX];exact hn) i q (jY hq)).1;rw [List.getElem?_range hi,hq];simp only [Zx,h1];rfl
 ·rw [ZG (by simpa using hi),ZG (by omega)];rfl
def Vh (v:Value):Nat:=match v with | .bool true=>1 | _=>0
def acY (r:aP)(ts:List ak)(w:World)(e:Ending)(w':World):Prop :=
 ∃ (A:Option Addr) (c:Nat) (P:List Psn),e=.returned (.slice A P.length c)∧Uj r ts P∧Mem w w' [.sl kQ A P]
theorem acZ (w:World):(zeroValue 4).run Tryz.prog w=.ok (.bool false) w:=by kernel_rfl
theorem ac0 (T:Array Value)(h:T.size=205):∃ f:Nat→Value,T=#[f 0,f 1,f 2,f 3,f 4,f 5,f 6,f 7,f 8,f 9,f 10,f 11,f 12,f 13,f 14,f 15,f 16,f 17,f 18,f 19,f 20,f 21,f 22,f 23,f 24,f 25,f 26,f 27,f 28,f 29,f 30,f 31,f 32,f 33,f 34,f 35,f 36,f 37,f 38,f 39,f 40,f 41,f 42,f 43,f 44,f 45,f 46,f 47,f 48,f 49,f 50,f 51,f 52,f 53,f 54,f 55,f 56,f 57,f 58,f 59,f 60,f 61,f 62,f 63,f 64,f 65,f 66,f 67,f 68,f 69,f 70,f 71,f 72,f 73,f 74,f 75,f 76,f 77,f 78,f 79,f 80,f 81,f 82,f 83,f 84,f 85,f 86,f 87,f 88,f 89,f 90,f 91,f 92,f 93,f 94,f 95,f 96,f 97,f 98,f 99,f 100,f 101,f 102,f 103,f 104,f 105,f 106,f 107,f 108,f 109,f 110,f 111,f 112,f 113,f 114,f 115,f 116,f 117,f 118,f 119,f 120,f 121,f 122,f 123,f 124,f 125,f 126,f 127,f 128,f 129,f 130,f 131,f 132,f 133,f 134,f 135,f 136,f 137,f 138,f 139,f 140,f 141,f 142,f 143,f 144,f 145,f 146,f 147,f 148,f 149,f 150,f 151,f 152,f 153,f 154,f 155,f 156,f 157,f 158,f 159,f 160,f 161,f 162,f 163,f 164,f 165,f 166,f 167,f 168,f 169,f 170,f 171,f 172,f 173,f 174,f 175,f 176,f 177,f 178,f 179,f 180,f 181,f 182,f 183,f 184,f 185,f 186,f 187,f 188,f 189,f 190,f 191,f 192,f 193,f 194,f 195,f 196,f 197,f 198,f 199,f 200,f 201,f 202,f 203,f 204]:=by
 refine ⟨fun i=>T.getD i undef,?_⟩;apply Array.ext';have e:T.toList=(YW 205).map (fun i=>T.getD i undef):=by
  apply Zu;intro i;rw [ZT];by_cases hi:i < 205
  ·rw [List.getElem?_range hi,YQ,YE (by omega)];simp [show i < T.size by omega]
  ·rw [ZG (by rw [Y8];omega),ZG (by simp;omega)];rfl
 rw [e];rfl
def mkD (D:Nat):Deferred:={ target:=.collected D,args:=#[] }
def Chunk.jy (D:Nat):Chunk :=
 ⟨some D,fun _ w=>w.heap[D]? =some (.deferred (some [])),fun k _ hd h=>(k.block D (Array.getElem?_eq_some_iff.1 h).1 (hd D rfl)).trans h,fun _ h=>h,fun h k e=>by cases e;exact (Array.getElem?_eq_some_iff.1 h).1⟩
def Chunk.CZ (D:Nat):Chunk :=
 ⟨some D,fun _ w=>w.heap[D]? =some (.deferred none),fun k _ hd h=>(k.block D (Array.getElem?_eq_some_iff.1 h).1 (hd D rfl)).trans h,fun _ h=>h,fun h k e=>by cases e;exact (Array.getElem?_eq_some_iff.1 h).1⟩
theorem ac1 {F:Fence}{n:Nat}{fn:Func}{tmps:Array Value}{R:Ending→World→Prop}{w:World}{cs:List Chunk}:∀ (Ds:List Nat) (W:World),Mem w W (cs++Ds.map Chunk.jy) →
  (∀ W',Mem w W' cs→∃ v,(results fn tmps).run Tryz.prog W'=.ok v W'∧R (.returned v) W')→LeavesInM F n Tryz.prog fn tmps R (Ds.map mkD) .returning W
 | [],W,S,h=>by
  rw [List.map_nil,ZH] at S;exact h W S
 | D::Ds,W,S,h=>by
  have hi:(cs++(D::Ds).map Chunk.jy)[cs.length]? =some (.jy D):=by
   rw [ZF (Z5 _),Nat.sub_self];rfl
  have hK:W.heap[D]? =some (.deferred (some [])):=S.ok _ (Z7 hi);have hD:=S.new _ (Z7 hi) D rfl;have hg:=grownBy_putObj' W D (.deferred none);have hb:Below w.heap.size W (W.putObj D (.deferred none)):=(ZX _ W).grown hg S.b.size (fun k e=>by cases e;exact hD);have hlt:=(Array.getElem?_eq_some_iff.1 hK).1;have S1:=S.upd cs.length hi (.CZ D) ⟨hg.size,fun k hk hne=>hg.block k hk (fun e=>hne e.symm)⟩ (S.b.trans hb) (fun k e=>.inl e) (by
   show (W.putObj D (.deferred none)).heap[D]? =_;unfold World.putObj;simp [hlt])
  have S2:=S1.del cs.length;rw [List.eraseIdx_set_eq] at S2;have e:(cs++(D::Ds).map Chunk.jy).eraseIdx cs.length=cs++Ds.map Chunk.jy:=by
   rw [List.eraseIdx_append_of_length_le (Z5 _),Nat.sub_self];rfl
  rw [e] at S2;exact ⟨by simp,.inl ⟨D,_,rfl,run_takeDeferred hK,ac1 Ds _ S2 h⟩⟩
def jm (r:aP)(ts:List ak)(x:ah):Bool:= !decide (hav ts x=[]) && mD r ts x
def zi (r:aP)(ts:List ak)(ids:List ah)(pre:List Nat):ah:=((pre.map (rD ids)).reverse.find? (jm r ts)).getD (ids.headD ⟨0,⟨#[]⟩⟩)
theorem ali (r:aP)(ts:List ak)(ids:List ah)(pre:List Nat)(x:Nat):zi r ts ids (pre++[x])=if jm r ts (rD ids x)=true then rD ids x else zi r ts ids pre:=by
 unfold zi;rw [ZP,List.reverse_append,List.map_singleton,List.reverse_singleton,List.singleton_append,List.find?_cons];cases jm r ts (rD ids x) <;> rfl
theorem alj (ids:List ah):((qJ ids ids.length).map (rD ids)).reverse=ids:=by
 apply Zu;intro j;by_cases hj:j < ids.length
 ·rw [List.getElem?_reverse (by rw [ZW,O4];exact hj),ZW,O4,ZT];unfold qJ;rw [ZT,List.getElem?_range (by omega)];simp only [Zx];have e:ids.length - 1 - (ids.length - 1 - j)=j:=by omega
  rw [e,Z8 hj,acU (Z8 hj)]
 ·rw [ZG (by rw [List.length_reverse,ZW,O4];omega),ZG (by omega)]
theorem find_congr {α:Type}{p q:α→Bool}:∀ {l:List α},(∀ x∈l,p x=q x)→l.find? p=l.find? q
 | [],_=>rfl
 | x::r,h=>by rw [List.find?_cons,List.find?_cons,h x (by simp),find_congr (fun y hy=>h y (by simp [hy]))]
theorem alk {r:aP}{ts:List ak}{t:ak}{i:Nat}(ht:ts[i]? =some t):zi r ts t.ids (qJ t.ids t.ids.length)=uj r ts t:=by
 unfold zi uj;rw [alj,find_congr (q:=mD r ts) (fun x hx=>?_)];unfold jm;have h1:hav ts x≠[]:=fun e=>by
  have h2:i∈hav ts x:=Uf.2 ⟨t,ht,hx⟩;rw [e] at h2;cases h2
 rw [decide_eq_false h1];rfl
theorem alm {r:aP}{ts:List ak}{L:List (ah×Value)}(h:∀ x,aT x L=if hav ts x=[] then none else some (.bool (mD r ts x)))(x:ah):(aT x L).getD (.bool false)=.bool (jm r ts x):=by
 rw [h x];unfold jm;by_cases hh:hav ts x=[]
 ·rw [if_pos hh,decide_eq_true hh];rfl
 ·rw [if_neg hh,decide_eq_false hh];rfl
structure nC (all ids:List ah):Prop where
 nd:ids.Nodup
 mem:∀ x,x∈ids ↔ x∈all
theorem nC.start:nC [] []:=⟨by simp,fun x=>Iff.rfl⟩
theorem nC.add {all ids:List ah}(h:nC all ids)(x:ah):nC (all++[x]) (if decide (x∈ids)=true then ids else ids++[x]):=by
 by_cases hx:x∈ids
 ·rw [if_pos (decide_eq_true hx)];refine ⟨h.nd,fun y=>?_⟩;rw [List.mem_append,YB,← h.mem y];exact ⟨.inl,fun e=>e.elim id (fun e=>by rw [e];exact hx)⟩
 ·rw [if_neg (by simpa using hx)];refine ⟨List.nodup_append.2 ⟨h.nd,by simp,fun a ha b hb e=>hx (by rw [List.mem_singleton.1 hb] at e;rw [← e];exact ha)⟩,fun y=>?_⟩;rw [List.mem_append,List.mem_append,h.mem y]
theorem nC.sorted {all ids ys:List ah}(h:nC all ids)(hp:ys.Perm ids)(ho:ys.Pairwise (fun a b=>dA a b≤0)):ys=sV all:=by
 have h1:ys.Nodup:=hp.nodup_iff.2 h.nd;have h2:ys.Pairwise (fun a b=>dA a b≤0∧a≠b):=ho.and h1;have h3:oJ ys:=h2.imp (fun {a b} h=>by
  rcases Int.lt_or_eq_of_le h.1 with h6 | h6
  ·exact h6
  ·exact absurd (Jr h6) h.2)
 exact abA h3 (fun x=>by rw [hp.mem_iff,h.mem x])
theorem nC.len {all ids:List ah}(h:nC all ids):ids.length≤all.length:=Us h.nd (fun x hx=>(h.mem x).1 hx)
theorem aln (X Y:List Chunk)(a b:Chunk):((X++Y)++[a,b]).Perm (a::(X++b::Y)):=List.perm_append_comm.trans ((List.perm_middle (l₁:=X) (l₂:=Y) (a:=b)).symm.cons a)
end
section
open Go Go.RowKit Go.Shelf
attribute [local go_sem] Oper.semAt_some
def alo (r:aP)(ts:List ak)(w:World)(e:Ending)(w':World):Prop :=
 ∃ (A:Option Addr) (c:Nat) (qs:List iW),e=.returned (.slice A qs.length c)∧Uj r ts (qs.map iW.p)∧Mem w w' [.own mJ w.heap.size 80 (.slice A qs.length c) qs,.kK qs]
theorem alp (N:Nat→Prop)(r:aP)(K W S A:Option Addr)(ck cw cs c:Nat)(ts:List ak)(w:World)(hR:kN N w r K W S)(hT:Sl fU N w A ts)(ho:GN r ts) :
  Calls Tryz.prog 21 #[.agg (aN r K ck W cw S cs),.slice A ts.length c] w (alo r ts w):=by
 obtain ⟨n,hn⟩:∃ n,ts.length=n:=⟨_,rfl⟩;have Hn:=Z9 hn;have hl:=ho.tl;rw [hn] at hl;have HT:=Z9 (fun w' (h:Below w.heap.size w w')=>hT.aK h);have Ho:=Z9 ho;obtain ⟨Y,hY⟩:∃ Y,Y=w.heap.size:=⟨_,rfl⟩;have S0:Mem w _ [.loc Y (aN r K ck W cw S cs) 29]:=(Mem.start w).newAt (aN r K ck W cw S cs) 29 Y hY;have Hy:=Z9 hY;have Hj:=Z9 (fun w' (h:Below w.heap.size w w')=>ald N r K W S A ck cw cs c ts w' (hR.aK h) (hT.aK h) ho);have hmm:=@run_makeMap Tryz.prog;clear hR hT ho hY hn;refine callsIn_wide.1 (callsIn_of_wp_marks (F:=Fence.wide) (n:=5) Tryz.func21 rfl trivial ?_);refine wpIn_wide.2 ?_;simp only [Tryz.ntmps21,ZC,ZV,ZO,Nat.reduceAdd,Nat.reduceSub,Array.replicate_succ,Array.replicate_zero,List.push_toArray,List.append_toArray,Y4,List.cons_append];go_upto_region 1 with fail
 rw [← Hy.out];generalize w.alloc (.cells (aN r K ck W cw S cs) 29)=w1 at *;have y0:=(S0.lv 0 rfl).all;go_wp2_with fail
 refine (Hj.out w1 S0.b).mono ?_;rintro e w2 ⟨X3,L3,rfl,hL3,T2⟩;have S1:Mem w w2 [.aJ aU X3 L3]:=(S0.join T2).del 0;have BM:=Z9 hL3;have hmk:=aa3 n hl;rw [Hn.out];clear Hj T2 S0 y0 hL3;go_upto_region 2 with fail
 obtain ⟨Jb,Vj⟩:∃ Jb,Jb=w2.heap.size:=⟨_,rfl⟩;have S2:Mem w _ [.loc Jb #[.map (some X3)] 133,.aJ aU X3 L3]:=(S1.newAt #[.map (some X3)] 133 Jb Vj).front;rw [← Vj];clear S1 Vj;generalize w2.alloc (.cells #[.map (some X3)] 133)=w3 at *;replace hmk:=hmk w3;obtain ⟨B,hB⟩:∃ B,B=w.heap.size:=⟨_,rfl⟩;obtain ⟨g,hg⟩:∃ g,g=w3.heap.size:=⟨_,rfl⟩;have S3:=(S2.newAt (Y3 n (Value.int .i64 0)) 3 g hg).sQ lY 2 rfl (List.replicate n 0) (by simp) (by simp [ay,Rep.flat]) (by simp;omega) hB n (by simp);have S4:Mem w (w3.alloc (.cells (Y3 n (Value.int .i64 0)) 3)) [.loc Jb #[.map (some X3)] 133,.aJ aU X3 L3,.own ay B 3 (.slice (some ⟨g,0,none⟩) n n) (iL (lG n 0))]:=by
  have h0:iL (lG n 0)=List.replicate n 0:=by simp [iL,lG]
  rw [h0];exact S3
 have Hb:=Z9 hB;clear S3 S2;rw [← hg] at hmk;clear hg hB;go_upto_region 3 with fail
 clear hmk;generalize w3.alloc (.cells (Y3 n (Value.int .i64 0)) 3)=w4 at *;go_wp2_with fail
 go_loopw [40] (fun i wr=>∃ k:Nat,k≤n∧i=.int .i64 k∧Mem w wr [.loc Jb #[.map (some X3)] 133,.aJ aU X3 L3,.own ay B 3 (.slice (some ⟨g,0,none⟩) n n) (iL (lG n k))]) (fun i _=>n - (intOf i).toNat)
 case atStart=>exact ⟨0,ZN _,rfl,S4⟩
 case round =>
  clear S4;obtain ⟨k,hk,rfl,S4⟩:=hrel;by_cases hlt:k < n
  ·have hln:n=(iL (lG n k)).length:=by rw [kX,abS hk]
   obtain ⟨c1,f1⟩:=(S4.ow 2 rfl).sO hln k ((0:Nat):Int) (jY (OL hlt));have S5:Mem w (wr.setCell ⟨g,k,none⟩ (.int .i64 k)) [.loc Jb #[.map (some X3)] 133,.aJ aU X3 L3,.own ay B 3 (.slice (some ⟨g,0,none⟩) n n) (iL (lG n (k + 1)))]:=by
    rw [← abT hlt,Gh];exact S4.FZ 2 rfl hln k _ k (jY (OL hlt))
   clear hln S4;go_wp2_with fail
   go_roundw
   case rel=>exact ⟨k + 1,by omega,by go_num,S5⟩
   case measure=>simp [intOf];omega
  ·obtain rfl:k=n:=by omega
   rw [abU] at S4;have dY:Hid (Stand k (Edge r ts) (YW k)):=Stand.start _ _;clear hlt hk;go_wp2_with fail
   go_loopw [8] (fun s8 wr=>∃ (p:List Nat) (b:Bool),s8=.bool b∧Hid (Stand k (Edge r ts) p)∧Hid (b=false→iO k (Edge r ts) (dX p))∧Mem w wr [.loc Jb #[.map (some X3)] 133,.aJ aU X3 L3,.own ay B 3 (.slice (some ⟨g,0,none⟩) k k) (iL p)]) (fun s8 wr=>2 * Le wr g k + Vh s8)
   case atStart=>exact ⟨YW k,true,rfl,dY.out,(fun e=>by cases e),S4⟩
   case round =>
    clear S4 dY;obtain ⟨p,b,rfl,dY,rG,S4⟩:=hrel;have hlp:k=p.length:=dY.out.len.symm;have ac2:Hid (Le wr g k=p.sum):=acX (S4.ow 2 rfl) hlp;have GU:=Z9 hlp;clear hlp;cases b
    ·have alq:Hid (iO k (Edge r ts) (dX p)):=rG.out rfl;clear rG ac2;go_wp2_with fail
     obtain ⟨Ag,cg,eg,S5⟩:=S4.cO 2 rfl;have Jo:(iL p).length=k:=by rw [kX];exact GU.out.symm
     rw [Jo] at eg;simp only [Value.slice.injEq,true_and] at eg;obtain ⟨rfl,rfl⟩:=eg;have S6:Mem w wr (.loc Jb #[.map (some X3)] 133::.aJ aU X3 L3::.sl ay (some ⟨g,0,none⟩) (iL p)::.own mJ B 80 (.slice none 0 0) []::.kK []::([]:List Nat).map Chunk.jy):=(S5.nil mJ B 80).ak6;have Hlb:Hid (∀ i,i < k→p[i]? =some (dX p i)):=fun i hi=>by
      unfold dX;rw [List.getD_eq_getElem?_getD,Z8 (by rw [← GU.out];exact hi)];rfl
     clear S4 S5 Jo;refine wp_loop (fun a' w'=>(a'.tmps.size=205∧a'.tmps.getD 1 undef=.slice A k c∧a'.tmps.getD 5 undef=.pointer (some ⟨Jb,0,none⟩)∧a'.tmps.getD 6 undef=.slice (some ⟨g,0,none⟩) k k∧a'.tmps.getD 128 undef=.slice A k c∧a'.tmps.getD 129 undef=.int .i64 k)∧∃ (i:Nat) (ps:List iW) (nY:Option Addr) (nZ:Nat) (Ds:List Nat),i≤k∧a'.tmps.getD 22 undef=.slice nY ps.length nZ∧a'.tmps.getD 130 undef=.int .i64 i∧a'.defers=Ds.map mkD∧Hid (ps.map iW.p=(heads (dX p) i).map (BR r ts (dX p)))∧Mem w w' (.loc Jb #[.map (some X3)] 133::.aJ aU X3 L3::.sl ay (some ⟨g,0,none⟩) (iL p)::.own mJ B 80 (.slice nY (ps).length nZ) (ps)::.kK (ps)::Ds.map Chunk.jy)) (fun a' _=>k - (intOf (a'.tmps.getD 130 undef)).toNat) ?_ ?_
     ·exact ⟨⟨rfl,rfl,rfl,rfl,rfl,rfl⟩,0,[],none,0,[],ZN _,rfl,rfl,rfl,rfl,S6⟩
     ·intro a' wr hinv;clear S6;obtain ⟨T0,ds0⟩:=a';obtain ⟨⟨hsz,e1,e5,e6,e128,e129⟩,i,ps,nY,nZ,Ds,hi,e22,O5,rfl,O6,S4⟩:=hinv;obtain ⟨f,rfl⟩:=ac0 T0 hsz;replace e1:f 1=.slice A k c:=e1;replace e5:f 5=.pointer (some ⟨Jb,0,none⟩):=e5;replace e6:f 6=.slice (some ⟨g,0,none⟩) k k:=e6;replace e22:f 22=.slice nY ps.length nZ:=e22;replace e128:f 128=.slice A k c:=e128;replace e129:f 129=.int .i64 k:=e129;replace O5:f 130=.int .i64 i:=O5;rw [e1,e5,e6,e22,e128,e129,O5];clear e1 e5 e6 e22 e128 e129 O5 hsz;have amu:ps.length≤k:=by
       have:=congrArg Zf O6.out
       rw [ZW,ZW] at this;have h2:=EO (dX p) i;omega
      by_cases hlt:i < k
      ·obtain ⟨t,ht⟩:∃ t,ts[i]? =some t:=⟨_,Z8 (by rw [Hn.out];exact hlt)⟩;obtain ⟨blk,off,Ai,ci,Af,cf,rfl,hblk,d0,d1,d2,d3,d4,hi,hf⟩:=(HT.out w (ZX _ _)).aC i t ht;have hcl:=fun (p:Addr) (hp:p.block < w.heap.size)=>S4.b.cell hp;rw [← hcl _ hblk] at d0 d1 d2 d3 d4;clear hcl;have HI:=Z9 (fun w' (h:Below w.heap.size w w')=>hi.aK h);have hil:t.ids.length≤10:=Ho.out.ib t (Z7 ht);have GV:Hid (cZ ts i=t.ids):=Gg ht;have Ht:=Z9 ht;clear hi hf ht;go_upto_region 38 with fail
       clear d0 d1 d2 d3 d4;obtain ⟨U,hU⟩:∃ U,U=wr.heap.size:=⟨_,rfl⟩;have S6:Mem w _ (.loc U (aS t Ai ci Af cf) 58::.loc Jb #[.map (some X3)] 133::.aJ aU X3 L3::.sl ay (some ⟨g,0,none⟩) (iL p)::.own mJ B 80 (.slice nY (ps).length nZ) (ps)::.kK (ps)::Ds.map Chunk.jy):=(S4.newAt (aS t Ai ci Af cf) 58 U hU).front;rw [← hU];clear hU S4;generalize wr.alloc (.cells (aS t Ai ci Af cf) 58)=w6 at *;have y0:=(S6.lv 0 rfl).all;obtain ⟨gb,go,eg,_,cl⟩:=(S6.slc 3 rfl).int i _ (jY (Hlb.out i hlt));simp only [Option.some.injEq,Addr.mk.injEq,and_true] at eg;obtain ⟨rfl,rfl⟩:=eg;rw [Zh] at cl;by_cases hci:dX p i=i
       ·have hf1:Fence.wide.fn 76:=trivial;have hf2:Fence.wide.fn 150:=trivial;obtain ⟨x0,hx0⟩:∃ x0,t.ids[0]? =some x0:=⟨_,Z8 (List.length_pos_iff.2 (Ho.out.ne t (Z7 Ht.out)))⟩;obtain ⟨ib,io,rfl,hib,c0,c1⟩:=(HI.out w6 S6.b).qx 0 x0 hx0;rw [Nat.zero_mul,Nat.add_zero] at c0;rw [Nat.zero_mul,Nat.add_zero] at c1;have hk0:zi r ts t.ids []=x0:=by
         unfold zi;cases h:t.ids with
         | nil=>rw [h] at hx0;cases hx0
         | cons y l=>rw [h] at hx0;simpa using hx0
        have OW:=Z9 hk0;have hlen0:0 < t.ids.length:=bM hx0;have Hci:=Z9 hci;clear hk0 hx0;go_upto_region 40 with fail
        clear c0 c1 cl y0 hci;obtain ⟨PB,zh⟩:∃ PB,PB=w6.heap.size:=⟨_,rfl⟩;have tK:=Z9 S6;have S7:=(S6.newAt #[.int .i64 x0.k,.string x0.t,.slice none 0 0,.slice none 0 0] 80 PB zh).front;have ac3:Below PB w6 (w6.alloc (.cells #[.int .i64 x0.k,.string x0.t,.slice none 0 0,.slice none 0 0] 80)):=by rw [zh];exact (ZX _ _).alloc (Z5 _) _
        have KI:(w6.alloc (.cells #[.int .i64 x0.k,.string x0.t,.slice none 0 0,.slice none 0 0] 80)).heap.size=PB + 1:=by rw [uU,zh]
        rw [← zh];have GX:=Z9 zh;clear zh S6;generalize w6.alloc (.cells #[.int .i64 x0.k,.string x0.t,.slice none 0 0,.slice none 0 0] 80)=w7 at *;have y0:=(S7.lv 1 rfl).all;have N7:=Z9 ac3;have Vk:=Z9 KI;clear ac3 KI;go_wp2_with fail
        refine (callsIn_wide.1 (alg Fence.wide 5 hf1 rfl (some ⟨ib,io,none⟩) t.ids.length ci w7)).mono ?_;rintro e w8 ⟨rfl,rfl⟩;clear y0;go_wp2_with fail
        obtain ⟨Bs,hBs⟩:∃ Bs,Bs=w7.heap.size:=⟨_,rfl⟩;have S8:=(S7.newAt #[.slice (some ⟨ib,io,none⟩) t.ids.length ci] 26 Bs hBs).front;have hb8:Below PB w6 (w7.alloc (.cells #[.slice (some ⟨ib,io,none⟩) t.ids.length ci] 26)):=N7.out.alloc (by rw [Vk.out];omega) _;have amv:(w7.alloc (.cells #[.slice (some ⟨ib,io,none⟩) t.ids.length ci] 26)).heap.size=PB + 2:=by rw [uU,Vk.out]
        have Ld:Bs=PB + 1:=by rw [hBs,Vk.out]
        rw [← hBs];clear hBs S7;generalize w7.alloc (.cells #[.slice (some ⟨ib,io,none⟩) t.ids.length ci] 26)=W0 at *;have ac4:EJ PB W0 (some ⟨ib,io,none⟩) t.ids:=by
         have h1:=(HI.out w6 tK.out.b).inI;rw [← GX.out] at h1;exact h1.below hb8
        have Vl:=S8.lv 0 rfl;have hLP:=S8.lv 1 rfl;have Vm:=tK.out.lv 1 rfl;have hLM:mO aU w6 X3 L3:=tK.out.ok (.aJ aU X3 L3) (.tail _ (.tail _ (.head _)));have ac5:=Vm.lt;refine (wpIn_wide (n:=6)).1 ?_;refine wpIn_rangeFunc_ownH rfl (by omega) (gf:=150) (lb:=#[.pointer (some ⟨Bs,0,none⟩)]) rfl hf2 (enters_of Tryz.func150 (by kernel_rfl) rfl)
         (alh Fence.wide 5 hf2 rfl (by omega) Bs W0.heap.size PB ci (some ⟨ib,io,none⟩) t.ids (by omega) W0 (by omega) (by omega) (by omega) (Z5 _) (Vl.cell 0 _ rfl) ac4) (fun h k=>h.trans k) (fun W l o o' h1 h2 h3 h4=>oQ.below (belowK_b (Z5 _) W l o o' h1 h2 h3 h4)) (ZX _ _) (fun _=>rfl)
         (fun pre W=>(LV W PB #[.int .i64 (zi r ts t.ids pre).k,.string (zi r ts t.ids pre).t,.slice none 0 0,.slice none 0 0] 80∧LV W Bs #[.slice (some ⟨ib,io,none⟩) t.ids.length ci] 26∧W0.heap.size≤W.heap.size)∧Below PB w6 W)
         (fun _ _ _=>False)
         (OwnFrom.and (Own.from (fun s A B row hs hg hr=>⟨Vo hs.1 hg hr,Vo hs.2.1 hg hr,ZE hs.2.2 hg.size⟩) _) (ownFrom_below (by rw [GX.out];exact Z5 _) (by omega)))
         (fun _ _ _ _ _ h _ _=>h.elim)
         ⟨⟨by rw [OW.out];exact hLP,Vl,Z5 _⟩,hb8⟩
         (fun x a' W=>∃ Bx,W0.heap.size≤Bx∧LV W Bx #[.int .i64 (rD t.ids x).k,.string (rD t.ids x).t] 46∧a'.defers=[]∧a'.tmps.size=205∧a'.tmps.getD 5 undef=.pointer (some ⟨Jb,0,none⟩)∧a'.tmps.getD 25 undef=.pointer (some ⟨PB,0,none⟩)∧a'.tmps.getD 27 undef=.pointer (some ⟨Bx,0,none⟩))
         (fun x a' _ X Y row hs hg hr=>by obtain ⟨Bx,h1,h2,h3⟩:=hs;exact ⟨Bx,h1,Vo h2 hg (fun r e=>(hr r e).2),h3⟩)
         ?assign ?body ?done ?stop
        case assign =>
         rintro l pre x W K ⟨⟨l0,l1,hsz⟩,hB1⟩ hK;gi_wp2
         obtain ⟨Bx,hBx⟩:∃ Bx,Bx=W.heap.size:=⟨_,rfl⟩;rw [← hBx];exact hK _ _ ((KeepsOthers.alloc _ _).from _) (oQ.below ((ZX _ W).alloc hsz _)) ⟨⟨l0.alloc _,l1.alloc _,by rw [uU];omega⟩,hB1.alloc (by omega) _⟩ ⟨Bx,by omega,by rw [hBx];exact LV.new W _ _ _ rfl,rfl,rfl,rfl,rfl,rfl⟩
        case body =>
         rintro l pre x ⟨T1,ds1⟩ W hl ⟨rr,hrr⟩ ⟨⟨l0,l1,hsz⟩,hB1⟩ ⟨Bx,hBx,bX,e0,hT1,e5,e25,e27⟩ hlt3;obtain ⟨f1,rfl⟩:=ac0 T1 hT1;replace e0:ds1=[]:=e0;replace e5:f1 5=.pointer (some ⟨Jb,0,none⟩):=e5;replace e25:f1 25=.pointer (some ⟨PB,0,none⟩):=e25;replace e27:f1 27=.pointer (some ⟨Bx,0,none⟩):=e27;rw [e0,e5,e25,e27];clear e0 e5 e25 e27 hT1;have hB2:Below w6.heap.size w6 W:=by rw [← GX.out];exact hB1
         have lJ:=LV.dQ Vm hB2 ac5;have hM2:mO aU W X3 L3:=by
          obtain ⟨es,cl,hb,he⟩:=hLM;exact ⟨es,cl,(hB2.block X3 (Array.getElem?_eq_some_iff.1 hb).1).trans hb,he⟩
         obtain ⟨y,hy⟩:∃ y,rD t.ids x=y:=⟨_,rfl⟩;rw [hy] at bX;have hks:=ali r ts t.ids pre x;rw [hy] at hks;have Hks:=Z9 hks;obtain ⟨b,hb⟩:∃ b,jm r ts y=b:=⟨_,rfl⟩;have hlk:(Instr.lookup 133 (.map (some X3)) (.agg #[.int .i64 y.k,.string y.t]) false).run Tryz.prog W=.ok (.bool b) W:=by
          have h1:=tJ (K:=aU) (T:=133) (E:=4) hM2 (by kernel_rfl) (acZ W) y false;rw [if_neg (by decide),alm BM.out y,hb] at h1;exact h1
         have Hb3:=Z9 hb;have zA:=bX.all;have j0:=lJ.all;have p0:=l0.all;have uy:=Z9 l0;have tu:=Z9 l1;have amw:=l0.lt;have HBl:=Z9 hB1;clear hks hb hy hM2 lJ bX l0 l1 hB1 hB2;cases b
         ·gi_wp2_with fail
          refine ⟨KeepsFrom.refl _ _,oQ.refl _ _ _,⟨?_,tu.out,hsz⟩,HBl.out⟩;rw [Hks.out,Hb3.out,if_neg (by decide)];exact uy.out
         ·gi_wp2_with fail
          refine ⟨((KeepsOthers.setCell _ _ _).trans (KeepsOthers.setCell _ _ _)).from _,?_,⟨?_,?_,by simpa [World.setCell] using hsz⟩,?_⟩
          ·intro k2 h1 h2;rw [Zo _ _ _ _ h2,Zo _ _ _ _ h2]
          ·rw [Hks.out,Hb3.out,if_pos rfl];exact (uy.out.set 0 (.int .i64 y.k) _ rfl).set 1 (.string y.t) _ rfl
          ·exact (tu.out.other (by omega) _ _).other (by omega) _ _
          ·exact (HBl.out.setCell (p:=⟨PB,0,none⟩) (Z5 _) _).setCell (p:=⟨PB,1,none⟩) (Z5 _) _
        case done =>
         rintro D ys W hD rfl ⟨⟨l0,l1,hsz⟩,hB1⟩ hK;obtain ⟨ky,hky⟩:∃ ky,uj r ts t=ky:=⟨_,rfl⟩;rw [alk Ht.out,hky] at l0;have T:Mem w6 W [.loc PB #[.int .i64 ky.k,.string ky.t,.slice none 0 0,.slice none 0 0] 80,.jy D]:=by
          refine ⟨by rw [← GX.out];exact hB1,?_,?_,?_⟩
          ·exact all_cons l0 (all_cons hK all_nil)
          ·exact all_cons (fun k e=>by cases e;rw [GX.out];exact Z5 _) (all_cons (fun k e=>by cases e;have:=GX.out;omega) all_nil)
          ·exact List.pairwise_cons.2 ⟨all_cons (fun k e1 e2=>by cases e1;cases e2;omega) all_nil,YS _ _⟩
         have S9:=tK.out.join T;have aZ:Mem w W (.loc PB #[.int .i64 ky.k,.string ky.t,.slice none 0 0,.slice none 0 0] 80::.loc Jb #[.map (some X3)] 133::.aJ aU X3 L3::.sl ay (some ⟨g,0,none⟩) (iL p)::.own mJ B 80 (.slice nY ps.length nZ) ps::.kK ps::(D::Ds).map Chunk.jy):=(S9.del 0).perm (aln [.loc Jb #[.map (some X3)] 133,.aJ aU X3 L3,.sl ay (some ⟨g,0,none⟩) (iL p),.own mJ B 80 (.slice nY ps.length nZ) ps,.kK ps] (Ds.map Chunk.jy) _ _);have dW:Mem w W (.own aO B 46 (.slice none (([]:List ah)).length 0) (([]:List ah))::.own ay B 3 (.slice none (([]:List Int)).length 0) (([]:List Int))::.loc PB #[.int .i64 ky.k,.string ky.t,.slice none (([]:List Int)).length 0,.slice none (([]:List ah)).length 0] 80::.loc Jb #[.map (some X3)] 133::.aJ aU X3 L3::.sl ay (some ⟨g,0,none⟩) (iL p)::.own mJ B 80 (.slice nY ps.length nZ) ps::.kK ps::(D::Ds).map Chunk.jy):=((aZ.nil ay B 3).front.nil aO B 46).front;have Eu:=Z9 dW;have UF:=Z9 hky;clear Ld hK l0 l1 hsz hB1 T S9 aZ dW tK Vl hLP Vm hLM ac5 ac4 HI hky;go_wp2_with fail
         go_loopw [158] (fun Vp wr=>∃ (j:Nat) (aC:List Int) (ids:List ah) (At:Option Addr) (a:Nat) (Bi:Option Addr) (b2:Nat),j≤k∧Vp=.int .i64 j∧Hid (aC=(partAt (dX p) j i).map (jQ ts))∧Hid (nC ((partAt (dX p) j i).flatMap (cZ ts)) ids)∧Mem w wr (.own aO B 46 (.slice Bi (ids).length b2) (ids)::.own ay B 3 (.slice At (aC).length a) (aC)::.loc PB #[.int .i64 ky.k,.string ky.t,.slice At (aC).length a,.slice Bi (ids).length b2] 80::.loc Jb #[.map (some X3)] 133::.aJ aU X3 L3::.sl ay (some ⟨g,0,none⟩) (iL p)::.own mJ B 80 (.slice nY ps.length nZ) ps::.kK ps::(D::Ds).map Chunk.jy)) (fun Vp _=>k - (intOf Vp).toNat)
         case atStart=>exact ⟨0,[],[],none,0,none,0,ZN _,rfl,rfl,nC.start,Eu.out⟩
         case round =>
          clear Eu;obtain ⟨j,aC,ids,At,a,Bi,b2,hj,rfl,Gp,zk,dW⟩:=hrel;have hbt:aC.length≤100000:=by
           rw [Gp.out,ZW];have:=BZ (dX p) j i
           have:=Ho.out.tb
           have:=Hn.out
           omega
          have hbi:ids.length≤100000:=by
           have h1:=zk.out.len;have h2:=Ez (m:=10) (f:=cZ ts) (partAt (dX p) j i) Ho.out.cZ;have:=BZ (dX p) j i
           have:=Ho.out.tb
           have:=Hn.out
           omega
          by_cases hjk:j < k
          ·obtain ⟨v,hv⟩:∃ v,ts[j]? =some v:=⟨_,Z8 (by rw [Hn.out];exact hjk)⟩;obtain ⟨UM,off2,Aj,cj,EK,EL,hA2,hblk2,d0,d1,d2,d3,d4,hi2,hf2⟩:=(HT.out w (ZX _ _)).aC j v hv;simp only [Option.some.injEq,Addr.mk.injEq,and_true] at hA2;obtain ⟨rfl,rfl⟩:=hA2;have hcl:=fun (q:Addr) (hq:q.block < w.heap.size)=>dW.b.cell hq;rw [← hcl _ hblk2] at d0 d1 d2 d3 d4;clear hcl;have HI:=Z9 (fun w' (h:Below w.heap.size w w')=>hi2.aK h);have hvl:v.ids.length≤10:=Ho.out.ib v (Z7 hv);have alr:Hid (cZ ts j=v.ids):=Gg hv;have als:Hid (jQ ts j=v.no):=ND hv;clear hi2 hf2 hv;go_upto_region 47 with fail
           clear d0 d1 d2 d3 d4;obtain ⟨U2,Vq⟩:∃ U2,U2=wr.heap.size:=⟨_,rfl⟩;have gy:Mem w _ (.loc U2 (aS v Aj cj EK EL) 58::.own aO B 46 (.slice Bi (ids).length b2) (ids)::.own ay B 3 (.slice At (aC).length a) (aC)::.loc PB #[.int .i64 ky.k,.string ky.t,.slice At (aC).length a,.slice Bi (ids).length b2] 80::.loc Jb #[.map (some X3)] 133::.aJ aU X3 L3::.sl ay (some ⟨g,0,none⟩) (iL p)::.own mJ B 80 (.slice nY ps.length nZ) ps::.kK ps::(D::Ds).map Chunk.jy):=(dW.newAt (aS v Aj cj EK EL) 58 U2 Vq).front;rw [← Vq];clear Vq dW;generalize wr.alloc (.cells (aS v Aj cj EK EL) 58)=w6 at *;obtain ⟨gb,go,eg,_,cl⟩:=(gy.slc 6 rfl).int j _ (jY (Hlb.out j hjk));simp only [Option.some.injEq,Addr.mk.injEq,and_true] at eg;obtain ⟨rfl,rfl⟩:=eg;rw [Zh] at cl;have hps:=UC (dX p) j i;have O7:=Z9 hps;clear hps;by_cases hcj:dX p j=i
           ·have hd2:((dX p j:Int) != (i:Int))=false:=by simp;omega
            have O8:Hid (aC++[v.no]=(partAt (dX p) (j + 1) i).map (jQ ts)):=by
             show _=_;rw [O7.out,if_pos hcj,ZP,← Gp.out,List.map_singleton,als.out]
            have Oh:Hid ((partAt (dX p) (j + 1) i).flatMap (cZ ts)=((partAt (dX p) j i).flatMap (cZ ts))++v.ids):=by
             show _=_;rw [O7.out,if_pos hcj,List.flatMap_append,← alr.out];simp
            obtain ⟨l,hl2⟩:∃ l:Int,(dX p j:Int)=l:=⟨_,rfl⟩;rw [hl2] at cl hd2;clear hl2 hcj;have y0:=(gy.lv 0 rfl).all;have z0:=(gy.lv 3 rfl).all;have hsB:B≤w6.heap.size:=by rw [Hb.out];exact gy.b.size
            go_upto_region 49 with (at_builtin;refine gy.app 2 rfl xA rfl _ _ rfl v.no 1 rfl rfl rfl (Bq v.no) hsB (by omega) (by decide) ?_;intro v' w7 iD;obtain ⟨At2,a2,rfl⟩:=(iD.ow 2 rfl).len;have z1:=(iD.lv 3 rfl).all)
            have pY:=iD.set 3 2 (.slice At2 (aC++[v.no]).length a2) rfl;rw [Z4,ZA] at pY;obtain ⟨oV,O9⟩:∃ oV,aC++[v.no]=oV:=⟨_,rfl⟩;have htl:aC.length + 1=oV.length:=by rw [← O9];simp
            replace pY:Mem w (w7.setCell ⟨PB,2,none⟩ (.slice At2 (aC.length + 1) a2)) (.loc U2 (aS v Aj cj EK EL) 58::.own aO B 46 (.slice Bi (ids).length b2) (ids)::.own ay B 3 (.slice At2 (oV).length a2) (oV)::.loc PB #[.int .i64 ky.k,.string ky.t,.slice At2 (oV).length a2,.slice Bi (ids).length b2] 80::.loc Jb #[.map (some X3)] 133::.aJ aU X3 L3::.sl ay (some ⟨g,0,none⟩) (iL p)::.own mJ B 80 (.slice nY ps.length nZ) ps::.kK ps::(D::Ds).map Chunk.jy):=by
             rw [← O9,show (aC++[v.no]).length=aC.length + 1 by simp];exact pY
            rw [O9] at O8;rw [htl] at pY ⊢;clear y0 z0 z1 gy iD cl hd2 hsB O9 htl;generalize w7.setCell ⟨PB,2,none⟩ (.slice At2 oV.length a2)=w8 at *;have y0:=(pY.lv 0 rfl).all;go_wp2_with fail
            clear y0;go_loopw [179] (fun Vr wr=>∃ (m:Nat) (ids:List ah) (Bi:Option Addr) (b2:Nat),m≤v.ids.length∧Vr=.int .i64 m∧Hid (nC (((partAt (dX p) j i).flatMap (cZ ts))++v.ids.take m) ids)∧Mem w wr (.loc U2 (aS v Aj cj EK EL) 58::.own aO B 46 (.slice Bi (ids).length b2) (ids)::.own ay B 3 (.slice At2 (oV).length a2) (oV)::.loc PB #[.int .i64 ky.k,.string ky.t,.slice At2 (oV).length a2,.slice Bi (ids).length b2] 80::.loc Jb #[.map (some X3)] 133::.aJ aU X3 L3::.sl ay (some ⟨g,0,none⟩) (iL p)::.own mJ B 80 (.slice nY ps.length nZ) ps::.kK ps::(D::Ds).map Chunk.jy)) (fun Vr _=>v.ids.length - (intOf Vr).toNat)
            case atStart=>exact ⟨0,ids,Bi,b2,ZN _,rfl,by show nC _ _;rw [List.take_zero,ZH];exact zk.out,pY⟩
            case round =>
             clear pY zk hbi;obtain ⟨m,ids,Bi,b2,hm,rfl,zk,pY⟩:=hrel;have hbi:ids.length≤100000:=by
              have h1:=zk.out.len;have h2:=Ez (m:=10) (f:=cZ ts) (partAt (dX p) j i) Ho.out.cZ;have:=BZ (dX p) j i
              have:=Ho.out.tb
              have:=Hn.out
              rw [Z4,ZR] at h1;omega
             by_cases hlt2:m < v.ids.length
             ·obtain ⟨x,hx⟩:∃ x,v.ids[m]? =some x:=⟨_,Z8 hlt2⟩;obtain ⟨jb,jo,rfl,hjb,c0,c1⟩:=(HI.out wr pY.b).qx m x hx;have xM:Hid (nC (((partAt (dX p) j i).flatMap (cZ ts))++v.ids.take (m + 1)) (if decide (x∈ids)=true then ids else ids++[x])):=by
               show nC _ _;rw [take_snoc hx,← ZM];exact zk.out.add x
              clear hx;go_upto_region 52 with fail
              clear c0 c1;obtain ⟨Z2,hZ2⟩:∃ Z2,Z2=wr.heap.size:=⟨_,rfl⟩;have EM:Mem w _ (.loc Z2 #[.int .i64 x.k,.string x.t] 46::.loc U2 (aS v (some ⟨jb,jo,none⟩) cj EK EL) 58::.own aO B 46 (.slice Bi (ids).length b2) (ids)::.own ay B 3 (.slice At2 (oV).length a2) (oV)::.loc PB #[.int .i64 ky.k,.string ky.t,.slice At2 (oV).length a2,.slice Bi (ids).length b2] 80::.loc Jb #[.map (some X3)] 133::.aJ aU X3 L3::.sl ay (some ⟨g,0,none⟩) (iL p)::.own mJ B 80 (.slice nY ps.length nZ) ps::.kK ps::(D::Ds).map Chunk.jy):=(pY.newAt #[.int .i64 x.k,.string x.t] 46 Z2 hZ2).front;rw [← hZ2];clear hZ2 pY;generalize wr.alloc (.cells #[.int .i64 x.k,.string x.t] 46)=w9 at *;have y0:=(EM.lv 0 rfl).all;have z0:=(EM.lv 4 rfl).all;have qL:=Z9 (Oj (fun _=>False) Bi ids b2 x w9 ((EM.ow 2 rfl).xR jg) (by omega));obtain ⟨b,hb⟩:∃ b,decide (x∈ids)=b:=⟨_,rfl⟩;rw [hb] at qL xM;clear hb;go_wp2_with fail
              refine (qL.out).mono ?_;rintro e w10 ⟨rfl,ac6⟩;have xO:=EM.below ac6;clear qL ac6 EM y0 z0;cases b
              ·have y0:=(xO.lv 0 rfl).all;have z0:=(xO.lv 4 rfl).all;have hsB:B≤w10.heap.size:=by rw [Hb.out];exact xO.b.size
               rw [if_neg (by decide)] at xM;go_upto_region 54 with (at_builtin;refine xO.app 2 rfl Bg rfl _ _ rfl x 1 rfl rfl rfl (Bf x) hsB (by omega) (by decide) ?_;intro v' pW GY;obtain ⟨GZ,b3,rfl⟩:=(GY.ow 2 rfl).len;have z1:=(GY.lv 4 rfl).all)
               have EN:=GY.set 4 3 (.slice GZ (ids++[x]).length b3) rfl;rw [Z4,ZA] at EN;obtain ⟨id2,Pg⟩:∃ id2,ids++[x]=id2:=⟨_,rfl⟩;have ac7:ids.length + 1=id2.length:=by rw [← Pg];simp
               replace EN:Mem w (pW.setCell ⟨PB,3,none⟩ (.slice GZ (ids.length + 1) b3)) (.loc Z2 #[.int .i64 x.k,.string x.t] 46::.loc U2 (aS v (some ⟨jb,jo,none⟩) cj EK EL) 58::.own aO B 46 (.slice GZ (id2).length b3) (id2)::.own ay B 3 (.slice At2 (oV).length a2) (oV)::.loc PB #[.int .i64 ky.k,.string ky.t,.slice At2 (oV).length a2,.slice GZ (id2).length b3] 80::.loc Jb #[.map (some X3)] 133::.aJ aU X3 L3::.sl ay (some ⟨g,0,none⟩) (iL p)::.own mJ B 80 (.slice nY ps.length nZ) ps::.kK ps::(D::Ds).map Chunk.jy):=by
                rw [← Pg,show (ids++[x]).length=ids.length + 1 by simp];exact EN
               rw [Pg] at xM;rw [ac7] at EN ⊢;clear y0 z0 z1 xO GY hsB Pg ac7;generalize pW.setCell ⟨PB,3,none⟩ (.slice GZ id2.length b3)=w12 at *;go_wp2_with fail
               go_roundw
               case rel=>exact ⟨m + 1,id2,GZ,b3,by omega,by go_num,xM.out,EN.del 0⟩
               case measure=>simp [intOf];omega
              ·rw [if_pos rfl] at xM;go_wp2_with fail
               go_roundw
               case rel=>exact ⟨m + 1,ids,Bi,b2,by omega,by go_num,xM.out,xO.del 0⟩
               case measure=>simp [intOf];omega
             ·obtain rfl:m=v.ids.length:=by omega
              have xM:Hid (nC ((partAt (dX p) (j + 1) i).flatMap (cZ ts)) ids):=by
               show nC _ _;rw [Oh.out];have:=zk.out
               rw [Zp] at this;exact this
              go_wp2_with fail
              go_roundw
              case rel =>
               exact ⟨j + 1,oV,ids,At2,a2,Bi,b2,by omega,by go_num,O8.out,xM.out,pY.del 0⟩
              case measure=>simp [intOf];omega
           ·have hd2:((dX p j:Int) != (i:Int))=true:=by simp;omega
            have O8:Hid (aC=(partAt (dX p) (j + 1) i).map (jQ ts)):=by
             show _=_;rw [O7.out,if_neg hcj,ZH,Gp.out]
            have xM:Hid (nC ((partAt (dX p) (j + 1) i).flatMap (cZ ts)) ids):=by
             show nC _ _;rw [O7.out,if_neg hcj,ZH];exact zk.out
            have iD:=gy.del 0;go_wp2_with fail
            go_roundw
            case rel=>exact ⟨j + 1,aC,ids,At,a,Bi,b2,by omega,by go_num,O8.out,xM.out,iD⟩
            case measure=>simp [intOf];omega
          ·obtain rfl:j=k:=by omega
           have z0:=(dW.lv 2 rfl).all;have Hs:=Z9 (aaW dW 0 rfl (by omega));go_wp2_with fail
           refine (Hs.out).mono ?_;rintro e w12 ⟨rfl,ys,hperm,hord,gy⟩;have hyl:=hperm.length_eq;have J7:=Z9 (zk.out.sorted hperm hord);have iD:Mem w w12 (.own aO B 46 (.slice Bi ys.length b2) ys::.own ay B 3 (.slice At aC.length a) aC::.loc PB #[.int .i64 ky.k,.string ky.t,.slice At aC.length a,.slice Bi ys.length b2] 80::.loc Jb #[.map (some X3)] 133::.aJ aU X3 L3::.sl ay (some ⟨g,0,none⟩) (iL p)::.own mJ B 80 (.slice nY ps.length nZ) ps::.kK ps::(D::Ds).map Chunk.jy):=by rw [hyl];exact gy
           rw [← hyl] at hbi;rw [← hyl];have Ec:=Z9 hyl;clear Hs hperm hord dW gy z0 hyl;have z0:=(iD.lv 2 rfl).all;have hsB:B≤w12.heap.size:=by rw [Hb.out];exact iD.b.size
           obtain ⟨q,hq⟩:∃ q:iW,q=⟨⟨ky,aC,ys⟩,At,a,Bi,b2⟩:=⟨_,rfl⟩;have hTn:=Ho.out.tb;rw [Hn.out] at hTn;go_wp2_with (at_builtin;refine iD.app 6 rfl ak3 rfl _ _ rfl (⟨⟨ky,aC,ys⟩,At,a,Bi,b2⟩:iW) 1 rfl rfl rfl (ak4 ⟨⟨ky,aC,ys⟩,At,a,Bi,b2⟩) hsB (by omega) (by decide) ?_;intro v' Pv pY;rw [← hq] at pY;obtain ⟨A23,c23,rfl⟩:=(pY.ow 6 rfl).len)
           obtain ⟨A4,c4,e4,EM⟩:=pY.cO 0 rfl;simp only [Value.slice.injEq,true_and] at e4;obtain ⟨rfl,rfl⟩:=e4;obtain ⟨A5,c5,e5,xO⟩:=EM.cO 1 rfl;simp only [Value.slice.injEq,true_and] at e5;obtain ⟨rfl,rfl⟩:=e5;have Lh:q.A=At∧q.p.aC=aC∧q.B=Bi∧q.p.ids=ys:=by rw [hq];exact ⟨rfl,rfl,rfl,rfl⟩
           have GY:=xO.ak7 7 rfl q (by rw [Lh.1,Lh.2.1];exact xO.slc 1 rfl) (by rw [Lh.2.2.1,Lh.2.2.2];exact xO.slc 0 rfl);clear Lh;have EN:Mem w Pv (.loc Jb #[.map (some X3)] 133::.aJ aU X3 L3::.sl ay (some ⟨g,0,none⟩) (iL p)::.own mJ B 80 (.slice A23 (ps++[q]).length c23) (ps++[q])::.kK (ps++[q])::(D::Ds).map Chunk.jy):=((GY.del 0).del 0).del 0;have Vs:Hid ((ps++[q]).map iW.p=(heads (dX p) (i + 1)).map (BR r ts (dX p))):=by
            show _=_;rw [Uz Hci.out,ZP,ZP,O6.out,hq,List.map_singleton,List.map_singleton];congr 2
            unfold BR;rw [Ht.out,Hn.out];simp only [UF.out,Gp.out,J7.out]
           refine ⟨⟨⟨rfl,rfl,rfl,rfl,rfl,rfl⟩,i + 1,ps++[q],A23,c23,D::Ds,by omega,by rw [Z4];rfl,by show Value.int _ _=_;go_num,rfl,Vs.out,EN⟩,?measure2⟩
           case measure2=>show j - (intOf (.int .i64 _)).toNat < j - (intOf (.int .i64 _)).toNat;simp [intOf];omega
        case stop =>
         rintro D cc2 pre W hD _ h;exact h.elim
       ·have hd:((dX p i:Int) != (i:Int))=true:=by simp;omega
        have Vs:Hid (ps.map iW.p=(heads (dX p) (i + 1)).map (BR r ts (dX p))):=by show _=_;rw [UA hci];exact O6.out
        have S7:=S6.del 0;clear y0 S6;go_wp2_with fail
        refine ⟨⟨⟨rfl,rfl,rfl,rfl,rfl,rfl⟩,i + 1,ps,nY,nZ,Ds,by omega,rfl,by show Value.int _ _=_;go_num,rfl,Vs.out,S7⟩,?measure⟩
        case measure=>show k - (intOf (.int .i64 _)).toNat < k - (intOf (.int .i64 _)).toNat;simp [intOf];omega
      ·obtain rfl:i=k:=by omega
       go_wp2_with fail
       (try simp only [Exit.inBlock,Exit.then])
       refine ac1 Ds wr (cs:=[.loc Jb #[.map (some X3)] 133,.aJ aU X3 L3,.sl ay (some ⟨g,0,none⟩) (iL p),.own mJ B 80 (.slice nY ps.length nZ) ps,.kK ps]) S4 (fun W' SW=>?_);have hPs:Uj r ts (ps.map iW.p):=⟨dX p,by rw [Hn.out];exact alq.out,by rw [O6.out];unfold xQ;rw [Hn.out]⟩;have S9:=((SW.del 2).del 1).del 0;rw [show B=w.heap.size from Hb.out] at S9;exact ⟨_,results_tmp rfl _ _ _,nY,nZ,ps,rfl,hPs,S9⟩
    ·clear rG;go_upto_region 12 with fail
     obtain ⟨X4,Vu⟩:∃ X4,X4=wr.heap.size:=⟨_,rfl⟩;have S5:Mem w (wr.alloc (.map #[] 0)) [.loc Jb #[.map (some X3)] 133,.aJ aU X3 L3,.own ay B 3 (.slice (some ⟨g,0,none⟩) k k) (iL p),.aJ aU X4 (([]:List (ah×Nat)).map oU)]:=S4.zD aU X4 Vu;rw [← Vu];clear Vu S4;generalize wr.alloc (.map #[] 0)=w5 at *;go_wp2_with fail
     go_loopw [52] (fun i wr=>∃ (j:Nat) (L:List (ah×Nat)),j≤k∧i=.int .i64 j∧Hid (jM r ts p j 0 L)∧Mem w wr [.loc Jb #[.map (some X3)] 133,.aJ aU X3 L3,.own ay B 3 (.slice (some ⟨g,0,none⟩) k k) (iL p),.aJ aU X4 (L.map oU)]) (fun i _=>k - (intOf i).toNat)
     case atStart=>exact ⟨0,[],ZN _,rfl,jM.start r ts p,S5⟩
     case round =>
      clear S5;obtain ⟨j,L,hj,rfl,HL,S5⟩:=hrel;by_cases hlt:j < k
      ·obtain ⟨t,ht⟩:∃ t,ts[j]? =some t:=⟨_,Z8 (by rw [Hn.out];exact hlt)⟩;obtain ⟨blk,off,Ai,ci,Af,cf,rfl,hblk,d0,d1,d2,d3,d4,hi,hf⟩:=(HT.out w (ZX _ _)).aC j t ht;have hcl:=fun (p:Addr) (hp:p.block < w.heap.size)=>S5.b.cell hp;rw [← hcl _ hblk] at d0 d1 d2 d3 d4;clear hcl;have HI:=Z9 (fun w' (h:Below w.heap.size w w')=>hi.aK h);have hil:t.ids.length≤10:=Ho.out.ib t (Z7 ht);have GV:Hid (cZ ts j=t.ids):=Gg ht;have Ht:=Z9 ht;clear hi hf ht;go_upto_region 15 with fail
       clear d0 d1 d2 d3 d4;obtain ⟨U,hU⟩:∃ U,U=wr.heap.size:=⟨_,rfl⟩;have S6:Mem w _ [.loc U (aS t Ai ci Af cf) 58,.loc Jb #[.map (some X3)] 133,.aJ aU X3 L3,.own ay B 3 (.slice (some ⟨g,0,none⟩) k k) (iL p),.aJ aU X4 (L.map oU)]:=(S5.newAt (aS t Ai ci Af cf) 58 U hU).front;rw [← hU];clear hU S5;generalize wr.alloc (.cells (aS t Ai ci Af cf) 58)=w6 at *;have y0:=(S6.lv 0 rfl).all;go_wp2_with fail
       clear y0;go_loopw [60] (fun i wr=>∃ (m:Nat) (L:List (ah×Nat)),m≤t.ids.length∧i=.int .i64 m∧Hid (jM r ts p j m L)∧Mem w wr [.loc U (aS t Ai ci Af cf) 58,.loc Jb #[.map (some X3)] 133,.aJ aU X3 L3,.own ay B 3 (.slice (some ⟨g,0,none⟩) k k) (iL p),.aJ aU X4 (L.map oU)]) (fun i _=>t.ids.length - (intOf i).toNat)
       case atStart=>exact ⟨0,L,ZN _,rfl,HL.out,S6⟩
       case round =>
        clear S6 HL;obtain ⟨m,L,hm,rfl,HL,S6⟩:=hrel;by_cases hlt2:m < t.ids.length
        ·obtain ⟨x,hx⟩:∃ x,t.ids[m]? =some x:=⟨_,Z8 hlt2⟩;obtain ⟨ib,io,rfl,hib,c0,c1⟩:=(HI.out wr S6.b).qx m x hx;have qI:Hid ((cZ ts j)[m]? =some x):=by show _=_;rw [GV.out];exact hx
         clear hx;go_upto_region 18 with fail
         clear c0 c1;obtain ⟨Z,hZ⟩:∃ Z,Z=wr.heap.size:=⟨_,rfl⟩;have S7:Mem w _ [.loc Z #[.int .i64 x.k,.string x.t] 46,.loc U (aS t (some ⟨ib,io,none⟩) ci Af cf) 58,.loc Jb #[.map (some X3)] 133,.aJ aU X3 L3,.own ay B 3 (.slice (some ⟨g,0,none⟩) k k) (iL p),.aJ aU X4 (L.map oU)]:=(S6.newAt #[.int .i64 x.k,.string x.t] 46 Z hZ).front;rw [← hZ];clear hZ S6;generalize wr.alloc (.cells #[.int .i64 x.k,.string x.t] 46)=w7 at *;have y0:=(S7.lv 0 rfl).all;obtain ⟨a,ha⟩:∃ a,p[j]? =some a:=⟨_,Z8 (by rw [← GU.out];exact hlt)⟩;have cq:=((S7.ow 4 rfl).sO (by rw [kX];exact GU.out) j a (jY ha)).1;have Ha:=Z9 ha;have j0:=(S7.lv 2 rfl).all;obtain ⟨jx,vX⟩:∃ jx,Hid (mD r ts x=jx):=⟨_,Z9 rfl⟩;have hjl:(aT x L3).getD (.bool false)=.bool jx:=by
          have h1:hav ts x≠[]:=fun e=>by
           have h2:j∈hav ts x:=En.1 (Z7 qI.out);rw [e] at h2;cases h2
          rw [BM.out x,if_neg h1,← vX.out];rfl
         have hlk:(Instr.lookup 133 (.map (some X3)) (.agg #[.int .i64 x.k,.string x.t]) false).run Tryz.prog w7=.ok (.bool jx) w7:=by
          have h1:=tJ (K:=aU) (T:=133) (E:=4) (S7.ok (.aJ aU X3 L3) (Z7 (i:=3) rfl)) (by kernel_rfl) (acZ w7) x false;rw [if_neg (by decide),hjl] at h1;exact h1
         have oW:=tJ (K:=aU) (T:=135) (E:=3) (S7.ok (.aJ aU X4 (L.map oU)) (Z7 (i:=5) rfl)) (by kernel_rfl) (xu w7) x true;rw [if_pos rfl,acV] at oW;replace oW:(Instr.lookup 135 (.map (some X4)) (.agg #[.int .i64 x.k,.string x.t]) true).run Tryz.prog w7=_:=oW;clear ha hjl;cases hgx:aT x L with
         | none =>
          rw [hgx] at oW;simp only [Option.map_none,Option.getD_none,Option.isSome_none] at oW;cases jx
          ·have zl:Hid (jM r ts p j (m + 1) L):=HL.out.skip qI.out Ha.out (fun e=>by rw [vX.out] at e;cases e);clear hgx;go_wp2_with fail
           go_roundw
           case rel=>exact ⟨m + 1,L,by omega,by go_num,zl.out,(S7.del 0)⟩
           case measure=>simp [intOf];omega
          ·have Lj:Hid (jM r ts p j (m + 1) (bI x a L)):=HL.out.put qI.out vX.out Ha.out (fun v e=>by rw [hgx] at e;cases e);clear hgx;go_upto_region 20 with fail
           clear y0 j0 cq hlk oW;refine wJ [6] (fun w'=>LV w' Z #[.int .i64 x.k,.string x.t] 46∧w'.cell? ⟨g,j,none⟩=some (.int .i64 (a:Nat))) (.p 0 (.q 1 (.p 2 (.p 3 (.p 4 (.q 5 (.b 6 .z))))))) (by kernel_rfl) (by kernel_rfl) (fun w' hd=>⟨(S7.below (hd.below _)).lv 0 rfl,((S7.below (hd.below _)).ow 4 rfl |>.sO (by rw [kX];exact GU.out) j a (jY Ha.out)).1⟩) (fun KK aF wd hd=>?_);have S8:=S7.below (hd.below _);clear hd S7;refine dN ?_;refine jc (.agg #[.int .i64 x.k,.string x.t]) rfl rfl rfl rfl (fun w' h=>gU (h.1.cell 0 _ rfl) (h.1.cell 1 _ rfl)) ?_;refine dN ?_;refine jc (.int .i64 (a:Nat)) rfl rfl rfl rfl (fun w' h=>eX rfl h.2) ?_;go_simp;refine BG rfl rfl (fun K9 hK9=>?_);refine S8.wP 5 rfl (T:=135) (E:=3) (by kernel_rfl) rfl _ _ _ rfl rfl x rfl (.int .i64 (a:Nat)) rfl ?_;intro w9 S9;rw [acW] at S9;have eU:Hid (Mem w w9 [.loc Z #[.int .i64 x.k,.string x.t] 46,.loc U (aS t (some ⟨ib,io,none⟩) ci Af cf) 58,.loc Jb #[.map (some X3)] 133,.aJ aU X3 L3,.own ay B 3 (.slice (some ⟨g,0,none⟩) k k) (iL p),.aJ aU X4 ((bI x a L).map oU)]):=S9;clear S9 S8;go_wp2_with fail
           refine ⟨trivial,?_⟩;refine rJ ?_;simp only [Exit.then];refine aF _ _ ?_;clear aF KK;go_wp2_with fail
           go_roundw
           case rel=>exact ⟨m + 1,bI x a L,by omega,by go_num,Lj.out,(eU.out.del 0)⟩
           case measure=>simp [intOf];omega
         | some v =>
          rw [hgx] at oW;simp only [Zx,Option.getD_some,Option.isSome_some] at oW;cases jx
          ·have zl:Hid (jM r ts p j (m + 1) L):=HL.out.skip qI.out Ha.out (fun e=>by rw [vX.out] at e;cases e);clear hgx;go_wp2_with fail
           go_roundw
           case rel=>exact ⟨m + 1,L,by omega,by go_num,zl.out,(S7.del 0)⟩
           case measure=>simp [intOf];omega
          ·by_cases alu:a < v
           ·have Lj:Hid (jM r ts p j (m + 1) (bI x a L)):=HL.out.put qI.out vX.out Ha.out (fun v' e=>by rw [hgx] at e;obtain rfl:=Option.some.inj e;exact alu);have hd1:decide ((a:Int) < (v:Int))=true:=decide_eq_true (by omega);clear hgx;go_upto_region 20 with fail
            clear y0 j0 cq hlk oW hd1;refine wJ [6] (fun w'=>LV w' Z #[.int .i64 x.k,.string x.t] 46∧w'.cell? ⟨g,j,none⟩=some (.int .i64 (a:Nat))) (.p 0 (.q 1 (.p 2 (.p 3 (.p 4 (.q 5 (.b 6 .z))))))) (by kernel_rfl) (by kernel_rfl) (fun w' hd=>⟨(S7.below (hd.below _)).lv 0 rfl,((S7.below (hd.below _)).ow 4 rfl |>.sO (by rw [kX];exact GU.out) j a (jY Ha.out)).1⟩) (fun KK aF wd hd=>?_);have S8:=S7.below (hd.below _);clear hd S7;refine dN ?_;refine jc (.agg #[.int .i64 x.k,.string x.t]) rfl rfl rfl rfl (fun w' h=>gU (h.1.cell 0 _ rfl) (h.1.cell 1 _ rfl)) ?_;refine dN ?_;refine jc (.int .i64 (a:Nat)) rfl rfl rfl rfl (fun w' h=>eX rfl h.2) ?_;go_simp;refine BG rfl rfl (fun K9 hK9=>?_);refine S8.wP 5 rfl (T:=135) (E:=3) (by kernel_rfl) rfl _ _ _ rfl rfl x rfl (.int .i64 (a:Nat)) rfl ?_;intro w9 S9;rw [acW] at S9;have eU:Hid (Mem w w9 [.loc Z #[.int .i64 x.k,.string x.t] 46,.loc U (aS t (some ⟨ib,io,none⟩) ci Af cf) 58,.loc Jb #[.map (some X3)] 133,.aJ aU X3 L3,.own ay B 3 (.slice (some ⟨g,0,none⟩) k k) (iL p),.aJ aU X4 ((bI x a L).map oU)]):=S9;clear S9 S8;go_wp2_with fail
            refine ⟨trivial,?_⟩;refine rJ ?_;simp only [Exit.then];refine aF _ _ ?_;clear aF KK;go_wp2_with fail
            go_roundw
            case rel=>exact ⟨m + 1,bI x a L,by omega,by go_num,Lj.out,(eU.out.del 0)⟩
            case measure=>simp [intOf];omega
           ·have zl:Hid (jM r ts p j (m + 1) L):=HL.out.skip qI.out Ha.out (fun _=>⟨v,hgx,by omega⟩);have hd1:decide ((a:Int) < (v:Int))=false:=decide_eq_false (by omega);clear hgx;go_wp2_with fail
            go_roundw
            case rel=>exact ⟨m + 1,L,by omega,by go_num,zl.out,(S7.del 0)⟩
            case measure=>simp [intOf];omega
        ·obtain rfl:m=t.ids.length:=by omega
         have HL2:Hid (jM r ts p (j + 1) 0 L):=jM.next (by rw [GV.out];exact HL.out);go_wp2_with fail
         go_roundw
         case rel=>exact ⟨j + 1,L,by omega,by go_num,HL2.out,S6.del 0⟩
         case measure=>simp [intOf];omega
      ·obtain rfl:j=k:=by omega
       have HFs:Hid (Falls r ts p L 0 0 p false):=Falls.start L (by rw [Hn.out];exact dY.out);have HLe:Hid (jM r ts p j 0 L):=HL.out;clear HL;go_wp2_with fail
       go_loopw [8,95] (fun s8 i wr=>∃ (k:Nat) (q:List Nat) (ch:Bool),k≤j∧s8=.bool ch∧i=.int .i64 k∧Hid (Falls r ts p L k 0 q ch)∧Mem w wr [.loc Jb #[.map (some X3)] 133,.aJ aU X3 L3,.own ay B 3 (.slice (some ⟨g,0,none⟩) j j) (iL q),.aJ aU X4 (L.map oU)]) (fun _ i _=>j - (intOf i).toNat)
       case atStart=>exact ⟨0,p,false,ZN _,rfl,rfl,HFs.out,S5⟩
       case round =>
        clear S5 HFs;obtain ⟨k,q0,G5,hk2,rfl,rfl,HF,S5⟩:=hrel;by_cases hlt:k < j
        ·obtain ⟨t,ht⟩:∃ t,ts[k]? =some t:=⟨_,Z8 (by rw [Hn.out];exact hlt)⟩;obtain ⟨blk,off,Ai,ci,Af,cf,rfl,hblk,d0,d1,d2,d3,d4,hi,hf⟩:=(HT.out w (ZX _ _)).aC k t ht;have hcl:=fun (p:Addr) (hp:p.block < w.heap.size)=>S5.b.cell hp;rw [← hcl _ hblk] at d0 d1 d2 d3 d4;clear hcl;have HI:=Z9 (fun w' (h:Below w.heap.size w w')=>hi.aK h);have hil:t.ids.length≤10:=Ho.out.ib t (Z7 ht);have GV:Hid (cZ ts k=t.ids):=Gg ht;have Ht:=Z9 ht;clear hi hf ht;go_upto_region 26 with fail
         clear d0 d1 d2 d3 d4;obtain ⟨U,hU⟩:∃ U,U=wr.heap.size:=⟨_,rfl⟩;have S6:Mem w _ [.loc U (aS t Ai ci Af cf) 58,.loc Jb #[.map (some X3)] 133,.aJ aU X3 L3,.own ay B 3 (.slice (some ⟨g,0,none⟩) j j) (iL q0),.aJ aU X4 (L.map oU)]:=(S5.newAt (aS t Ai ci Af cf) 58 U hU).front;rw [← hU];clear hU S5;generalize wr.alloc (.cells (aS t Ai ci Af cf) 58)=w6 at *;have y0:=(S6.lv 0 rfl).all;go_wp2_with fail
         clear y0;go_loopw [8,103] (fun s8 i wr=>∃ (m:Nat) (q:List Nat) (ch:Bool),m≤t.ids.length∧s8=.bool ch∧i=.int .i64 m∧Hid (Falls r ts p L k m q ch)∧Mem w wr [.loc U (aS t Ai ci Af cf) 58,.loc Jb #[.map (some X3)] 133,.aJ aU X3 L3,.own ay B 3 (.slice (some ⟨g,0,none⟩) j j) (iL q),.aJ aU X4 (L.map oU)]) (fun _ i _=>t.ids.length - (intOf i).toNat)
         case atStart=>exact ⟨0,q0,G5,ZN _,rfl,rfl,HF.out,S6⟩
         case round =>
          clear S6 HF;obtain ⟨m,q,ch,hm,rfl,rfl,HF,S6⟩:=hrel;by_cases hlt2:m < t.ids.length
          ·obtain ⟨x,hx⟩:∃ x,t.ids[m]? =some x:=⟨_,Z8 hlt2⟩;obtain ⟨ib,io,rfl,hib,c0,c1⟩:=(HI.out wr S6.b).qx m x hx;have qI:Hid ((cZ ts k)[m]? =some x):=by show _=_;rw [GV.out];exact hx
           clear hx;go_upto_region 29 with fail
           clear c0 c1;obtain ⟨Z,hZ⟩:∃ Z,Z=wr.heap.size:=⟨_,rfl⟩;have S7:Mem w _ [.loc Z #[.int .i64 x.k,.string x.t] 46,.loc U (aS t (some ⟨ib,io,none⟩) ci Af cf) 58,.loc Jb #[.map (some X3)] 133,.aJ aU X3 L3,.own ay B 3 (.slice (some ⟨g,0,none⟩) j j) (iL q),.aJ aU X4 (L.map oU)]:=(S6.newAt #[.int .i64 x.k,.string x.t] 46 Z hZ).front;rw [← hZ];clear hZ S6;generalize wr.alloc (.cells #[.int .i64 x.k,.string x.t] 46)=w7 at *;have y0:=(S7.lv 0 rfl).all;have hlq:j=q.length:=by rw [HF.out.st.len,Hn.out]
           obtain ⟨a,ha⟩:∃ a,q[k]? =some a:=⟨_,Z8 (by omega)⟩;have Vw:j=(iL q).length:=by rw [kX];exact hlq
           obtain ⟨cq,fq⟩:=(S7.ow 4 rfl).sO Vw k a (jY ha);have Ha:=Z9 ha;have alv:=Z9 Vw;have oW:=tJ (K:=aU) (T:=135) (E:=3) (S7.ok (.aJ aU X4 (L.map oU)) (Z7 (i:=5) rfl)) (by kernel_rfl) (xu w7) x true;rw [if_pos rfl,acV] at oW;replace oW:(Instr.lookup 135 (.map (some X4)) (.agg #[.int .i64 x.k,.string x.t]) true).run Tryz.prog w7=_:=oW;clear ha hlq Vw;cases hgx:aT x L with
           | none =>
            rw [hgx] at oW;simp only [Option.map_none,Option.getD_none,Option.isSome_none] at oW;have zl:Hid (Falls r ts p L k (m + 1) q ch):=HF.out.skip qI.out Ha.out (fun v e=>by rw [hgx] at e;cases e);clear hgx;go_wp2_with fail
            go_roundw
            case rel=>exact ⟨m + 1,q,ch,by omega,rfl,by go_num,zl.out,(S7.del 0)⟩
            case measure=>simp [intOf];omega
           | some v =>
            rw [hgx] at oW;simp only [Zx,Option.getD_some,Option.isSome_some] at oW;by_cases hva:v < a
            ·have Lj:Hid (Falls r ts p L k (m + 1) (q.set k v) true):=HF.out.put (by rw [Hn.out];exact dY.out) HLe.out qI.out Ha.out hgx hva;have hd1:decide ((v:Int) < (a:Int))=true:=decide_eq_true (by omega);have S8:Mem w (w7.setCell ⟨g,k,none⟩ (.int .i64 (v:Nat))) [.loc Z #[.int .i64 x.k,.string x.t] 46,.loc U (aS t (some ⟨ib,io,none⟩) ci Af cf) 58,.loc Jb #[.map (some X3)] 133,.aJ aU X3 L3,.own ay B 3 (.slice (some ⟨g,0,none⟩) j j) (iL (q.set k v)),.aJ aU X4 (L.map oU)]:=by
              rw [Gh];exact S7.FZ 4 rfl alv.out k a v (jY Ha.out)
             have CO:=Z9 S8;clear hgx S7 S8;go_wp2_with fail
             go_roundw
             case rel=>exact ⟨m + 1,q.set k v,true,by omega,rfl,by go_num,Lj.out,(CO.out.del 0)⟩
             case measure=>simp [intOf];omega
            ·have zl:Hid (Falls r ts p L k (m + 1) q ch):=HF.out.skip qI.out Ha.out (fun v' e=>by rw [hgx] at e;obtain rfl:=Option.some.inj e;omega);have hd1:decide ((v:Int) < (a:Int))=false:=decide_eq_false (by omega);clear hgx;go_wp2_with fail
             go_roundw
             case rel=>exact ⟨m + 1,q,ch,by omega,rfl,by go_num,zl.out,(S7.del 0)⟩
             case measure=>simp [intOf];omega
          ·obtain rfl:m=t.ids.length:=by omega
           have HF2:Hid (Falls r ts p L (k + 1) 0 q ch):=Falls.next (by rw [GV.out];exact HF.out);go_wp2_with fail
           go_roundw
           case rel=>exact ⟨k + 1,q,ch,by omega,rfl,by go_num,HF2.out,S6.del 0⟩
           case measure=>simp [intOf];omega
        ·obtain rfl:k=j:=by omega
         have tK:Hid (Mem w wr [.loc Jb #[.map (some X3)] 133,.aJ aU X3 L3,.own ay B 3 (.slice (some ⟨g,0,none⟩) k k) (iL q0)]):=S5.del 3;have Ll:Falls r ts p L ts.length 0 q0 G5:=by rw [Hn.out];exact HF.out
         have hLf:jM r ts p ts.length 0 L:=by rw [Hn.out];exact HLe.out
         have HST:Hid (Stand k (Edge r ts) q0):=by show Stand _ _ _;rw [← Hn.out];exact Ll.st
         have alx:Hid (Le wr g k=q0.sum):=acX (tK.out.ow 2 rfl) (by rw [HST.out.len]);have HPT:Hid (G5=false→iO k (Edge r ts) (dX q0)):=fun e=>by
          subst e;obtain ⟨e1,e2⟩:=Ll.part hLf;rw [e1,← Hn.out];exact e2
         have OM:Hid (2 * q0.sum + Vh (.bool G5) < 2 * p.sum + Vh (.bool true)):=by
          show _ < _;cases G5 with
          | false =>
           rw [(Ll.no rfl).1];show 2 * p.sum + 0 < 2 * p.sum + 1;omega
          | true =>
           have:=Ll.yes rfl
           show 2 * q0.sum + 1 < 2 * p.sum + 1;omega
         clear S5 HF Ll hLf;go_wp2_with fail
         go_roundw
         case rel=>exact ⟨q0,G5,rfl,HST.out,HPT.out,tK.out⟩
         case measure =>
          rw [ac2.out,alx.out];exact OM.out
theorem aly (N:Nat→Prop)(r:aP)(K W S A:Option Addr)(ck cw cs c:Nat)(ts:List ak)(w:World)(hR:kN N w r K W S)(hT:Sl fU N w A ts)(ho:GN r ts) :
  Calls Tryz.prog 21 #[.agg (aN r K ck W cw S cs),.slice A ts.length c] w (acY r ts w):=by
 refine (alp N r K W S A ck cw cs c ts w hR hT ho).mono ?_;rintro e w' ⟨A2,c2,qs,rfl,hp,T⟩;obtain ⟨A9,c9,e9,T2⟩:=T.cO 0 rfl;simp only [Value.slice.injEq,true_and] at e9;obtain ⟨rfl,rfl⟩:=e9;exact ⟨A2,c2,qs.map iW.p,by rw [ZW],hp,(T2.xQ 0 1 rfl rfl).del 1⟩
theorem adI (N:Nat→Prop)(r:aP)(K W S A:Option Addr)(ck cw cs c:Nat)(ts:List ak)(w:World)(hR:kN N w r K W S)(hT:Sl fU N w A ts)(ho:lM r ts) :
  Calls Tryz.prog 21 #[.agg (aN r K ck W cw S cs),.slice A ts.length c] w (acY r ts w):=aly N r K W S A ck cw cs c ts w hR hT ho.on
end
end Go.Proofs.YtmkkppknaikjjaaGreatDoor
