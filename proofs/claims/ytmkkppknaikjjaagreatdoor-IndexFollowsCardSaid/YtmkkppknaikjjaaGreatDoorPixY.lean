/- Several texts in one: LabLaw, RtOn, RefJn, BackI, RefPq, RefPs. -/
import Derived.Test.YtmkkppknaikjjaaGreatDoorPixP
import Derived.Test.YtmkkppknaikjjaaGreatDoorPixT
import Derived.Test.YtmkkppknaikjjaaGreatDoorPixU
import Derived.Test.YtmkkppknaikjjaaGreatDoorPixJ
import Derived.Test.YtmkkppknaikjjaaGreatDoorPixC
import Derived.Test.YtmkkppknaikjjaaGreatDoorPixZ
import Derived.Test.YtmkkppknaikjjaaGreatDoorPixX
import Derived.RangeFuncLeaves
import Derived.Deep.DeepCutAuto
/- Labels that fall until they stand: the plain law of the reference's persons. -/
namespace Go.Proofs.YtmkkppknaikjjaaGreatDoor
section
open Go Go.RowKit
def SeenI (l:List Tch)(k m:Nat)(x:IdV)(i:Nat):Prop:=(i < k∧x∈idsAt l i)∨(i=k∧x∈(idsAt l k).take m)
theorem SeenI.ids {l:List Tch}{k m i:Nat}{x:IdV}(h:SeenI l k m x i):x∈idsAt l i:=by
 rcases h with ⟨_,h⟩ | ⟨rfl,h⟩
 ·exact h
 ·exact List.mem_of_mem_take h
theorem SeenI.lt {l:List Tch}{k m i:Nat}{x:IdV}(h:SeenI l k m x i):i < l.length:=hav_lt (mem_idsAt.1 h.ids)
theorem seen_none {l:List Tch}{x:IdV}{i:Nat}:¬ SeenI l 0 0 x i:=by
 rintro (⟨h,_⟩ | ⟨_,h⟩)
 ·omega
 ·simp at h
theorem seen_next {l:List Tch}{k:Nat}{x:IdV}{i:Nat}:SeenI l k (idsAt l k).length x i ↔ SeenI l (k + 1) 0 x i:=by
 unfold SeenI;rw [List.take_length,List.take_zero];constructor
 ·rintro (⟨h1,h2⟩ | ⟨rfl,h2⟩)
  ·exact .inl ⟨by omega,h2⟩
  ·exact .inl ⟨by omega,h2⟩
 ·rintro (⟨h1,h2⟩ | ⟨_,h2⟩)
  ·by_cases e:i=k
   ·subst e;exact .inr ⟨rfl,h2⟩
   ·exact .inl ⟨by omega,h2⟩
  ·cases h2
theorem seen_step {l:List Tch}{k m:Nat}{x y:IdV}{i:Nat}(h:(idsAt l k)[m]? =some y):SeenI l k (m + 1) x i ↔ SeenI l k m x i∨(i=k∧x=y):=by
 unfold SeenI;rw [take_snoc h,List.mem_append,List.mem_singleton];constructor
 ·rintro (h | ⟨h1,h2 | h2⟩)
  ·exact .inl (.inl h)
  ·exact .inl (.inr ⟨h1,h2⟩)
  ·exact .inr ⟨h1,h2⟩
 ·rintro ((h | ⟨h1,h2⟩) | ⟨h1,h2⟩)
  ·exact .inl h
  ·exact .inr ⟨h1,.inl h2⟩
  ·exact .inr ⟨h1,.inr h2⟩
structure LeastOk (r:Rul) (l:List Tch) (p:List Nat) (k m:Nat) (L:List (IdV×Nat)):Prop where
 nd:(L.map Prod.fst).Nodup
 of:∀ x n,getG x L=some n→joinsP r l x=true∧∃ i,SeenI l k m x i∧p[i]? =some n
 le:∀ x i q,joinsP r l x=true→SeenI l k m x i→p[i]? =some q→∃ n,getG x L=some n∧n≤q
theorem LeastOk.start (r:Rul)(l:List Tch)(p:List Nat):LeastOk r l p 0 0 [] :=
 ⟨by simp,fun x n h=>by simp [getG] at h,fun x i q _ h=>absurd h seen_none⟩
theorem LeastOk.next {r:Rul}{l:List Tch}{p:List Nat}{k:Nat}{L:List (IdV×Nat)}(h:LeastOk r l p k (idsAt l k).length L):LeastOk r l p (k + 1) 0 L :=
 ⟨h.nd,fun x n e=>by
  obtain ⟨a,i,b,c⟩:=h.of x n e;exact ⟨a,i,seen_next.1 b,c⟩,fun x i q a b c=>h.le x i q a (seen_next.2 b) c⟩
theorem LeastOk.put {r:Rul}{l:List Tch}{p:List Nat}{k m:Nat}{L:List (IdV×Nat)}(h:LeastOk r l p k m L){y:IdV}(hy:(idsAt l k)[m]? =some y)(hj:joinsP r l y=true){q:Nat}(hq:p[k]? =some q)(hlt:∀ n,getG y L=some n→q < n):LeastOk r l p k (m + 1) (updG y q L):=by
 refine ⟨updG_keys h.nd,fun x n e=>?_,fun x i q' a b c=>?_⟩
 ·rw [getG_upd] at e;by_cases exy:x=y
  ·subst exy;rw [if_pos rfl] at e;obtain rfl:=Option.some.inj e;exact ⟨hj,k,(seen_step hy).2 (.inr ⟨rfl,rfl⟩),hq⟩
  ·rw [if_neg exy] at e;obtain ⟨a,i,b,c⟩:=h.of x n e;exact ⟨a,i,(seen_step hy).2 (.inl b),c⟩
 ·rw [getG_upd];by_cases exy:x=y
  ·subst exy;rw [if_pos rfl];refine ⟨q,rfl,?_⟩;rcases (seen_step hy).1 b with b | ⟨rfl,_⟩
   ·obtain ⟨n,e1,e2⟩:=h.le x i q' a b c;have:=hlt n e1
    omega
   ·rw [hq] at c;obtain rfl:=Option.some.inj c;exact Nat.le_refl _
  ·rw [if_neg exy];rcases (seen_step hy).1 b with b | ⟨_,e⟩
   ·exact h.le x i q' a b c
   ·exact absurd e exy
theorem LeastOk.skip {r:Rul}{l:List Tch}{p:List Nat}{k m:Nat}{L:List (IdV×Nat)}(h:LeastOk r l p k m L){y:IdV}(hy:(idsAt l k)[m]? =some y){q:Nat}(hq:p[k]? =some q)(hn:joinsP r l y=true→∃ n,getG y L=some n∧n≤q):LeastOk r l p k (m + 1) L:=by
 refine ⟨h.nd,fun x n e=>?_,fun x i q' a b c=>?_⟩
 ·obtain ⟨a,i,b,c⟩:=h.of x n e;exact ⟨a,i,(seen_step hy).2 (.inl b),c⟩
 ·rcases (seen_step hy).1 b with b | ⟨rfl,rfl⟩
  ·exact h.le x i q' a b c
  ·rw [hq] at c;obtain rfl:=Option.some.inj c;exact hn a
structure Falls (r:Rul) (l:List Tch) (p:List Nat) (L:List (IdV×Nat)) (k m:Nat) (q:List Nat) (ch:Bool):Prop where
 st:Stand l.length (Edge r l) q
 no:ch=false→q=p∧∀ x i n a,SeenI l k m x i→getG x L=some n→p[i]? =some a→a≤n
 yes:ch=true→q.sum < p.sum
theorem Falls.start {r:Rul}{l:List Tch}{p:List Nat}(L:List (IdV×Nat))(h:Stand l.length (Edge r l) p):Falls r l p L 0 0 p false :=
 ⟨h,fun _=>⟨rfl,fun _ _ _ _ a=>absurd a seen_none⟩,fun e=>by cases e⟩
theorem Falls.next {r:Rul}{l:List Tch}{p q:List Nat}{L:List (IdV×Nat)}{k:Nat}{ch:Bool}(h:Falls r l p L k (idsAt l k).length q ch):Falls r l p L (k + 1) 0 q ch :=
 ⟨h.st,fun e=>⟨(h.no e).1,fun x i n a b c d=>(h.no e).2 x i n a (seen_next.2 b) c d⟩,h.yes⟩
theorem sum_set_lt:∀ {q:List Nat} {k a n:Nat},q[k]? =some a→n < a→(q.set k n).sum < q.sum
 | [],_,_,_,h,_=>by simp at h
 | x::r,0,a,n,h,hn=>by
  obtain rfl:x=a:=by simpa using h
  simp;omega
 | x::r,k + 1,a,n,h,hn=>by
  have:=sum_set_lt (q:=r) (k:=k) (by simpa using h) hn
  simp;omega
theorem Falls.put {r:Rul}{l:List Tch}{p q:List Nat}{L:List (IdV×Nat)}{K M k m:Nat}{ch:Bool}(h:Falls r l p L k m q ch)(hp:Stand l.length (Edge r l) p)(hL:LeastOk r l p K M L){y:IdV}(hy:(idsAt l k)[m]? =some y){a n:Nat}(ha:q[k]? =some a)(hn:getG y L=some n)(hlt:n < a):Falls r l p L k (m + 1) (q.set k n) true:=by
 have hle:=h.st.le k a ha;refine ⟨h.st.set (by omega) ?_,(fun e=>by cases e),fun _=>?_⟩
 ·obtain ⟨hj,i,hs,hi⟩:=hL.of y n hn;have hk:k < l.length:=by rw [← h.st.len];exact lt_of_get ha
  exact (Conn.one hk hs.lt ⟨y,hj,List.mem_of_getElem? hy,hs.ids⟩).trans (hp.conn i n hi)
 ·have h1:=sum_set_lt ha hlt;cases ch with
  | false=>rw [(h.no rfl).1] at h1 ⊢;exact h1
  | true=>have:=h.yes rfl;omega
theorem Falls.skip {r:Rul}{l:List Tch}{p q:List Nat}{L:List (IdV×Nat)}{k m:Nat}{ch:Bool}(h:Falls r l p L k m q ch){y:IdV}(hy:(idsAt l k)[m]? =some y){a:Nat}(ha:q[k]? =some a)(hn:∀ n,getG y L=some n→a≤n):Falls r l p L k (m + 1) q ch:=by
 refine ⟨h.st,fun e=>⟨(h.no e).1,fun x i n b hs hg hb=>?_⟩,h.yes⟩;rcases (seen_step hy).1 hs with hs | ⟨rfl,rfl⟩
 ·exact (h.no e).2 x i n b hs hg hb
 ·rw [(h.no e).1,hb] at ha;obtain rfl:=Option.some.inj ha;exact hn n hg
theorem seen_all {l:List Tch}{x:IdV}{i:Nat}(h:x∈idsAt l i):SeenI l l.length 0 x i:=.inl ⟨hav_lt (mem_idsAt.1 h),h⟩
theorem Falls.part {r:Rul}{l:List Tch}{p q:List Nat}{L:List (IdV×Nat)}(h:Falls r l p L l.length 0 q false)(hL:LeastOk r l p l.length 0 L):q=p∧IsPart l.length (Edge r l) (labOf p):=by
 obtain ⟨rfl,hno⟩:=h.no rfl;refine ⟨rfl,h.st.part fun i j hi hj ⟨x,hx,h1,h2⟩=>?_⟩;have hg:∀ i,i < l.length→q[i]? =some (labOf q i):=fun i hi=>by
  unfold labOf;rw [List.getD_eq_getElem?_getD,List.getElem?_eq_getElem (by rw [h.st.len];exact hi)];rfl
 obtain ⟨n,e1,e2⟩:=hL.le x i _ hx (seen_all h1) (hg i hi);obtain ⟨n',e3,e4⟩:=hL.le x j _ hx (seen_all h2) (hg j hj);rw [e1] at e3;obtain rfl:=Option.some.inj e3;have a1:=hno x i n _ (seen_all h1) e1 (hg i hi);have a2:=hno x j n _ (seen_all h2) e1 (hg j hj);omega
section
variable {κ:Type} [DecidableEq κ] {β γ:Type}
theorem getG_map (f:β→γ)(k:κ):∀ L:List (κ×β),getG k (L.map fun p=>(p.1,f p.2))=(getG k L).map f
 | []=>rfl
 | p::r=>by
  rw [List.map_cons,getG,getG,getG_map f k r];split <;> rfl
theorem updG_map (f:β→γ)(k:κ)(v:β):∀ L:List (κ×β),updG k (f v) (L.map fun p=>(p.1,f p.2))=(updG k v L).map fun p=>(p.1,f p.2)
 | []=>rfl
 | p::r=>by
  rw [List.map_cons,updG,updG,updG_map f k v r];split <;> rfl
end
end
section
open Go Go.RowKit
structure RtOn (r:Rul) (ts:List Tch):Prop where
 wl:r.weak.length≤1000000
 kl:r.kinds.length≤1000000
 tl:ts.length≤1000000
 up:∀ t∈ts,RiseI t.ids
 il:∀ t∈ts,t.ids.length≤1000000
 ne:∀ t∈ts,t.ids≠[]
 tb:ts.length≤2000
 ib:∀ t∈ts,t.ids.length≤10
theorem RtOk.on {r:Rul}{ts:List Tch}(h:RtOk r ts):RtOn r ts:=⟨h.wl,h.kl,h.tl,h.up,h.il,h.ne,h.tb,h.ib⟩
theorem RtOn.idsAt {r:Rul}{ts:List Tch}(h:RtOn r ts)(i:Nat):(idsAt ts i).length≤10:=by
 unfold Go.Proofs.YtmkkppknaikjjaaGreatDoor.idsAt;cases e:ts[i]? with
 | none=>simp
 | some t=>exact h.ib t (List.mem_of_getElem? e)
end
section
open Go Go.RowKit
theorem updG_twice {κ:Type}[DecidableEq κ]{β:Type}(k:κ)(u v:β):∀ L:List (κ×β),updG k u (updG k v L)=updG k u L
 | []=>by simp [updG]
 | p::r=>by
  rw [updG];by_cases h:p.1=k
  ·rw [if_pos h,updG,if_pos rfl,updG,if_pos h]
  ·rw [if_neg h,updG,if_neg h,updG_twice k u v r,updG,if_neg h]
def cntV (p:IdV×List Nat):IdV×Value:=(p.1,Value.int .i64 (p.2.length:Nat))
theorem cntV_get (x:IdV)(L:List (IdV×List Nat)):getG x (L.map cntV)=(getG x L).map (fun js=>Value.int .i64 (js.length:Nat)):=getG_map (fun js:List Nat=>Value.int .i64 (js.length:Nat)) x L
theorem cntV_upd (x:IdV)(js:List Nat)(L:List (IdV×List Nat)):updG x (Value.int .i64 (js.length:Nat)) (L.map cntV)=(updG x js L).map cntV:=updG_map (fun js:List Nat=>Value.int .i64 (js.length:Nat)) x js L
theorem cnt_zero (x:IdV)(L:List (IdV×List Nat)):(getG x (L.map cntV)).getD (.int .i64 0)=.int .i64 (((getG x L).getD []).length:Nat):=by
 rw [cntV_get];cases getG x L <;> rfl
theorem cnt_add (x:IdV)(k:Nat)(L:List (IdV×List Nat)):updG x (Value.int .i64 ((((getG x L).getD []).length:Nat) + 1)) (L.map cntV)=(addH L k x).map cntV:=by
 unfold addH;rw [← cntV_upd,List.length_append,List.length_singleton];rfl
section
variable {w0 w:World} {cs:List Chunk} {ops:Array Oper} {rest:List Oper} {o:Oper} {a:Act} {Q:Exit→Act→World→Prop} {κ:Type} [DecidableEq κ]
theorem Mem.lookE {K:KeyL κ}(S:Mem w0 w cs)(i:Nat){X:Nat}{L:List (κ×Value)}{k:κ}{st:Nat}(hi:cs[i]? =some (.ent K X L k st)){T E:TypeId}(hT:Tryz.prog.underlying T=some (.map K.ty E)){z:Value}(hz:∀ w,(zeroValue E).run Tryz.prog w=.ok z w)
  (hgd:o.guard=none) (m x:Operand) (ok:Bool) (hop:o.op=.lookup T m x ok) (hm:a.eval m=.map (some X)) (y:κ) (hx:a.eval x=K.kv y) (h:wpList Tryz.prog ops Q rest (a.put o.dst (if ok then .tuple #[(getG y L).getD z,.bool (getG y L).isSome] else (getG y L).getD z)) w):wpList Tryz.prog ops Q (o::rest) a w:=by
 obtain ⟨es,clock,j,e,hb,he,_⟩:=S.ok _ (List.mem_of_getElem? hi);have hrun:=look_g ⟨es,clock,hb,he⟩ hT (hz w) y ok;refine wpList_plain hgd fun K' hK'=>?_;unfold Oper.wp;simp only [execOp,hop,hm,hx,hrun,Sem.run_bind,Sem.run_pure,Result.andThen_ok];exact hK' _ _ h
end
theorem zeroIntE (w:World):(zeroValue 3).run Tryz.prog w=.ok (.int .i64 0) w:=by kernel_rfl
def jv (r:Rul)(x:IdV)(n:Nat):Bool:=decide (x.k∈r.kinds) && !decide (x∈r.weak) && decide ((n:Int)≤r.most)
theorem RngOk.keys {κ:Type}[DecidableEq κ]{K:KeyL κ}{es:Array MapEntry}{clock:Nat}{seen:Array Nat}{L done left:List (κ×Value)}(h:RngOk K es clock seen L done left):(done.map Prod.fst).Nodup:=by
 have h1:=(h.perm.map Prod.fst).nodup_iff.2 h.ok.nd;rw [List.map_append] at h1;exact (List.nodup_append.1 h1).1
theorem cntV_keys (L:List (IdV×List Nat)):(L.map cntV).map Prod.fst=L.map Prod.fst:=by rw [List.map_map];rfl
theorem getG_snoc {κ:Type}[DecidableEq κ]{β:Type}{L:List (κ×β)}{x:κ}{v:β}(h:((L++[(x,v)]).map Prod.fst).Nodup)(y:κ):getG y (L++[(x,v)])=if y=x then some v else getG y L:=by
 rw [List.map_append,List.nodup_append] at h;have hx:x ∉ L.map Prod.fst:=fun hx=>h.2.2 x hx x (by simp) rfl;rw [← updG_new hx,getG_upd]
theorem cnt_all {r:Rul}{ts:List Tch}{q0 dq:List (IdV×List Nat)}(hO:HavOk ts ts.length [] q0)(hd:∀ q∈dq,q∈q0)(hp:(dq.map cntV).Perm (q0.map cntV))(x:IdV) :
  (getG x dq).map (fun js=>Value.bool (jv r x js.length))=if hav ts x=[] then none else some (.bool (joinsP r ts x)):=by
 have h2:=hO.2 x;rw [List.take_length] at h2;simp only [List.not_mem_nil,if_false,List.append_nil] at h2;have hk:(dq.map Prod.fst).Nodup:=by
  have h1:=(hp.map Prod.fst).nodup_iff.2 (by rw [cntV_keys];exact hO.1);rw [cntV_keys] at h1;exact h1
 by_cases hh:hav ts x=[]
 ·rw [if_pos hh];rw [hh] at h2;have h3:getG x q0=none:=h2;have h4:getG x dq=none:=getG_none.2 (fun hx=>by
   obtain ⟨q,hq,e⟩:=List.mem_map.1 hx;exact getG_none.1 h3 (by rw [← e];exact List.mem_map_of_mem (hd q hq)))
  rw [h4];rfl
 ·rw [if_neg hh];have h3:getG x q0=some (hav ts x):=by rw [h2];unfold some1;rw [if_neg hh]
  have hm:=getG_mem h3;have hm2:cntV (x,hav ts x)∈dq.map cntV:=hp.mem_iff.2 (List.mem_map_of_mem hm);obtain ⟨q,hq,e⟩:=List.mem_map.1 hm2;have ex:q.1=x:=congrArg Prod.fst e;obtain ⟨i,hi⟩:=List.mem_iff_getElem?.1 (hd q hq);have h5:=(getG_at hO.1 (j:=i) (k:=q.1) (v:=q.2) hi).1;rw [ex,h3] at h5;have eq2:q.2=hav ts x:=(Option.some.inj h5).symm;obtain ⟨j,hj⟩:=List.mem_iff_getElem?.1 hq;have h6:=(getG_at hk (j:=j) (k:=q.1) (v:=q.2) hj).1;rw [ex,eq2] at h6;rw [h6];rfl
def GivesMapJ (r:Rul)(ts:List Tch)(w:World)(e:Ending)(w':World):Prop :=
 ∃ (X:Nat) (L:List (IdV×Value)),e=.returned (.map (some X))∧(∀ x,getG x L=if hav ts x=[] then none else some (.bool (joinsP r ts x)))∧Mem w w' [.mapG keyId X L]
theorem addH_len {ts:List Tch}{k:Nat}{xs:List IdV}{L:List (IdV×List Nat)}(h:HavOk ts k xs L)(x:IdV):((getG x L).getD []).length≤ts.length + 1:=by
 rw [h.2 x,some1_getD,List.length_append];have h2:=hav_len (ts.take k) x;rw [List.length_take] at h2;have h3:(if x∈xs then [k] else []).length≤1:=by split <;> simp
 omega
set_option maxHeartbeats 8000000 in
set_option maxRecDepth 100000 in
theorem refJoinsN_any (N:Nat→Prop)(r:Rul)(K W S A:Option Addr)(ck cw cs c:Nat)(ts:List Tch)(w:World)(hR:RulIn N w r K W S)(hT:Sl rTch N w A ts)(ho:RtOn r ts) :
  Calls Tryz.prog 75 #[.agg (ruCs r K ck W cw S cs),.slice A ts.length c] w (GivesMapJ r ts w):=by
 have HR:=Lib.hid (fun w' (h:Below w.heap.size w w')=>hR.keepB h);have HT:=Lib.hid (fun w' (h:Below w.heap.size w w')=>hT.keepB h);have Ho:=Lib.hid ho;have hl:=ho.tl;have hmm:=@run_makeMap Tryz.prog;obtain ⟨Y,hY⟩:∃ Y,Y=w.heap.size:=⟨_,rfl⟩;obtain ⟨X,hX⟩:∃ X,X=w.heap.size + 1:=⟨_,rfl⟩;have S0:Mem w _ [.loc Y (ruCs r K ck W cw S cs) 29,.mapG keyId X []]:=((Mem.start w).newAt (ruCs r K ck W cw S cs) 29 Y hY).newMapG keyId X (by rw [alloc_size];exact hX);have Hy:=Lib.hid hY;have Hx:=Lib.hid hX;clear hR hT ho hY hX;go_enter Tryz.func75,Tryz.ntmps75
 go_upto_region 2 with fail
 rw [← Hx.out,← Hy.out];clear hmm;generalize World.alloc _ _=w1 at S0 ⊢;replace S0:Mem w w1 (.loc Y (ruCs r K ck W cw S cs) 29::.mapG keyId X (([]:List (IdV×List Nat)).map cntV)::[]):=S0;go_wp2_with fail
 go_loopw [16] (fun i wr=>∃ (k:Nat) (q1:List (IdV×List Nat)),k≤ts.length∧i=.int .i64 k∧Hid (HavOk ts k [] q1)∧Mem w wr (.loc Y (ruCs r K ck W cw S cs) 29::.mapG keyId X (q1.map cntV)::[])) (fun i _=>ts.length - (intOf i).toNat)
 case atStart=>exact ⟨0,[],Nat.zero_le _,rfl,HavOk.start ts,S0⟩
 case round =>
  clear S0;obtain ⟨k,q0,hk,rfl,HO,S2⟩:=hrel;by_cases hlt:k < ts.length
  ·obtain ⟨t,ht⟩:∃ t,ts[k]? =some t:=⟨_,List.getElem?_eq_getElem hlt⟩;obtain ⟨blk,off,Ai,ci,Af,cf,rfl,hblk,d0,d1,d2,d3,d4,hi,hf⟩:=(HT.out w (Below.refl _ _)).tch k t ht;have hcl:=fun (p:Addr) (hp:p.block < w.heap.size)=>S2.b.cell hp;rw [← hcl _ hblk] at d0 d1 d2 d3 d4;clear hcl;have HI:=Lib.hid (fun w' (h:Below w.heap.size w w')=>hi.keepB h);have hil:t.ids.length≤10:=Ho.out.ib t (List.mem_of_getElem? ht);have Hnd:=Lib.hid ((Ho.out.up t (List.mem_of_getElem? ht)).nodup);have Ht:=Lib.hid ht;clear hi hf ht;go_upto_region 5 with fail
   clear d0 d1 d2 d3 d4;obtain ⟨U,hU⟩:∃ U,U=wr.heap.size:=⟨_,rfl⟩;have S3:Mem w _ (.loc U (tcCs t Ai ci Af cf) 58::.loc Y (ruCs r K ck W cw S cs) 29::.mapG keyId X (q0.map cntV)::[]):=(S2.newAt (tcCs t Ai ci Af cf) 58 U hU).front;rw [← hU];clear hU S2;generalize wr.alloc (.cells (tcCs t Ai ci Af cf) 58)=w4 at *;have y0:=(S3.lv 0 rfl).all;go_wp2_with fail
   clear y0;go_loopw [23] (fun i wr=>∃ (m:Nat) (q1:List (IdV×List Nat)),m≤t.ids.length∧i=.int .i64 m∧Hid (HavOk ts k (t.ids.take m) q1)∧Mem w wr (.loc U (tcCs t Ai ci Af cf) 58::.loc Y (ruCs r K ck W cw S cs) 29::.mapG keyId X (q1.map cntV)::[])) (fun i _=>t.ids.length - (intOf i).toNat)
   case atStart=>exact ⟨0,q0,Nat.zero_le _,rfl,HO.out,S3⟩
   case round =>
    clear S3 HO;obtain ⟨m,q1,hm,rfl,HO,S3⟩:=hrel;by_cases hlt2:m < t.ids.length
    ·obtain ⟨x,hx⟩:∃ x,t.ids[m]? =some x:=⟨_,List.getElem?_eq_getElem hlt2⟩;obtain ⟨ib,io,rfl,hib,c0,c1⟩:=(HI.out wr S3.b).idv m x hx;have Hxx:=Lib.hid hx;have hvl:=addH_len HO.out x;clear hx;go_upto_region 8 with fail
     clear c0 c1;obtain ⟨Z,hZ⟩:∃ Z,Z=wr.heap.size:=⟨_,rfl⟩;have S4:Mem w _ (.loc Z #[.int .i64 x.k,.string x.t] 46::.loc U (tcCs t (some ⟨ib,io,none⟩) ci Af cf) 58::.loc Y (ruCs r K ck W cw S cs) 29::.mapG keyId X (q1.map cntV)::[]):=(S3.newAt #[.int .i64 x.k,.string x.t] 46 Z hZ).front;rw [← hZ];clear hZ S3;generalize wr.alloc (.cells #[.int .i64 x.k,.string x.t] 46)=w5 at *;go_upto_region 8 with fail
     refine wp_region_mixT [6] (fun w'=>LV w' Z #[.int .i64 x.k,.string x.t] 46) (.p 0 (.q 1 (.e2 2 (.p 3 (.e 4 (.p 5 (.b 6 .z)))) 4 (.p 5 (.e 2 (.p 3 (.b 6 .z))))))) (by kernel_rfl) (by kernel_rfl) (fun w' hd=>(S4.below (hd.below _)).lv 0 rfl) (fun KK hKK wd hd=>?_);have S5:Mem w wd (.loc Z #[.int .i64 x.k,.string x.t] 46::.loc U (tcCs t (some ⟨ib,io,none⟩) ci Af cf) 58::.loc Y (ruCs r K ck W cw S cs) 29::.mapG keyId X (q1.map cntV)::[]):=S4.below (hd.below _);clear hd S4;refine mpT ?_;refine mixT_loadR (.agg #[.int .i64 x.k,.string x.t]) rfl rfl rfl rfl (fun w' h=>loadAtI (h.cell 0 _ rfl) (h.cell 1 _ rfl)) ?_;go_simp;refine mixT_2 (mixT_one rfl rfl (fun K9 hK9=>?_)) (mixT_one rfl rfl (fun K9 hK9=>?_))
     ·refine S5.lookG 3 rfl (T:=135) (E:=3) (by kernel_rfl) zeroIntE rfl _ _ false rfl rfl x rfl ?_;rw [if_neg (by decide),cnt_zero];go_wp2_with fail
      refine ⟨S5.lv 0 rfl,?_⟩;have hwr:IntKind.i64.wrap ((((getG x q1).getD []).length:Nat) + 1)=(((getG x q1).getD []).length:Nat) + 1:=IntWalk.i64_in _ (by omega);refine mpT ?_;refine mixT_l rfl rfl (fun K9 hK9=>?_);refine S5.entryG (K:=keyId) 3 rfl (T:=135) (E:=3) (by kernel_rfl) zeroIntE rfl _ _ rfl rfl x rfl ?_;intro st w7 S7 _;have hC7:=S7.lv 0 rfl;clear S5;go_wp2_with fail
      refine ⟨hC7,?_⟩;clear hC7;refine mpT ?_;refine mixT_b rfl rfl (fun K9 hK9=>?_);refine S7.estoreG 3 rfl rfl _ _ _ rfl rfl rfl (.int .i64 ((((getG x q1).getD []).length:Nat) + 1)) rfl ?_;intro w9 S9;rw [updG_twice,cnt_add] at S9;have HS9:Hid (Mem w w9 (.loc Z #[.int .i64 x.k,.string x.t] 46::.loc U (tcCs t (some ⟨ib,io,none⟩) ci Af cf) 58::.loc Y (ruCs r K ck W cw S cs) 29::.mapG keyId X ((addH q1 k x).map cntV)::[])):=S9;clear S9 S7;go_wp2_with fail
      refine ⟨trivial,?_⟩;refine mixT_nil ?_;simp only [Exit.then];refine hKK _ _ ?_;clear hKK KK;have S10:=HS9.out.del 0;have HO2:Hid (HavOk ts k (t.ids.take (m + 1)) (addH q1 k x)):=by
       show HavOk _ _ _ _;rw [take_snoc Hxx.out];exact HO.out.add (notin_take Hnd.out Hxx.out)
      clear HS9 HO;go_wp2_with fail
      go_roundw
      case rel=>exact ⟨m + 1,addH q1 k x,by omega,by go_num,HO2.out,S10⟩
      case measure=>simp [intOf];omega
     ·refine S5.entryG (K:=keyId) 3 rfl (T:=135) (E:=3) (by kernel_rfl) zeroIntE rfl _ _ rfl rfl x rfl ?_;intro st w7 S7 _;have hC7:=S7.lv 0 rfl;clear S5;go_wp2_with fail
      refine ⟨hC7,?_⟩;refine mpT ?_;refine mixT_l rfl rfl (fun K9 hK9=>?_);refine S7.lookE 3 rfl (T:=135) (E:=3) (by kernel_rfl) zeroIntE rfl _ _ false rfl rfl x rfl ?_;rw [if_neg (by decide),getG_upd,if_pos rfl,Option.getD_some,cnt_zero];have hwr:IntKind.i64.wrap ((((getG x q1).getD []).length:Nat) + 1)=(((getG x q1).getD []).length:Nat) + 1:=IntWalk.i64_in _ (by omega);go_wp2_with fail
      refine ⟨hC7,?_⟩;clear hC7;refine mpT ?_;refine mixT_b rfl rfl (fun K9 hK9=>?_);refine S7.estoreG 3 rfl rfl _ _ _ rfl rfl rfl (.int .i64 ((((getG x q1).getD []).length:Nat) + 1)) rfl ?_;intro w9 S9;rw [updG_twice,cnt_add] at S9;have HS9:Hid (Mem w w9 (.loc Z #[.int .i64 x.k,.string x.t] 46::.loc U (tcCs t (some ⟨ib,io,none⟩) ci Af cf) 58::.loc Y (ruCs r K ck W cw S cs) 29::.mapG keyId X ((addH q1 k x).map cntV)::[])):=S9;clear S9 S7;go_wp2_with fail
      refine ⟨trivial,?_⟩;refine mixT_nil ?_;simp only [Exit.then];refine hKK _ _ ?_;clear hKK KK;have S10:=HS9.out.del 0;have HO2:Hid (HavOk ts k (t.ids.take (m + 1)) (addH q1 k x)):=by
       show HavOk _ _ _ _;rw [take_snoc Hxx.out];exact HO.out.add (notin_take Hnd.out Hxx.out)
      clear HS9 HO;go_wp2_with fail
      go_roundw
      case rel=>exact ⟨m + 1,addH q1 k x,by omega,by go_num,HO2.out,S10⟩
      case measure=>simp [intOf];omega
    ·obtain rfl:m=t.ids.length:=by omega
     have HO2:Hid (HavOk ts (k + 1) [] q1):=HavOk.next Ht.out (by have:=HO.out;rw [List.take_length] at this;exact this);have S9:=S3.del 0;clear S3 HO;go_wp2_with fail
     go_roundw
     case rel=>exact ⟨k + 1,q1,by omega,by go_num,HO2.out,S9⟩
     case measure=>simp [intOf];omega
  ·obtain rfl:k=ts.length:=by omega
   obtain ⟨es,clock,hE,S3⟩:=S2.frzG 1 rfl;have HE:=Lib.hid hE;have hmm:=@run_makeMap Tryz.prog;obtain ⟨X2,hX2⟩:∃ X2,X2=wr.heap.size:=⟨_,rfl⟩;have S4:Mem w (wr.alloc (.map #[] 0)) [.loc Y (ruCs r K ck W cw S cs) 29,.mapE X es clock,.mapG keyId X2 []]:=S3.newMapG keyId X2 hX2;have Hx2:=Lib.hid hX2;clear S2 S3 hE hX2;go_upto_region 12 with fail
   rw [← Hx2.out];generalize wr.alloc (.map #[] 0)=w3 at *;obtain ⟨hrg,S5⟩:=S4.rangeG 1 rfl (T:=135) (k:=46) (e:=3) (by kernel_rfl);obtain ⟨Z,hZ⟩:∃ Z,Z=w3.heap.size:=⟨_,rfl⟩;rw [← hZ] at hrg S5;replace S5:Mem w (w3.alloc (.mapIter (some X) clock #[] clock)) [.loc Y (ruCs r K ck W cw S cs) 29,.mapE X es clock,.mapG keyId X2 [],.iter Z X clock #[] clock]:=S5;clear hmm hZ S4;go_wp2_with fail
   clear hrg;generalize w3.alloc (.mapIter (some X) clock #[] clock)=w4 at *;have HR0:Hid (RngOk keyId es clock #[] (q0.map cntV) (([]:List (IdV×List Nat)).map cntV) (q0.map cntV)):=RngOk.start HE.out;go_loopw [12] (fun _ wr=>∃ (seen:Array Nat) (dq:List (IdV×List Nat)) (left:List (IdV×Value)) (L2:List (IdV×Value)),Hid (∀ q∈dq,q∈q0)∧Hid (RngOk keyId es clock seen (q0.map cntV) (dq.map cntV) left)∧Hid (∀ x,getG x L2=(getG x dq).map (fun js=>Value.bool (jv r x js.length)))∧Mem w wr [.loc Y (ruCs r K ck W cw S cs) 29,.mapE X es clock,.mapG keyId X2 L2,.iter Z X clock seen clock]) (fun _ wr=>iterLeft es Z wr)
   case atStart=>exact ⟨#[],[],_,[],(fun q hq=>by cases hq),HR0.out,(fun x=>rfl),S5⟩
   case round =>
    clear S5 HR0;obtain ⟨seen,dq,left,L2,Hdq,HRg,HL2,S3⟩:=hrel;have hsz3:Hid (iterLeft es Z wr=left.length):=S3.iterSize 3 rfl HRg.out;rcases S3.nextG 1 3 rfl rfl (Nat.le_refl _) HRg.out with ⟨hl0,hp0,hnx⟩ | ⟨pq,left',seen',w5,hpm,hll,hrg,hnx,hen,S5⟩
    ·have HF:Hid (∀ x,getG x L2=if hav ts x=[] then none else some (.bool (joinsP r ts x))):=fun x=>by rw [HL2.out x];exact cnt_all HO.out Hdq.out hp0 x
     have HS3:Hid (Mem w wr [.mapG keyId X2 L2]):=((S3.del 3).del 1).del 0;clear hp0 hl0 S3 HL2 HRg hsz3;go_wp2_with fail
     go_ret;exact ⟨X2,L2,rfl,HF.out,HS3.out⟩
    ·obtain ⟨q,hq,rfl⟩:∃ q∈q0,cntV q=pq:=by
      have:=HRg.out.perm.mem_iff.1 (List.mem_append_right _ hpm)
      obtain ⟨q,hq,e⟩:=List.mem_map.1 this;exact ⟨q,hq,e⟩
     obtain ⟨x,js⟩:=q;have Hrg:Hid (RngOk keyId es clock seen' (q0.map cntV) ((dq++[(x,js)]).map cntV) left'):=by
      show RngOk _ _ _ _ _ _ _;rw [List.map_append];exact hrg
     have Hll:=Lib.hid hll;have Hdq2:Hid (∀ q∈dq++[(x,js)],q∈q0):=fun q' hq'=>by
      rcases List.mem_append.1 hq' with hq' | hq'
      ·exact Hdq.out q' hq'
      ·rw [List.mem_singleton.1 hq'];exact hq
     have hnx2:∀ ty,(Instr.next (.pointer (some ⟨Z,0,none⟩)) false ty).run Tryz.prog wr=.ok (.tuple #[.bool true,.agg #[.int .i64 x.k,.string x.t],.int .i64 (js.length:Nat)]) w5:=hnx;have hen2:(Instr.entry (.pointer (some ⟨Z,0,none⟩))).run Tryz.prog w5=.ok (.tuple #[.agg #[.int .i64 x.k,.string x.t],.int .i64 (js.length:Nat)]) w5:=hen;clear hnx hen S3 hpm hll hrg hq;go_upto_region 15 with fail
     clear hnx2 hen2;obtain ⟨V,hV⟩:∃ V,V=w5.heap.size:=⟨_,rfl⟩;have S6:Mem w (w5.alloc (.cells #[.int .i64 x.k,.string x.t] 46)) [.loc V #[.int .i64 x.k,.string x.t] 46,.loc Y (ruCs r K ck W cw S cs) 29,.mapE X es clock,.mapG keyId X2 L2,.iter Z X clock seen' clock]:=(S5.newAt #[.int .i64 x.k,.string x.t] 46 V hV).front;rw [← hV];clear hV S5;generalize w5.alloc (.cells #[.int .i64 x.k,.string x.t] 46)=w6 at *;obtain ⟨kc,Hkc⟩:∃ kc,Hid (r.kinds.contains x.k=kc):=⟨_,Lib.hid rfl⟩;obtain ⟨wk,Hwk⟩:∃ wk,Hid (decide (x∈r.weak)=wk):=⟨_,Lib.hid rfl⟩;cases kc
     ·refine wp_region_mix (fun w'=>LV w' Y (ruCs r K ck W cw S cs) 29∧LV w' V #[.int .i64 x.k,.string x.t] 46) [(true,0),(true,1),(true,2),(true,3),(true,4),(true,5),(false,6),(true,7),(true,8),(true,9),(true,10),(false,11),(true,12),(true,13),(true,14),(true,15),(true,16),(true,17),(true,18),(true,19),(false,20)] (by kernel_rfl) (by kernel_rfl) (fun w' hd=>⟨(S6.below (hd.below _)).lv 1 rfl,(S6.below (hd.below _)).lv 0 rfl⟩) (fun KK hKK wd hd=>?_);have S7:=S6.below (hd.below _);have hC:LV wd Y (ruCs r K ck W cw S cs) 29∧LV wd V #[.int .i64 x.k,.string x.t] 46:=⟨S7.lv 1 rfl,S7.lv 0 rfl⟩;clear hd S6;refine mpR ?_;refine mix_loadH (.agg #[.int .i64 x.k,.string x.t]) rfl rfl rfl (fun w' h=>loadAtI (h.2.cell 0 _ rfl) (h.2.cell 1 _ rfl)) ?_;refine mpR ?_;refine mix_loadH (.slice K r.kinds.length ck) rfl rfl rfl (fun w' h=>loadC rfl (h.1.cell 0 _ rfl)) ?_;refine mpR ?_;refine mix_loadH (.int .i64 x.k) rfl rfl rfl (fun w' h=>loadC rfl (h.2.cell 0 _ rfl)) ?_;refine mix_l rfl (fun K9 hK9=>?_) hC;have Hq9:=Lib.hid (containsInt_any N K r.kinds ck r.kinds.length x.k wd (HR.out wd S7.b).kd (Nat.le_refl _) Ho.out.kl);rw [List.take_length,Hkc.out] at Hq9;go_wp2_with fail
      refine (Hq9.out).mono ?_;rintro e _ ⟨rfl,rfl⟩;clear Hq9;go_wp2_with fail
      refine ⟨hC,?_⟩;refine mpR ?_;refine mix_l rfl (fun K9 hK9=>?_) hC;go_wp2_with fail
      refine ⟨hC,?_⟩;refine mpR ?_;refine mix_l rfl (fun K9 hK9=>?_) hC;go_simp;refine S7.putG 3 rfl (T:=133) (E:=4) (by kernel_rfl) rfl _ _ _ rfl rfl x rfl (.bool (false)) rfl ?_;intro w9 S9;have HS9:Hid (Mem w w9 [.loc V #[.int .i64 x.k,.string x.t] 46,.loc Y (ruCs r K ck W cw S cs) 29,.mapE X es clock,.mapG keyId X2 (updG x (.bool (false)) L2),.iter Z X clock seen' clock]):=S9;have hC9:LV w9 Y (ruCs r K ck W cw S cs) 29∧LV w9 V #[.int .i64 x.k,.string x.t] 46:=⟨HS9.out.lv 1 rfl,HS9.out.lv 0 rfl⟩;clear S9 S7 hC;go_wp2_with fail
      refine ⟨hC9,?_⟩;refine mix_nil ?_;simp only [Exit.then];refine hKK _ _ ?_;clear hKK KK hC9;have HL3:Hid (∀ y,getG y (updG x (.bool (false)) L2)=(getG y (dq++[(x,js)])).map (fun js=>Value.bool (jv r y js.length))):=fun y=>by
       rw [getG_upd,getG_snoc (by have:=Hrg.out.keys;rw [cntV_keys] at this;exact this)];by_cases hy:y=x
       ·subst hy;rw [if_pos rfl,if_pos rfl];have e1:=Hkc.out;have e2:=Hwk.out;rw [List.contains_eq_mem] at e1;simp only [Option.map_some,jv,e1,e2];rfl
       ·rw [if_neg hy,if_neg hy];exact HL2.out y
      go_wp2_with fail
      go_roundw
      case rel =>
       (repeat apply Exists.intro)
       exact ⟨⟨seen',dq++[(x,js)],left',_,Hdq2.out,Hrg.out,HL3.out,HS9.out.del 0⟩,rfl⟩
      case measure=>rw [hsz3.out,(HS9.out.del 0).iterSize 3 rfl Hrg.out];have:=Hll.out;omega
     ·cases wk
      ·refine wp_region_mix (fun w'=>LV w' Y (ruCs r K ck W cw S cs) 29∧LV w' V #[.int .i64 x.k,.string x.t] 46) [(true,0),(true,1),(true,2),(true,3),(true,4),(true,5),(false,6),(true,7),(true,8),(true,9),(true,10),(false,11),(true,12),(true,13),(true,14),(true,15),(true,16),(true,17),(true,18),(true,19),(false,20)] (by kernel_rfl) (by kernel_rfl) (fun w' hd=>⟨(S6.below (hd.below _)).lv 1 rfl,(S6.below (hd.below _)).lv 0 rfl⟩) (fun KK hKK wd hd=>?_);have S7:=S6.below (hd.below _);have hC:LV wd Y (ruCs r K ck W cw S cs) 29∧LV wd V #[.int .i64 x.k,.string x.t] 46:=⟨S7.lv 1 rfl,S7.lv 0 rfl⟩;clear hd S6;refine mpR ?_;refine mix_loadH (.agg #[.int .i64 x.k,.string x.t]) rfl rfl rfl (fun w' h=>loadAtI (h.2.cell 0 _ rfl) (h.2.cell 1 _ rfl)) ?_;refine mpR ?_;refine mix_loadH (.slice K r.kinds.length ck) rfl rfl rfl (fun w' h=>loadC rfl (h.1.cell 0 _ rfl)) ?_;refine mpR ?_;refine mix_loadH (.int .i64 x.k) rfl rfl rfl (fun w' h=>loadC rfl (h.2.cell 0 _ rfl)) ?_;refine mix_l rfl (fun K9 hK9=>?_) hC;have Hq9:=Lib.hid (containsInt_any N K r.kinds ck r.kinds.length x.k wd (HR.out wd S7.b).kd (Nat.le_refl _) Ho.out.kl);rw [List.take_length,Hkc.out] at Hq9;go_wp2_with fail
       refine (Hq9.out).mono ?_;rintro e _ ⟨rfl,rfl⟩;clear Hq9;go_wp2_with fail
       refine ⟨hC,?_⟩;refine mpR ?_;refine mix_loadH (.slice W r.weak.length cw) rfl rfl rfl (fun w' h=>loadC rfl (h.1.cell 2 _ rfl)) ?_;refine mix_loadH (.agg #[.int .i64 x.k,.string x.t]) rfl rfl rfl (fun w' h=>loadAtI (h.2.cell 0 _ rfl) (h.2.cell 1 _ rfl)) ?_;refine mix_l rfl (fun K9 hK9=>?_) hC;have Hq9:=Lib.hid (containsId_any N W r.weak cw x wd (HR.out wd S7.b).wk Ho.out.wl);rw [Hwk.out] at Hq9;go_wp2_with fail
       refine (Hq9.out).mono ?_;rintro e w8 ⟨rfl,hl8⟩;have S8:=S7.below hl8;have hC8:LV w8 Y (ruCs r K ck W cw S cs) 29∧LV w8 V #[.int .i64 x.k,.string x.t] 46:=⟨S8.lv 1 rfl,S8.lv 0 rfl⟩;clear Hq9 hl8 S7 hC;go_wp2_with fail
       refine ⟨hC8,?_⟩;refine mpR ?_;refine mix_loadH (.int .i64 r.most) rfl rfl rfl (fun w' h=>loadC rfl (h.1.cell 1 _ rfl)) ?_;refine mpR ?_;refine mix_l rfl (fun K9 hK9=>?_) hC8;go_simp;refine S8.putG 3 rfl (T:=133) (E:=4) (by kernel_rfl) rfl _ _ _ rfl rfl x rfl (.bool (decide ((js.length:Int)≤r.most))) rfl ?_;intro w9 S9;have HS9:Hid (Mem w w9 [.loc V #[.int .i64 x.k,.string x.t] 46,.loc Y (ruCs r K ck W cw S cs) 29,.mapE X es clock,.mapG keyId X2 (updG x (.bool (decide ((js.length:Int)≤r.most))) L2),.iter Z X clock seen' clock]):=S9;have hC9:LV w9 Y (ruCs r K ck W cw S cs) 29∧LV w9 V #[.int .i64 x.k,.string x.t] 46:=⟨HS9.out.lv 1 rfl,HS9.out.lv 0 rfl⟩;clear S9 S8 hC8;go_wp2_with fail
       refine ⟨hC9,?_⟩;refine mix_nil ?_;simp only [Exit.then];refine hKK _ _ ?_;clear hKK KK hC9;have HL3:Hid (∀ y,getG y (updG x (.bool (decide ((js.length:Int)≤r.most))) L2)=(getG y (dq++[(x,js)])).map (fun js=>Value.bool (jv r y js.length))):=fun y=>by
        rw [getG_upd,getG_snoc (by have:=Hrg.out.keys;rw [cntV_keys] at this;exact this)];by_cases hy:y=x
        ·subst hy;rw [if_pos rfl,if_pos rfl];have e1:=Hkc.out;have e2:=Hwk.out;rw [List.contains_eq_mem] at e1;simp only [Option.map_some,jv,e1,e2];rfl
        ·rw [if_neg hy,if_neg hy];exact HL2.out y
       go_wp2_with fail
       go_roundw
       case rel =>
        (repeat apply Exists.intro)
        exact ⟨⟨seen',dq++[(x,js)],left',_,Hdq2.out,Hrg.out,HL3.out,HS9.out.del 0⟩,rfl⟩
       case measure=>rw [hsz3.out,(HS9.out.del 0).iterSize 3 rfl Hrg.out];have:=Hll.out;omega
      ·refine wp_region_mix (fun w'=>LV w' Y (ruCs r K ck W cw S cs) 29∧LV w' V #[.int .i64 x.k,.string x.t] 46) [(true,0),(true,1),(true,2),(true,3),(true,4),(true,5),(false,6),(true,7),(true,8),(true,9),(true,10),(false,11),(true,12),(true,13),(true,14),(true,15),(true,16),(true,17),(true,18),(true,19),(false,20)] (by kernel_rfl) (by kernel_rfl) (fun w' hd=>⟨(S6.below (hd.below _)).lv 1 rfl,(S6.below (hd.below _)).lv 0 rfl⟩) (fun KK hKK wd hd=>?_);have S7:=S6.below (hd.below _);have hC:LV wd Y (ruCs r K ck W cw S cs) 29∧LV wd V #[.int .i64 x.k,.string x.t] 46:=⟨S7.lv 1 rfl,S7.lv 0 rfl⟩;clear hd S6;refine mpR ?_;refine mix_loadH (.agg #[.int .i64 x.k,.string x.t]) rfl rfl rfl (fun w' h=>loadAtI (h.2.cell 0 _ rfl) (h.2.cell 1 _ rfl)) ?_;refine mpR ?_;refine mix_loadH (.slice K r.kinds.length ck) rfl rfl rfl (fun w' h=>loadC rfl (h.1.cell 0 _ rfl)) ?_;refine mpR ?_;refine mix_loadH (.int .i64 x.k) rfl rfl rfl (fun w' h=>loadC rfl (h.2.cell 0 _ rfl)) ?_;refine mix_l rfl (fun K9 hK9=>?_) hC;have Hq9:=Lib.hid (containsInt_any N K r.kinds ck r.kinds.length x.k wd (HR.out wd S7.b).kd (Nat.le_refl _) Ho.out.kl);rw [List.take_length,Hkc.out] at Hq9;go_wp2_with fail
       refine (Hq9.out).mono ?_;rintro e _ ⟨rfl,rfl⟩;clear Hq9;go_wp2_with fail
       refine ⟨hC,?_⟩;refine mpR ?_;refine mix_loadH (.slice W r.weak.length cw) rfl rfl rfl (fun w' h=>loadC rfl (h.1.cell 2 _ rfl)) ?_;refine mix_loadH (.agg #[.int .i64 x.k,.string x.t]) rfl rfl rfl (fun w' h=>loadAtI (h.2.cell 0 _ rfl) (h.2.cell 1 _ rfl)) ?_;refine mix_l rfl (fun K9 hK9=>?_) hC;have Hq9:=Lib.hid (containsId_any N W r.weak cw x wd (HR.out wd S7.b).wk Ho.out.wl);rw [Hwk.out] at Hq9;go_wp2_with fail
       refine (Hq9.out).mono ?_;rintro e w8 ⟨rfl,hl8⟩;have S8:=S7.below hl8;have hC8:LV w8 Y (ruCs r K ck W cw S cs) 29∧LV w8 V #[.int .i64 x.k,.string x.t] 46:=⟨S8.lv 1 rfl,S8.lv 0 rfl⟩;clear Hq9 hl8 S7 hC;go_wp2_with fail
       refine ⟨hC8,?_⟩;refine mpR ?_;refine mix_l rfl (fun K9 hK9=>?_) hC8;go_simp;refine S8.putG 3 rfl (T:=133) (E:=4) (by kernel_rfl) rfl _ _ _ rfl rfl x rfl (.bool (false)) rfl ?_;intro w9 S9;have HS9:Hid (Mem w w9 [.loc V #[.int .i64 x.k,.string x.t] 46,.loc Y (ruCs r K ck W cw S cs) 29,.mapE X es clock,.mapG keyId X2 (updG x (.bool (false)) L2),.iter Z X clock seen' clock]):=S9;have hC9:LV w9 Y (ruCs r K ck W cw S cs) 29∧LV w9 V #[.int .i64 x.k,.string x.t] 46:=⟨HS9.out.lv 1 rfl,HS9.out.lv 0 rfl⟩;clear S9 S8 hC8;go_wp2_with fail
       refine ⟨hC9,?_⟩;refine mix_nil ?_;simp only [Exit.then];refine hKK _ _ ?_;clear hKK KK hC9;have HL3:Hid (∀ y,getG y (updG x (.bool (false)) L2)=(getG y (dq++[(x,js)])).map (fun js=>Value.bool (jv r y js.length))):=fun y=>by
        rw [getG_upd,getG_snoc (by have:=Hrg.out.keys;rw [cntV_keys] at this;exact this)];by_cases hy:y=x
        ·subst hy;rw [if_pos rfl,if_pos rfl];have e1:=Hkc.out;have e2:=Hwk.out;rw [List.contains_eq_mem] at e1;simp only [Option.map_some,jv,e1,e2];rfl
        ·rw [if_neg hy,if_neg hy];exact HL2.out y
       go_wp2_with fail
       go_roundw
       case rel =>
        (repeat apply Exists.intro)
        exact ⟨⟨seen',dq++[(x,js)],left',_,Hdq2.out,Hrg.out,HL3.out,HS9.out.del 0⟩,rfl⟩
       case measure=>rw [hsz3.out,(HS9.out.del 0).iterSize 3 rfl Hrg.out];have:=Hll.out;omega
end
section
open Go Go.RowKit Go.Shelf
attribute [local go_sem] Oper.semAt_some
def KeepX (n PB:Nat)(W W':World):Prop:=∀ k,k < n→k≠PB→W'.heap[k]? =W.heap[k]?
theorem KeepX.refl (n PB:Nat)(W:World):KeepX n PB W W:=fun _ _ _=>rfl
theorem KeepX.trans {n PB:Nat}{W W' W'':World}(h:KeepX n PB W W')(g:KeepX n PB W' W''):KeepX n PB W W'':=fun k h1 h2=>(g k h1 h2).trans (h k h1 h2)
theorem KeepX.cell {n PB:Nat}{W W':World}(h:KeepX n PB W W'){p:Addr}(h1:p.block < n)(h2:p.block≠PB):W'.cell? p=W.cell? p:=by
 unfold World.cell?;rw [h p.block h1 h2]
theorem KeepX.below {n PB:Nat}{W W':World}(h:Below n W W'):KeepX n PB W W':=fun k h1 _=>h.block k h1
def iAt (qs:List IdV)(j:Nat):IdV:=(qs[j]?).getD ⟨0,⟨#[]⟩⟩
theorem iAt_get {qs:List IdV}{j:Nat}{q:IdV}(h:qs[j]? =some q):iAt qs j=q:=by rw [iAt,h];rfl
def backI (qs:List IdV)(k:Nat):List Nat:=(List.range k).map fun j=>qs.length - 1 - j
theorem backI_succ (qs:List IdV)(k:Nat):backI qs (k + 1)=backI qs k++[qs.length - 1 - k]:=by simp [backI,List.range_succ]
theorem backI_len (qs:List IdV)(k:Nat):(backI qs k).length=k:=by simp [backI]
def IdsIn (n₀:Nat)(W:World)(A:Option Addr)(qs:List IdV):Prop:=∀ (k:Nat) (q:IdV),qs[k]? =some q→∃ blk off,A=some ⟨blk,off,none⟩∧blk < n₀ ∧
 W.cell? ⟨blk,off + k * 2,none⟩=some (.int .i64 q.k)∧W.cell? ⟨blk,off + k * 2 + 1,none⟩=some (.string q.t)
theorem IdsIn.below {n₀:Nat}{W W':World}{A:Option Addr}{qs:List IdV}(h:IdsIn n₀ W A qs)(k:Below n₀ W W'):IdsIn n₀ W' A qs:=fun i q hq=>by
 obtain ⟨blk,off,e,h1,c0,c1⟩:=h i q hq;exact ⟨blk,off,e,h1,(k.cell (p:=⟨blk,off + i * 2,none⟩) h1).trans c0,(k.cell (p:=⟨blk,off + i * 2 + 1,none⟩) h1).trans c1⟩
theorem Sl.inI {N:Nat→Prop}{w:World}{A:Option Addr}{qs:List IdV}(h:Sl rId N w A qs):IdsIn w.heap.size w A qs:=fun i q hq=>by
 obtain ⟨blk,off,l,e,h1,_,h3,h4⟩:=h i q hq;obtain rfl:l=IdV.cells q:=h3;exact ⟨blk,off,e,h1,h4 0 _ rfl,h4 1 _ rfl⟩
set_option maxRecDepth 100000 in
set_option maxHeartbeats 4000000 in
theorem backI1_in (F:Fence)(n:Nat)(hf:F.fn 150)(hro:F.round=none)(hn:1≤n)(l Bs n₀ PB cap:Nat)(A:Option Addr)(qs:List IdV)(hlen:qs.length≤1000000)(hBs:Bs < n₀)(hBP:Bs≠PB)(hPB:PB≤n₀)(J Jx:List Nat→World→Prop)
  (hY:∀ (pre:List Nat) (x:Nat) (W:World),J pre W→pre.length < qs.length→YieldAt F (n - 1) Tryz.prog l #[.int .i64 (x:Int),.agg #[.int .i64 (iAt qs x).k,.string (iAt qs x).t]] W fun e W' =>
   (e=.returned (.bool true)∧J (pre++[x]) W'∧KeepX n₀ PB W W')∨(e=.returned (.bool false)∧Jx (pre++[x]) W'))
  (W:World) (hc:W.cell? ⟨Bs,0,none⟩=some (.slice A qs.length cap)) (hS:IdsIn PB W A qs) (h0:J [] W) :
  CallsIn F n Tryz.prog 150 #[.func (.yield l) #[] #[],.pointer (some ⟨Bs,0,none⟩)] W fun e W'=>(∃ v,e=.returned v) ∧
   ((∃ ys,ys=backI qs qs.length∧J ys W')∨(∃ pre,(∃ k,k≤qs.length∧pre=backI qs k)∧Jx pre W')):=by
 have HS:=Lib.hid hS;clear hS;refine callsIn_of_wp Tryz.func150 rfl hf ?_ hro;simp only [Tryz.ntmps150,List.size_toArray,List.length_cons,List.length_nil,Nat.reduceAdd,Nat.reduceSub,Array.replicate_succ,Array.replicate_zero,List.push_toArray,List.append_toArray,List.nil_append,List.cons_append];gi_wp2
 gi_loopw [3] (fun i wr=>∃ j k:Nat,j + k=qs.length∧i=.int .i64 ((j:Int) - 1)∧J (backI qs k) wr∧KeepX n₀ PB W wr)
  (fun i _=>(intOf i + 1).toNat)
 case atStart=>exact ⟨qs.length,0,rfl,rfl,h0,KeepX.refl _ _ _⟩
 case round =>
  obtain ⟨j,k,hjk,rfl,hJs,hnx⟩:=hrel;have hcr:=(hnx.cell (p:=⟨Bs,0,none⟩) hBs hBP).trans hc;rcases j with _ | j
  ·have e1:((0:Nat):Int) - 1=-1:=rfl;rw [e1];gi_wp2
   go_end0;obtain rfl:k=qs.length:=by omega
   exact ⟨⟨_,rfl⟩,.inl ⟨_,rfl,hJs⟩⟩
  ·have e1:((j + 1:Nat):Int) - 1=(j:Int):=by omega
   rw [e1];have hj:j < qs.length:=by omega
   obtain ⟨s,hs⟩:∃ s,qs[j]? =some s:=⟨_,List.getElem?_eq_getElem hj⟩;obtain ⟨blk,off,rfl,hblk,c0,c1⟩:=HS.out j s hs;have d0:=(hnx.cell (p:=⟨blk,off + j * 2,none⟩) (by show blk < _;omega) (by show blk≠_;omega)).trans c0;have d1:=(hnx.cell (p:=⟨blk,off + j * 2 + 1,none⟩) (by show blk < _;omega) (by show blk≠_;omega)).trans c1;obtain ⟨fn,tmps,assign,body,hy,hR⟩:=hY _ j wr hJs (by rw [backI_len];omega);rw [iAt_get hs] at hy;have Hb:Hid (backI qs (k + 1)=backI qs k++[j]):=by
    show _=_;rw [backI_succ,show qs.length - 1 - k=j by omega]
   clear hs c0 c1 hc;gi_wp2
   refine hR.mono ?_;rintro e W3 (⟨rfl,hJ3,hk3⟩ | ⟨rfl,hJx3⟩)
   ·gi_wp2
    go_roundw
    case rel=>exact ⟨j,k + 1,by omega,rfl,by rw [Hb.out];exact hJ3,hnx.trans hk3⟩
    case measure=>simp [intOf]
   ·gi_wp2
    refine bodyPost_ret (results_none rfl _ _ _) rfl ?_;exact ⟨⟨_,rfl⟩,.inr ⟨_,⟨k + 1,by omega,Hb.out.symm⟩,hJx3⟩⟩
set_option maxHeartbeats 1000000 in
theorem backI_in (F:Fence)(n:Nat)(hf:F.fn 76)(hro:F.round=none)(a:Option Addr)(len cap:Nat)(w:World) :
  CallsIn F n Tryz.prog 76 #[.slice a len cap] w fun e w'=>e=.returned (.func (.func 150) #[] #[.pointer (some ⟨w.heap.size,0,none⟩)])∧w'=w.alloc (.cells #[.slice a len cap] 26):=by
 refine callsIn_of_wp Tryz.func76 rfl hf ?_ hro;simp only [Tryz.ntmps76,List.size_toArray,List.length_cons,List.length_nil,Nat.reduceAdd,Nat.reduceSub,Array.replicate_succ,Array.replicate_zero,List.push_toArray,List.append_toArray,List.nil_append,List.cons_append];gi_wp2
 go_ret;exact ⟨rfl,rfl⟩
theorem backI_stops (F:Fence)(n:Nat)(hf:F.fn 150)(hro:F.round=none)(hn:1≤n)(Bs n₀ PB cap:Nat)(A:Option Addr)(qs:List IdV)(hlen:qs.length≤1000000)(w:World)(hBs:Bs < n₀)(hBP:Bs≠PB)(hPB:PB≤n₀)(hn₀:n₀≤w.heap.size)
  (hc:w.cell? ⟨Bs,0,none⟩=some (.slice A qs.length cap)) (hS:IdsIn PB w A qs) :
  SeqStopsK F n Tryz.prog 150 #[.pointer (some ⟨Bs,0,none⟩)] (fun x:Nat=>#[Value.int .i64 (x:Int),.agg #[.int .i64 (iAt qs x).k,.string (iAt qs x).t]]) (KeepX n₀ PB) (fun ys=>ys=backI qs qs.length)
   (fun pre=>∃ k,k≤qs.length∧pre=backI qs k) qs.length w:=fun l J Jx W hW _ _ hY h0 =>
 backI1_in F n hf hro hn l Bs n₀ PB cap A qs hlen hBs hBP hPB J Jx hY W ((hW.cell (p:=⟨Bs,0,none⟩) (by show Bs < _;omega)).trans hc) (hS.below (hW.mono (by omega))) h0
end
section
open Go Go.RowKit
def labV (p:IdV×Nat):IdV×Value:=(p.1,Value.int .i64 (p.2:Nat))
theorem labV_get (x:IdV)(L:List (IdV×Nat)):getG x (L.map labV)=(getG x L).map (fun n=>Value.int .i64 (n:Nat)):=getG_map (fun n:Nat=>Value.int .i64 (n:Nat)) x L
theorem labV_upd (x:IdV)(n:Nat)(L:List (IdV×Nat)):updG x (Value.int .i64 (n:Nat)) (L.map labV)=(updG x n L).map labV:=updG_map (fun n:Nat=>Value.int .i64 (n:Nat)) x n L
def sumBlk (w:World)(g n:Nat):Nat:=((List.range n).map fun i=>match w.cell? ⟨g,i,none⟩ with | some (.int _ z)=>z.toNat | _=>0).sum
theorem sumBlk_is {M:Nat→Prop}{B E g n cap:Nat}{w:World}{p:List Nat}(h:Own rInt M B E w (.slice (some ⟨g,0,none⟩) n cap) (iL p))(hn:n=p.length):sumBlk w g n=p.sum:=by
 unfold sumBlk;congr 1
 apply List.ext_getElem?;intro i;rw [List.getElem?_map];rcases Nat.lt_or_ge i n with hi | hi
 ·obtain ⟨q,hq⟩:∃ q,p[i]? =some q:=⟨_,List.getElem?_eq_getElem (by omega)⟩;have h1:=(h.intAt (by rw [iL_len];exact hn) i q (iL_at hq)).1;rw [List.getElem?_range hi,hq];simp only [Option.map_some,h1];rfl
 ·rw [List.getElem?_eq_none (by simpa using hi),List.getElem?_eq_none (by omega)];rfl
def flagOf (v:Value):Nat:=match v with | .bool true=>1 | _=>0
def GivesPsnR (r:Rul)(ts:List Tch)(w:World)(e:Ending)(w':World):Prop :=
 ∃ (A:Option Addr) (c:Nat) (P:List Psn),e=.returned (.slice A P.length c)∧IsPsns r ts P∧Mem w w' [.sl rPsn A P]
theorem zeroBoolP (w:World):(zeroValue 4).run Tryz.prog w=.ok (.bool false) w:=by kernel_rfl
theorem lit205 (T:Array Value)(h:T.size=205):∃ f:Nat→Value,T=#[f 0,f 1,f 2,f 3,f 4,f 5,f 6,f 7,f 8,f 9,f 10,f 11,f 12,f 13,f 14,f 15,f 16,f 17,f 18,f 19,f 20,f 21,f 22,f 23,f 24,f 25,f 26,f 27,f 28,f 29,f 30,f 31,f 32,f 33,f 34,f 35,f 36,f 37,f 38,f 39,f 40,f 41,f 42,f 43,f 44,f 45,f 46,f 47,f 48,f 49,f 50,f 51,f 52,f 53,f 54,f 55,f 56,f 57,f 58,f 59,f 60,f 61,f 62,f 63,f 64,f 65,f 66,f 67,f 68,f 69,f 70,f 71,f 72,f 73,f 74,f 75,f 76,f 77,f 78,f 79,f 80,f 81,f 82,f 83,f 84,f 85,f 86,f 87,f 88,f 89,f 90,f 91,f 92,f 93,f 94,f 95,f 96,f 97,f 98,f 99,f 100,f 101,f 102,f 103,f 104,f 105,f 106,f 107,f 108,f 109,f 110,f 111,f 112,f 113,f 114,f 115,f 116,f 117,f 118,f 119,f 120,f 121,f 122,f 123,f 124,f 125,f 126,f 127,f 128,f 129,f 130,f 131,f 132,f 133,f 134,f 135,f 136,f 137,f 138,f 139,f 140,f 141,f 142,f 143,f 144,f 145,f 146,f 147,f 148,f 149,f 150,f 151,f 152,f 153,f 154,f 155,f 156,f 157,f 158,f 159,f 160,f 161,f 162,f 163,f 164,f 165,f 166,f 167,f 168,f 169,f 170,f 171,f 172,f 173,f 174,f 175,f 176,f 177,f 178,f 179,f 180,f 181,f 182,f 183,f 184,f 185,f 186,f 187,f 188,f 189,f 190,f 191,f 192,f 193,f 194,f 195,f 196,f 197,f 198,f 199,f 200,f 201,f 202,f 203,f 204]:=by
 refine ⟨fun i=>T.getD i undef,?_⟩;apply Array.ext';have e:T.toList=(List.range 205).map (fun i=>T.getD i undef):=by
  apply List.ext_getElem?;intro i;rw [List.getElem?_map];by_cases hi:i < 205
  ·rw [List.getElem?_range hi,Array.getElem?_toList,Array.getElem?_eq_getElem (by omega)];simp [show i < T.size by omega]
  ·rw [List.getElem?_eq_none (by rw [Array.length_toList];omega),List.getElem?_eq_none (by simp;omega)];rfl
 rw [e];rfl
def mkD (D:Nat):Deferred:={ target:=.collected D,args:=#[] }
def Chunk.df1 (D:Nat):Chunk :=
 ⟨some D,fun _ w=>w.heap[D]? =some (.deferred (some [])),fun k _ hd h=>(k.block D (Array.getElem?_eq_some_iff.1 h).1 (hd D rfl)).trans h,fun _ h=>h,fun h k e=>by cases e;exact (Array.getElem?_eq_some_iff.1 h).1⟩
def Chunk.df0 (D:Nat):Chunk :=
 ⟨some D,fun _ w=>w.heap[D]? =some (.deferred none),fun k _ hd h=>(k.block D (Array.getElem?_eq_some_iff.1 h).1 (hd D rfl)).trans h,fun _ h=>h,fun h k e=>by cases e;exact (Array.getElem?_eq_some_iff.1 h).1⟩
theorem leaves_df {F:Fence}{n:Nat}{fn:Func}{tmps:Array Value}{R:Ending→World→Prop}{w:World}{cs:List Chunk}:∀ (Ds:List Nat) (W:World),Mem w W (cs++Ds.map Chunk.df1) →
  (∀ W',Mem w W' cs→∃ v,(results fn tmps).run Tryz.prog W'=.ok v W'∧R (.returned v) W')→LeavesInM F n Tryz.prog fn tmps R (Ds.map mkD) .returning W
 | [],W,S,h=>by
  rw [List.map_nil,List.append_nil] at S;exact h W S
 | D::Ds,W,S,h=>by
  have hi:(cs++(D::Ds).map Chunk.df1)[cs.length]? =some (.df1 D):=by
   rw [List.getElem?_append_right (Nat.le_refl _),Nat.sub_self];rfl
  have hK:W.heap[D]? =some (.deferred (some [])):=S.ok _ (List.mem_of_getElem? hi);have hD:=S.new _ (List.mem_of_getElem? hi) D rfl;have hg:=grownBy_putObj' W D (.deferred none);have hb:Below w.heap.size W (W.putObj D (.deferred none)):=(Below.refl _ W).grown hg S.b.size (fun k e=>by cases e;exact hD);have hlt:=(Array.getElem?_eq_some_iff.1 hK).1;have S1:=S.upd cs.length hi (.df0 D) ⟨hg.size,fun k hk hne=>hg.block k hk (fun e=>hne e.symm)⟩ (S.b.trans hb) (fun k e=>.inl e) (by
   show (W.putObj D (.deferred none)).heap[D]? =_;unfold World.putObj;simp [hlt])
  have S2:=S1.del cs.length;rw [List.eraseIdx_set_eq] at S2;have e:(cs++(D::Ds).map Chunk.df1).eraseIdx cs.length=cs++Ds.map Chunk.df1:=by
   rw [List.eraseIdx_append_of_length_le (Nat.le_refl _),Nat.sub_self];rfl
  rw [e] at S2;exact ⟨by simp,.inl ⟨D,_,rfl,run_takeDeferred hK,leaves_df Ds _ S2 h⟩⟩
def jm (r:Rul)(ts:List Tch)(x:IdV):Bool:= !decide (hav ts x=[]) && joinsP r ts x
def kAcc (r:Rul)(ts:List Tch)(ids:List IdV)(pre:List Nat):IdV:=((pre.map (iAt ids)).reverse.find? (jm r ts)).getD (ids.headD ⟨0,⟨#[]⟩⟩)
theorem kAcc_snoc (r:Rul)(ts:List Tch)(ids:List IdV)(pre:List Nat)(x:Nat):kAcc r ts ids (pre++[x])=if jm r ts (iAt ids x)=true then iAt ids x else kAcc r ts ids pre:=by
 unfold kAcc;rw [List.map_append,List.reverse_append,List.map_singleton,List.reverse_singleton,List.singleton_append,List.find?_cons];cases jm r ts (iAt ids x) <;> rfl
theorem backI_all (ids:List IdV):((backI ids ids.length).map (iAt ids)).reverse=ids:=by
 apply List.ext_getElem?;intro j;by_cases hj:j < ids.length
 ·rw [List.getElem?_reverse (by rw [List.length_map,backI_len];exact hj),List.length_map,backI_len,List.getElem?_map];unfold backI;rw [List.getElem?_map,List.getElem?_range (by omega)];simp only [Option.map_some];have e:ids.length - 1 - (ids.length - 1 - j)=j:=by omega
  rw [e,List.getElem?_eq_getElem hj,iAt_get (List.getElem?_eq_getElem hj)]
 ·rw [List.getElem?_eq_none (by rw [List.length_reverse,List.length_map,backI_len];omega),List.getElem?_eq_none (by omega)]
theorem find_congr {α:Type}{p q:α→Bool}:∀ {l:List α},(∀ x∈l,p x=q x)→l.find? p=l.find? q
 | [],_=>rfl
 | x::r,h=>by rw [List.find?_cons,List.find?_cons,h x (by simp),find_congr (fun y hy=>h y (by simp [hy]))]
theorem kAcc_all {r:Rul}{ts:List Tch}{t:Tch}{i:Nat}(ht:ts[i]? =some t):kAcc r ts t.ids (backI t.ids t.ids.length)=keyP r ts t:=by
 unfold kAcc keyP;rw [backI_all,find_congr (q:=joinsP r ts) (fun x hx=>?_)];unfold jm;have h1:hav ts x≠[]:=fun e=>by
  have h2:i∈hav ts x:=hav_mem.2 ⟨t,ht,hx⟩;rw [e] at h2;cases h2
 rw [decide_eq_false h1];rfl
theorem jm_look {r:Rul}{ts:List Tch}{L:List (IdV×Value)}(h:∀ x,getG x L=if hav ts x=[] then none else some (.bool (joinsP r ts x)))(x:IdV):(getG x L).getD (.bool false)=.bool (jm r ts x):=by
 rw [h x];unfold jm;by_cases hh:hav ts x=[]
 ·rw [if_pos hh,decide_eq_true hh];rfl
 ·rw [if_neg hh,decide_eq_false hh];rfl
structure IdAcc (all ids:List IdV):Prop where
 nd:ids.Nodup
 mem:∀ x,x∈ids ↔ x∈all
theorem IdAcc.start:IdAcc [] []:=⟨by simp,fun x=>Iff.rfl⟩
theorem IdAcc.add {all ids:List IdV}(h:IdAcc all ids)(x:IdV):IdAcc (all++[x]) (if decide (x∈ids)=true then ids else ids++[x]):=by
 by_cases hx:x∈ids
 ·rw [if_pos (decide_eq_true hx)];refine ⟨h.nd,fun y=>?_⟩;rw [List.mem_append,List.mem_singleton,← h.mem y];exact ⟨.inl,fun e=>e.elim id (fun e=>by rw [e];exact hx)⟩
 ·rw [if_neg (by simpa using hx)];refine ⟨List.nodup_append.2 ⟨h.nd,by simp,fun a ha b hb e=>hx (by rw [List.mem_singleton.1 hb] at e;rw [← e];exact ha)⟩,fun y=>?_⟩;rw [List.mem_append,List.mem_append,h.mem y]
theorem IdAcc.sorted {all ids ys:List IdV}(h:IdAcc all ids)(hp:ys.Perm ids)(ho:ys.Pairwise (fun a b=>cmpId a b≤0)):ys=srtId all:=by
 have h1:ys.Nodup:=hp.nodup_iff.2 h.nd;have h2:ys.Pairwise (fun a b=>cmpId a b≤0∧a≠b):=ho.and h1;have h3:RiseI ys:=h2.imp (fun {a b} h=>by
  rcases Int.lt_or_eq_of_le h.1 with h6 | h6
  ·exact h6
  ·exact absurd (cmpId_zero h6) h.2)
 exact srtId_is h3 (fun x=>by rw [hp.mem_iff,h.mem x])
theorem IdAcc.len {all ids:List IdV}(h:IdAcc all ids):ids.length≤all.length:=sub_len h.nd (fun x hx=>(h.mem x).1 hx)
theorem perm_df (X Y:List Chunk)(a b:Chunk):((X++Y)++[a,b]).Perm (a::(X++b::Y)):=List.perm_append_comm.trans ((List.perm_middle (l₁:=X) (l₂:=Y) (a:=b)).symm.cons a)
end
section
open Go Go.RowKit Go.Shelf
attribute [local go_sem] Oper.semAt_some
def GivesPsnO (r:Rul)(ts:List Tch)(w:World)(e:Ending)(w':World):Prop :=
 ∃ (A:Option Addr) (c:Nat) (qs:List PsQ),e=.returned (.slice A qs.length c)∧IsPsns r ts (qs.map PsQ.p)∧Mem w w' [.own rPsQ w.heap.size 80 (.slice A qs.length c) qs,.pdat qs]
set_option maxHeartbeats 16000000 in
set_option maxRecDepth 100000 in
theorem refPersonsON_any (N:Nat→Prop)(r:Rul)(K W S A:Option Addr)(ck cw cs c:Nat)(ts:List Tch)(w:World)(hR:RulIn N w r K W S)(hT:Sl rTch N w A ts)(ho:RtOn r ts) :
  Calls Tryz.prog 21 #[.agg (ruCs r K ck W cw S cs),.slice A ts.length c] w (GivesPsnO r ts w):=by
 obtain ⟨n,hn⟩:∃ n,ts.length=n:=⟨_,rfl⟩;have Hn:=Lib.hid hn;have hl:=ho.tl;rw [hn] at hl;have HT:=Lib.hid (fun w' (h:Below w.heap.size w w')=>hT.keepB h);have Ho:=Lib.hid ho;obtain ⟨Y,hY⟩:∃ Y,Y=w.heap.size:=⟨_,rfl⟩;have S0:Mem w _ [.loc Y (ruCs r K ck W cw S cs) 29]:=(Mem.start w).newAt (ruCs r K ck W cw S cs) 29 Y hY;have Hy:=Lib.hid hY;have Hj:=Lib.hid (fun w' (h:Below w.heap.size w w')=>refJoinsN_any N r K W S A ck cw cs c ts w' (hR.keepB h) (hT.keepB h) ho);have hmm:=@run_makeMap Tryz.prog;clear hR hT ho hY hn;refine callsIn_wide.1 (callsIn_of_wp_marks (F:=Fence.wide) (n:=5) Tryz.func21 rfl trivial ?_);refine wpIn_wide.2 ?_;simp only [Tryz.ntmps21,List.size_toArray,List.length_cons,List.length_nil,Nat.reduceAdd,Nat.reduceSub,Array.replicate_succ,Array.replicate_zero,List.push_toArray,List.append_toArray,List.nil_append,List.cons_append];go_upto_region 1 with fail
 rw [← Hy.out];generalize w.alloc (.cells (ruCs r K ck W cw S cs) 29)=w1 at *;have y0:=(S0.lv 0 rfl).all;go_wp2_with fail
 refine (Hj.out w1 S0.b).mono ?_;rintro e w2 ⟨X3,L3,rfl,hL3,T2⟩;have S1:Mem w w2 [.mapG keyId X3 L3]:=(S0.join T2).del 0;have HL3:=Lib.hid hL3;have hmk:=makeI n hl;rw [Hn.out];clear Hj T2 S0 y0 hL3;go_upto_region 2 with fail
 obtain ⟨Jb,hJb⟩:∃ Jb,Jb=w2.heap.size:=⟨_,rfl⟩;have S2:Mem w _ [.loc Jb #[.map (some X3)] 133,.mapG keyId X3 L3]:=(S1.newAt #[.map (some X3)] 133 Jb hJb).front;rw [← hJb];clear S1 hJb;generalize w2.alloc (.cells #[.map (some X3)] 133)=w3 at *;replace hmk:=hmk w3;obtain ⟨B,hB⟩:∃ B,B=w.heap.size:=⟨_,rfl⟩;obtain ⟨g,hg⟩:∃ g,g=w3.heap.size:=⟨_,rfl⟩;have S3:=(S2.newAt (Array.replicate n (Value.int .i64 0)) 3 g hg).asOwn flatInt 2 rfl (List.replicate n 0) (by simp) (by simp [rInt,Rep.flat]) (by simp;omega) hB n (by simp);have S4:Mem w (w3.alloc (.cells (Array.replicate n (Value.int .i64 0)) 3)) [.loc Jb #[.map (some X3)] 133,.mapG keyId X3 L3,.own rInt B 3 (.slice (some ⟨g,0,none⟩) n n) (iL (rowK n 0))]:=by
  have h0:iL (rowK n 0)=List.replicate n 0:=by simp [iL,rowK]
  rw [h0];exact S3
 have Hb:=Lib.hid hB;clear S3 S2;rw [← hg] at hmk;clear hg hB;go_upto_region 3 with fail
 clear hmk;generalize w3.alloc (.cells (Array.replicate n (Value.int .i64 0)) 3)=w4 at *;go_wp2_with fail
 go_loopw [40] (fun i wr=>∃ k:Nat,k≤n∧i=.int .i64 k∧Mem w wr [.loc Jb #[.map (some X3)] 133,.mapG keyId X3 L3,.own rInt B 3 (.slice (some ⟨g,0,none⟩) n n) (iL (rowK n k))]) (fun i _=>n - (intOf i).toNat)
 case atStart=>exact ⟨0,Nat.zero_le _,rfl,S4⟩
 case round =>
  clear S4;obtain ⟨k,hk,rfl,S4⟩:=hrel;by_cases hlt:k < n
  ·have hln:n=(iL (rowK n k)).length:=by rw [iL_len,rowK_len hk]
   obtain ⟨c1,f1⟩:=(S4.ow 2 rfl).intAt hln k ((0:Nat):Int) (iL_at (rowK_at hlt));have S5:Mem w (wr.setCell ⟨g,k,none⟩ (.int .i64 k)) [.loc Jb #[.map (some X3)] 133,.mapG keyId X3 L3,.own rInt B 3 (.slice (some ⟨g,0,none⟩) n n) (iL (rowK n (k + 1)))]:=by
    rw [← rowK_set hlt,iL_set];exact S4.putI 2 rfl hln k _ k (iL_at (rowK_at hlt))
   clear hln S4;go_wp2_with fail
   go_roundw
   case rel=>exact ⟨k + 1,by omega,by go_num,S5⟩
   case measure=>simp [intOf];omega
  ·obtain rfl:k=n:=by omega
   rw [rowK_end] at S4;have Hst:Hid (Stand k (Edge r ts) (List.range k)):=Stand.start _ _;clear hlt hk;go_wp2_with fail
   go_loopw [8] (fun s8 wr=>∃ (p:List Nat) (b:Bool),s8=.bool b∧Hid (Stand k (Edge r ts) p)∧Hid (b=false→IsPart k (Edge r ts) (labOf p))∧Mem w wr [.loc Jb #[.map (some X3)] 133,.mapG keyId X3 L3,.own rInt B 3 (.slice (some ⟨g,0,none⟩) k k) (iL p)]) (fun s8 wr=>2 * sumBlk wr g k + flagOf s8)
   case atStart=>exact ⟨List.range k,true,rfl,Hst.out,(fun e=>by cases e),S4⟩
   case round =>
    clear S4 Hst;obtain ⟨p,b,rfl,Hst,Hpt,S4⟩:=hrel;have hlp:k=p.length:=Hst.out.len.symm;have Hsum:Hid (sumBlk wr g k=p.sum):=sumBlk_is (S4.ow 2 rfl) hlp;have Hlp:=Lib.hid hlp;clear hlp;cases b
    ·have Hpart:Hid (IsPart k (Edge r ts) (labOf p)):=Hpt.out rfl;clear Hpt Hsum;go_wp2_with fail
     obtain ⟨Ag,cg,eg,S5⟩:=S4.frz 2 rfl;have hip:(iL p).length=k:=by rw [iL_len];exact Hlp.out.symm
     rw [hip] at eg;simp only [Value.slice.injEq,true_and] at eg;obtain ⟨rfl,rfl⟩:=eg;have S6:Mem w wr (.loc Jb #[.map (some X3)] 133::.mapG keyId X3 L3::.sl rInt (some ⟨g,0,none⟩) (iL p)::.own rPsQ B 80 (.slice none 0 0) []::.pdat []::([]:List Nat).map Chunk.df1):=(S5.nil rPsQ B 80).noPd;have Hlb:Hid (∀ i,i < k→p[i]? =some (labOf p i)):=fun i hi=>by
      unfold labOf;rw [List.getD_eq_getElem?_getD,List.getElem?_eq_getElem (by rw [← Hlp.out];exact hi)];rfl
     clear S4 S5 hip;refine wp_loop (fun a' w'=>(a'.tmps.size=205∧a'.tmps.getD 1 undef=.slice A k c∧a'.tmps.getD 5 undef=.pointer (some ⟨Jb,0,none⟩)∧a'.tmps.getD 6 undef=.slice (some ⟨g,0,none⟩) k k∧a'.tmps.getD 128 undef=.slice A k c∧a'.tmps.getD 129 undef=.int .i64 k)∧∃ (i:Nat) (ps:List PsQ) (A22:Option Addr) (c22:Nat) (Ds:List Nat),i≤k∧a'.tmps.getD 22 undef=.slice A22 ps.length c22∧a'.tmps.getD 130 undef=.int .i64 i∧a'.defers=Ds.map mkD∧Hid (ps.map PsQ.p=(heads (labOf p) i).map (psnAt r ts (labOf p)))∧Mem w w' (.loc Jb #[.map (some X3)] 133::.mapG keyId X3 L3::.sl rInt (some ⟨g,0,none⟩) (iL p)::.own rPsQ B 80 (.slice A22 (ps).length c22) (ps)::.pdat (ps)::Ds.map Chunk.df1)) (fun a' _=>k - (intOf (a'.tmps.getD 130 undef)).toNat) ?_ ?_
     ·exact ⟨⟨rfl,rfl,rfl,rfl,rfl,rfl⟩,0,[],none,0,[],Nat.zero_le _,rfl,rfl,rfl,rfl,S6⟩
     ·intro a' wr hinv;clear S6;obtain ⟨T0,ds0⟩:=a';obtain ⟨⟨hsz,e1,e5,e6,e128,e129⟩,i,ps,A22,c22,Ds,hi,e22,e130,rfl,HPS,S4⟩:=hinv;obtain ⟨f,rfl⟩:=lit205 T0 hsz;replace e1:f 1=.slice A k c:=e1;replace e5:f 5=.pointer (some ⟨Jb,0,none⟩):=e5;replace e6:f 6=.slice (some ⟨g,0,none⟩) k k:=e6;replace e22:f 22=.slice A22 ps.length c22:=e22;replace e128:f 128=.slice A k c:=e128;replace e129:f 129=.int .i64 k:=e129;replace e130:f 130=.int .i64 i:=e130;rw [e1,e5,e6,e22,e128,e129,e130];clear e1 e5 e6 e22 e128 e129 e130 hsz;have hpsl:ps.length≤k:=by
       have:=congrArg List.length HPS.out
       rw [List.length_map,List.length_map] at this;have h2:=heads_len (labOf p) i;omega
      by_cases hlt:i < k
      ·obtain ⟨t,ht⟩:∃ t,ts[i]? =some t:=⟨_,List.getElem?_eq_getElem (by rw [Hn.out];exact hlt)⟩;obtain ⟨blk,off,Ai,ci,Af,cf,rfl,hblk,d0,d1,d2,d3,d4,hi,hf⟩:=(HT.out w (Below.refl _ _)).tch i t ht;have hcl:=fun (p:Addr) (hp:p.block < w.heap.size)=>S4.b.cell hp;rw [← hcl _ hblk] at d0 d1 d2 d3 d4;clear hcl;have HI:=Lib.hid (fun w' (h:Below w.heap.size w w')=>hi.keepB h);have hil:t.ids.length≤10:=Ho.out.ib t (List.mem_of_getElem? ht);have Hid2:Hid (idsAt ts i=t.ids):=idsAt_is ht;have Ht:=Lib.hid ht;clear hi hf ht;go_upto_region 38 with fail
       clear d0 d1 d2 d3 d4;obtain ⟨U,hU⟩:∃ U,U=wr.heap.size:=⟨_,rfl⟩;have S6:Mem w _ (.loc U (tcCs t Ai ci Af cf) 58::.loc Jb #[.map (some X3)] 133::.mapG keyId X3 L3::.sl rInt (some ⟨g,0,none⟩) (iL p)::.own rPsQ B 80 (.slice A22 (ps).length c22) (ps)::.pdat (ps)::Ds.map Chunk.df1):=(S4.newAt (tcCs t Ai ci Af cf) 58 U hU).front;rw [← hU];clear hU S4;generalize wr.alloc (.cells (tcCs t Ai ci Af cf) 58)=w6 at *;have y0:=(S6.lv 0 rfl).all;obtain ⟨gb,go,eg,_,cl⟩:=(S6.slc 3 rfl).int i _ (iL_at (Hlb.out i hlt));simp only [Option.some.injEq,Addr.mk.injEq,and_true] at eg;obtain ⟨rfl,rfl⟩:=eg;rw [Nat.zero_add] at cl;by_cases hci:labOf p i=i
       ·have hf1:Fence.wide.fn 76:=trivial;have hf2:Fence.wide.fn 150:=trivial;obtain ⟨x0,hx0⟩:∃ x0,t.ids[0]? =some x0:=⟨_,List.getElem?_eq_getElem (List.length_pos_iff.2 (Ho.out.ne t (List.mem_of_getElem? Ht.out)))⟩;obtain ⟨ib,io,rfl,hib,c0,c1⟩:=(HI.out w6 S6.b).idv 0 x0 hx0;rw [Nat.zero_mul,Nat.add_zero] at c0;rw [Nat.zero_mul,Nat.add_zero] at c1;have hk0:kAcc r ts t.ids []=x0:=by
         unfold kAcc;cases h:t.ids with
         | nil=>rw [h] at hx0;cases hx0
         | cons y l=>rw [h] at hx0;simpa using hx0
        have Hk0:=Lib.hid hk0;have hlen0:0 < t.ids.length:=lt_of_get hx0;have Hci:=Lib.hid hci;clear hk0 hx0;go_upto_region 40 with fail
        clear c0 c1 cl y0 hci;obtain ⟨PB,hPB⟩:∃ PB,PB=w6.heap.size:=⟨_,rfl⟩;have HS6:=Lib.hid S6;have S7:=(S6.newAt #[.int .i64 x0.k,.string x0.t,.slice none 0 0,.slice none 0 0] 80 PB hPB).front;have hb67:Below PB w6 (w6.alloc (.cells #[.int .i64 x0.k,.string x0.t,.slice none 0 0,.slice none 0 0] 80)):=by rw [hPB];exact (Below.refl _ _).alloc (Nat.le_refl _) _
        have hsz7:(w6.alloc (.cells #[.int .i64 x0.k,.string x0.t,.slice none 0 0,.slice none 0 0] 80)).heap.size=PB + 1:=by rw [alloc_size,hPB]
        rw [← hPB];have HPB:=Lib.hid hPB;clear hPB S6;generalize w6.alloc (.cells #[.int .i64 x0.k,.string x0.t,.slice none 0 0,.slice none 0 0] 80)=w7 at *;have y0:=(S7.lv 1 rfl).all;have Hb67:=Lib.hid hb67;have Hsz7:=Lib.hid hsz7;clear hb67 hsz7;go_wp2_with fail
        refine (callsIn_wide.1 (backI_in Fence.wide 5 hf1 rfl (some ⟨ib,io,none⟩) t.ids.length ci w7)).mono ?_;rintro e w8 ⟨rfl,rfl⟩;clear y0;go_wp2_with fail
        obtain ⟨Bs,hBs⟩:∃ Bs,Bs=w7.heap.size:=⟨_,rfl⟩;have S8:=(S7.newAt #[.slice (some ⟨ib,io,none⟩) t.ids.length ci] 26 Bs hBs).front;have hb8:Below PB w6 (w7.alloc (.cells #[.slice (some ⟨ib,io,none⟩) t.ids.length ci] 26)):=Hb67.out.alloc (by rw [Hsz7.out];omega) _;have hsz8:(w7.alloc (.cells #[.slice (some ⟨ib,io,none⟩) t.ids.length ci] 26)).heap.size=PB + 2:=by rw [alloc_size,Hsz7.out]
        have hBP:Bs=PB + 1:=by rw [hBs,Hsz7.out]
        rw [← hBs];clear hBs S7;generalize w7.alloc (.cells #[.slice (some ⟨ib,io,none⟩) t.ids.length ci] 26)=W0 at *;have hIds:IdsIn PB W0 (some ⟨ib,io,none⟩) t.ids:=by
         have h1:=(HI.out w6 HS6.out.b).inI;rw [← HPB.out] at h1;exact h1.below hb8
        have hLB:=S8.lv 0 rfl;have hLP:=S8.lv 1 rfl;have hLJ:=HS6.out.lv 1 rfl;have hLM:MapG keyId w6 X3 L3:=HS6.out.ok (.mapG keyId X3 L3) (.tail _ (.tail _ (.head _)));have hJlt:=hLJ.lt;refine (wpIn_wide (n:=6)).1 ?_;refine wpIn_rangeFunc_ownH rfl (by omega) (gf:=150) (lb:=#[.pointer (some ⟨Bs,0,none⟩)]) rfl hf2 (enters_of Tryz.func150 (by kernel_rfl) rfl)
         (backI_stops Fence.wide 5 hf2 rfl (by omega) Bs W0.heap.size PB ci (some ⟨ib,io,none⟩) t.ids (by omega) W0 (by omega) (by omega) (by omega) (Nat.le_refl _) (hLB.cell 0 _ rfl) hIds) (fun h k=>h.trans k) (fun W l o o' h1 h2 h3 h4=>KeepX.below (belowK_b (Nat.le_refl _) W l o o' h1 h2 h3 h4)) (Below.refl _ _) (fun _=>rfl)
         (fun pre W=>(LV W PB #[.int .i64 (kAcc r ts t.ids pre).k,.string (kAcc r ts t.ids pre).t,.slice none 0 0,.slice none 0 0] 80∧LV W Bs #[.slice (some ⟨ib,io,none⟩) t.ids.length ci] 26∧W0.heap.size≤W.heap.size)∧Below PB w6 W)
         (fun _ _ _=>False)
         (OwnFrom.and (Own.from (fun s A B row hs hg hr=>⟨lv_kept hs.1 hg hr,lv_kept hs.2.1 hg hr,Nat.le_trans hs.2.2 hg.size⟩) _) (ownFrom_below (by rw [HPB.out];exact Nat.le_refl _) (by omega)))
         (fun _ _ _ _ _ h _ _=>h.elim)
         ⟨⟨by rw [Hk0.out];exact hLP,hLB,Nat.le_refl _⟩,hb8⟩
         (fun x a' W=>∃ Bx,W0.heap.size≤Bx∧LV W Bx #[.int .i64 (iAt t.ids x).k,.string (iAt t.ids x).t] 46∧a'.defers=[]∧a'.tmps.size=205∧a'.tmps.getD 5 undef=.pointer (some ⟨Jb,0,none⟩)∧a'.tmps.getD 25 undef=.pointer (some ⟨PB,0,none⟩)∧a'.tmps.getD 27 undef=.pointer (some ⟨Bx,0,none⟩))
         (fun x a' _ X Y row hs hg hr=>by obtain ⟨Bx,h1,h2,h3⟩:=hs;exact ⟨Bx,h1,lv_kept h2 hg (fun r e=>(hr r e).2),h3⟩)
         ?assign ?body ?done ?stop
        case assign =>
         rintro l pre x W K ⟨⟨l0,l1,hsz⟩,hB1⟩ hK;gi_wp2
         obtain ⟨Bx,hBx⟩:∃ Bx,Bx=W.heap.size:=⟨_,rfl⟩;rw [← hBx];exact hK _ _ ((KeepsOthers.alloc _ _).from _) (KeepX.below ((Below.refl _ W).alloc hsz _)) ⟨⟨l0.alloc _,l1.alloc _,by rw [alloc_size];omega⟩,hB1.alloc (by omega) _⟩ ⟨Bx,by omega,by rw [hBx];exact LV.new W _ _ _ rfl,rfl,rfl,rfl,rfl,rfl⟩
        case body =>
         rintro l pre x ⟨T1,ds1⟩ W hl ⟨rr,hrr⟩ ⟨⟨l0,l1,hsz⟩,hB1⟩ ⟨Bx,hBx,bX,e0,hT1,e5,e25,e27⟩ hlt3;obtain ⟨f1,rfl⟩:=lit205 T1 hT1;replace e0:ds1=[]:=e0;replace e5:f1 5=.pointer (some ⟨Jb,0,none⟩):=e5;replace e25:f1 25=.pointer (some ⟨PB,0,none⟩):=e25;replace e27:f1 27=.pointer (some ⟨Bx,0,none⟩):=e27;rw [e0,e5,e25,e27];clear e0 e5 e25 e27 hT1;have hB2:Below w6.heap.size w6 W:=by rw [← HPB.out];exact hB1
         have lJ:=LV.kb3 hLJ hB2 hJlt;have hM2:MapG keyId W X3 L3:=by
          obtain ⟨es,cl,hb,he⟩:=hLM;exact ⟨es,cl,(hB2.block X3 (Array.getElem?_eq_some_iff.1 hb).1).trans hb,he⟩
         obtain ⟨y,hy⟩:∃ y,iAt t.ids x=y:=⟨_,rfl⟩;rw [hy] at bX;have hks:=kAcc_snoc r ts t.ids pre x;rw [hy] at hks;have Hks:=Lib.hid hks;obtain ⟨b,hb⟩:∃ b,jm r ts y=b:=⟨_,rfl⟩;have hlk:(Instr.lookup 133 (.map (some X3)) (.agg #[.int .i64 y.k,.string y.t]) false).run Tryz.prog W=.ok (.bool b) W:=by
          have h1:=look_g (K:=keyId) (T:=133) (E:=4) hM2 (by kernel_rfl) (zeroBoolP W) y false;rw [if_neg (by decide),jm_look HL3.out y,hb] at h1;exact h1
         have Hb3:=Lib.hid hb;have x0':=bX.all;have j0:=lJ.all;have p0:=l0.all;have Hl0:=Lib.hid l0;have Hl1:=Lib.hid l1;have hPBl:=l0.lt;have HBl:=Lib.hid hB1;clear hks hb hy hM2 lJ bX l0 l1 hB1 hB2;cases b
         ·gi_wp2_with fail
          refine ⟨KeepsFrom.refl _ _,KeepX.refl _ _ _,⟨?_,Hl1.out,hsz⟩,HBl.out⟩;rw [Hks.out,Hb3.out,if_neg (by decide)];exact Hl0.out
         ·gi_wp2_with fail
          refine ⟨((KeepsOthers.setCell _ _ _).trans (KeepsOthers.setCell _ _ _)).from _,?_,⟨?_,?_,by simpa [World.setCell] using hsz⟩,?_⟩
          ·intro k2 h1 h2;rw [Below.heap_setCell _ _ _ _ h2,Below.heap_setCell _ _ _ _ h2]
          ·rw [Hks.out,Hb3.out,if_pos rfl];exact (Hl0.out.set 0 (.int .i64 y.k) _ rfl).set 1 (.string y.t) _ rfl
          ·exact (Hl1.out.other (by omega) _ _).other (by omega) _ _
          ·exact (HBl.out.setCell (p:=⟨PB,0,none⟩) (Nat.le_refl _) _).setCell (p:=⟨PB,1,none⟩) (Nat.le_refl _) _
        case done =>
         rintro D ys W hD rfl ⟨⟨l0,l1,hsz⟩,hB1⟩ hK;obtain ⟨ky,hky⟩:∃ ky,keyP r ts t=ky:=⟨_,rfl⟩;rw [kAcc_all Ht.out,hky] at l0;have T:Mem w6 W [.loc PB #[.int .i64 ky.k,.string ky.t,.slice none 0 0,.slice none 0 0] 80,.df1 D]:=by
          refine ⟨by rw [← HPB.out];exact hB1,?_,?_,?_⟩
          ·exact all_cons l0 (all_cons hK all_nil)
          ·exact all_cons (fun k e=>by cases e;rw [HPB.out];exact Nat.le_refl _) (all_cons (fun k e=>by cases e;have:=HPB.out;omega) all_nil)
          ·exact List.pairwise_cons.2 ⟨all_cons (fun k e1 e2=>by cases e1;cases e2;omega) all_nil,List.pairwise_singleton _ _⟩
         have S9:=HS6.out.join T;have S10:Mem w W (.loc PB #[.int .i64 ky.k,.string ky.t,.slice none 0 0,.slice none 0 0] 80::.loc Jb #[.map (some X3)] 133::.mapG keyId X3 L3::.sl rInt (some ⟨g,0,none⟩) (iL p)::.own rPsQ B 80 (.slice A22 ps.length c22) ps::.pdat ps::(D::Ds).map Chunk.df1):=(S9.del 0).perm (perm_df [.loc Jb #[.map (some X3)] 133,.mapG keyId X3 L3,.sl rInt (some ⟨g,0,none⟩) (iL p),.own rPsQ B 80 (.slice A22 ps.length c22) ps,.pdat ps] (Ds.map Chunk.df1) _ _);have S11:Mem w W (.own rId B 46 (.slice none (([]:List IdV)).length 0) (([]:List IdV))::.own rInt B 3 (.slice none (([]:List Int)).length 0) (([]:List Int))::.loc PB #[.int .i64 ky.k,.string ky.t,.slice none (([]:List Int)).length 0,.slice none (([]:List IdV)).length 0] 80::.loc Jb #[.map (some X3)] 133::.mapG keyId X3 L3::.sl rInt (some ⟨g,0,none⟩) (iL p)::.own rPsQ B 80 (.slice A22 ps.length c22) ps::.pdat ps::(D::Ds).map Chunk.df1):=((S10.nil rInt B 3).front.nil rId B 46).front;have HS11:=Lib.hid S11;have Hky:=Lib.hid hky;clear hBP hK l0 l1 hsz hB1 T S9 S10 S11 HS6 hLB hLP hLJ hLM hJlt hIds HI hky;go_wp2_with fail
         go_loopw [158] (fun s158 wr=>∃ (j:Nat) (tch:List Int) (ids:List IdV) (At:Option Addr) (a:Nat) (Bi:Option Addr) (b2:Nat),j≤k∧s158=.int .i64 j∧Hid (tch=(partAt (labOf p) j i).map (noAt ts))∧Hid (IdAcc ((partAt (labOf p) j i).flatMap (idsAt ts)) ids)∧Mem w wr (.own rId B 46 (.slice Bi (ids).length b2) (ids)::.own rInt B 3 (.slice At (tch).length a) (tch)::.loc PB #[.int .i64 ky.k,.string ky.t,.slice At (tch).length a,.slice Bi (ids).length b2] 80::.loc Jb #[.map (some X3)] 133::.mapG keyId X3 L3::.sl rInt (some ⟨g,0,none⟩) (iL p)::.own rPsQ B 80 (.slice A22 ps.length c22) ps::.pdat ps::(D::Ds).map Chunk.df1)) (fun s158 _=>k - (intOf s158).toNat)
         case atStart=>exact ⟨0,[],[],none,0,none,0,Nat.zero_le _,rfl,rfl,IdAcc.start,HS11.out⟩
         case round =>
          clear HS11;obtain ⟨j,tch,ids,At,a,Bi,b2,hj,rfl,Htc,Hac,S11⟩:=hrel;have hbt:tch.length≤100000:=by
           rw [Htc.out,List.length_map];have:=part_len (labOf p) j i
           have:=Ho.out.tb
           have:=Hn.out
           omega
          have hbi:ids.length≤100000:=by
           have h1:=Hac.out.len;have h2:=flat_len (m:=10) (f:=idsAt ts) (partAt (labOf p) j i) Ho.out.idsAt;have:=part_len (labOf p) j i
           have:=Ho.out.tb
           have:=Hn.out
           omega
          by_cases hjk:j < k
          ·obtain ⟨v,hv⟩:∃ v,ts[j]? =some v:=⟨_,List.getElem?_eq_getElem (by rw [Hn.out];exact hjk)⟩;obtain ⟨blk2,off2,Aj,cj,Afj,cfj,hA2,hblk2,d0,d1,d2,d3,d4,hi2,hf2⟩:=(HT.out w (Below.refl _ _)).tch j v hv;simp only [Option.some.injEq,Addr.mk.injEq,and_true] at hA2;obtain ⟨rfl,rfl⟩:=hA2;have hcl:=fun (q:Addr) (hq:q.block < w.heap.size)=>S11.b.cell hq;rw [← hcl _ hblk2] at d0 d1 d2 d3 d4;clear hcl;have HI:=Lib.hid (fun w' (h:Below w.heap.size w w')=>hi2.keepB h);have hvl:v.ids.length≤10:=Ho.out.ib v (List.mem_of_getElem? hv);have Hidv:Hid (idsAt ts j=v.ids):=idsAt_is hv;have Hnov:Hid (noAt ts j=v.no):=noAt_is hv;clear hi2 hf2 hv;go_upto_region 47 with fail
           clear d0 d1 d2 d3 d4;obtain ⟨U2,hU2⟩:∃ U2,U2=wr.heap.size:=⟨_,rfl⟩;have S12:Mem w _ (.loc U2 (tcCs v Aj cj Afj cfj) 58::.own rId B 46 (.slice Bi (ids).length b2) (ids)::.own rInt B 3 (.slice At (tch).length a) (tch)::.loc PB #[.int .i64 ky.k,.string ky.t,.slice At (tch).length a,.slice Bi (ids).length b2] 80::.loc Jb #[.map (some X3)] 133::.mapG keyId X3 L3::.sl rInt (some ⟨g,0,none⟩) (iL p)::.own rPsQ B 80 (.slice A22 ps.length c22) ps::.pdat ps::(D::Ds).map Chunk.df1):=(S11.newAt (tcCs v Aj cj Afj cfj) 58 U2 hU2).front;rw [← hU2];clear hU2 S11;generalize wr.alloc (.cells (tcCs v Aj cj Afj cfj) 58)=w6 at *;obtain ⟨gb,go,eg,_,cl⟩:=(S12.slc 6 rfl).int j _ (iL_at (Hlb.out j hjk));simp only [Option.some.injEq,Addr.mk.injEq,and_true] at eg;obtain ⟨rfl,rfl⟩:=eg;rw [Nat.zero_add] at cl;have hps:=partAt_step (labOf p) j i;have Hps:=Lib.hid hps;clear hps;by_cases hcj:labOf p j=i
           ·have hd2:((labOf p j:Int) != (i:Int))=false:=by simp;omega
            have Htc2:Hid (tch++[v.no]=(partAt (labOf p) (j + 1) i).map (noAt ts)):=by
             show _=_;rw [Hps.out,if_pos hcj,List.map_append,← Htc.out,List.map_singleton,Hnov.out]
            have Hall:Hid ((partAt (labOf p) (j + 1) i).flatMap (idsAt ts)=((partAt (labOf p) j i).flatMap (idsAt ts))++v.ids):=by
             show _=_;rw [Hps.out,if_pos hcj,List.flatMap_append,← Hidv.out];simp
            obtain ⟨l,hl2⟩:∃ l:Int,(labOf p j:Int)=l:=⟨_,rfl⟩;rw [hl2] at cl hd2;clear hl2 hcj;have y0:=(S12.lv 0 rfl).all;have z0:=(S12.lv 3 rfl).all;have hsB:B≤w6.heap.size:=by rw [Hb.out];exact S12.b.size
            go_upto_region 49 with (at_builtin;refine S12.app 2 rfl tyIntP rfl _ _ rfl v.no 1 rfl rfl rfl (oneJ v.no) hsB (by omega) (by decide) ?_;intro v' w7 S13;obtain ⟨At2,a2,rfl⟩:=(S13.ow 2 rfl).len;have z1:=(S13.lv 3 rfl).all)
            have S14:=S13.set 3 2 (.slice At2 (tch++[v.no]).length a2) rfl;rw [List.length_append,List.length_singleton] at S14;obtain ⟨tc2,htc2⟩:∃ tc2,tch++[v.no]=tc2:=⟨_,rfl⟩;have htl:tch.length + 1=tc2.length:=by rw [← htc2];simp
            replace S14:Mem w (w7.setCell ⟨PB,2,none⟩ (.slice At2 (tch.length + 1) a2)) (.loc U2 (tcCs v Aj cj Afj cfj) 58::.own rId B 46 (.slice Bi (ids).length b2) (ids)::.own rInt B 3 (.slice At2 (tc2).length a2) (tc2)::.loc PB #[.int .i64 ky.k,.string ky.t,.slice At2 (tc2).length a2,.slice Bi (ids).length b2] 80::.loc Jb #[.map (some X3)] 133::.mapG keyId X3 L3::.sl rInt (some ⟨g,0,none⟩) (iL p)::.own rPsQ B 80 (.slice A22 ps.length c22) ps::.pdat ps::(D::Ds).map Chunk.df1):=by
             rw [← htc2,show (tch++[v.no]).length=tch.length + 1 by simp];exact S14
            rw [htc2] at Htc2;rw [htl] at S14 ⊢;clear y0 z0 z1 S12 S13 cl hd2 hsB htc2 htl;generalize w7.setCell ⟨PB,2,none⟩ (.slice At2 tc2.length a2)=w8 at *;have y0:=(S14.lv 0 rfl).all;go_wp2_with fail
            clear y0;go_loopw [179] (fun s179 wr=>∃ (m:Nat) (ids:List IdV) (Bi:Option Addr) (b2:Nat),m≤v.ids.length∧s179=.int .i64 m∧Hid (IdAcc (((partAt (labOf p) j i).flatMap (idsAt ts))++v.ids.take m) ids)∧Mem w wr (.loc U2 (tcCs v Aj cj Afj cfj) 58::.own rId B 46 (.slice Bi (ids).length b2) (ids)::.own rInt B 3 (.slice At2 (tc2).length a2) (tc2)::.loc PB #[.int .i64 ky.k,.string ky.t,.slice At2 (tc2).length a2,.slice Bi (ids).length b2] 80::.loc Jb #[.map (some X3)] 133::.mapG keyId X3 L3::.sl rInt (some ⟨g,0,none⟩) (iL p)::.own rPsQ B 80 (.slice A22 ps.length c22) ps::.pdat ps::(D::Ds).map Chunk.df1)) (fun s179 _=>v.ids.length - (intOf s179).toNat)
            case atStart=>exact ⟨0,ids,Bi,b2,Nat.zero_le _,rfl,by show IdAcc _ _;rw [List.take_zero,List.append_nil];exact Hac.out,S14⟩
            case round =>
             clear S14 Hac hbi;obtain ⟨m,ids,Bi,b2,hm,rfl,Hac,S14⟩:=hrel;have hbi:ids.length≤100000:=by
              have h1:=Hac.out.len;have h2:=flat_len (m:=10) (f:=idsAt ts) (partAt (labOf p) j i) Ho.out.idsAt;have:=part_len (labOf p) j i
              have:=Ho.out.tb
              have:=Hn.out
              rw [List.length_append,List.length_take] at h1;omega
             by_cases hlt2:m < v.ids.length
             ·obtain ⟨x,hx⟩:∃ x,v.ids[m]? =some x:=⟨_,List.getElem?_eq_getElem hlt2⟩;obtain ⟨jb,jo,rfl,hjb,c0,c1⟩:=(HI.out wr S14.b).idv m x hx;have Hac2:Hid (IdAcc (((partAt (labOf p) j i).flatMap (idsAt ts))++v.ids.take (m + 1)) (if decide (x∈ids)=true then ids else ids++[x])):=by
               show IdAcc _ _;rw [take_snoc hx,← List.append_assoc];exact Hac.out.add x
              clear hx;go_upto_region 52 with fail
              clear c0 c1;obtain ⟨Z2,hZ2⟩:∃ Z2,Z2=wr.heap.size:=⟨_,rfl⟩;have S15:Mem w _ (.loc Z2 #[.int .i64 x.k,.string x.t] 46::.loc U2 (tcCs v (some ⟨jb,jo,none⟩) cj Afj cfj) 58::.own rId B 46 (.slice Bi (ids).length b2) (ids)::.own rInt B 3 (.slice At2 (tc2).length a2) (tc2)::.loc PB #[.int .i64 ky.k,.string ky.t,.slice At2 (tc2).length a2,.slice Bi (ids).length b2] 80::.loc Jb #[.map (some X3)] 133::.mapG keyId X3 L3::.sl rInt (some ⟨g,0,none⟩) (iL p)::.own rPsQ B 80 (.slice A22 ps.length c22) ps::.pdat ps::(D::Ds).map Chunk.df1):=(S14.newAt #[.int .i64 x.k,.string x.t] 46 Z2 hZ2).front;rw [← hZ2];clear hZ2 S14;generalize wr.alloc (.cells #[.int .i64 x.k,.string x.t] 46)=w9 at *;have y0:=(S15.lv 0 rfl).all;have z0:=(S15.lv 4 rfl).all;have Hcn:=Lib.hid (containsId_any (fun _=>False) Bi ids b2 x w9 ((S15.ow 2 rfl).slF flatId) (by omega));obtain ⟨b,hb⟩:∃ b,decide (x∈ids)=b:=⟨_,rfl⟩;rw [hb] at Hcn Hac2;clear hb;go_wp2_with fail
              refine (Hcn.out).mono ?_;rintro e w10 ⟨rfl,hl10⟩;have S16:=S15.below hl10;clear Hcn hl10 S15 y0 z0;cases b
              ·have y0:=(S16.lv 0 rfl).all;have z0:=(S16.lv 4 rfl).all;have hsB:B≤w10.heap.size:=by rw [Hb.out];exact S16.b.size
               rw [if_neg (by decide)] at Hac2;go_upto_region 54 with (at_builtin;refine S16.app 2 rfl tyIdP rfl _ _ rfl x 1 rfl rfl rfl (oneIdP x) hsB (by omega) (by decide) ?_;intro v' w11 S17;obtain ⟨Bi2,b3,rfl⟩:=(S17.ow 2 rfl).len;have z1:=(S17.lv 4 rfl).all)
               have S18:=S17.set 4 3 (.slice Bi2 (ids++[x]).length b3) rfl;rw [List.length_append,List.length_singleton] at S18;obtain ⟨id2,hid2⟩:∃ id2,ids++[x]=id2:=⟨_,rfl⟩;have hil2:ids.length + 1=id2.length:=by rw [← hid2];simp
               replace S18:Mem w (w11.setCell ⟨PB,3,none⟩ (.slice Bi2 (ids.length + 1) b3)) (.loc Z2 #[.int .i64 x.k,.string x.t] 46::.loc U2 (tcCs v (some ⟨jb,jo,none⟩) cj Afj cfj) 58::.own rId B 46 (.slice Bi2 (id2).length b3) (id2)::.own rInt B 3 (.slice At2 (tc2).length a2) (tc2)::.loc PB #[.int .i64 ky.k,.string ky.t,.slice At2 (tc2).length a2,.slice Bi2 (id2).length b3] 80::.loc Jb #[.map (some X3)] 133::.mapG keyId X3 L3::.sl rInt (some ⟨g,0,none⟩) (iL p)::.own rPsQ B 80 (.slice A22 ps.length c22) ps::.pdat ps::(D::Ds).map Chunk.df1):=by
                rw [← hid2,show (ids++[x]).length=ids.length + 1 by simp];exact S18
               rw [hid2] at Hac2;rw [hil2] at S18 ⊢;clear y0 z0 z1 S16 S17 hsB hid2 hil2;generalize w11.setCell ⟨PB,3,none⟩ (.slice Bi2 id2.length b3)=w12 at *;go_wp2_with fail
               go_roundw
               case rel=>exact ⟨m + 1,id2,Bi2,b3,by omega,by go_num,Hac2.out,S18.del 0⟩
               case measure=>simp [intOf];omega
              ·rw [if_pos rfl] at Hac2;go_wp2_with fail
               go_roundw
               case rel=>exact ⟨m + 1,ids,Bi,b2,by omega,by go_num,Hac2.out,S16.del 0⟩
               case measure=>simp [intOf];omega
             ·obtain rfl:m=v.ids.length:=by omega
              have Hac2:Hid (IdAcc ((partAt (labOf p) (j + 1) i).flatMap (idsAt ts)) ids):=by
               show IdAcc _ _;rw [Hall.out];have:=Hac.out
               rw [List.take_length] at this;exact this
              go_wp2_with fail
              go_roundw
              case rel =>
               exact ⟨j + 1,tc2,ids,At2,a2,Bi,b2,by omega,by go_num,Htc2.out,Hac2.out,S14.del 0⟩
              case measure=>simp [intOf];omega
           ·have hd2:((labOf p j:Int) != (i:Int))=true:=by simp;omega
            have Htc2:Hid (tch=(partAt (labOf p) (j + 1) i).map (noAt ts)):=by
             show _=_;rw [Hps.out,if_neg hcj,List.append_nil,Htc.out]
            have Hac2:Hid (IdAcc ((partAt (labOf p) (j + 1) i).flatMap (idsAt ts)) ids):=by
             show IdAcc _ _;rw [Hps.out,if_neg hcj,List.append_nil];exact Hac.out
            have S13:=S12.del 0;go_wp2_with fail
            go_roundw
            case rel=>exact ⟨j + 1,tch,ids,At,a,Bi,b2,by omega,by go_num,Htc2.out,Hac2.out,S13⟩
            case measure=>simp [intOf];omega
          ·obtain rfl:j=k:=by omega
           have z0:=(S11.lv 2 rfl).all;have Hs:=Lib.hid (sortIdR_any S11 0 rfl (by omega));go_wp2_with fail
           refine (Hs.out).mono ?_;rintro e w12 ⟨rfl,ys,hperm,hord,S12⟩;have hyl:=hperm.length_eq;have Hys:=Lib.hid (Hac.out.sorted hperm hord);have S13:Mem w w12 (.own rId B 46 (.slice Bi ys.length b2) ys::.own rInt B 3 (.slice At tch.length a) tch::.loc PB #[.int .i64 ky.k,.string ky.t,.slice At tch.length a,.slice Bi ys.length b2] 80::.loc Jb #[.map (some X3)] 133::.mapG keyId X3 L3::.sl rInt (some ⟨g,0,none⟩) (iL p)::.own rPsQ B 80 (.slice A22 ps.length c22) ps::.pdat ps::(D::Ds).map Chunk.df1):=by rw [hyl];exact S12
           rw [← hyl] at hbi;rw [← hyl];have Hyl:=Lib.hid hyl;clear Hs hperm hord S11 S12 z0 hyl;have z0:=(S13.lv 2 rfl).all;have hsB:B≤w12.heap.size:=by rw [Hb.out];exact S13.b.size
           obtain ⟨q,hq⟩:∃ q:PsQ,q=⟨⟨ky,tch,ys⟩,At,a,Bi,b2⟩:=⟨_,rfl⟩;have hTn:=Ho.out.tb;rw [Hn.out] at hTn;go_wp2_with (at_builtin;refine S13.app 6 rfl tyPsn rfl _ _ rfl (⟨⟨ky,tch,ys⟩,At,a,Bi,b2⟩:PsQ) 1 rfl rfl rfl (onePsQ ⟨⟨ky,tch,ys⟩,At,a,Bi,b2⟩) hsB (by omega) (by decide) ?_;intro v' w14 S14;rw [← hq] at S14;obtain ⟨A23,c23,rfl⟩:=(S14.ow 6 rfl).len)
           obtain ⟨A4,c4,e4,S15⟩:=S14.frz 0 rfl;simp only [Value.slice.injEq,true_and] at e4;obtain ⟨rfl,rfl⟩:=e4;obtain ⟨A5,c5,e5,S16⟩:=S15.frz 1 rfl;simp only [Value.slice.injEq,true_and] at e5;obtain ⟨rfl,rfl⟩:=e5;have hqA:q.A=At∧q.p.tch=tch∧q.B=Bi∧q.p.ids=ys:=by rw [hq];exact ⟨rfl,rfl,rfl,rfl⟩
           have S17:=S16.addPd 7 rfl q (by rw [hqA.1,hqA.2.1];exact S16.slc 1 rfl) (by rw [hqA.2.2.1,hqA.2.2.2];exact S16.slc 0 rfl);clear hqA;have S18:Mem w w14 (.loc Jb #[.map (some X3)] 133::.mapG keyId X3 L3::.sl rInt (some ⟨g,0,none⟩) (iL p)::.own rPsQ B 80 (.slice A23 (ps++[q]).length c23) (ps++[q])::.pdat (ps++[q])::(D::Ds).map Chunk.df1):=((S17.del 0).del 0).del 0;have HPS2:Hid ((ps++[q]).map PsQ.p=(heads (labOf p) (i + 1)).map (psnAt r ts (labOf p))):=by
            show _=_;rw [heads_new Hci.out,List.map_append,List.map_append,HPS.out,hq,List.map_singleton,List.map_singleton];congr 2
            unfold psnAt;rw [Ht.out,Hn.out];simp only [Hky.out,Htc.out,Hys.out]
           refine ⟨⟨⟨rfl,rfl,rfl,rfl,rfl,rfl⟩,i + 1,ps++[q],A23,c23,D::Ds,by omega,by rw [List.length_append];rfl,by show Value.int _ _=_;go_num,rfl,HPS2.out,S18⟩,?measure2⟩
           case measure2=>show j - (intOf (.int .i64 _)).toNat < j - (intOf (.int .i64 _)).toNat;simp [intOf];omega
        case stop =>
         rintro D cc2 pre W hD _ h;exact h.elim
       ·have hd:((labOf p i:Int) != (i:Int))=true:=by simp;omega
        have HPS2:Hid (ps.map PsQ.p=(heads (labOf p) (i + 1)).map (psnAt r ts (labOf p))):=by show _=_;rw [heads_old hci];exact HPS.out
        have S7:=S6.del 0;clear y0 S6;go_wp2_with fail
        refine ⟨⟨⟨rfl,rfl,rfl,rfl,rfl,rfl⟩,i + 1,ps,A22,c22,Ds,by omega,rfl,by show Value.int _ _=_;go_num,rfl,HPS2.out,S7⟩,?measure⟩
        case measure=>show k - (intOf (.int .i64 _)).toNat < k - (intOf (.int .i64 _)).toNat;simp [intOf];omega
      ·obtain rfl:i=k:=by omega
       go_wp2_with fail
       (try simp only [Exit.inBlock,Exit.then])
       refine leaves_df Ds wr (cs:=[.loc Jb #[.map (some X3)] 133,.mapG keyId X3 L3,.sl rInt (some ⟨g,0,none⟩) (iL p),.own rPsQ B 80 (.slice A22 ps.length c22) ps,.pdat ps]) S4 (fun W' SW=>?_);have hPs:IsPsns r ts (ps.map PsQ.p):=⟨labOf p,by rw [Hn.out];exact Hpart.out,by rw [HPS.out];unfold psns;rw [Hn.out]⟩;have S9:=((SW.del 2).del 1).del 0;rw [show B=w.heap.size from Hb.out] at S9;exact ⟨_,results_tmp rfl _ _ _,A22,c22,ps,rfl,hPs,S9⟩
    ·clear Hpt;go_upto_region 12 with fail
     obtain ⟨X4,hX4⟩:∃ X4,X4=wr.heap.size:=⟨_,rfl⟩;have S5:Mem w (wr.alloc (.map #[] 0)) [.loc Jb #[.map (some X3)] 133,.mapG keyId X3 L3,.own rInt B 3 (.slice (some ⟨g,0,none⟩) k k) (iL p),.mapG keyId X4 (([]:List (IdV×Nat)).map labV)]:=S4.newMapG keyId X4 hX4;rw [← hX4];clear hX4 S4;generalize wr.alloc (.map #[] 0)=w5 at *;go_wp2_with fail
     go_loopw [52] (fun i wr=>∃ (j:Nat) (L:List (IdV×Nat)),j≤k∧i=.int .i64 j∧Hid (LeastOk r ts p j 0 L)∧Mem w wr [.loc Jb #[.map (some X3)] 133,.mapG keyId X3 L3,.own rInt B 3 (.slice (some ⟨g,0,none⟩) k k) (iL p),.mapG keyId X4 (L.map labV)]) (fun i _=>k - (intOf i).toNat)
     case atStart=>exact ⟨0,[],Nat.zero_le _,rfl,LeastOk.start r ts p,S5⟩
     case round =>
      clear S5;obtain ⟨j,L,hj,rfl,HL,S5⟩:=hrel;by_cases hlt:j < k
      ·obtain ⟨t,ht⟩:∃ t,ts[j]? =some t:=⟨_,List.getElem?_eq_getElem (by rw [Hn.out];exact hlt)⟩;obtain ⟨blk,off,Ai,ci,Af,cf,rfl,hblk,d0,d1,d2,d3,d4,hi,hf⟩:=(HT.out w (Below.refl _ _)).tch j t ht;have hcl:=fun (p:Addr) (hp:p.block < w.heap.size)=>S5.b.cell hp;rw [← hcl _ hblk] at d0 d1 d2 d3 d4;clear hcl;have HI:=Lib.hid (fun w' (h:Below w.heap.size w w')=>hi.keepB h);have hil:t.ids.length≤10:=Ho.out.ib t (List.mem_of_getElem? ht);have Hid2:Hid (idsAt ts j=t.ids):=idsAt_is ht;have Ht:=Lib.hid ht;clear hi hf ht;go_upto_region 15 with fail
       clear d0 d1 d2 d3 d4;obtain ⟨U,hU⟩:∃ U,U=wr.heap.size:=⟨_,rfl⟩;have S6:Mem w _ [.loc U (tcCs t Ai ci Af cf) 58,.loc Jb #[.map (some X3)] 133,.mapG keyId X3 L3,.own rInt B 3 (.slice (some ⟨g,0,none⟩) k k) (iL p),.mapG keyId X4 (L.map labV)]:=(S5.newAt (tcCs t Ai ci Af cf) 58 U hU).front;rw [← hU];clear hU S5;generalize wr.alloc (.cells (tcCs t Ai ci Af cf) 58)=w6 at *;have y0:=(S6.lv 0 rfl).all;go_wp2_with fail
       clear y0;go_loopw [60] (fun i wr=>∃ (m:Nat) (L:List (IdV×Nat)),m≤t.ids.length∧i=.int .i64 m∧Hid (LeastOk r ts p j m L)∧Mem w wr [.loc U (tcCs t Ai ci Af cf) 58,.loc Jb #[.map (some X3)] 133,.mapG keyId X3 L3,.own rInt B 3 (.slice (some ⟨g,0,none⟩) k k) (iL p),.mapG keyId X4 (L.map labV)]) (fun i _=>t.ids.length - (intOf i).toNat)
       case atStart=>exact ⟨0,L,Nat.zero_le _,rfl,HL.out,S6⟩
       case round =>
        clear S6 HL;obtain ⟨m,L,hm,rfl,HL,S6⟩:=hrel;by_cases hlt2:m < t.ids.length
        ·obtain ⟨x,hx⟩:∃ x,t.ids[m]? =some x:=⟨_,List.getElem?_eq_getElem hlt2⟩;obtain ⟨ib,io,rfl,hib,c0,c1⟩:=(HI.out wr S6.b).idv m x hx;have Hxx:Hid ((idsAt ts j)[m]? =some x):=by show _=_;rw [Hid2.out];exact hx
         clear hx;go_upto_region 18 with fail
         clear c0 c1;obtain ⟨Z,hZ⟩:∃ Z,Z=wr.heap.size:=⟨_,rfl⟩;have S7:Mem w _ [.loc Z #[.int .i64 x.k,.string x.t] 46,.loc U (tcCs t (some ⟨ib,io,none⟩) ci Af cf) 58,.loc Jb #[.map (some X3)] 133,.mapG keyId X3 L3,.own rInt B 3 (.slice (some ⟨g,0,none⟩) k k) (iL p),.mapG keyId X4 (L.map labV)]:=(S6.newAt #[.int .i64 x.k,.string x.t] 46 Z hZ).front;rw [← hZ];clear hZ S6;generalize wr.alloc (.cells #[.int .i64 x.k,.string x.t] 46)=w7 at *;have y0:=(S7.lv 0 rfl).all;obtain ⟨a,ha⟩:∃ a,p[j]? =some a:=⟨_,List.getElem?_eq_getElem (by rw [← Hlp.out];exact hlt)⟩;have cq:=((S7.ow 4 rfl).intAt (by rw [iL_len];exact Hlp.out) j a (iL_at ha)).1;have Ha:=Lib.hid ha;have j0:=(S7.lv 2 rfl).all;obtain ⟨jx,Hjx⟩:∃ jx,Hid (joinsP r ts x=jx):=⟨_,Lib.hid rfl⟩;have hjl:(getG x L3).getD (.bool false)=.bool jx:=by
          have h1:hav ts x≠[]:=fun e=>by
           have h2:j∈hav ts x:=mem_idsAt.1 (List.mem_of_getElem? Hxx.out);rw [e] at h2;cases h2
          rw [HL3.out x,if_neg h1,← Hjx.out];rfl
         have hlk:(Instr.lookup 133 (.map (some X3)) (.agg #[.int .i64 x.k,.string x.t]) false).run Tryz.prog w7=.ok (.bool jx) w7:=by
          have h1:=look_g (K:=keyId) (T:=133) (E:=4) (S7.ok (.mapG keyId X3 L3) (List.mem_of_getElem? (i:=3) rfl)) (by kernel_rfl) (zeroBoolP w7) x false;rw [if_neg (by decide),hjl] at h1;exact h1
         have hlk4:=look_g (K:=keyId) (T:=135) (E:=3) (S7.ok (.mapG keyId X4 (L.map labV)) (List.mem_of_getElem? (i:=5) rfl)) (by kernel_rfl) (zeroIntE w7) x true;rw [if_pos rfl,labV_get] at hlk4;replace hlk4:(Instr.lookup 135 (.map (some X4)) (.agg #[.int .i64 x.k,.string x.t]) true).run Tryz.prog w7=_:=hlk4;clear ha hjl;cases hgx:getG x L with
         | none =>
          rw [hgx] at hlk4;simp only [Option.map_none,Option.getD_none,Option.isSome_none] at hlk4;cases jx
          ·have HSK:Hid (LeastOk r ts p j (m + 1) L):=HL.out.skip Hxx.out Ha.out (fun e=>by rw [Hjx.out] at e;cases e);clear hgx;go_wp2_with fail
           go_roundw
           case rel=>exact ⟨m + 1,L,by omega,by go_num,HSK.out,(S7.del 0)⟩
           case measure=>simp [intOf];omega
          ·have HPUT:Hid (LeastOk r ts p j (m + 1) (updG x a L)):=HL.out.put Hxx.out Hjx.out Ha.out (fun v e=>by rw [hgx] at e;cases e);clear hgx;go_upto_region 20 with fail
           clear y0 j0 cq hlk hlk4;refine wp_region_mixT [6] (fun w'=>LV w' Z #[.int .i64 x.k,.string x.t] 46∧w'.cell? ⟨g,j,none⟩=some (.int .i64 (a:Nat))) (.p 0 (.q 1 (.p 2 (.p 3 (.p 4 (.q 5 (.b 6 .z))))))) (by kernel_rfl) (by kernel_rfl) (fun w' hd=>⟨(S7.below (hd.below _)).lv 0 rfl,((S7.below (hd.below _)).ow 4 rfl |>.intAt (by rw [iL_len];exact Hlp.out) j a (iL_at Ha.out)).1⟩) (fun KK hKK wd hd=>?_);have S8:=S7.below (hd.below _);clear hd S7;refine mpT ?_;refine mixT_loadR (.agg #[.int .i64 x.k,.string x.t]) rfl rfl rfl rfl (fun w' h=>loadAtI (h.1.cell 0 _ rfl) (h.1.cell 1 _ rfl)) ?_;refine mpT ?_;refine mixT_loadR (.int .i64 (a:Nat)) rfl rfl rfl rfl (fun w' h=>loadC rfl h.2) ?_;go_simp;refine mixT_b rfl rfl (fun K9 hK9=>?_);refine S8.putG 5 rfl (T:=135) (E:=3) (by kernel_rfl) rfl _ _ _ rfl rfl x rfl (.int .i64 (a:Nat)) rfl ?_;intro w9 S9;rw [labV_upd] at S9;have HS9:Hid (Mem w w9 [.loc Z #[.int .i64 x.k,.string x.t] 46,.loc U (tcCs t (some ⟨ib,io,none⟩) ci Af cf) 58,.loc Jb #[.map (some X3)] 133,.mapG keyId X3 L3,.own rInt B 3 (.slice (some ⟨g,0,none⟩) k k) (iL p),.mapG keyId X4 ((updG x a L).map labV)]):=S9;clear S9 S8;go_wp2_with fail
           refine ⟨trivial,?_⟩;refine mixT_nil ?_;simp only [Exit.then];refine hKK _ _ ?_;clear hKK KK;go_wp2_with fail
           go_roundw
           case rel=>exact ⟨m + 1,updG x a L,by omega,by go_num,HPUT.out,(HS9.out.del 0)⟩
           case measure=>simp [intOf];omega
         | some v =>
          rw [hgx] at hlk4;simp only [Option.map_some,Option.getD_some,Option.isSome_some] at hlk4;cases jx
          ·have HSK:Hid (LeastOk r ts p j (m + 1) L):=HL.out.skip Hxx.out Ha.out (fun e=>by rw [Hjx.out] at e;cases e);clear hgx;go_wp2_with fail
           go_roundw
           case rel=>exact ⟨m + 1,L,by omega,by go_num,HSK.out,(S7.del 0)⟩
           case measure=>simp [intOf];omega
          ·by_cases hav2:a < v
           ·have HPUT:Hid (LeastOk r ts p j (m + 1) (updG x a L)):=HL.out.put Hxx.out Hjx.out Ha.out (fun v' e=>by rw [hgx] at e;obtain rfl:=Option.some.inj e;exact hav2);have hd1:decide ((a:Int) < (v:Int))=true:=decide_eq_true (by omega);clear hgx;go_upto_region 20 with fail
            clear y0 j0 cq hlk hlk4 hd1;refine wp_region_mixT [6] (fun w'=>LV w' Z #[.int .i64 x.k,.string x.t] 46∧w'.cell? ⟨g,j,none⟩=some (.int .i64 (a:Nat))) (.p 0 (.q 1 (.p 2 (.p 3 (.p 4 (.q 5 (.b 6 .z))))))) (by kernel_rfl) (by kernel_rfl) (fun w' hd=>⟨(S7.below (hd.below _)).lv 0 rfl,((S7.below (hd.below _)).ow 4 rfl |>.intAt (by rw [iL_len];exact Hlp.out) j a (iL_at Ha.out)).1⟩) (fun KK hKK wd hd=>?_);have S8:=S7.below (hd.below _);clear hd S7;refine mpT ?_;refine mixT_loadR (.agg #[.int .i64 x.k,.string x.t]) rfl rfl rfl rfl (fun w' h=>loadAtI (h.1.cell 0 _ rfl) (h.1.cell 1 _ rfl)) ?_;refine mpT ?_;refine mixT_loadR (.int .i64 (a:Nat)) rfl rfl rfl rfl (fun w' h=>loadC rfl h.2) ?_;go_simp;refine mixT_b rfl rfl (fun K9 hK9=>?_);refine S8.putG 5 rfl (T:=135) (E:=3) (by kernel_rfl) rfl _ _ _ rfl rfl x rfl (.int .i64 (a:Nat)) rfl ?_;intro w9 S9;rw [labV_upd] at S9;have HS9:Hid (Mem w w9 [.loc Z #[.int .i64 x.k,.string x.t] 46,.loc U (tcCs t (some ⟨ib,io,none⟩) ci Af cf) 58,.loc Jb #[.map (some X3)] 133,.mapG keyId X3 L3,.own rInt B 3 (.slice (some ⟨g,0,none⟩) k k) (iL p),.mapG keyId X4 ((updG x a L).map labV)]):=S9;clear S9 S8;go_wp2_with fail
            refine ⟨trivial,?_⟩;refine mixT_nil ?_;simp only [Exit.then];refine hKK _ _ ?_;clear hKK KK;go_wp2_with fail
            go_roundw
            case rel=>exact ⟨m + 1,updG x a L,by omega,by go_num,HPUT.out,(HS9.out.del 0)⟩
            case measure=>simp [intOf];omega
           ·have HSK:Hid (LeastOk r ts p j (m + 1) L):=HL.out.skip Hxx.out Ha.out (fun _=>⟨v,hgx,by omega⟩);have hd1:decide ((a:Int) < (v:Int))=false:=decide_eq_false (by omega);clear hgx;go_wp2_with fail
            go_roundw
            case rel=>exact ⟨m + 1,L,by omega,by go_num,HSK.out,(S7.del 0)⟩
            case measure=>simp [intOf];omega
        ·obtain rfl:m=t.ids.length:=by omega
         have HL2:Hid (LeastOk r ts p (j + 1) 0 L):=LeastOk.next (by rw [Hid2.out];exact HL.out);go_wp2_with fail
         go_roundw
         case rel=>exact ⟨j + 1,L,by omega,by go_num,HL2.out,S6.del 0⟩
         case measure=>simp [intOf];omega
      ·obtain rfl:j=k:=by omega
       have HFs:Hid (Falls r ts p L 0 0 p false):=Falls.start L (by rw [Hn.out];exact Hst.out);have HLe:Hid (LeastOk r ts p j 0 L):=HL.out;clear HL;go_wp2_with fail
       go_loopw [8,95] (fun s8 i wr=>∃ (k:Nat) (q:List Nat) (ch:Bool),k≤j∧s8=.bool ch∧i=.int .i64 k∧Hid (Falls r ts p L k 0 q ch)∧Mem w wr [.loc Jb #[.map (some X3)] 133,.mapG keyId X3 L3,.own rInt B 3 (.slice (some ⟨g,0,none⟩) j j) (iL q),.mapG keyId X4 (L.map labV)]) (fun _ i _=>j - (intOf i).toNat)
       case atStart=>exact ⟨0,p,false,Nat.zero_le _,rfl,rfl,HFs.out,S5⟩
       case round =>
        clear S5 HFs;obtain ⟨k,q0,ch0,hk2,rfl,rfl,HF,S5⟩:=hrel;by_cases hlt:k < j
        ·obtain ⟨t,ht⟩:∃ t,ts[k]? =some t:=⟨_,List.getElem?_eq_getElem (by rw [Hn.out];exact hlt)⟩;obtain ⟨blk,off,Ai,ci,Af,cf,rfl,hblk,d0,d1,d2,d3,d4,hi,hf⟩:=(HT.out w (Below.refl _ _)).tch k t ht;have hcl:=fun (p:Addr) (hp:p.block < w.heap.size)=>S5.b.cell hp;rw [← hcl _ hblk] at d0 d1 d2 d3 d4;clear hcl;have HI:=Lib.hid (fun w' (h:Below w.heap.size w w')=>hi.keepB h);have hil:t.ids.length≤10:=Ho.out.ib t (List.mem_of_getElem? ht);have Hid2:Hid (idsAt ts k=t.ids):=idsAt_is ht;have Ht:=Lib.hid ht;clear hi hf ht;go_upto_region 26 with fail
         clear d0 d1 d2 d3 d4;obtain ⟨U,hU⟩:∃ U,U=wr.heap.size:=⟨_,rfl⟩;have S6:Mem w _ [.loc U (tcCs t Ai ci Af cf) 58,.loc Jb #[.map (some X3)] 133,.mapG keyId X3 L3,.own rInt B 3 (.slice (some ⟨g,0,none⟩) j j) (iL q0),.mapG keyId X4 (L.map labV)]:=(S5.newAt (tcCs t Ai ci Af cf) 58 U hU).front;rw [← hU];clear hU S5;generalize wr.alloc (.cells (tcCs t Ai ci Af cf) 58)=w6 at *;have y0:=(S6.lv 0 rfl).all;go_wp2_with fail
         clear y0;go_loopw [8,103] (fun s8 i wr=>∃ (m:Nat) (q:List Nat) (ch:Bool),m≤t.ids.length∧s8=.bool ch∧i=.int .i64 m∧Hid (Falls r ts p L k m q ch)∧Mem w wr [.loc U (tcCs t Ai ci Af cf) 58,.loc Jb #[.map (some X3)] 133,.mapG keyId X3 L3,.own rInt B 3 (.slice (some ⟨g,0,none⟩) j j) (iL q),.mapG keyId X4 (L.map labV)]) (fun _ i _=>t.ids.length - (intOf i).toNat)
         case atStart=>exact ⟨0,q0,ch0,Nat.zero_le _,rfl,rfl,HF.out,S6⟩
         case round =>
          clear S6 HF;obtain ⟨m,q,ch,hm,rfl,rfl,HF,S6⟩:=hrel;by_cases hlt2:m < t.ids.length
          ·obtain ⟨x,hx⟩:∃ x,t.ids[m]? =some x:=⟨_,List.getElem?_eq_getElem hlt2⟩;obtain ⟨ib,io,rfl,hib,c0,c1⟩:=(HI.out wr S6.b).idv m x hx;have Hxx:Hid ((idsAt ts k)[m]? =some x):=by show _=_;rw [Hid2.out];exact hx
           clear hx;go_upto_region 29 with fail
           clear c0 c1;obtain ⟨Z,hZ⟩:∃ Z,Z=wr.heap.size:=⟨_,rfl⟩;have S7:Mem w _ [.loc Z #[.int .i64 x.k,.string x.t] 46,.loc U (tcCs t (some ⟨ib,io,none⟩) ci Af cf) 58,.loc Jb #[.map (some X3)] 133,.mapG keyId X3 L3,.own rInt B 3 (.slice (some ⟨g,0,none⟩) j j) (iL q),.mapG keyId X4 (L.map labV)]:=(S6.newAt #[.int .i64 x.k,.string x.t] 46 Z hZ).front;rw [← hZ];clear hZ S6;generalize wr.alloc (.cells #[.int .i64 x.k,.string x.t] 46)=w7 at *;have y0:=(S7.lv 0 rfl).all;have hlq:j=q.length:=by rw [HF.out.st.len,Hn.out]
           obtain ⟨a,ha⟩:∃ a,q[k]? =some a:=⟨_,List.getElem?_eq_getElem (by omega)⟩;have hlnq:j=(iL q).length:=by rw [iL_len];exact hlq
           obtain ⟨cq,fq⟩:=(S7.ow 4 rfl).intAt hlnq k a (iL_at ha);have Ha:=Lib.hid ha;have Hlnq:=Lib.hid hlnq;have hlk4:=look_g (K:=keyId) (T:=135) (E:=3) (S7.ok (.mapG keyId X4 (L.map labV)) (List.mem_of_getElem? (i:=5) rfl)) (by kernel_rfl) (zeroIntE w7) x true;rw [if_pos rfl,labV_get] at hlk4;replace hlk4:(Instr.lookup 135 (.map (some X4)) (.agg #[.int .i64 x.k,.string x.t]) true).run Tryz.prog w7=_:=hlk4;clear ha hlq hlnq;cases hgx:getG x L with
           | none =>
            rw [hgx] at hlk4;simp only [Option.map_none,Option.getD_none,Option.isSome_none] at hlk4;have HSK:Hid (Falls r ts p L k (m + 1) q ch):=HF.out.skip Hxx.out Ha.out (fun v e=>by rw [hgx] at e;cases e);clear hgx;go_wp2_with fail
            go_roundw
            case rel=>exact ⟨m + 1,q,ch,by omega,rfl,by go_num,HSK.out,(S7.del 0)⟩
            case measure=>simp [intOf];omega
           | some v =>
            rw [hgx] at hlk4;simp only [Option.map_some,Option.getD_some,Option.isSome_some] at hlk4;by_cases hva:v < a
            ·have HPUT:Hid (Falls r ts p L k (m + 1) (q.set k v) true):=HF.out.put (by rw [Hn.out];exact Hst.out) HLe.out Hxx.out Ha.out hgx hva;have hd1:decide ((v:Int) < (a:Int))=true:=decide_eq_true (by omega);have S8:Mem w (w7.setCell ⟨g,k,none⟩ (.int .i64 (v:Nat))) [.loc Z #[.int .i64 x.k,.string x.t] 46,.loc U (tcCs t (some ⟨ib,io,none⟩) ci Af cf) 58,.loc Jb #[.map (some X3)] 133,.mapG keyId X3 L3,.own rInt B 3 (.slice (some ⟨g,0,none⟩) j j) (iL (q.set k v)),.mapG keyId X4 (L.map labV)]:=by
              rw [iL_set];exact S7.putI 4 rfl Hlnq.out k a v (iL_at Ha.out)
             have HS8:=Lib.hid S8;clear hgx S7 S8;go_wp2_with fail
             go_roundw
             case rel=>exact ⟨m + 1,q.set k v,true,by omega,rfl,by go_num,HPUT.out,(HS8.out.del 0)⟩
             case measure=>simp [intOf];omega
            ·have HSK:Hid (Falls r ts p L k (m + 1) q ch):=HF.out.skip Hxx.out Ha.out (fun v' e=>by rw [hgx] at e;obtain rfl:=Option.some.inj e;omega);have hd1:decide ((v:Int) < (a:Int))=false:=decide_eq_false (by omega);clear hgx;go_wp2_with fail
             go_roundw
             case rel=>exact ⟨m + 1,q,ch,by omega,rfl,by go_num,HSK.out,(S7.del 0)⟩
             case measure=>simp [intOf];omega
          ·obtain rfl:m=t.ids.length:=by omega
           have HF2:Hid (Falls r ts p L (k + 1) 0 q ch):=Falls.next (by rw [Hid2.out];exact HF.out);go_wp2_with fail
           go_roundw
           case rel=>exact ⟨k + 1,q,ch,by omega,rfl,by go_num,HF2.out,S6.del 0⟩
           case measure=>simp [intOf];omega
        ·obtain rfl:k=j:=by omega
         have HS6:Hid (Mem w wr [.loc Jb #[.map (some X3)] 133,.mapG keyId X3 L3,.own rInt B 3 (.slice (some ⟨g,0,none⟩) k k) (iL q0)]):=S5.del 3;have hff:Falls r ts p L ts.length 0 q0 ch0:=by rw [Hn.out];exact HF.out
         have hLf:LeastOk r ts p ts.length 0 L:=by rw [Hn.out];exact HLe.out
         have HST:Hid (Stand k (Edge r ts) q0):=by show Stand _ _ _;rw [← Hn.out];exact hff.st
         have Hsum2:Hid (sumBlk wr g k=q0.sum):=sumBlk_is (HS6.out.ow 2 rfl) (by rw [HST.out.len]);have HPT:Hid (ch0=false→IsPart k (Edge r ts) (labOf q0)):=fun e=>by
          subst e;obtain ⟨e1,e2⟩:=hff.part hLf;rw [e1,← Hn.out];exact e2
         have Hlt:Hid (2 * q0.sum + flagOf (.bool ch0) < 2 * p.sum + flagOf (.bool true)):=by
          show _ < _;cases ch0 with
          | false =>
           rw [(hff.no rfl).1];show 2 * p.sum + 0 < 2 * p.sum + 1;omega
          | true =>
           have:=hff.yes rfl
           show 2 * q0.sum + 1 < 2 * p.sum + 1;omega
         clear S5 HF hff hLf;go_wp2_with fail
         go_roundw
         case rel=>exact ⟨q0,ch0,rfl,HST.out,HPT.out,HS6.out⟩
         case measure =>
          rw [Hsum.out,Hsum2.out];exact Hlt.out
theorem refPersonsN_any (N:Nat→Prop)(r:Rul)(K W S A:Option Addr)(ck cw cs c:Nat)(ts:List Tch)(w:World)(hR:RulIn N w r K W S)(hT:Sl rTch N w A ts)(ho:RtOn r ts) :
  Calls Tryz.prog 21 #[.agg (ruCs r K ck W cw S cs),.slice A ts.length c] w (GivesPsnR r ts w):=by
 refine (refPersonsON_any N r K W S A ck cw cs c ts w hR hT ho).mono ?_;rintro e w' ⟨A2,c2,qs,rfl,hp,T⟩;obtain ⟨A9,c9,e9,T2⟩:=T.frz 0 rfl;simp only [Value.slice.injEq,true_and] at e9;obtain ⟨rfl,rfl⟩:=e9;exact ⟨A2,c2,qs.map PsQ.p,by rw [List.length_map],hp,(T2.psns 0 1 rfl rfl).del 1⟩
theorem refPersons_any (N:Nat→Prop)(r:Rul)(K W S A:Option Addr)(ck cw cs c:Nat)(ts:List Tch)(w:World)(hR:RulIn N w r K W S)(hT:Sl rTch N w A ts)(ho:RtOk r ts) :
  Calls Tryz.prog 21 #[.agg (ruCs r K ck W cw S cs),.slice A ts.length c] w (GivesPsnR r ts w):=refPersonsN_any N r K W S A ck cw cs c ts w hR hT ho.on
end
end Go.Proofs.YtmkkppknaikjjaaGreatDoor
