/- Several texts in one: KeyOf, Memb, MembLaw, CompG, CompI, Tree, Members. -/
import Derived.Test.YtmkkppknaikjjaaGreatDoorPackT
/- What (*group).keyOf returns: the first id of a touch that joins, else its first id. -/
set_option maxHeartbeats 8000000
set_option maxRecDepth 100000
open Go.Lib renaming hid→Z9
open List renaming getElem?_eq_getElem→Z8, mem_of_getElem?→Z7, length_append→Z4, getElem?_set_self→ZY, length_map→ZW, length_cons→ZV, length_set→ZU, getElem?_map→ZT, length_take→ZR, map_append→ZP, append_assoc→ZM, append_nil→ZH, getElem?_append_right→ZF, set_set→ZB, length_singleton→ZA, getElem?_append_left→Zy, getElem?_set→Zv, ext_getElem?→Zu, take_length→Zp, map_set→Zg, length→Zf, set_cons_succ→Y6, flatMap_cons→Y5, nil_append→Y4, set_append_right→YZ, range→YW, mem_cons→YU, take_append_drop→YK, filter_append→YJ, not_mem_nil→YI, set_cons_zero→YH, drop_drop→YG, mem_singleton→YB
open Go.RowKit.Below renaming refl→ZX
open Bool renaming and_eq_true→ZQ, or_eq_true→Ze, eq_iff_iff→Y7
open Nat renaming zero_le→ZN, zero_add→Zh
open Option renaming map_some→Zx
open Prod renaming fst→Zw
open Array renaming replicate→Y3, setIfInBounds_comm→YA
namespace Go.Proofs.YtmkkppknaikjjaaGreatDoor
section
open Go Go.RowKit
theorem ajr {α:Type}{p:α→Bool}{l:List α}{k:Nat}{x:α}(h:(l.take k).find? p=none)(hx:l[k]? =some x):(l.take (k + 1)).find? p=if p x=true then some x else none:=by
 rw [take_snoc hx,List.find?_append,h];simp only [Option.none_or,List.find?_cons,List.find?_nil];cases p x <;> rfl
theorem ajs {α:Type}{p:α→Bool}{l:List α}{k:Nat}{x:α}(h:(l.take k).find? p=some x):l.find? p=some x:=by
 have e:l=l.take k++l.drop k:=(YK k l).symm;rw [e,List.find?_append,h];rfl
theorem abV {w:World}{X:Nat}{a b:Value}(h:LV w X #[a,b] 46):(loadVar 46 ⟨X,0,none⟩).run Tryz.prog w=.ok (.agg #[a,b]) w:=by
 have c0:=h.all;go_simp
theorem ajt (N:Nat→Prop)(G X:Nat)(r:aP)(K W S A:Option Addr)(ck cw cs c:Nat)(ts:List ak)(qs:List HQ)(t:ak)(Ai Af:Option Addr)(ci cf:Nat)(w:World)(hG:vM N w G X r K W S A ck cw cs c ts qs)(ho:lM r ts)(hI:Sl aO N w Ai t.ids)(hil:t.ids.length≤1000000)(hne:t.ids≠[]) :
  Calls Tryz.prog 115 #[.pointer (some ⟨G,0,none⟩),.agg (aS t Ai ci Af cf)] w fun e w'=>e=.returned (.agg #[.int .i64 (uj r ts t).k,.string (uj r ts t).t])∧Below w.heap.size w w':=by
 have HG:=Z9 (fun w' (h:Below w.heap.size w w')=>hG.aK h);have HI:=Z9 (fun w' (h:Below w.heap.size w w')=>hI.aK h);have Ho:=Z9 ho;have hlen:0 < t.ids.length:=List.length_pos_iff.2 hne;obtain ⟨R,HR⟩:∃ R,Hid (uj r ts t=R):=⟨_,Z9 rfl⟩;rw [HR.out];clear hG hI ho hne;go_enter Tryz.func115,Tryz.ntmps115
 go_upto_region 1 with fail
 obtain ⟨T,hT⟩:∃ T,T=w.heap.size:=⟨_,rfl⟩;obtain ⟨Z,hZ⟩:∃ Z,Z=w.heap.size + 1:=⟨_,rfl⟩;have S:Mem w _ [.loc T (aS t Ai ci Af cf) 58,.loc Z #[.int .i64 0,.string ⟨#[]⟩] 46]:=((Mem.start w).newAt (aS t Ai ci Af cf) 58 T hT).newAt #[.int .i64 0,.string ⟨#[]⟩] 46 Z (by rw [uU];exact hZ);rw [← hZ,← hT];clear hZ hT;generalize World.alloc _ _=w1 at S ⊢;have c0:=(S.lv 0 rfl).all;go_wp2_with fail
 clear c0;go_loopw [10] (fun i wr=>∃ k:Nat,k≤t.ids.length∧i=.int .i64 k∧Hid ((t.ids.take k).find? (mD r ts)=none)∧Mem w wr [.loc T (aS t Ai ci Af cf) 58,.loc Z #[.int .i64 0,.string ⟨#[]⟩] 46]) (fun i _=>t.ids.length - (intOf i).toNat)
 case atStart=>exact ⟨0,ZN _,rfl,rfl,S⟩
 case round =>
  clear S;obtain ⟨k,hk,rfl,HF,S⟩:=hrel;by_cases hlt:k < t.ids.length
  ·obtain ⟨x,hx⟩:∃ x,t.ids[k]? =some x:=⟨_,Z8 hlt⟩;obtain ⟨ib,io,rfl,hib,c0,c1⟩:=(HI.out wr S.b).qx k x hx;have HF2:=Z9 (ajr HF.out hx);clear hx HF;go_upto_region 4 with fail
   clear c0 c1;obtain ⟨Y,hY⟩:∃ Y,Y=wr.heap.size:=⟨_,rfl⟩;have S1:Mem w _ [.loc T (aS t (some ⟨ib,io,none⟩) ci Af cf) 58,.loc Z #[.int .i64 0,.string ⟨#[]⟩] 46,.loc Y #[.int .i64 x.k,.string x.t] 46]:=S.newAt #[.int .i64 x.k,.string x.t] 46 Y hY;rw [← hY];clear hY S;generalize wr.alloc (.cells #[.int .i64 x.k,.string x.t] 46)=w2 at *;have y0:=(S1.lv 2 rfl).all;obtain ⟨J,HJ⟩:∃ J,Hid (mD r ts x=J):=⟨_,Z9 rfl⟩;have Hj:=Z9 (abR N G X r K W S A ck cw cs c ts qs x w2 (HG.out w2 S1.b) Ho.out);rw [HJ.out] at Hj;go_wp2_with fail
   refine (Hj.out).mono ?_;rintro e w3 ⟨rfl,hl3⟩;have S3:=S1.below hl3;clear Hj hl3 S1 y0;rw [HJ.out] at HF2;cases J
   ·go_wp2_with fail
    go_roundw
    case rel=>exact ⟨k + 1,by omega,by go_num,HF2.out,S3.del 2⟩
    case measure=>simp [intOf];omega
   ·have y0:=(S3.lv 2 rfl).all;have z0:=(S3.lv 1 rfl).all;have S4:=(S3.set 1 0 (.int .i64 x.k) rfl).set 1 1 (.string x.t) rfl;have uD:=Z9 S4;have hR:R=x:=by
     rw [← HR.out];unfold uj;rw [ajs HF2.out];rfl
    subst hR;clear S3 S4;go_wp2_with fail
    exact bodyPost_ret (fK rfl rfl (abV (uD.out.lv 1 rfl))) rfl ⟨rfl,uD.out.b⟩
  ·obtain rfl:k=t.ids.length:=by omega
   rw [Zp] at HF;obtain ⟨x,hx⟩:∃ x,t.ids[0]? =some x:=⟨_,Z8 hlen⟩;obtain ⟨ib,io,rfl,hib,c0,c1⟩:=(HI.out wr S.b).qx 0 x hx;rw [Nat.zero_mul,Nat.add_zero] at c0;rw [Nat.zero_mul,Nat.add_zero] at c1;have y0:=(S.lv 0 rfl).all;have z0:=(S.lv 1 rfl).all;have S4:=(S.set 1 0 (.int .i64 x.k) rfl).set 1 1 (.string x.t) rfl;have uD:=Z9 S4;have hR:R=x:=by
    rw [← HR.out];unfold uj;rw [HF.out];cases h:t.ids with
    | nil=>rw [h] at hx;cases hx
    | cons y l=>rw [h] at hx;simpa using hx
   subst hR;clear S S4 hx;go_wp2_with fail
   exact bodyPost_ret (fK rfl rfl (abV (uD.out.lv 1 rfl))) rfl ⟨rfl,uD.out.b⟩
end
section
open Go Go.RowKit
section
variable {α β:Type}
theorem abW {f:α→List β}(h3:∀ q,(f q).length=3):∀ (qs:List α) (k j:Nat) (q:α) (c:β),qs[k]? =some q→(f q)[j]? =some c→(qs.flatMap f)[3 * k + j]? =some c
 | [],_,_,_,_,h,_=>by simp at h
 | a::r,0,j,q,c,h,hj=>by
  obtain rfl:a=q:=by simpa using h
  rw [Y5,Nat.mul_zero,Zh,Zy (bM hj)];exact hj
 | a::r,k + 1,j,q,c,h,hj=>by
  rw [Y5,ZF (by rw [h3];omega),h3,show 3 * (k + 1) + j - 3=3 * k + j by omega];exact abW h3 r k j q c (by simpa using h) hj
theorem abX {f:α→List β}(h3:∀ q,(f q).length=3):∀ (qs:List α) (k j:Nat) (q':α) (c:β),j < 3→(∀ q,qs[k]? =some q→(f q).set j c=f q')→(qs.flatMap f).set (3 * k + j) c=(qs.set k q').flatMap f
 | [],_,_,_,_,_,_=>by simp
 | a::r,0,j,q',c,hj,h=>by
  rw [Y5,Nat.mul_zero,Zh,List.set_append_left _ _ (by rw [h3];exact hj),h a rfl,YH,Y5]
 | a::r,k + 1,j,q',c,hj,h=>by
  rw [Y5,YZ _ _ (by rw [h3];omega),h3,show 3 * (k + 1) + j - 3=3 * k + j by omega,abX h3 r k j q' c hj (fun q hq=>h q (by simpa using hq)),Y6,Y5]
end
structure MQ where
 key:ah
 A:Option Addr
 a:Nat
 aC:List Int
 B:Option Addr
 b:Nat
 ids:List ah
 C:Option Addr
 c:Nat
 at':List Nat
def MQ.cells (q:MQ):List Value:=[.int .i64 q.key.k,.string q.key.t,.slice q.A q.aC.length q.a,.slice q.B q.ids.length q.b,.slice q.C q.at'.length q.c]
def ig:Rep MQ:=.flat 5 MQ.cells (fun _=>rfl)
theorem ru:ig.Flat MQ.cells:=fun _ _ _ _=>Iff.rfl
theorem aju:kF 103 107 ig.size 96 (.agg #[.int .i64 0,.string ⟨#[]⟩,.slice none 0 0,.slice none 0 0,.slice none 0 0]):=⟨Tryz.underlying103,by kernel_rfl,rfl,by decide⟩
theorem ajv (q:MQ):∀ u∈q.cells,u.oneCell'=true:=fun u hu=>by
 simp only [MQ.cells,YU,YI,or_false] at hu;rcases hu with rfl | rfl | rfl | rfl | rfl <;> rfl
def Ew (W:Nat)(q:MQ):List Chunk:=[.own ay W 3 (.slice q.A q.aC.length q.a) q.aC,.own aO W 46 (.slice q.B q.ids.length q.b) q.ids,.own ay W 3 (.slice q.C q.at'.length q.c) (iL q.at')]
theorem abY (W:Nat)(q:MQ):(Ew W q).length=3:=rfl
def iG (W:Nat)(qs:List MQ):List Chunk:=qs.flatMap (Ew W)
abbrev MQ.fresh (x:ah):MQ:=⟨x,none,0,[],none,0,[],none,0,[]⟩
theorem Mem.ajw {w0 w:World}{cs:List Chunk}{W:Nat}{qs:List MQ}(S:Mem w0 w (cs++iG W qs))(x:ah):Mem w0 w (cs++iG W (qs++[MQ.fresh x])):=by
 have S1:=((S.nil ay W 3).nil aO W 46).nil ay W 3;have e:cs++iG W (qs++[MQ.fresh x])=cs++iG W qs++[.own ay W 3 (.slice none 0 0) []]++[.own aO W 46 (.slice none 0 0) []]++[.own ay W 3 (.slice none 0 0) []]:=by
  unfold iG;rw [List.flatMap_append];simp [Ew,iL]
 rw [e];exact S1
theorem qG (W:Nat){qs:List MQ}{k j:Nat}{q:MQ}{c:Chunk}(h:qs[k]? =some q)(hj:(Ew W q)[j]? =some c):(iG W qs)[3 * k + j]? =some c:=abW (abY W) qs k j q c h hj
theorem Bz (W:Nat){qs:List MQ}{k j:Nat}{q q':MQ}{c:Chunk}(hj:j < 3)(h:qs[k]? =some q)(he:(Ew W q).set j c=Ew W q'):(iG W qs).set (3 * k + j) c=iG W (qs.set k q') :=
 abX (abY W) qs k j q' c hj (fun p hp=>by rw [h] at hp;obtain rfl:=Option.some.inj hp;exact he)
def X0 (M:Nat→Prop)(w:World)(qs:List MQ):Prop:=∀ q∈qs,Sl ay M w q.A q.aC∧Sl aO M w q.B q.ids∧Sl ay M w q.C (iL q.at')
def Chunk.I9 (qs:List MQ):Chunk :=
 ⟨none,fun M w=>X0 M w qs,fun k hd _ h q hq=>⟨(h q hq).1.keep (k.mono hd),(h q hq).2.1.keep (k.mono hd),(h q hq).2.2.keep (k.mono hd)⟩,
  fun hm h q hq=>⟨(h q hq).1.mono (fun k hk e=>(hm k hk e).resolve_right (by simp)),(h q hq).2.1.mono (fun k hk e=>(hm k hk e).resolve_right (by simp)),(h q hq).2.2.mono (fun k hk e=>(hm k hk e).resolve_right (by simp))⟩,fun _ _ e=>by cases e⟩
theorem Mem.Uy {α:Type}{r:Rep α}{f:α→List Value}(hf:r.Flat f){w0 w:World}{cs ds:List Chunk}{B E:Nat}{A:Option Addr}{n c:Nat}{xs:List α}(S:Mem w0 w (cs++ds))(h:Chunk.own r B E (.slice A n c) xs∈ds):Sl r (bT w0.heap.size cs) w A xs:=by
 have hmem:Chunk.own r B E (.slice A n c) xs∈cs++ds:=List.mem_append_right _ h;have ho:Own r (bT w0.heap.size (cs++ds)) B E w (.slice A n c) xs:=S.ok _ hmem;have hs:=ho.xR hf;intro i x hx;obtain ⟨blk,off,l,e1,h1,_,h3,h4⟩:=hs i x hx;have h3':r.rel (bT w0.heap.size cs) w x l:=(hf _ _ _ _).2 ((hf _ _ _ _).1 h3);refine ⟨blk,off,l,e1,h1,fun hm=>?_,h3',h4⟩;have hb:(Chunk.own r B E (.slice A n c) xs).blk=some blk:=by
  show (Value.slice A n c).ownBlock=some blk;rw [e1];rfl
 have hnew:=S.new _ hmem blk hb;rcases hm with hm | ⟨d,hd,e⟩
 ·omega
 ·exact (List.pairwise_append.1 S.sep).2.2 d hd _ h blk e hb
theorem Mem.ajx {w0 w:World}{cs:List Chunk}{W:Nat}{qs:List MQ}(S:Mem w0 w (cs++iG W qs)):Mem w0 w (cs++[.I9 qs]):=by
 refine S.Bj (.I9 qs) rfl (fun q hq=>?_);have hm:∀ c∈Ew W q,c∈iG W qs:=fun c hc=>List.mem_flatMap.2 ⟨q,hq,hc⟩;exact ⟨S.Uy lY (hm _ (.head _)),S.Uy jg (hm _ (.tail _ (.head _))),S.Uy lY (hm _ (.tail _ (.tail _ (.head _))))⟩
theorem Own.ny {M:Nat→Prop}{B E g n cap:Nat}{w:World}{xs:List MQ}(h:Own ig M B E w (.slice (some ⟨g,0,none⟩) n cap) xs)(hn:n=xs.length)(k:Nat)(x:MQ)(hk:xs[k]? =some x) :
  (w.cell? ⟨g,k * 5,none⟩=some (.int .i64 x.key.k)∧w.cell? ⟨g,k * 5 + 1,none⟩=some (.string x.key.t)∧w.cell? ⟨g,k * 5 + 2,none⟩=some (.slice x.A x.aC.length x.a)∧w.cell? ⟨g,k * 5 + 3,none⟩=some (.slice x.B x.ids.length x.b)∧w.cell? ⟨g,k * 5 + 4,none⟩=some (.slice x.C x.at'.length x.c)) ∧
  ∀ j,j < 5→w.frozen? ⟨g,k * 5 + j,none⟩=false :=
 ⟨⟨(h.cellP ru hn k x hk 0 _ rfl).1,(h.cellP ru hn k x hk 1 _ rfl).1,(h.cellP ru hn k x hk 2 _ rfl).1,(h.cellP ru hn k x hk 3 _ rfl).1,(h.cellP ru hn k x hk 4 _ rfl).1⟩,fun j hj=>by
  obtain ⟨u,hu⟩:∃ u,(MQ.cells x)[j]? =some u:=⟨_,Z8 hj⟩;exact (h.cellP ru hn k x hk j u hu).2⟩
theorem Sl.mq {N:Nat→Prop}{w:World}{A:Option Addr}{xs:List MQ}(h:Sl ig N w A xs)(k:Nat)(x:MQ)(hk:xs[k]? =some x):∃ blk off,A=some ⟨blk,off,none⟩∧blk < w.heap.size ∧
  w.cell? ⟨blk,off + k * 5,none⟩=some (.int .i64 x.key.k)∧w.cell? ⟨blk,off + k * 5 + 1,none⟩=some (.string x.key.t)∧w.cell? ⟨blk,off + k * 5 + 2,none⟩=some (.slice x.A x.aC.length x.a)∧w.cell? ⟨blk,off + k * 5 + 3,none⟩=some (.slice x.B x.ids.length x.b)∧w.cell? ⟨blk,off + k * 5 + 4,none⟩=some (.slice x.C x.at'.length x.c):=by
 obtain ⟨blk,off,l,e1,h1,_,h3,h4⟩:=h k x hk;obtain rfl:l=MQ.cells x:=h3;exact ⟨blk,off,e1,h1,h4 0 _ rfl,h4 1 _ rfl,h4 2 _ rfl,h4 3 _ rfl,h4 4 _ rfl⟩
end
section
open Go Go.RowKit
theorem Uz {c:Nat→Nat}{k:Nat}(h:c k=k):heads c (k + 1)=heads c k++[k]:=by
 unfold heads;rw [List.range_succ,YJ];simp [h]
theorem UA {c:Nat→Nat}{k:Nat}(h:c k≠k):heads c (k + 1)=heads c k:=by
 unfold heads;rw [List.range_succ,YJ];simp [h]
theorem UC (c:Nat→Nat)(k h:Nat):partAt c (k + 1) h=partAt c k h++(if c k=h then [k] else []):=by
 unfold partAt;rw [List.range_succ,YJ];by_cases e:c k=h <;> simp [e]
theorem OO {c:Nat→Nat}{k h:Nat}:h∈heads c k ↔ h < k∧c h=h:=by simp [heads]
theorem abZ (c:Nat→Nat)(k:Nat):(heads c k).Nodup:=List.nodup_range.filter _
theorem EO (c:Nat→Nat)(k:Nat):(heads c k).length≤k:=by
 unfold heads;have:=List.length_filter_le (fun i=>c i==i) (YW k)
 rw [List.length_range] at this;exact this
theorem ajy {c:Nat→Nat}{k:Nat}(hle:∀ i,i < k→c i≤i):partAt c k k=[]:=by
 unfold partAt;rw [List.filter_eq_nil_iff];intro a ha;have h1:a < k:=by simpa using ha
 have h2:=hle a h1;simp;omega
theorem BZ (c:Nat→Nat)(k h:Nat):(partAt c k h).length≤k:=by
 unfold partAt;have:=List.length_filter_le (fun i=>c i==h) (YW k)
 rw [List.length_range] at this;exact this
def keyAt (r:aP)(l:List ak)(i:Nat):ah:=match l[i]? with | some t=>uj r l t | none=>⟨0,⟨#[]⟩⟩
theorem ajz {r:aP}{l:List ak}{i:Nat}{t:ak}(h:l[i]? =some t):keyAt r l i=uj r l t:=by unfold keyAt;rw [h]
theorem ND {l:List ak}{i:Nat}{t:ak}(h:l[i]? =some t):jQ l i=t.no:=by unfold jQ;rw [h]
def y5 (r:aP)(l:List ak)(c:Nat→Nat)(k h:Nat):ah×List Int×List ah×List Nat:=(keyAt r l h,(partAt c k h).map (jQ l),(partAt c k h).flatMap (cZ l),partAt c k h)
def lV (r:aP)(l:List ak)(c:Nat→Nat)(k:Nat):List (ah×List Int×List ah×List Nat):=(heads c k).map (y5 r l c k)
def MQ.raw (q:MQ):ah×List Int×List ah×List Nat:=(q.key,q.aC,q.ids,q.at')
def Gw (x:ah×List Int×List ah×List Nat):ah×List Int×List ah×List Nat:=(x.1,x.2.1,sV x.2.2.1,x.2.2.2)
theorem ab1 {r:aP}{l:List ak}{c:Nat→Nat}{k h:Nat}(e:c k≠h):y5 r l c (k + 1) h=y5 r l c k h:=by
 unfold y5;rw [UC,if_neg e,ZH]
theorem ab2 {r:aP}{l:List ak}{c:Nat→Nat}{k h:Nat}(e:c k=h):y5 r l c (k + 1) h=(keyAt r l h,(partAt c k h).map (jQ l)++[jQ l k],(partAt c k h).flatMap (cZ l)++cZ l k,partAt c k h++[k]):=by
 unfold y5;rw [UC,if_pos e,ZP,List.flatMap_append];simp
theorem ajA {r:aP}{l:List ak}{c:Nat→Nat}{k:Nat}{qs:List MQ}(lC:qs.map MQ.raw=lV r l c k)(hle:∀ i,i < k→c i≤i)(hk:c k=k) :
  lV r l c (k + 1)=((qs++[MQ.fresh (keyAt r l k)]).map MQ.raw).set qs.length (keyAt r l k,[]++[jQ l k],[]++cZ l k,[]++[k]):=by
 rw [ZP,YZ _ _ (by simp),ZW,Nat.sub_self,lC];unfold lV;rw [Uz hk,ZP];congr 1
 ·refine List.map_congr_left fun h hh=>ab1 ?_;have:=(OO.1 hh).1
  omega
 ·rw [List.map_singleton,ab2 hk,ajy hle];rfl
theorem ajB {r:aP}{l:List ak}{c:Nat→Nat}{k j:Nat}{qs:List MQ}{q:MQ}(lC:qs.map MQ.raw=lV r l c k)(hk:c k≠k)(hj:(heads c k)[j]? =some (c k))(hq:qs[j]? =some q) :
  lV r l c (k + 1)=(qs.map MQ.raw).set j (q.key,q.aC++[jQ l k],q.ids++cZ l k,q.at'++[k]):=by
 have e1:q.raw=y5 r l c k (c k):=by
  have:=congrArg (fun m=>m[j]?) lC
  simp only [lV,ZT,hq,hj,Zx,Option.some.injEq] at this;exact this
 rw [lC];unfold lV;rw [UA hk];apply Zu;intro i;rw [Zv,ZT,ZT];by_cases e:j=i
 ·subst e;rw [if_pos rfl,hj,if_pos (by rw [ZW];exact bM hj)];simp only [Zx,Option.some.injEq];rw [ab2 rfl];unfold MQ.raw y5 at e1;simp only [Prod.mk.injEq] at e1;obtain ⟨a1,a2,a3,a4⟩:=e1;rw [a1,a2,a3,a4]
 ·rw [if_neg e];cases hi:(heads c k)[i]? with
  | none=>rfl
  | some h =>
   simp only [Zx,Option.some.injEq];refine ab1 (fun e2=>e ?_);have hn:=List.pairwise_iff_getElem.1 (abZ c k);obtain ⟨h1,e3⟩:=List.getElem?_eq_some_iff.1 hj;obtain ⟨h2,e4⟩:=List.getElem?_eq_some_iff.1 hi;rcases Nat.lt_trichotomy j i with h | h | h
   ·exact absurd (e3.trans (e2.trans e4.symm)) (hn j i h1 h2 h)
   ·exact h
   ·exact absurd (e4.trans (e2.symm.trans e3.symm)) (hn i j h2 h1 h)
def iH (hs:List Nat):List (Int×Value):=hs.zipIdx.map fun p=>((p.1:Int),Value.int .i64 (p.2:Nat))
theorem ab3 (hs:List Nat):(iH hs).map Zw=hs.map Int.ofNat:=by
 unfold iH;rw [List.map_map];have:(Zw ∘ fun p:Nat×Nat=>((p.1:Int),Value.int .i64 (p.2:Nat)))=Int.ofNat ∘ Zw:=rfl
 rw [this,← List.map_map];congr 1
 apply Zu;intro i;rw [ZT,List.getElem?_zipIdx];cases hs[i]? <;> rfl
theorem ajC {hs:List Nat}(h:hs.Nodup):((iH hs).map Zw).Nodup:=by
 rw [ab3];exact List.Pairwise.map _ (fun a b hab e=>hab (Int.ofNat.inj e)) h
theorem ajD {hs:List Nat}(hn:hs.Nodup){j h:Nat}(hj:hs[j]? =some h):aT (h:Int) (iH hs)=some (Value.int .i64 (j:Nat)):=by
 refine (kR (ajC hn) (j:=j) ?_).1;unfold iH;rw [ZT,List.getElem?_zipIdx,hj];simp
theorem ab4 {hs:List Nat}{h:Nat}(hh:h ∉ hs):aT (h:Int) (iH hs)=none:=by
 rw [qY,ab3];intro e;obtain ⟨x,hx,e2⟩:=List.mem_map.1 e;exact hh (by rw [← Int.ofNat.inj e2];exact hx)
theorem ajE {hs:List Nat}{h:Nat}(hh:h ∉ hs):bI (h:Int) (Value.int .i64 (hs.length:Nat)) (iH hs)=iH (hs++[h]):=by
 rw [vU (qY.1 (ab4 hh))];unfold iH;rw [List.zipIdx_append,ZP];simp
theorem ajF {α:Type}(d:α→α){rows:List α}{i:Nat}{x:α}(hx:rows[i]? =some x):((rows.take i).map d++rows.drop i).set i (d x)=(rows.take (i + 1)).map d++rows.drop (i + 1):=by
 have hi:=bM hx;have hl:((rows.take i).map d).length=i:=by rw [ZW,ZR];omega
 rw [YZ _ _ (by omega),hl,Nat.sub_self,take_snoc hx,ZP,ZM];congr 1
 rw [yB hx];rfl
theorem ajG {α:Type}(d:α→α){rows:List α}{i:Nat}(hi:i < rows.length):((rows.take i).map d++rows.drop i)[i]? =rows[i]? :=by
 have hl:((rows.take i).map d).length=i:=by rw [ZW,ZR];omega
 rw [ZF (by omega),hl,Nat.sub_self,List.getElem?_drop,Nat.add_zero]
def MQ.EP (q:MQ):Psn:=⟨q.key,q.aC,q.ids⟩
def QF (r:aP)(l:List ak)(c:Nat→Nat)(qs:List MQ):Prop:=qs.map MQ.raw=(lV r l c l.length).map Gw
theorem iO.ajH {r:aP}{l:List ak}{c:Nat→Nat}(h:iO l.length (vW r l none) c):iO l.length (Edge r l) c:=by
 have e:vW r l none=Edge r l:=by
  funext i j
  unfold vW Edge Ep;simp
 rw [e] at h;exact h
end
section
open Go Go.RowKit
def BA {α:Type}(c:α→α→Int)(prev:Option α)(x:α):Bool:= !(prev.any fun p=>decide (c x p=0))
def jZ {α:Type}(c:α→α→Int)(prev:Option α):List α→List α
 | []=>[]
 | x::r=>(if BA c prev x=true then [x] else [])++jZ c (some x) r
theorem ab5 {α:Type}(c:α→α→Int):∀ (l:List α) (prev:Option α) (x:α),jZ c prev (l++[x])=jZ c prev l++(if BA c (l.getLast?.or prev) x=true then [x] else [])
 | [],prev,x=>by
  show (if BA c prev x=true then [x] else [])++[]=_;rw [ZH];rfl
 | y::r,prev,x=>by
  rw [List.cons_append,jZ,ab5 c r (some y) x,jZ,ZM];congr 3
  rw [List.getLast?_cons];cases r.getLast? <;> rfl
theorem UD {α:Type}{c:α→α→Int}{l:List α}{j:Nat}{p x:α}(hp:l[j]? =some p)(hx:l[j + 1]? =some x):jZ c none (l.take (j + 2))=jZ c none (l.take (j + 1))++(if decide (c x p=0)=true then [] else [x]):=by
 rw [take_snoc hx,ab5];congr 1
 have e:(l.take (j + 1)).getLast? =some p:=by
  rw [take_snoc hp,List.getLast?_concat]
 rw [e];have e2:BA c ((some p).or none) x= !decide (c x p=0):=rfl;rw [e2];cases decide (c x p=0) <;> rfl
theorem ab6 {α:Type}{c:α→α→Int}(ok:fC c):∀ (l:List α) (prev:Option α),l.Pairwise (fun a b=>c a b≤0)→(∀ p,prev=some p→∀ x∈l,c p x≤0)→(jZ c prev l).Pairwise (fun a b=>c a b < 0)∧(∀ p,prev=some p→∀ x∈jZ c prev l,c p x < 0)∧(∀ x∈jZ c prev l,x∈l)∧∀ x∈l,(∃ y∈jZ c prev l,c y x=0)∨∃ p,prev=some p∧c p x=0
 | [],_,_,_=>⟨List.Pairwise.nil,(fun _ _ _ h=>by cases h),(fun _ h=>by cases h),(fun _ h=>by cases h)⟩
 | x::r,prev,ho,hp=>by
  obtain ⟨h1,h2⟩:=List.pairwise_cons.1 ho;obtain ⟨g1,g2,g3,g4⟩:=ab6 ok r (some x) h2 (fun p e y hy=>by cases e;exact h1 y hy);have g2':=g2 x rfl;rw [jZ];by_cases hb:BA c prev x=true
  ·rw [if_pos hb];refine ⟨List.pairwise_cons.2 ⟨g2',g1⟩,fun p e y hy=>?_,fun y hy=>?_,fun y hy=>?_⟩
   ·subst e;have hpx:c p x < 0:=by
     have h3:=hp p rfl x (by simp);have h4:¬ c x p=0:=by simpa [BA] using hb
     have h5:c p x≠0:=fun e=>h4 (ok.zero e);omega
    rcases List.mem_cons.1 hy with rfl | hy
    ·exact hpx
    ·exact ok.lt hpx (by have:=g2' y hy;omega)
   ·rcases List.mem_cons.1 hy with rfl | hy
    ·simp
    ·simp [g3 y hy]
   ·rcases List.mem_cons.1 hy with rfl | hy
    ·exact .inl ⟨y,by simp,ok.refl y⟩
    ·rcases g4 y hy with ⟨z,hz,e⟩ | ⟨p,e1,e2⟩
     ·exact .inl ⟨z,by simp [hz],e⟩
     ·cases e1;exact .inl ⟨x,by simp,e2⟩
  ·rw [if_neg hb,Y4];obtain ⟨p,rfl,hpx⟩:∃ p,prev=some p∧c x p=0:=by
    cases prev with
    | none=>simp [BA] at hb
    | some p=>exact ⟨p,rfl,by simpa [BA] using hb⟩
   refine ⟨g1,fun p' e y hy=>?_,fun y hy=>by simp [g3 y hy],fun y hy=>?_⟩
   ·cases e;have h6:=g2' y hy;exact ok.lt' (a:=p) (b:=x) (by have:=ok.zero hpx;omega) h6
   ·rcases List.mem_cons.1 hy with rfl | hy
    ·exact .inr ⟨p,rfl,ok.zero hpx⟩
    ·rcases g4 y hy with ⟨z,hz,e⟩ | ⟨p',e1,e2⟩
     ·exact .inl ⟨z,hz,e⟩
     ·cases e1;exact .inr ⟨p,rfl,by have h7:=ok.zero hpx;have h8:=ok.trans p x y (by omega) (by omega);have h9:=ok.trans y x p (by have:=ok.zero e2;omega) (by omega);have h10:=ok.anti p y;omega⟩
structure xJ {α:Type} (c:α→α→Int) (xs ys:List α) (i j:Nat):Prop where
 len:ys.length=xs.length
 front:ys.take i=jZ c none (xs.take j)
 rest:ys.drop (j - 1)=xs.drop (j - 1)
 le:i < j
theorem xJ.get {α:Type}{c:α→α→Int}{xs ys:List α}{i j:Nat}(h:xJ c xs ys i j){k:Nat}(hk:j≤k + 1):ys[k]? =xs[k]? :=by
 have h1:=congrArg (fun l:List α=>l[k - (j - 1)]?) h.rest;simp only [List.getElem?_drop] at h1;rw [show j - 1 + (k - (j - 1))=k by omega] at h1;exact h1
theorem xJ.skip {α:Type}{c:α→α→Int}{xs ys:List α}{i j:Nat}(h:xJ c xs ys i (j + 1)){p x:α}(hp:ys[j]? =some p)(hx:ys[j + 1]? =some x)(he:decide (c x p=0)=true):xJ c xs ys i (j + 2):=by
 have e1:=h.get (k:=j) (by omega);have e2:=h.get (k:=j + 1) (by omega);refine ⟨h.len,?_,?_,by have:=h.le;omega⟩
 ·rw [UD (e1 ▸ hp) (e2 ▸ hx),if_pos he,ZH,h.front]
 ·have h1:=congrArg (List.drop 1) h.rest;rw [YG,YG] at h1;exact h1
theorem xJ.put {α:Type}{c:α→α→Int}{xs ys:List α}{i j:Nat}(h:xJ c xs ys i (j + 1)){p x:α}(hp:ys[j]? =some p)(hx:ys[j + 1]? =some x)(he:decide (c x p=0)=false):xJ c xs (ys.set i x) (i + 1) (j + 2):=by
 have e1:=h.get (k:=j) (by omega);have e2:=h.get (k:=j + 1) (by omega);have hle:=h.le;have hi:i < ys.length:=by have:=bM hx;omega
 refine ⟨by rw [ZU,h.len],?_,?_,by omega⟩
 ·rw [UD (e1 ▸ hp) (e2 ▸ hx),if_neg (by simp [he]),← h.front,List.take_set,take_snoc (x:=ys[i]) (Z8 hi)];have hl:(ys.take i).length=i:=by rw [ZR];omega
  rw [YZ _ _ (by omega),hl,Nat.sub_self];simp
 ·rw [List.drop_set_of_lt (by omega)];have h1:=congrArg (List.drop 1) h.rest;rw [YG,YG] at h1;exact h1
end
section
open Go Go.RowKit Go.Sort
def ajI (xs:List ah)(B g cap:Nat)(w0:World)(cs:List Chunk)(e:Ending)(w':World):Prop :=
 e=.returned (.slice (some ⟨g,0,none⟩) (jZ dA none xs).length cap)∧Mem w0 w' (.own aO B 46 (.slice (some ⟨g,0,none⟩) (jZ dA none xs).length cap) (jZ dA none xs)::cs)
theorem Gx {M:Nat→Prop}{B E g n cap:Nat}{w:World}{xs:List ah}(h:Own aO M B E w (.slice (some ⟨g,0,none⟩) n cap) xs)(hn:n=xs.length)(k:Nat)(x:ah)(hk:xs[k]? =some x) :
  (w.cell? ⟨g,k * 2,none⟩=some (.int .i64 x.k)∧w.cell? ⟨g,k * 2 + 1,none⟩=some (.string x.t))∧w.frozen? ⟨g,k * 2,none⟩=false∧w.frozen? ⟨g,k * 2 + 1,none⟩=false :=
 ⟨⟨(h.cellP jg hn k x hk 0 _ rfl).1,(h.cellP jg hn k x hk 1 _ rfl).1⟩,(h.cellP jg hn k x hk 0 _ rfl).2,(h.cellP jg hn k x hk 1 _ rfl).2⟩
theorem Mem.ajJ {w0 w:World}{cs:List Chunk}{B g n cap:Nat}{ys:List ah}(S:Mem w0 w (.own aO B 46 (.slice (some ⟨g,0,none⟩) n cap) ys::cs))(hn:n=ys.length)(k:Nat)(x y:ah)(hx:ys[k]? =some x) :
  Mem w0 ((w.setCell ⟨g,k * 2,none⟩ (.int .i64 y.k)).setCell ⟨g,k * 2 + 1,none⟩ (.string y.t)) (.own aO B 46 (.slice (some ⟨g,0,none⟩) n cap) (ys.set k y)::cs):=by
 have hk:=bM hx;have S1:Mem w0 (w.setCell ⟨g,k * 2,none⟩ (.int .i64 y.k)) (.own aO B 46 (.slice (some ⟨g,0,none⟩) n cap) (ys.set k ⟨y.k,x.t⟩)::cs):=S.put jg 0 rfl hn k x ⟨y.k,x.t⟩ hx 0 (by decide) (.int .i64 y.k) rfl;have S2:=S1.put jg 0 rfl (by rw [ZU];exact hn) k ⟨y.k,x.t⟩ y (by rw [ZY hk]) 1 (by decide) (.string y.t) rfl;rw [YH,ZB] at S2;exact S2
theorem ajK (w:World):(zeroValue 46).run Tryz.prog w=.ok (.agg #[.int .i64 0,.string ⟨#[]⟩]) w:=by kernel_rfl
theorem ajL:∀ j,j < aO.size→((Value.agg #[.int .i64 0,.string ⟨#[]⟩]).cells[j]!).oneCell'=true:=fun j hj=>by
 have hj:j < 2:=hj;rcases (show j=0∨j=1 by omega) with rfl | rfl <;> rfl
theorem ab7 (x p:ah):(decide (dA x p=0)=true∧(x.k==p.k)=true∧(x.t.toList==p.t.toList)=true)∨(decide (dA x p=0)=false∧((x.k==p.k)=false∨((x.k==p.k)=true∧(x.t.toList==p.t.toList)=false))):=by
 by_cases h:x=p
 ·exact .inl ⟨by rw [h];exact decide_eq_true (nS.refl p),by rw [h];simp,by rw [h];simp⟩
 ·refine .inr ⟨decide_eq_false (fun e=>h (Jr e)),?_⟩;by_cases h1:x.k=p.k
  ·refine .inr ⟨by simp [h1],?_⟩;cases e:(x.t.toList==p.t.toList) with
   | false=>rfl
   | true=>exact absurd (OI h1 e) h
  ·exact .inl (by simpa using h1)
theorem ajM {w0 w:World}{cs:List Chunk}{B g n cap:Nat}{xs:List ah}(S:Mem w0 w (.own aO B 46 (.slice (some ⟨g,0,none⟩) n cap) xs::cs))(hn:n=xs.length)(hl:n≤1000000) :
  Calls Tryz.prog 117 #[.slice (some ⟨g,0,none⟩) n cap] w (ajI xs B g cap w0 cs):=by
 have Hn:=Z9 hn;clear hn;by_cases h2:n < 2
 ·have Hx:Hid (jZ dA none xs=xs):=by
   have hl2:xs.length < 2:=by have:=Hn.out;omega
   show _=_;match xs,hl2 with
   | [],_=>rfl
   | [x],_=>rfl
  go_enter Tryz.func117,Tryz.ntmps117
  go_wp2_with fail
  go_ret;refine ⟨?_,?_⟩
  ·rw [Hx.out,← Hn.out];rfl
  ·rw [Hx.out,← Hn.out];exact S
 ·go_enter Tryz.func117,Tryz.ntmps117
  go_wp2_with fail
  go_loopw [3] (fun s3 wr=>∃ k:Nat,s3=.int .i64 (k + 1:Nat)∧k + 1≤n∧Hid (jZ dA none (xs.take (k + 1))=xs.take (k + 1))∧Mem w0 wr (.own aO B 46 (.slice (some ⟨g,0,none⟩) n cap) xs::cs)) (fun s3 _=>n - (intOf s3).toNat)
  case atStart =>
   refine ⟨0,by go_num,by omega,?_,S⟩;show _=_;have hl2:1≤xs.length:=by have:=Hn.out;omega
   match xs,hl2 with
   | x::r,_=>rfl
  case round =>
   clear S;obtain ⟨k,rfl,hk,HP,S⟩:=hrel;by_cases hlt:k + 1 < n
   ·obtain ⟨x,hx⟩:∃ x,xs[k + 1]? =some x:=⟨_,Z8 (by have:=Hn.out;omega)⟩;obtain ⟨p,hp⟩:∃ p,xs[k]? =some p:=⟨_,Z8 (by have:=Hn.out;omega)⟩;have Hx:=Z9 hx;have Hp:=Z9 hp;have HS:=Z9 S;obtain ⟨⟨d0,d1⟩,_⟩:=Gx (S.ow 0 rfl) Hn.out (k + 1) x hx;obtain ⟨⟨e0,e1⟩,_⟩:=Gx (S.ow 0 rfl) Hn.out k p hp;have Ht:=Z9 (UD (c:=dA) hp hx);clear hx hp S;rcases ab7 x p with ⟨he,hk0,hk1⟩ | ⟨he,hne⟩
    ·have HD:Hid (xJ dA xs xs (k + 1) (k + 2)):=by
      refine ⟨rfl,?_,rfl,by omega⟩;rw [Ht.out,HP.out,he,if_pos rfl,ZH]
     have hcap:n≤cap:=by
      obtain ⟨g2,cap2,e2,h3⟩:=(HS.out.ow 0 rfl).form (by have:=Hn.out;omega);have:=Hn.out
      simp only [Value.slice.injEq] at e2;omega
     clear he HP Ht;go_upto_region 6 with fail
     go_quiet (fail)
     replace HS:=Z9 (HS.out.below (below_drewN _ wr nq));generalize wr.drewN nq=wa at *;clear d0 d1 e0 e1 hk0 hk1;go_upto_region 9 with fail
     obtain ⟨q,hq⟩:∃ q,k + 1=q:=⟨_,rfl⟩;have hq2:(k:Int) + 1=(q:Int):=by omega
     rw [hq2,hq];rw [hq,show k + 2=q + 1 by omega] at HD;have wR:q < n:=by omega
     clear hq hq2 hk hlt h2 Hx Hp;go_loopw [3,5] (fun s3 s5 wr=>∃ (i m:Nat) (ys:List ah),s3=.int .i64 i∧s5=.int .i64 (m + 1:Nat)∧q + m + 1≤n∧Hid (xJ dA xs ys i (q + m + 1))∧Mem w0 wr (.own aO B 46 (.slice (some ⟨g,0,none⟩) n cap) ys::cs)) (fun _ s5 _=>n - (intOf s5).toNat)
     case atStart=>exact ⟨q,0,xs,rfl,by go_num,by omega,HD,HS.out⟩
     case round =>
      clear HS HD;obtain ⟨i,m,ys,rfl,rfl,hm,HD,S⟩:=hrel;have hyl:Hid (n=ys.length):=by show _=_;have:=Hn.out;have:=HD.out.len;omega
      have hle:=HD.out.le;by_cases hlt:m + 1 < n - q
      ·obtain ⟨x,hx⟩:∃ x,ys[q + m + 1]? =some x:=⟨_,Z8 (by have:=hyl.out;omega)⟩;obtain ⟨p,hp⟩:∃ p,ys[q + m]? =some p:=⟨_,Z8 (by have:=hyl.out;omega)⟩;have Hx:=Z9 hx;have Hp:=Z9 hp;obtain ⟨⟨d0,d1⟩,_⟩:=Gx (S.ow 0 rfl) hyl.out (q + m + 1) x hx;obtain ⟨⟨e0,e1⟩,_⟩:=Gx (S.ow 0 rfl) hyl.out (q + m) p hp;rw [show (q + m + 1) * 2=q * 2 + (m + 1) * 2 by omega] at d0 d1;rw [show (q + m) * 2=q * 2 + m * 2 by omega] at e0 e1;have HS:=Z9 S;clear hx hp S;rcases ab7 x p with ⟨he,hk0,hk1⟩ | ⟨he,hne⟩
       ·have HD2:=Z9 (HD.out.skip Hp.out Hx.out he);clear he HD;go_wp2_with fail
        go_quiet (fail)
        go_wp2_with fail
        go_roundw
        case rel=>exact ⟨i,m + 1,ys,rfl,by go_num,by omega,HD2,HS.out.below (below_drewN _ _ _)⟩
        case measure=>simp [intOf];omega
       ·have HD2:=Z9 (HD.out.put Hp.out Hx.out he);clear he HD;obtain ⟨z,hz⟩:∃ z,ys[i]? =some z:=⟨_,Z8 (by have:=hyl.out;omega)⟩;have Hz:=Z9 hz;clear hz;rcases hne with h0 | ⟨h0,h1⟩
        all_goals
         go_upto_region 11 with fail
         go_quiet (fail)
         replace HS:=Z9 (HS.out.below (below_drewN _ wr nq));generalize wr.drewN nq=wa at *;clear d0 d1 e0 e1;obtain ⟨⟨e0,e1⟩,f0,f1⟩:=Gx (HS.out.ow 0 rfl) hyl.out i z Hz.out;obtain ⟨⟨d0,d1⟩,_⟩:=Gx (HS.out.ow 0 rfl) hyl.out (q + m + 1) x Hx.out;rw [show (q + m + 1) * 2=q * 2 + (m + 1) * 2 by omega] at d0 d1;have CO:=Z9 (HS.out.ajJ hyl.out i z x Hz.out);clear HS Hx Hp Hz;go_wp2_with fail
         go_roundw
         case rel=>exact ⟨i + 1,m + 1,ys.set i x,by go_num,by go_num,by omega,HD2,CO.out⟩
         case measure=>simp [intOf];omega
      ·have HT:Hid (ys.take i=jZ dA none xs):=by
        show _=_;rw [HD.out.front,List.take_of_length_le (by have:=Hn.out;omega)]
       have Sz:Hid (i=(jZ dA none xs).length):=by show _=_;rw [← HT.out,ZR];have:=hyl.out;omega
       clear HD;go_wp2_with (refine S.aay 0 rfl hyl.out Bg ajK ajL i (cap - i) (by omega) rfl _ rfl (i * 2) (n - i) rfl rfl rfl ?_;intro w5 S5)
       go_ret;refine ⟨?_,?_⟩
       ·rw [← Sz.out];rfl
       ·rw [HT.out] at S5;rw [← Sz.out];exact S5
    ·have HP2:Hid (jZ dA none (xs.take (k + 1 + 1))=xs.take (k + 1 + 1)):=by
      show _=_;rw [Ht.out,HP.out,he,if_neg (by simp),← take_snoc Hx.out]
     clear he HP Ht Hx Hp;rcases hne with h0 | ⟨h0,h1⟩
     all_goals
      go_wp2_with fail
      go_quiet (fail)
      go_wp2_with fail
      go_roundw
      case rel=>exact ⟨k + 1,by go_num,by omega,HP2,HS.out.below (below_drewN _ _ _)⟩
      case measure=>simp [intOf];omega
   ·have Hx:Hid (jZ dA none xs=xs):=by
     have h3:=HP.out;rw [List.take_of_length_le (by have:=Hn.out;omega)] at h3;exact h3
    go_wp2_with fail
    go_ret;refine ⟨?_,?_⟩
    ·rw [Hx.out,← Hn.out];rfl
    ·rw [Hx.out,← Hn.out];exact S
theorem ajN {w0 w:World}{cs:List Chunk}{B:Nat}{v:Value}{xs:List ah}(S:Mem w0 w (.own aO B 46 v xs::cs))(hl:xs.length≤1000000) :
  Calls Tryz.prog 117 #[v] w fun e w'=>∃ v',e=.returned v'∧Mem w0 w' (.own aO B 46 v' (jZ dA none xs)::cs):=by
 rcases (S.ow 0 rfl).shape2 with ⟨rfl,rfl⟩ | ⟨g,cap,rfl,_⟩
 ·have HS:=Z9 S;clear S;go_enter Tryz.func117,Tryz.ntmps117
  go_wp2_with fail
  go_ret;exact ⟨_,rfl,HS.out⟩
 ·refine (ajM S rfl hl).mono ?_;rintro e w' ⟨rfl,S'⟩;exact ⟨_,rfl,S'⟩
end
section
open Go
section
variable {P:Program} {ops:Array Oper} {Q:Exit→Act→World→Prop} {md:Region.Mode} {C:World→Prop} {B:List Nat}
def brk (B:List Nat)(listed:Array Bool):Bool:=B.any fun b=>listed.getD b false
theorem xK {listed:Array Bool}{j:Nat}(h:j ∉ B):brk B (listed.setIfInBounds j true)=brk B listed:=by
 have hjb:∀ b∈B,j≠b:=fun b hb e=>h (by rw [e];exact hb);unfold brk;rw [Y7,List.any_eq_true,List.any_eq_true];constructor
 ·rintro ⟨b,hb,e⟩;rw [getD_set_ne false (hjb b hb)] at e;exact ⟨b,hb,e⟩
 ·rintro ⟨b,hb,e⟩;exact ⟨b,hb,by rw [getD_set_ne false (hjb b hb)];exact e⟩
theorem BD {listed:Array Bool}(j:Nat)(h:brk B listed=true):brk B (listed.setIfInBounds j true)=true:=by
 unfold brk at h ⊢;obtain ⟨b,hb,e⟩:=List.any_eq_true.1 h;exact List.any_eq_true.2 ⟨b,hb,getD_set_true e⟩
def y7 (md:Region.Mode)(ops:Array Oper)(listed:Array Bool)(i:Nat):Nat→Nat→Bool
 | 0,_=>false
 | n + 1,j=>match ops[j]? with
  | none=>true
  | some o=>o.after.any (fun e=>Region.binds md e && (decide (e.on=i) || (!(listed.getD e.on false) && y7 md ops listed i n e.on)))
theorem ab8 {listed:Array Bool}{i:Nat}(hun:listed.getD i true=false):∀ (n j:Nat),y7 md ops listed i n j=true→j ∉ Region.ready md ops listed
 | 0,_,h=>by cases h
 | n + 1,j,h=>by
  intro hr;obtain ⟨_,o,ho,hall⟩:=mem_ready.1 hr;unfold y7 at h;rw [ho] at h;obtain ⟨k,hk,he⟩:=Array.any_eq_true.1 h;simp only [ZQ,Ze,decide_eq_true_eq] at he;have h1:=hall _ (Array.getElem_mem hk) he.1;rcases he.2 with he2 | he2
  ·rw [he2] at h1;exact Gf h1 hun
  ·rw [h1] at he2;simp at he2
theorem ab9 {listed:Array Bool}{i j:Nat}(hun:listed.getD i true=false)(hj:j∈Region.ready md ops listed):∀ (n b:Nat),y7 md ops listed i n b=true→y7 md ops (listed.setIfInBounds j true) i n b=true
 | 0,_,h=>by cases h
 | n + 1,b,h=>by
  unfold y7 at h ⊢;cases ho:ops[b]? with
  | none=>rfl
  | some o =>
   rw [ho] at h;obtain ⟨k,hk,he⟩:=Array.any_eq_true.1 h;refine Array.any_eq_true.2 ⟨k,hk,?_⟩;simp only [ZQ,Ze,decide_eq_true_eq] at he ⊢;refine ⟨he.1,?_⟩;rcases he.2 with he2 | he2
   ·exact .inl he2
   ·right
    by_cases hjk:j=(o.after[k]).on
    ·exact absurd hj (by rw [hjk];exact ab8 hun n _ he2.2)
    ·rw [getD_set_ne false hjk];exact ⟨he2.1,ab9 hun hj n _ he2.2⟩
def y8 (P:Program)(md:Region.Mode)(ops:Array Oper)(B:List Nat)(C:World→Prop)(Q:Exit→Act→World→Prop):Nat→Array Bool→Act→World→Prop
 | 0,listed,a,w=>Region.ready md ops listed=[]∧Q .normal a w
 | fuel + 1,listed,a,w =>
  (Region.ready md ops listed=[]→Q .normal a w) ∧
  ∀ i∈Region.ready md ops listed,wpOp P ops Q i (fun a' w'=>(brk B (listed.setIfInBounds i true)=false→C w')∧y8 P md ops B C Q fuel (listed.setIfInBounds i true) a' w') a w
theorem acd:∀ (fuel:Nat) (listed:Array Bool) (a:Act) (w:World),y8 P md ops B C Q fuel listed a w→wpAny P md ops Q fuel listed a w
 | 0,_,_,_,h=>h
 | fuel + 1,_,_,_,h=>⟨h.1,fun i hi=>wpOp_mono (fun a' w' h'=>acd fuel _ a' w' h'.2) (h.2 i hi)⟩
theorem ajO {i:Nat}{oi:Oper}{v:Value}{C':World→Prop}(hi:ops[i]? =some oi)(hsel:∀ (j:Nat) (o:Oper) cs b,ops[j]? =some o→o.op≠.select cs b)
  (hQ:∀ c a w,Q (.panic c) (a.put oi.dst v) w→Q (.panic c) a w) (br:Bool) (hC':∀ w,(br=false→C w)→C' w) :
  ∀ (fuel:Nat) (listed:Array Bool) (a:Act) (w:World),brk B listed=br→(br=false→i ∉ B∧C w∧∀ b∈B,y7 md ops listed i 12 b=true) →
   (∀ j oj,ops[j]? =some oj→j≠i→listed.getD j true=false→(∀ e∈oj.after,Region.binds md e=true→e.on≠i)→oi.apart ops oj=true) →
   i∈Region.ready md ops listed→ni P ops C' oi v a →
   y8 P md ops B C Q fuel (listed.setIfInBounds i true) (a.put oi.dst v) w→y8 P md ops B C Q (fuel + 1) listed a w:=by
 intro fuel;induction fuel with
 | zero =>
  intro listed a w hbr hC _ hr hy H;refine ⟨fun h=>(by rw [h] at hr;cases hr),fun j hj=>?_⟩;by_cases hji:j=i
  ·subst hji;refine hy.wpOp hi (hC' w (fun h=>(hC h).2.1)) ⟨fun h=>?_,H⟩;cases hb:br with
   | false=>exact (hC hb).2.1
   | true=>rw [hb] at hbr;rw [BD j hbr] at h;cases h
  ·have:=ready_mono hj hji
   rw [H.1] at this;cases this
 | succ fuel ih =>
  intro listed a w hbr hC hfree hr hy H;refine ⟨fun h=>(by rw [h] at hr;cases hr),fun j hj=>?_⟩;by_cases hji:j=i
  ·subst hji;refine hy.wpOp hi (hC' w (fun h=>(hC h).2.1)) ⟨fun h=>?_,H⟩;cases hb:br with
   | false=>exact (hC hb).2.1
   | true=>rw [hb] at hbr;rw [BD j hbr] at h;cases h
  ·have h1:=H.2 j (ready_mono hj hji);obtain ⟨hjun,oj,hoj,hall⟩:=mem_ready.1 hj;have yT:=(mem_ready.1 hr).1;have hnot:∀ e∈oj.after,Region.binds md e=true→e.on≠i:=fun e he hb heq=>by
    have h1:=hall e he hb;rw [heq] at h1;exact Gf h1 yT
   have hjB:br=false→j ∉ B:=fun hb hjb=>ab8 yT 12 j ((hC hb).2.2 j hjb) hj;have h2:=Ou hoj (hfree j oj hoj hji hjun hnot) (fun cs b=>hsel i oi cs b hi) (fun cs b=>hsel j oj cs b hoj) hQ hy h1;have hfree':∀ k ok,ops[k]? =some ok→k≠i→(listed.setIfInBounds j true).getD k true=false →
     (∀ e∈ok.after,Region.binds md e=true→e.on≠i)→oi.apart ops ok=true:=fun k ok hk hki hun hno=>by
    refine hfree k ok hk hki ?_ hno;by_cases hjk:j=k
    ·subst hjk;exact hjun
    ·rw [getD_set_ne true hjk] at hun;exact hun
   have hbj:brk B (listed.setIfInBounds j true)=br:=by
    cases hb:br with
    | false=>rw [xK (hjB hb),hbr,hb]
    | true=>exact BD j (by rw [hbr,hb])
   have KJ:brk B ((listed.setIfInBounds i true).setIfInBounds j true)=br:=by
    cases hb:br with
    | false=>rw [xK (hjB hb),xK (hC hb).1,hbr,hb]
    | true=>exact BD j (BD i (by rw [hbr,hb]))
   refine wpOp_mono (fun a' w' h3=>⟨fun h=>h3.2.1 (by rw [KJ,← hbj];exact h),ih (listed.setIfInBounds j true) a' w' hbj (fun hb=>⟨(hC hb).1,h3.2.1 (by rw [KJ];exact hb),fun b hbB=>ab9 yT hj 12 b ((hC hb).2.2 b hbB)⟩) hfree' (ready_mono hr (Ne.symm hji)) h3.1 ?_⟩) h2;rw [YA _ _ hji];exact h3.2.2
theorem ajP {i:Nat}{oi:Oper}{v:Value}(hi:ops[i]? =some oi)(UE:i ∉ B)(hsel:∀ (j:Nat) (o:Oper) cs b,ops[j]? =some o→o.op≠.select cs b)
  (hQ:∀ c a w,Q (.panic c) (a.put oi.dst v) w→Q (.panic c) a w) :
  ∀ (fuel:Nat) (listed:Array Bool) (a:Act) (w:World),(brk B listed=false→C w) →
   (∀ j oj,ops[j]? =some oj→j≠i→listed.getD j true=false→(∀ e∈oj.after,Region.binds md e=true→e.on≠i)→oi.apart ops oj=true) →
   i∈Region.ready md ops listed→ni P ops (fun _=>True) oi v a →
   y8 P md ops B C Q fuel (listed.setIfInBounds i true) (a.put oi.dst v) w→y8 P md ops B C Q (fuel + 1) listed a w:=by
 intro fuel;induction fuel with
 | zero =>
  intro listed a w hC _ hr hy H;refine ⟨fun h=>(by rw [h] at hr;cases hr),fun j hj=>?_⟩;by_cases hji:j=i
  ·subst hji;exact hy.wpOp hi trivial ⟨fun h=>hC (by rw [← xK UE];exact h),H⟩
  ·have:=ready_mono hj hji
   rw [H.1] at this;cases this
 | succ fuel ih =>
  intro listed a w hC hfree hr hy H;refine ⟨fun h=>(by rw [h] at hr;cases hr),fun j hj=>?_⟩;by_cases hji:j=i
  ·subst hji;exact hy.wpOp hi trivial ⟨fun h=>hC (by rw [← xK UE];exact h),H⟩
  ·have h1:=H.2 j (ready_mono hj hji);obtain ⟨hjun,oj,hoj,hall⟩:=mem_ready.1 hj;have yT:=(mem_ready.1 hr).1;have hnot:∀ e∈oj.after,Region.binds md e=true→e.on≠i:=fun e he hb heq=>by
    have h1:=hall e he hb;rw [heq] at h1;exact Gf h1 yT
   have h2:=Ou hoj (hfree j oj hoj hji hjun hnot) (fun cs b=>hsel i oi cs b hi) (fun cs b=>hsel j oj cs b hoj) hQ hy h1;have hfree':∀ k ok,ops[k]? =some ok→k≠i→(listed.setIfInBounds j true).getD k true=false →
     (∀ e∈ok.after,Region.binds md e=true→e.on≠i)→oi.apart ops ok=true:=fun k ok hk hki hun hno=>by
    refine hfree k ok hk hki ?_ hno;by_cases hjk:j=k
    ·subst hjk;exact hjun
    ·rw [getD_set_ne true hjk] at hun;exact hun
   have KJ:brk B ((listed.setIfInBounds i true).setIfInBounds j true)=brk B (listed.setIfInBounds j true):=by
    rw [YA _ _ (Ne.symm hji),xK UE]
   refine wpOp_mono (fun a' w' h3=>⟨fun h=>h3.2.1 (by rw [KJ];exact h),ih (listed.setIfInBounds j true) a' w' (fun h=>h3.2.1 (by rw [KJ];exact h)) hfree' (ready_mono hr (Ne.symm hji)) h3.1 ?_⟩) h2;rw [YA _ _ hji];exact h3.2.2
inductive nX where
 | z
 | q (i:Nat) (r:nX)
 | p (i:Nat) (r:nX)
 | e (i:Nat) (r:nX)
 | b (i:Nat) (r:nX)
 | e2 (i:Nat) (r:nX) (j:Nat) (s:nX)
def nX.len:nX→Nat
 | .z=>0
 | .q _ r=>r.len + 1
 | .p _ r=>r.len + 1
 | .e _ r=>r.len + 1
 | .b _ r=>r.len + 1
 | .e2 _ r _ _=>r.len + 1
def BF (P:Program)(ops:Array Oper)(C D:World→Prop)(Q:Exit→Act→World→Prop)(i:Nat)(K:Act→World→Prop)(a:Act)(w:World):Prop :=
 ∃ o,ops[i]? =some o∧(if Region.wanted o (yielded ops a.tmps)=true then o.wp P a w (fun a' w'=>D w'∧K a' w') Q else (C w→D w)∧K (a.put o.dst undef) w)
def ku (P:Program)(ops:Array Oper)(Q:Exit→Act→World→Prop):(World→Prop)→nX→Act→World→Prop
 | _,.z,a,w=>Q .normal a w
 | C,.q i r,a,w=>∃ o v,ops[i]? =some o∧ni P ops C o v a∧ku P ops Q C r (a.put o.dst v) w
 | C,.p i r,a,w=>∃ o v,ops[i]? =some o∧ni P ops (fun _=>True) o v a∧ku P ops Q C r (a.put o.dst v) w
 | C,.e i r,a,w=>BF P ops C C Q i (ku P ops Q C r) a w
 | C,.b i r,a,w=>BF P ops C (fun _=>True) Q i (ku P ops Q (fun _=>True) r) a w
 | C,.e2 i r j s,a,w=>BF P ops C C Q i (ku P ops Q C r) a w∧BF P ops C C Q j (ku P ops Q C s) a w
def rC (md:Region.Mode)(ops:Array Oper)(B:List Nat):Bool→nX→Array Bool→Bool
 | _,.z,listed=>(Region.ready md ops listed).isEmpty
 | br,.q i r,listed=>(Region.ready md ops listed).contains i && Region.free md ops listed i && (br || (decide (i ∉ B) && B.all fun b=>y7 md ops listed i 12 b)) && rC md ops B br r (listed.setIfInBounds i true)
 | br,.p i r,listed=>(Region.ready md ops listed).contains i && Region.free md ops listed i && decide (i ∉ B) && rC md ops B br r (listed.setIfInBounds i true)
 | br,.e i r,listed=>decide (Region.ready md ops listed=[i]) && (br || decide (i ∉ B)) && rC md ops B br r (listed.setIfInBounds i true)
 | _,.b i r,listed=>decide (Region.ready md ops listed=[i]) && decide (i∈B) && decide (i < listed.size) && rC md ops B true r (listed.setIfInBounds i true)
 | br,.e2 i r j s,listed=>decide (Region.ready md ops listed=[i,j]) && (br || decide (i ∉ B)) && rC md ops B br r (listed.setIfInBounds i true) && (br || decide (j ∉ B)) && rC md ops B br s (listed.setIfInBounds j true) && decide (s.len=r.len)
def sZ (br:Bool)(C:World→Prop):World→Prop:=if br=true then fun _=>True else C
theorem OQ {i:Nat}{n:Nat}{listed:Array Bool}{a:Act}{w:World}{D D':World→Prop}{K:Act→World→Prop}(hD:D w)(hob:∀ w,D' w→brk B (listed.setIfInBounds i true)=false→C w)
  (ih:∀ a' w',D' w'→K a' w'→y8 P md ops B C Q n (listed.setIfInBounds i true) a' w') (h:BF P ops D D' Q i K a w) :
  wpOp P ops Q i (fun a' w'=>(brk B (listed.setIfInBounds i true)=false→C w')∧y8 P md ops B C Q n (listed.setIfInBounds i true) a' w') a w:=by
 obtain ⟨o,hi,h⟩:=h;unfold wpOp;simp only [hi];split
 ·rename_i hw;simp only [hw,if_true] at h;exact .inl (Oper.wp_mono (fun a' w' h'=>⟨hob w' h'.1,ih a' w' h'.1 h'.2⟩) h)
 ·rename_i hw;simp only [hw] at h;exact ⟨hob w (h.1 hD),ih _ _ (h.1 hD) h.2⟩
theorem Ey (hs:Region.noSelect ops=true)(hQ:∀ c a w,¬ Q (.panic c) a w):∀ (l:nX) (br:Bool) (listed:Array Bool) (a:Act) (w:World),brk B listed=br→sZ br C w →
  rC md ops B br l listed=true→ku P ops Q (sZ br C) l a w→y8 P md ops B C Q l.len listed a w
 | .z,br,listed,a,w,_,_,hB,h=>⟨by simpa [rC] using hB,h⟩
 | .q i r,br,listed,a,w,hbr,hC,hB,h=>by
  obtain ⟨o,v,hi,hy,h⟩:=h;simp only [rC,ZQ,Ze,decide_eq_true_eq] at hB;obtain ⟨⟨⟨hr,hf⟩,hb⟩,hB'⟩:=hB;have hnb:br=false→i ∉ B∧∀ b∈B,y7 md ops listed i 12 b=true:=fun e=>by
   rcases hb with hb | hb
   ·rw [e] at hb;cases hb
   ·exact ⟨hb.1,fun b hbB=>List.all_eq_true.1 hb.2 b hbB⟩
  have hset:brk B (listed.setIfInBounds i true)=br:=by
   cases e:br with
   | false=>rw [xK (hnb e).1,hbr,e]
   | true=>exact BD i (by rw [hbr,e])
  refine ajO hi (Region.noSelect_spec hs) (fun c a w h=>absurd h (hQ c _ w)) br (C':=sZ br C) (fun w h=>?_) r.len listed a w hbr (fun e=>⟨(hnb e).1,?_,(hnb e).2⟩) (Region.free_spec hi hf) (by simpa using hr) hy
   (Ey hs hQ r br _ _ w hset hC hB' h)
  ·unfold sZ;split
   ·trivial
   ·rename_i e;exact h (by simpa using e)
  ·unfold sZ at hC;rw [e,if_neg (by decide)] at hC;exact hC
 | .p i r,br,listed,a,w,hbr,hC,hB,h=>by
  obtain ⟨o,v,hi,hy,h⟩:=h;simp only [rC,ZQ,decide_eq_true_eq] at hB;obtain ⟨⟨⟨hr,hf⟩,hb⟩,hB'⟩:=hB;refine ajP hi hb (Region.noSelect_spec hs) (fun c a w h=>absurd h (hQ c _ w)) r.len listed a w (fun e=>?_) (Region.free_spec hi hf) (by simpa using hr) hy
   (Ey hs hQ r br _ _ w (by rw [xK hb,hbr]) hC hB' h)
  unfold sZ at hC;rw [← hbr,e,if_neg (by decide)] at hC;exact hC
 | .e i r,br,listed,a,w,hbr,hC,hB,h=>by
  simp only [rC,ZQ,Ze,decide_eq_true_eq] at hB;obtain ⟨⟨hr,hb⟩,hB'⟩:=hB;have hset:brk B (listed.setIfInBounds i true)=br:=by
   cases e:br with
   | false=>rw [xK (hb.resolve_left (by rw [e];decide)),hbr,e]
   | true=>exact BD i (by rw [hbr,e])
  refine ⟨fun h0=>(by rw [h0] at hr;cases hr),fun j hj=>?_⟩;rw [hr,YB] at hj;subst hj;exact OQ hC (fun w hD e=>by rw [hset] at e;unfold sZ at hD;rw [e,if_neg (by decide)] at hD;exact hD) (fun a' w' hD h'=>Ey hs hQ r br _ a' w' hset hD hB' h') h
 | .b i r,br,listed,a,w,hbr,hC,hB,h=>by
  simp only [rC,ZQ,decide_eq_true_eq] at hB;obtain ⟨⟨⟨hr,hb⟩,hlt⟩,hB'⟩:=hB;have hset:brk B (listed.setIfInBounds i true)=true:=List.any_eq_true.2 ⟨i,hb,by simp [hlt]⟩;refine ⟨fun h0=>(by rw [h0] at hr;cases hr),fun j hj=>?_⟩;rw [hr,YB] at hj;subst hj;exact OQ hC (fun w _ e=>by rw [hset] at e;cases e) (fun a' w' _ h'=>Ey hs hQ r true _ a' w' hset (by unfold sZ;rw [if_pos rfl];trivial) hB' (by unfold sZ;rw [if_pos rfl];exact h')) h
 | .e2 i r j s,br,listed,a,w,hbr,hC,hB,h=>by
  simp only [rC,ZQ,Ze,decide_eq_true_eq] at hB;obtain ⟨⟨⟨⟨⟨hr,hb1⟩,hB'⟩,hb2⟩,hB2⟩,hlen⟩:=hB;have hset:∀ k,(br=true∨k ∉ B)→brk B (listed.setIfInBounds k true)=br:=fun k hb=>by
   cases e:br with
   | false=>rw [xK (hb.resolve_left (by rw [e];decide)),hbr,e]
   | true=>exact BD k (by rw [hbr,e])
  refine ⟨fun h0=>(by rw [h0] at hr;cases hr),fun k hk=>?_⟩;rw [hr] at hk;rcases List.mem_cons.1 hk with rfl | hk
  ·exact OQ hC (fun w hD e=>by rw [hset k hb1] at e;unfold sZ at hD;rw [e,if_neg (by decide)] at hD;exact hD) (fun a' w' hD h'=>Ey hs hQ r br _ a' w' (hset k hb1) hD hB' h') h.1
  ·rw [YB] at hk;subst hk;refine OQ hC (fun w hD e=>by rw [hset k hb2] at e;unfold sZ at hD;rw [e,if_neg (by decide)] at hD;exact hD) (fun a' w' hD h'=>?_) h.2;have:=Ey hs hQ s br _ a' w' (hset k hb2) hD hB2 h'
   rw [hlen] at this;exact this
theorem wJ {id:Nat}{a:Act}{w:World}{l:List Oper}(B:List Nat)(C:World→Prop)(ord:nX)(hm:P.follows .mixedOrders=true)(hB:(Region.noSelect l.toArray && !(brk B (Y3 l.length false)) && rC .any l.toArray B false ord (Y3 l.length false) && decide (ord.len=l.length))=true)
  (hC:∀ w1,je w w1→C w1) (h:∀ K:Act→World→Prop,(∀ a' w',Q .normal a' w'→K a' w')→∀ w1,je w w1→ku P l.toArray (Exit.then K (fun _ _ _=>False)) C ord a w1):(Code.region id l.toArray true).wp P Q a w:=by
 simp only [ZQ,decide_eq_true_eq,Bool.not_eq_true'] at hB;obtain ⟨⟨⟨h1,h4⟩,h2⟩,h3⟩:=hB;have H:=h (fun a' w'=>Q .normal a' w') (fun _ _ h=>h) w.drew rfl;have H2:=Ey (md:=.any) (C:=C) h1 (Q:=Exit.then (fun a' w'=>Q .normal a' w') (fun _ _ _=>False)) (fun _ _ _ h=>h) ord false (Y3 l.length false) a w.drew h4 (by unfold sZ;rw [if_neg (by decide)];exact hC _ rfl) h2 (by unfold sZ;rw [if_neg (by decide)];exact H);refine Code.wp_mono (Q:=Exit.then (fun a' w'=>Q .normal a' w') (fun _ _ _=>False)) (fun e a w q=>by cases e <;> first | exact q | exact q.elim) ?_;refine wp_region_any hm ?_;have H3:=acd _ _ _ _ H2;rw [h3] at H3;simpa using H3
theorem ajQ {i:Nat}{r:nX}{o:Oper}{a:Act}{w:World}(hi:ops[i]? =some o)
  (h:∀ K:Act→Prop,(∀ a',ku P ops Q C r a' w→K a')→if Region.wanted o (yielded ops a.tmps) then ∃ v,(∀ w,Oper.quietUpon P (fun w''=>w''=w) w v ((execOp a.eval o).run P w))∧K (a.put o.dst v) else K (a.put o.dst undef)) :
  ku P ops Q C (.q i r) a w:=by
 have:=h (fun a'=>ku P ops Q C r a' w) (fun _ h=>h)
 by_cases hw:Region.wanted o (yielded ops a.tmps)=true
 ·rw [if_pos hw] at this;obtain ⟨v,h1,h2⟩:=this;exact ⟨o,v,hi,.inl ⟨hw,fun w _=>h1 w⟩,h2⟩
 ·rw [if_neg hw] at this;exact ⟨o,undef,hi,.inr ⟨by simpa using hw,rfl⟩,this⟩
theorem ajR {i:Nat}{r:nX}{o:Oper}{a:Act}{w:World}(hi:ops[i]? =some o)
  (h:∀ K:Act→Prop,(∀ a',ku P ops Q C r a' w→K a')→if Region.wanted o (yielded ops a.tmps) then ∃ v,(∀ w,Oper.quietUpon P (fun w''=>w''=w) w v ((execOp a.eval o).run P w))∧K (a.put o.dst v) else K (a.put o.dst undef)) :
  ku P ops Q C (.p i r) a w:=by
 have:=h (fun a'=>ku P ops Q C r a' w) (fun _ h=>h)
 by_cases hw:Region.wanted o (yielded ops a.tmps)=true
 ·rw [if_pos hw] at this;obtain ⟨v,h1,h2⟩:=this;exact ⟨o,v,hi,.inl ⟨hw,fun w _=>h1 w⟩,h2⟩
 ·rw [if_neg hw] at this;exact ⟨o,undef,hi,.inr ⟨by simpa using hw,rfl⟩,this⟩
theorem jc {i:Nat}{r:nX}{o:Oper}{a:Act}{w:World}{t:TypeId}{x:Operand}{p:Value}(v:Value)(hi:ops[i]? =some o)(hg:o.guard=none)(ho:o.op=.load t x)(hx:a.eval x=p)
  (hr:∀ w',C w'→(Instr.loadAt t p).run P w'=.ok v w') (h:ku P ops Q C r (a.put o.dst v) w):ku P ops Q C (.q i r) a w:=by
 refine ⟨o,v,hi,.inl ⟨by simp [Region.wanted,hg],fun w hC=>?_⟩,h⟩;have h2:=hr w hC;unfold execOp;simp only [ho,hx,Sem.run_bind,h2,Result.andThen_ok,Sem.run_pure,Oper.quietUpon,and_self]
theorem qM {K0 K1:Act→World→Prop}{D:World→Prop}{i:Nat}{o:Oper}{a:Act}{w:World}(hi:ops[i]? =some o)(hg:o.guard=none)
  (h:∀ K:Act→World→Prop,(∀ a' w',(D w'∧K1 a' w')→K a' w')→wpList P ops (Exit.then K (fun _ _ _=>False)) [o] a w) :
  BF P ops C D (Exit.then K0 (fun _ _ _=>False)) i K1 a w:=by
 have:=h _ (fun _ _ h=>h)
 have hw:Region.wanted o (yielded ops a.tmps)=true:=by simp [Region.wanted,hg]
 refine ⟨o,hi,?_⟩;rw [if_pos hw];exact TY hg this
theorem gX {K0:Act→World→Prop}{i:Nat}{r:nX}{o:Oper}{a:Act}{w:World}(hi:ops[i]? =some o)(hg:o.guard=none)
  (h:∀ K:Act→World→Prop,(∀ a' w',(C w'∧ku P ops (Exit.then K0 (fun _ _ _=>False)) C r a' w')→K a' w')→wpList P ops (Exit.then K (fun _ _ _=>False)) [o] a w) :
  ku P ops (Exit.then K0 (fun _ _ _=>False)) C (.e i r) a w:=qM hi hg h
theorem BG {K0:Act→World→Prop}{i:Nat}{r:nX}{o:Oper}{a:Act}{w:World}(hi:ops[i]? =some o)(hg:o.guard=none)
  (h:∀ K:Act→World→Prop,(∀ a' w',(True∧ku P ops (Exit.then K0 (fun _ _ _=>False)) (fun _=>True) r a' w')→K a' w')→wpList P ops (Exit.then K (fun _ _ _=>False)) [o] a w) :
  ku P ops (Exit.then K0 (fun _ _ _=>False)) C (.b i r) a w:=qM hi hg h
theorem EW {i j:Nat}{r s:nX}{a:Act}{w:World}(h1:BF P ops C C Q i (ku P ops Q C r) a w)(h2:BF P ops C C Q j (ku P ops Q C s) a w):ku P ops Q C (.e2 i r j s) a w:=⟨h1,h2⟩
theorem rJ {a:Act}{w:World}(h:Q .normal a w):ku P ops Q C .z a w:=h
theorem dN {R g:Prop}(h:R)(e:Kp R→g:=by intro h9;(repeat ((first | refine ajR rfl (fun K hK=>?_) | refine ajQ rfl (fun K hK=>?_));go_simp;(try go_bits);(try simp (disch:=omega) only [if_pos,if_neg,dif_pos,dif_neg]);(try go_simp);(refine hK _ ?_;clear hK K)));exact h9.out):g:=e ⟨h⟩
end
end
section
open Go Go.RowKit
def ajS (r:aP)(ts:List ak)(w:World)(e:Ending)(w':World):Prop :=
 ∃ (A:Option Addr) (c:Nat) (cc:Nat→Nat) (qs:List MQ),e=.returned (.slice A qs.length c)∧iO ts.length (Edge r ts) cc∧QF r ts cc qs∧Mem w w' [.sl ig A qs,.I9 qs]
theorem Ez {α β:Type}{f:α→List β}{m:Nat}:∀ (l:List α),(∀ x,(f x).length≤m)→(l.flatMap f).length≤m * l.length
 | [],_=>by simp
 | x::r,h=>by
  have:=Ez r h
  have:=h x
  rw [Y5,Z4,ZV,Nat.mul_succ];omega
theorem ace {r:aP}{ts:List ak}(h:lM r ts)(i:Nat):(cZ ts i).length≤10:=by
 unfold cZ;cases e:ts[i]? with
 | none=>simp
 | some t=>exact h.ib t (Z7 e)
theorem Mem.PU {w0 w:World}{cs:List Chunk}{c:Chunk}(S:Mem w0 w cs)(i:Nat)(hi:cs[i]? =some c):Mem w0 w (c::cs.eraseIdx i):=S.perm (by
 obtain ⟨h,rfl⟩:=List.getElem?_eq_some_iff.1 hi;exact (Nj cs i h).symm)
theorem Mem.ajT {w0 w:World}{cs:List Chunk}{c:Chunk}{i:Nat}(hi:i < cs.length)(S:Mem w0 w (c::cs.eraseIdx i)):Mem w0 w (cs.set i c):=S.perm (by
 have h:=Nj (cs.set i c) i (by rw [ZU];exact hi);rw [List.getElem_set_self,List.eraseIdx_set_eq] at h;exact h)
theorem ajU {l ys:List ah}(hp:ys.Perm l)(ho:ys.Pairwise (fun a b=>dA a b≤0)):jZ dA none ys=sV l:=by
 obtain ⟨c1,_,c3,c4⟩:=ab6 nS ys none ho (fun _ e=>by cases e);refine abA c1 (fun x=>?_);rw [← hp.mem_iff];constructor
 ·exact c3 x
 ·intro hx;rcases c4 x hx with ⟨z,hz',e⟩ | ⟨p,e,_⟩
  ·rw [← Jr e];exact hz'
  ·cases e
theorem Mem.drop1 {w0 w:World}{cs:List Chunk}{a:Chunk}(S:Mem w0 w (a::cs)):Mem w0 w cs:=S.del 0
theorem Mem.drop2 {w0 w:World}{cs:List Chunk}{a b:Chunk}(S:Mem w0 w (a::b::cs)):Mem w0 w cs:=(S.del 0).del 0
abbrev KL (B X:Nat)(cc:Nat→Nat)(k:Nat)(Ap:Option Addr)(row:List Int)(V:Value)(ys qs:List MQ):List Chunk:=.aJ kW X (iH (heads cc k))::.sl ay Ap row::.own ig B 107 V ys::iG B qs
theorem ae7 (N:Nat→Prop)(G X:Nat)(r:aP)(K W S A:Option Addr)(ck cw cs c:Nat)(ts:List ak)(qs:List HQ)(w:World)(hG:vM N w G X r K W S A ck cw cs c ts qs)(ho:lM r ts) :
  Calls Tryz.prog 55 #[.pointer (some ⟨G,0,none⟩)] w (ajS r ts w):=by
 obtain ⟨n,hn⟩:∃ n,ts.length=n:=⟨_,rfl⟩;have Hn:=Z9 hn;have hl:=ho.tl;rw [hn] at hl;have HG:=Z9 (fun w' (h:Below w.heap.size w w')=>hG.aK h);have Ho:=Z9 ho;have hmm:=@run_makeMap Tryz.prog;clear hG hn ho;obtain ⟨B,hB⟩:∃ B,B=w.heap.size:=⟨_,rfl⟩;obtain ⟨X1,hX1⟩:∃ X1,X1=w.heap.size:=⟨_,rfl⟩;have S0:Mem w (w.alloc (.map #[] 0)) [.aJ kW X1 []]:=(Mem.start w).zD kW X1 hX1;have Hp:=Z9 (ajq N G X r K W S A ck cw cs c ts qs none (.pointer none) (w.alloc (.map #[] 0)) (HG.out _ S0.b) Ho.out rfl);have Hb:=Z9 hB;have Gl:=Z9 hX1;clear hX1 hB;go_enter Tryz.func55,Tryz.ntmps55
 go_upto_region 3 with fail
 rw [← Gl.out];generalize w.alloc (.map #[] 0)=w1 at *;clear hmm;go_wp2_with fail
 refine (Hp.out).mono ?_;rintro e w2 ⟨Ap,cap,cc,rfl,hpart,T⟩;rw [Hn.out];obtain ⟨row,hrow⟩:∃ row,iL (Bl n cc)=row:=⟨_,rfl⟩;have hrl:row.length=n:=by rw [← hrow,kX,abv]
 rw [Hn.out,hrow] at T;have HP:Hid (iO ts.length (Edge r ts) cc):=hpart.ajH;have nG:Hid (∀ i,i < n→cc i≤i):=fun i hi=>HP.out.le i (by rw [Hn.out];exact hi);have vV:Hid (∀ i,i < n→cc (cc i)=cc i):=fun i hi=>HP.out.fix (by rw [Hn.out];exact hi);have dR:Hid (∀ i,i < n→row[i]? =some (cc i:Int)):=fun i hi=>by rw [← hrow];exact jY (abu hi)
 obtain ⟨A2,c2,e2,S1⟩:=(S0.join T).cO 1 rfl;rw [hrl] at e2;simp only [Value.slice.injEq,true_and] at e2;obtain ⟨rfl,rfl⟩:=e2;have S2:Mem w w2 (KL B X1 cc 0 Ap row (.slice none 0 0) [] []):=S1.nil ig B 107;clear hpart T S0 S1 Hp hrow hrl;go_wp2_with fail
 go_loopw [4,15] (fun v i wr=>∃ (k:Nat) (qs:List MQ) (A4:Option Addr) (c4:Nat),k≤n∧v=.slice A4 qs.length c4∧i=.int .i64 k∧Hid (qs.map MQ.raw=lV r ts cc k)∧Mem w wr (KL B X1 cc k Ap row (.slice A4 qs.length c4) qs qs)) (fun _ i _=>n - (intOf i).toNat)
 case atStart=>exact ⟨0,[],none,0,ZN _,rfl,rfl,rfl,S2⟩
 case round =>
  clear S2;obtain ⟨k,ms,A4,c4,hk,rfl,rfl,HQ,S2⟩:=hrel;by_cases hlt:k < n
  ·obtain ⟨t,ht⟩:∃ t,ts[k]? =some t:=⟨_,Z8 (by rw [Hn.out];exact hlt)⟩;have Ht:=Z9 ht;have hck:=nG.out k hlt;obtain ⟨pb,po,rfl,hpb,d0⟩:=(S2.slc 1 rfl).int k _ (dR.out k hlt);have hms:ms.length≤k:=by
    have:=congrArg Zf HQ.out
    rw [ZW] at this;rw [this,lV,ZW];exact EO cc k
   go_upto_region 6 with fail
   clear d0;have hlk:∃ (v7:Value) (b8:Bool),(aT (cc k:Int) (iH (heads cc k))).getD (.int .i64 0)=v7∧(aT (cc k:Int) (iH (heads cc k))).isSome=b8∧((b8=false∧cc k=k)∨(b8=true∧cc k≠k∧∃ j,(heads cc k)[j]? =some (cc k)∧v7=.int .i64 (j:Nat))):=by
    by_cases hnew:cc k=k
    ·have hgn:=ab4 (h:=cc k) (hs:=heads cc k) (fun h=>by have:=(OO.1 h).1;omega);exact ⟨_,_,rfl,rfl,.inl ⟨by rw [hgn];rfl,hnew⟩⟩
    ·have hm:cc k∈heads cc k:=OO.2 ⟨by omega,vV.out k hlt⟩;obtain ⟨j,hj⟩:=List.mem_iff_getElem?.1 hm;have hgn:=ajD (abZ cc k) hj;exact ⟨_,_,rfl,rfl,.inr ⟨by rw [hgn];rfl,hnew,j,hj,by rw [hgn];rfl⟩⟩
   obtain ⟨v7,b8,h7,h8,hcase⟩:=hlk;have acf:=Z9 hcase;clear hcase;go_upto_if 27 with (at_lookup;refine S2.SB 0 rfl (T:=181) (E:=3) (by kernel_rfl) (z:=.int .i64 0) (fun _=>rfl) rfl _ _ true rfl rfl (cc k:Int) rfl ?_;rw [h7,h8])
   clear h7 h8;have hsB:B≤wr.heap.size:=by rw [Hb.out];exact S2.b.size
   go_cut [4,7] (fun s4 s7 wx=>∃ (aI:List MQ) (A1:Option Addr) (c1 j:Nat) (q:MQ),s4=.slice A1 aI.length c1∧s7=.int .i64 j∧Hid (aI[j]? =some q)∧Hid (lV r ts cc (k + 1)=(aI.map MQ.raw).set j (q.key,q.aC++[jQ ts k],q.ids++cZ ts k,q.at'++[k]))∧aI.length≤k + 1∧Mem w wx (KL B X1 cc (k + 1) (some ⟨pb,po,none⟩) row (.slice A1 aI.length c1) aI aI))
   case first =>
    --@dev
    rcases acf.out with ⟨rfl,hnew⟩ | ⟨rfl,hold,j,hj,rfl⟩
    ·have acg:=Z9 hnew;clear hnew;go_upto_region 10 with (refine S2.wP 0 rfl (T:=181) (E:=3) (by kernel_rfl) rfl _ _ _ rfl rfl (cc k:Int) rfl (.int .i64 (ms.length:Nat)) rfl ?_;intro w4 S4)
     have hnew:=acg.out;rw [hnew] at S4;have hml:ms.length=(heads cc k).length:=by
      have:=congrArg Zf HQ.out
      rw [ZW] at this;rw [this,lV,ZW]
     have hnot:k ∉ heads cc k:=fun h=>by have:=(OO.1 h).1;omega
     have S5:Mem w w4 (KL B X1 cc (k + 1) (some ⟨pb,po,none⟩) row (.slice A4 ms.length c4) ms ms):=by
      have e:=ajE hnot;rw [← hml] at e;show Mem w w4 (.aJ kW X1 (iH (heads cc (k + 1)))::_);rw [show heads cc (k + 1)=heads cc k++[k] from Uz hnew,← e];exact S4
     clear S4 S2 hml hnot hnew;have OT:=HG.out w4 S5.b;have z0:=OT.g.all;obtain ⟨blk,off,Ai,ci,Af,cf,hA,hblk,d0,d1,d2,d3,d4,hi,hf⟩:=OT.t.aC k t Ht.out;have hA2:=hA;rw [hA,Hn.out] at z0;have ach:=Z9 (ajt N G X r K W S A ck cw cs c ts qs t Ai Af ci cf w4 OT Ho.out hi (Ho.out.il t (Z7 Ht.out)) (Ho.out.ne t (Z7 Ht.out)));clear hi hf hA2 OT hA;go_wp2_with fail
     refine (ach.out).mono ?_;rintro e w5 ⟨rfl,hl5⟩;have S6:=S5.below hl5;have ajV:B≤w5.heap.size:=by rw [Hb.out];exact S6.b.size
     obtain ⟨ky,hky⟩:∃ ky,uj r ts t=ky:=⟨_,rfl⟩;rw [hky];have UF:Hid (keyAt r ts k=ky):=by show _=_;rw [ajz Ht.out,hky]
     clear hky ach hl5 S5 d0 d1 d2 d3 d4 z0;go_wp2_with (at_builtin;refine S6.app 2 rfl aju rfl _ _ rfl (MQ.fresh ky) 1 rfl rfl rfl (ajv (MQ.fresh ky)) ajV (by omega) (by decide) ?_;intro v' w7 S7;obtain ⟨A7,c7,rfl⟩:=(S7.ow 2 rfl).len)
     go_meet;have S8:Mem w w7 (KL B X1 cc (k + 1) (some ⟨pb,po,none⟩) row (.slice A7 (ms++[MQ.fresh ky]).length c7) (ms++[MQ.fresh ky]) (ms++[MQ.fresh ky])):=Mem.ajw (cs:=[.aJ kW X1 (iH (heads cc (k + 1))),.sl ay (some ⟨pb,po,none⟩) row,.own ig B 107 (.slice A7 (ms++[MQ.fresh ky]).length c7) (ms++[MQ.fresh ky])]) S7 ky;refine ⟨ms++[MQ.fresh ky],A7,c7,ms.length,MQ.fresh ky,by rw [Z4];rfl,rfl,by show _=_;simp,?_,by simp;omega,S8⟩;have:=ajA HQ.out (fun i hi=>nG.out i (by omega)) acg.out
     rw [UF.out] at this;exact this
    ·have hjl:j < ms.length:=by
      have:=congrArg Zf HQ.out
      rw [ZW] at this;rw [this,lV,ZW];exact bM hj
     obtain ⟨q,hq⟩:∃ q,ms[j]? =some q:=⟨_,Z8 hjl⟩;go_wp2_with fail
     go_meet;refine ⟨ms,A4,c4,j,q,rfl,rfl,hq,ajB HQ.out hold hj hq,by omega,?_⟩;show Mem w wr (.aJ kW X1 (iH (heads cc (k + 1)))::_);rw [UA hold];exact S2
    --@xB
   case rest =>
    obtain ⟨aI,A1,c1,j,q,rfl,rfl,Hq,UG,jG,S8⟩:=hcut;clear S2 HQ acf;obtain ⟨g,cap1,eg,hcap1⟩:=(S8.ow 2 rfl).form (by have:=bM Hq.out;omega);simp only [Value.slice.injEq] at eg;obtain ⟨rfl,_,rfl⟩:=eg;have hjl:=bM Hq.out;have hlen1:aI.length=(lV r ts cc (k + 1)).length:=by rw [UG.out,ZU,ZW]
    obtain ⟨tu,Hl2,Ce⟩:Hid (q.aC.length + [t.no].length≤100000000)∧Hid (q.at'.length + [(k:Int)].length≤100000000)∧Hid (q.ids.length + t.ids.length≤100000000):=by
     have:=UG.out
     have h1:=congrArg (fun l=>l[j]?) this;simp only [ZY (show j < (aI.map MQ.raw).length by rw [ZW];exact hjl),lV,ZT] at h1;cases hh:(heads cc (k + 1))[j]? with
     | none=>rw [hh] at h1;cases h1
     | some h =>
      rw [hh] at h1;simp only [Zx,Option.some.injEq,y5,Prod.mk.injEq] at h1;have e1:=congrArg Zf h1.2.1;have e2:=congrArg Zf h1.2.2.2;have e3:=congrArg Zf h1.2.2.1;have hf:=Ez (m:=10) (f:=cZ ts) (partAt cc (k + 1) h) (ace Ho.out);rw [Z4,Gg Ht.out] at e3;have hn2:=Ho.out.tb;rw [Hn.out] at hn2;have hp:=BZ cc (k + 1) h;simp only [ZW,Z4,ZA] at e1 e2;exact ⟨by show _≤_;simp only [ZA];omega,by show _≤_;simp only [ZA];omega,by show _≤_;omega⟩
    clear hlen1;obtain ⟨blk,off,Ai,ci,Af,cf,hA,hblk,_,_,_,d3,_,hi,_⟩:=(HG.out w (ZX _ _)).t.aC k t Ht.out;have OU:=Z9 d3;have Hi:=Z9 hi;have Gy:=Z9 hblk;clear d3 hi hblk;have HC:Hid (∀ (w':World) (da db:Chunk) (cs':List Chunk),Mem w w' (da::db::.own ig B 107 (.slice (some ⟨g,0,none⟩) aI.length c1) aI::cs') →
      w'.cell? ⟨g,j * 5 + 2,none⟩=some (.slice q.A q.aC.length q.a)∧w'.cell? ⟨g,j * 5 + 4,none⟩=some (.slice q.C q.at'.length q.c)∧w'.cell? ⟨G,4,none⟩=some (.slice (some ⟨blk,off,none⟩) n c)∧w'.cell? ⟨blk,off + k * 5,none⟩=some (.int .i64 t.no)):=fun w' da db cs' Sx=>by
     have h1:=((Sx.ow 2 rfl).ny rfl j q Hq.out).1;have hg:=HG.out w' Sx.b;have h2:=hg.g.cell 4 _ rfl;rw [hA,Hn.out] at h2;obtain ⟨b2,o2,_,_,_,_,hA2,_,h3,_⟩:=hg.t.aC k t Ht.out;rw [hA] at hA2;simp only [Option.some.injEq,Addr.mk.injEq,and_true] at hA2;obtain ⟨rfl,rfl⟩:=hA2;exact ⟨h1.2.2.1,h1.2.2.2.2,h2,h3⟩
    subst hA;go_upto_region 12 with fail
    go_cut [50] (fun _ wx=>∃ (A9:Option Addr) (c9:Nat) (iV:Option Addr) (c10:Nat),Mem w wx (.aJ kW X1 (iH (heads cc (k + 1)))::.sl ay (some ⟨pb,po,none⟩) row::.own ig B 107 (.slice (some ⟨g,0,none⟩) aI.length c1) (aI.set j (⟨q.key,A9,c9,q.aC++[t.no],q.B,q.b,q.ids,iV,c10,q.at'++[k]⟩:MQ))::iG B (aI.set j (⟨q.key,A9,c9,q.aC++[t.no],q.B,q.b,q.ids,iV,c10,q.at'++[k]⟩:MQ))))
    case first =>
     --@dev
     refine wJ [27] (fun w'=>w'.cell? ⟨g,j * 5 + 2,none⟩=some (.slice q.A q.aC.length q.a)∧w'.cell? ⟨g,j * 5 + 4,none⟩=some (.slice q.C q.at'.length q.c)∧w'.cell? ⟨G,4,none⟩=some (.slice (some ⟨blk,off,none⟩) n c)∧w'.cell? ⟨blk,off + k * 5,none⟩=some (.int .i64 t.no)) (.p 0 (.p 1 (.p 2 (.p 3 (.p 4 (.p 5 (.q 6 (.p 7 (.p 8 (.p 9 (.q 10 (.p 11 (.p 12 (.p 13 (.q 14 (.p 17 (.p 18 (.p 19 (.q 20 (.p 21 (.e2 15 (.e2 16 (.e 22 (.e 23 (.p 24 (.p 25 (.p 26 (.b 27 (.p 28 (.p 29 (.e 30 .z))))))))) 22 (.e 16 (.e 23 (.p 24 (.p 25 (.p 26 (.b 27 (.p 28 (.p 29 (.e 30 .z)))))))))) 22 (.e 15 (.e 16 (.e 23 (.p 24 (.p 25 (.p 26 (.b 27 (.p 28 (.p 29 (.e 30 .z))))))))))))))))))))))))))))))) (by kernel_rfl) (by kernel_rfl) (fun w' hd=>HC.out _ _ _ _ (S8.below (hd.below _))) (fun KK aF wd hd=>?_);have S9:=S8.below (hd.below _);clear hd S8;refine dN ?_;refine jc (.slice q.A q.aC.length q.a) rfl rfl rfl rfl (fun w' h=>eX rfl h.1) ?_;refine dN ?_;refine jc (.slice (some ⟨blk,off,none⟩) n c) rfl rfl rfl rfl (fun w' h=>eX rfl h.2.2.1) ?_;refine dN ?_;refine jc (.int .i64 t.no) rfl rfl rfl rfl (fun w' h=>eX rfl h.2.2.2) ?_;refine dN ?_;refine jc (.slice q.C q.at'.length q.c) rfl rfl rfl rfl (fun w' h=>eX rfl h.2.1) ?_;refine dN ?_;refine EW (qM rfl rfl (fun K9 hK9=>?_)) (qM rfl rfl (fun K9 hK9=>?_))
     ·go_wp2_with fail
      obtain ⟨V,hV⟩:∃ V,V=wd.heap.size:=⟨_,rfl⟩;have aZ:Mem w _ (.loc V #[.int .i64 t.no] 3::.aJ kW X1 (iH (heads cc (k + 1)))::.sl ay (some ⟨pb,po,none⟩) row::.own ig B 107 (.slice (some ⟨g,0,none⟩) aI.length c1) aI::iG B aI):=(S9.newAt #[.int .i64 t.no] 3 V hV).front;rw [← hV];clear hV S9;generalize wd.alloc (.cells #[.int .i64 t.no] 3)=w10 at *;refine ⟨HC.out _ _ _ _ (Mem.drop1 aZ),?_⟩;refine EW (qM rfl rfl (fun K9 hK9=>?_)) (qM rfl rfl (fun K9 hK9=>?_))
      ·have BH:∀ (p:Nat) (u:Value),([t.no].map (fun z=>[Value.int .i64 z])).flatten[p]? =some u→w10.cell? ((⟨V,0,none⟩:Addr).add p)=some u:=fun p u hu=>by
        have h0:=(aZ.lv 0 rfl).cell 0 _ rfl;cases p with
        | zero=>simp at hu;subst hu;exact h0
        | succ p=>simp at hu
       have BI:B≤w10.heap.size:=by rw [Hb.out];exact aZ.b.size
       refine aZ.nJ lY (3 * j + 0 + 4) (qG B Hq.out rfl) xA rfl _ _ rfl [t.no] 1 1 rfl rfl ⟨V,0,none⟩ rfl BH (fun y _=>Bq y) (fun _=>rfl) BI tu.out (by decide) ?_;intro v16 pW dW;obtain ⟨A9,c9,rfl⟩:=(dW.ow (3 * j + 0 + 4) (ZY (by show _ < _;have:=bM (qG B Hq.out (j:=0) rfl);simp only [ZV];omega))).len;have mG:Hid ((aI.set j (⟨q.key,A9,c9,q.aC++[t.no],q.B,q.b,q.ids,q.C,q.c,q.at'⟩:MQ))[j]? =some (⟨q.key,A9,c9,q.aC++[t.no],q.B,q.b,q.ids,q.C,q.c,q.at'⟩:MQ)):=ZY hjl;have UH:Mem w pW (.loc V #[.int .i64 t.no] 3::.aJ kW X1 (iH (heads cc (k + 1)))::.sl ay (some ⟨pb,po,none⟩) row::.own ig B 107 (.slice (some ⟨g,0,none⟩) aI.length c1) aI::iG B (aI.set j (⟨q.key,A9,c9,q.aC++[t.no],q.B,q.b,q.ids,q.C,q.c,q.at'⟩:MQ))):=by
        rw [← Bz B (k:=j) (j:=0) (q:=q) (q':=⟨q.key,A9,c9,q.aC++[t.no],q.B,q.b,q.ids,q.C,q.c,q.at'⟩) (c:=.own ay B 3 (.slice A9 (q.aC++[t.no]).length c9) (q.aC++[t.no])) (by decide) Hq.out rfl];exact dW
       clear aZ BH BI dW;go_wp2_with fail
       refine ⟨HC.out _ _ _ _ (Mem.drop1 UH),?_⟩;refine gX rfl rfl (fun K9 hK9=>?_);go_wp2_with fail
       obtain ⟨U,hU⟩:∃ U,U=pW.heap.size:=⟨_,rfl⟩;have gy:Mem w _ (.loc U #[.int .i64 k] 3::.loc V #[.int .i64 t.no] 3::.aJ kW X1 (iH (heads cc (k + 1)))::.sl ay (some ⟨pb,po,none⟩) row::.own ig B 107 (.slice (some ⟨g,0,none⟩) aI.length c1) aI::iG B (aI.set j (⟨q.key,A9,c9,q.aC++[t.no],q.B,q.b,q.ids,q.C,q.c,q.at'⟩:MQ))):=(UH.newAt #[.int .i64 k] 3 U hU).front;rw [← hU];clear hU UH;generalize pW.alloc (.cells #[.int .i64 k] 3)=w12 at *;refine ⟨HC.out _ _ _ _ (Mem.drop2 gy),?_⟩;refine gX rfl rfl (fun K9 hK9=>?_);have BJ:∀ (p:Nat) (u:Value),([(k:Int)].map (fun z=>[Value.int .i64 z])).flatten[p]? =some u→w12.cell? ((⟨U,0,none⟩:Addr).add p)=some u:=fun p u hu=>by
        have h0:=(gy.lv 0 rfl).cell 0 _ rfl;cases p with
        | zero=>simp at hu;subst hu;exact h0
        | succ p=>simp at hu
       have BK:B≤w12.heap.size:=by rw [Hb.out];exact gy.b.size
       refine gy.nJ lY (3 * j + 2 + 5) (qG B mG.out rfl) xA rfl _ _ rfl [(k:Int)] 1 1 rfl rfl ⟨U,0,none⟩ rfl BJ (fun y _=>Bq y) (fun _=>rfl) BK (by rw [kX];exact Hl2.out) (by decide) ?_;intro v23 vY iD;rw [← OD] at iD;obtain ⟨iV,c10,e10⟩:=(iD.ow (3 * j + 2 + 5) (ZY (by show _ < _;have:=bM (qG B mG.out (j:=2) rfl);simp only [ZV];omega))).len;rw [kX] at e10;subst e10;have jC:Mem w vY (.loc U #[.int .i64 k] 3::.loc V #[.int .i64 t.no] 3::.aJ kW X1 (iH (heads cc (k + 1)))::.sl ay (some ⟨pb,po,none⟩) row::.own ig B 107 (.slice (some ⟨g,0,none⟩) aI.length c1) aI::iG B (aI.set j (⟨q.key,A9,c9,q.aC++[t.no],q.B,q.b,q.ids,iV,c10,q.at'++[k]⟩:MQ))):=by
        have e:=Bz B (k:=j) (j:=2) (q:=(⟨q.key,A9,c9,q.aC++[t.no],q.B,q.b,q.ids,q.C,q.c,q.at'⟩:MQ)) (q':=⟨q.key,A9,c9,q.aC++[t.no],q.B,q.b,q.ids,iV,c10,q.at'++[k]⟩) (c:=.own ay B 3 (.slice iV (q.at'++[k]).length c10) (iL (q.at'++[k]))) (by decide) mG.out rfl;rw [ZB] at e;rw [← e];exact iD
       clear gy BJ BK iD;go_wp2_with fail
       refine ⟨HC.out _ _ _ _ (Mem.drop2 jC),?_⟩;replace jC:=Mem.drop2 jC;have hC2:=HC.out _ _ _ _ jC;refine dN ?_;have c2:=hC2.1;have c4:=hC2.2.1;have f2:=((jC.ow 2 rfl).ny rfl j q Hq.out).2 2 (by decide);have f4:=((jC.ow 2 rfl).ny rfl j q Hq.out).2 4 (by decide);have T1:=jC.put ru 2 rfl rfl j q (⟨q.key,A9,c9,q.aC++[t.no],q.B,q.b,q.ids,q.C,q.c,q.at'⟩:MQ) Hq.out 2 (by decide) (.slice A9 (q.aC++[t.no]).length c9) rfl;replace T1:Mem w (vY.setCell ⟨g,j * 5 + 2,none⟩ (.slice A9 (q.aC++[t.no]).length c9)) (.aJ kW X1 (iH (heads cc (k + 1)))::.sl ay (some ⟨pb,po,none⟩) row::.own ig B 107 (.slice (some ⟨g,0,none⟩) aI.length c1) (aI.set j (⟨q.key,A9,c9,q.aC++[t.no],q.B,q.b,q.ids,q.C,q.c,q.at'⟩:MQ))::iG B (aI.set j (⟨q.key,A9,c9,q.aC++[t.no],q.B,q.b,q.ids,iV,c10,q.at'++[k]⟩:MQ))):=T1;refine BG rfl rfl (fun K9 hK9=>?_);clear hC2;go_wp2_with fail
       refine ⟨trivial,?_⟩;clear c2 c4 f2 f4 jC;rw [Z4,ZA] at T1;generalize vY.setCell _ _=w20 at *;refine dN ?_;have d4:=((T1.ow 2 rfl).ny (by rw [ZU]) j _ mG.out).1.2.2.2.2;have f4:=((T1.ow 2 rfl).ny (by rw [ZU]) j _ mG.out).2 4 (by decide);have T2:=T1.put ru 2 rfl (by rw [ZU]) j (⟨q.key,A9,c9,q.aC++[t.no],q.B,q.b,q.ids,q.C,q.c,q.at'⟩:MQ) (⟨q.key,A9,c9,q.aC++[t.no],q.B,q.b,q.ids,iV,c10,q.at'++[k]⟩:MQ) mG.out 4 (by decide) (.slice iV (q.at'++[k]).length c10) rfl;rw [Y6,Y6,YH,ZB] at T2;rw [Z4,ZA] at T2;have HT2:=Z9 T2;clear T1 T2;refine gX rfl rfl (fun K9 hK9=>?_);go_wp2_with fail
       refine aF _ _ ?_;clear aF KK d4 f4;go_wp2_with fail
       go_meet;exact ⟨A9,c9,iV,c10,HT2.out⟩
      ·go_wp2_with fail
       obtain ⟨U,hU⟩:∃ U,U=w10.heap.size:=⟨_,rfl⟩;have dW:Mem w _ (.loc U #[.int .i64 k] 3::.loc V #[.int .i64 t.no] 3::.aJ kW X1 (iH (heads cc (k + 1)))::.sl ay (some ⟨pb,po,none⟩) row::.own ig B 107 (.slice (some ⟨g,0,none⟩) aI.length c1) aI::iG B aI):=(aZ.newAt #[.int .i64 k] 3 U hU).front;rw [← hU];clear hU aZ;generalize w10.alloc (.cells #[.int .i64 k] 3)=pW at *;refine ⟨HC.out _ _ _ _ (Mem.drop2 dW),?_⟩;refine gX rfl rfl (fun K9 hK9=>?_);have BH:∀ (p:Nat) (u:Value),([t.no].map (fun z=>[Value.int .i64 z])).flatten[p]? =some u→pW.cell? ((⟨V,0,none⟩:Addr).add p)=some u:=fun p u hu=>by
        have h0:=(dW.lv 1 rfl).cell 0 _ rfl;cases p with
        | zero=>simp at hu;subst hu;exact h0
        | succ p=>simp at hu
       have BI:B≤pW.heap.size:=by rw [Hb.out];exact dW.b.size
       refine dW.nJ lY (3 * j + 0 + 5) (qG B Hq.out rfl) xA rfl _ _ rfl [t.no] 1 1 rfl rfl ⟨V,0,none⟩ rfl BH (fun y _=>Bq y) (fun _=>rfl) BI tu.out (by decide) ?_;intro v16 w12 gy;obtain ⟨A9,c9,rfl⟩:=(gy.ow (3 * j + 0 + 5) (ZY (by show _ < _;have:=bM (qG B Hq.out (j:=0) rfl);simp only [ZV];omega))).len;have mG:Hid ((aI.set j (⟨q.key,A9,c9,q.aC++[t.no],q.B,q.b,q.ids,q.C,q.c,q.at'⟩:MQ))[j]? =some (⟨q.key,A9,c9,q.aC++[t.no],q.B,q.b,q.ids,q.C,q.c,q.at'⟩:MQ)):=ZY hjl;have vZ:Mem w w12 (.loc U #[.int .i64 k] 3::.loc V #[.int .i64 t.no] 3::.aJ kW X1 (iH (heads cc (k + 1)))::.sl ay (some ⟨pb,po,none⟩) row::.own ig B 107 (.slice (some ⟨g,0,none⟩) aI.length c1) aI::iG B (aI.set j (⟨q.key,A9,c9,q.aC++[t.no],q.B,q.b,q.ids,q.C,q.c,q.at'⟩:MQ))):=by
        rw [← Bz B (k:=j) (j:=0) (q:=q) (q':=⟨q.key,A9,c9,q.aC++[t.no],q.B,q.b,q.ids,q.C,q.c,q.at'⟩) (c:=.own ay B 3 (.slice A9 (q.aC++[t.no]).length c9) (q.aC++[t.no])) (by decide) Hq.out rfl];exact gy
       clear dW BH BI gy;go_wp2_with fail
       refine ⟨HC.out _ _ _ _ (Mem.drop2 vZ),?_⟩;refine gX rfl rfl (fun K9 hK9=>?_);have BJ:∀ (p:Nat) (u:Value),([(k:Int)].map (fun z=>[Value.int .i64 z])).flatten[p]? =some u→w12.cell? ((⟨U,0,none⟩:Addr).add p)=some u:=fun p u hu=>by
        have h0:=(vZ.lv 0 rfl).cell 0 _ rfl;cases p with
        | zero=>simp at hu;subst hu;exact h0
        | succ p=>simp at hu
       have BK:B≤w12.heap.size:=by rw [Hb.out];exact vZ.b.size
       refine vZ.nJ lY (3 * j + 2 + 5) (qG B mG.out rfl) xA rfl _ _ rfl [(k:Int)] 1 1 rfl rfl ⟨U,0,none⟩ rfl BJ (fun y _=>Bq y) (fun _=>rfl) BK (by rw [kX];exact Hl2.out) (by decide) ?_;intro v23 vY iD;rw [← OD] at iD;obtain ⟨iV,c10,e10⟩:=(iD.ow (3 * j + 2 + 5) (ZY (by show _ < _;have:=bM (qG B mG.out (j:=2) rfl);simp only [ZV];omega))).len;rw [kX] at e10;subst e10;have jC:Mem w vY (.loc U #[.int .i64 k] 3::.loc V #[.int .i64 t.no] 3::.aJ kW X1 (iH (heads cc (k + 1)))::.sl ay (some ⟨pb,po,none⟩) row::.own ig B 107 (.slice (some ⟨g,0,none⟩) aI.length c1) aI::iG B (aI.set j (⟨q.key,A9,c9,q.aC++[t.no],q.B,q.b,q.ids,iV,c10,q.at'++[k]⟩:MQ))):=by
        have e:=Bz B (k:=j) (j:=2) (q:=(⟨q.key,A9,c9,q.aC++[t.no],q.B,q.b,q.ids,q.C,q.c,q.at'⟩:MQ)) (q':=⟨q.key,A9,c9,q.aC++[t.no],q.B,q.b,q.ids,iV,c10,q.at'++[k]⟩) (c:=.own ay B 3 (.slice iV (q.at'++[k]).length c10) (iL (q.at'++[k]))) (by decide) mG.out rfl;rw [ZB] at e;rw [← e];exact iD
       clear vZ BJ BK iD;go_wp2_with fail
       refine ⟨HC.out _ _ _ _ (Mem.drop2 jC),?_⟩;replace jC:=Mem.drop2 jC;have hC2:=HC.out _ _ _ _ jC;refine dN ?_;have c2:=hC2.1;have c4:=hC2.2.1;have f2:=((jC.ow 2 rfl).ny rfl j q Hq.out).2 2 (by decide);have f4:=((jC.ow 2 rfl).ny rfl j q Hq.out).2 4 (by decide);have T1:=jC.put ru 2 rfl rfl j q (⟨q.key,A9,c9,q.aC++[t.no],q.B,q.b,q.ids,q.C,q.c,q.at'⟩:MQ) Hq.out 2 (by decide) (.slice A9 (q.aC++[t.no]).length c9) rfl;replace T1:Mem w (vY.setCell ⟨g,j * 5 + 2,none⟩ (.slice A9 (q.aC++[t.no]).length c9)) (.aJ kW X1 (iH (heads cc (k + 1)))::.sl ay (some ⟨pb,po,none⟩) row::.own ig B 107 (.slice (some ⟨g,0,none⟩) aI.length c1) (aI.set j (⟨q.key,A9,c9,q.aC++[t.no],q.B,q.b,q.ids,q.C,q.c,q.at'⟩:MQ))::iG B (aI.set j (⟨q.key,A9,c9,q.aC++[t.no],q.B,q.b,q.ids,iV,c10,q.at'++[k]⟩:MQ))):=T1;refine BG rfl rfl (fun K9 hK9=>?_);clear hC2;go_wp2_with fail
       refine ⟨trivial,?_⟩;clear c2 c4 f2 f4 jC;rw [Z4,ZA] at T1;generalize vY.setCell _ _=w20 at *;refine dN ?_;have d4:=((T1.ow 2 rfl).ny (by rw [ZU]) j _ mG.out).1.2.2.2.2;have f4:=((T1.ow 2 rfl).ny (by rw [ZU]) j _ mG.out).2 4 (by decide);have T2:=T1.put ru 2 rfl (by rw [ZU]) j (⟨q.key,A9,c9,q.aC++[t.no],q.B,q.b,q.ids,q.C,q.c,q.at'⟩:MQ) (⟨q.key,A9,c9,q.aC++[t.no],q.B,q.b,q.ids,iV,c10,q.at'++[k]⟩:MQ) mG.out 4 (by decide) (.slice iV (q.at'++[k]).length c10) rfl;rw [Y6,Y6,YH,ZB] at T2;rw [Z4,ZA] at T2;have HT2:=Z9 T2;clear T1 T2;refine gX rfl rfl (fun K9 hK9=>?_);go_wp2_with fail
       refine aF _ _ ?_;clear aF KK d4 f4;go_wp2_with fail
       go_meet;exact ⟨A9,c9,iV,c10,HT2.out⟩
     ·go_wp2_with fail
      obtain ⟨U,hU⟩:∃ U,U=wd.heap.size:=⟨_,rfl⟩;have aZ:Mem w _ (.loc U #[.int .i64 k] 3::.aJ kW X1 (iH (heads cc (k + 1)))::.sl ay (some ⟨pb,po,none⟩) row::.own ig B 107 (.slice (some ⟨g,0,none⟩) aI.length c1) aI::iG B aI):=(S9.newAt #[.int .i64 k] 3 U hU).front;rw [← hU];clear hU S9;generalize wd.alloc (.cells #[.int .i64 k] 3)=w10 at *;refine ⟨HC.out _ _ _ _ (Mem.drop1 aZ),?_⟩;refine gX rfl rfl (fun K9 hK9=>?_);go_wp2_with fail
      obtain ⟨V,hV⟩:∃ V,V=w10.heap.size:=⟨_,rfl⟩;have dW:Mem w _ (.loc V #[.int .i64 t.no] 3::.loc U #[.int .i64 k] 3::.aJ kW X1 (iH (heads cc (k + 1)))::.sl ay (some ⟨pb,po,none⟩) row::.own ig B 107 (.slice (some ⟨g,0,none⟩) aI.length c1) aI::iG B aI):=(aZ.newAt #[.int .i64 t.no] 3 V hV).front;rw [← hV];clear hV aZ;generalize w10.alloc (.cells #[.int .i64 t.no] 3)=pW at *;refine ⟨HC.out _ _ _ _ (Mem.drop2 dW),?_⟩;refine gX rfl rfl (fun K9 hK9=>?_);have BH:∀ (p:Nat) (u:Value),([t.no].map (fun z=>[Value.int .i64 z])).flatten[p]? =some u→pW.cell? ((⟨V,0,none⟩:Addr).add p)=some u:=fun p u hu=>by
       have h0:=(dW.lv 0 rfl).cell 0 _ rfl;cases p with
       | zero=>simp at hu;subst hu;exact h0
       | succ p=>simp at hu
      have BI:B≤pW.heap.size:=by rw [Hb.out];exact dW.b.size
      refine dW.nJ lY (3 * j + 0 + 5) (qG B Hq.out rfl) xA rfl _ _ rfl [t.no] 1 1 rfl rfl ⟨V,0,none⟩ rfl BH (fun y _=>Bq y) (fun _=>rfl) BI tu.out (by decide) ?_;intro v16 w12 gy;obtain ⟨A9,c9,rfl⟩:=(gy.ow (3 * j + 0 + 5) (ZY (by show _ < _;have:=bM (qG B Hq.out (j:=0) rfl);simp only [ZV];omega))).len;have mG:Hid ((aI.set j (⟨q.key,A9,c9,q.aC++[t.no],q.B,q.b,q.ids,q.C,q.c,q.at'⟩:MQ))[j]? =some (⟨q.key,A9,c9,q.aC++[t.no],q.B,q.b,q.ids,q.C,q.c,q.at'⟩:MQ)):=ZY hjl;have vZ:Mem w w12 (.loc V #[.int .i64 t.no] 3::.loc U #[.int .i64 k] 3::.aJ kW X1 (iH (heads cc (k + 1)))::.sl ay (some ⟨pb,po,none⟩) row::.own ig B 107 (.slice (some ⟨g,0,none⟩) aI.length c1) aI::iG B (aI.set j (⟨q.key,A9,c9,q.aC++[t.no],q.B,q.b,q.ids,q.C,q.c,q.at'⟩:MQ))):=by
       rw [← Bz B (k:=j) (j:=0) (q:=q) (q':=⟨q.key,A9,c9,q.aC++[t.no],q.B,q.b,q.ids,q.C,q.c,q.at'⟩) (c:=.own ay B 3 (.slice A9 (q.aC++[t.no]).length c9) (q.aC++[t.no])) (by decide) Hq.out rfl];exact gy
      clear dW BH BI gy;go_wp2_with fail
      refine ⟨HC.out _ _ _ _ (Mem.drop2 vZ),?_⟩;refine gX rfl rfl (fun K9 hK9=>?_);have BJ:∀ (p:Nat) (u:Value),([(k:Int)].map (fun z=>[Value.int .i64 z])).flatten[p]? =some u→w12.cell? ((⟨U,0,none⟩:Addr).add p)=some u:=fun p u hu=>by
       have h0:=(vZ.lv 1 rfl).cell 0 _ rfl;cases p with
       | zero=>simp at hu;subst hu;exact h0
       | succ p=>simp at hu
      have BK:B≤w12.heap.size:=by rw [Hb.out];exact vZ.b.size
      refine vZ.nJ lY (3 * j + 2 + 5) (qG B mG.out rfl) xA rfl _ _ rfl [(k:Int)] 1 1 rfl rfl ⟨U,0,none⟩ rfl BJ (fun y _=>Bq y) (fun _=>rfl) BK (by rw [kX];exact Hl2.out) (by decide) ?_;intro v23 vY iD;rw [← OD] at iD;obtain ⟨iV,c10,e10⟩:=(iD.ow (3 * j + 2 + 5) (ZY (by show _ < _;have:=bM (qG B mG.out (j:=2) rfl);simp only [ZV];omega))).len;rw [kX] at e10;subst e10;have jC:Mem w vY (.loc V #[.int .i64 t.no] 3::.loc U #[.int .i64 k] 3::.aJ kW X1 (iH (heads cc (k + 1)))::.sl ay (some ⟨pb,po,none⟩) row::.own ig B 107 (.slice (some ⟨g,0,none⟩) aI.length c1) aI::iG B (aI.set j (⟨q.key,A9,c9,q.aC++[t.no],q.B,q.b,q.ids,iV,c10,q.at'++[k]⟩:MQ))):=by
       have e:=Bz B (k:=j) (j:=2) (q:=(⟨q.key,A9,c9,q.aC++[t.no],q.B,q.b,q.ids,q.C,q.c,q.at'⟩:MQ)) (q':=⟨q.key,A9,c9,q.aC++[t.no],q.B,q.b,q.ids,iV,c10,q.at'++[k]⟩) (c:=.own ay B 3 (.slice iV (q.at'++[k]).length c10) (iL (q.at'++[k]))) (by decide) mG.out rfl;rw [ZB] at e;rw [← e];exact iD
      clear vZ BJ BK iD;go_wp2_with fail
      refine ⟨HC.out _ _ _ _ (Mem.drop2 jC),?_⟩;replace jC:=Mem.drop2 jC;have hC2:=HC.out _ _ _ _ jC;refine dN ?_;have c2:=hC2.1;have c4:=hC2.2.1;have f2:=((jC.ow 2 rfl).ny rfl j q Hq.out).2 2 (by decide);have f4:=((jC.ow 2 rfl).ny rfl j q Hq.out).2 4 (by decide);have T1:=jC.put ru 2 rfl rfl j q (⟨q.key,A9,c9,q.aC++[t.no],q.B,q.b,q.ids,q.C,q.c,q.at'⟩:MQ) Hq.out 2 (by decide) (.slice A9 (q.aC++[t.no]).length c9) rfl;replace T1:Mem w (vY.setCell ⟨g,j * 5 + 2,none⟩ (.slice A9 (q.aC++[t.no]).length c9)) (.aJ kW X1 (iH (heads cc (k + 1)))::.sl ay (some ⟨pb,po,none⟩) row::.own ig B 107 (.slice (some ⟨g,0,none⟩) aI.length c1) (aI.set j (⟨q.key,A9,c9,q.aC++[t.no],q.B,q.b,q.ids,q.C,q.c,q.at'⟩:MQ))::iG B (aI.set j (⟨q.key,A9,c9,q.aC++[t.no],q.B,q.b,q.ids,iV,c10,q.at'++[k]⟩:MQ))):=T1;refine BG rfl rfl (fun K9 hK9=>?_);clear hC2;go_wp2_with fail
      refine ⟨trivial,?_⟩;clear c2 c4 f2 f4 jC;rw [Z4,ZA] at T1;generalize vY.setCell _ _=w20 at *;refine dN ?_;have d4:=((T1.ow 2 rfl).ny (by rw [ZU]) j _ mG.out).1.2.2.2.2;have f4:=((T1.ow 2 rfl).ny (by rw [ZU]) j _ mG.out).2 4 (by decide);have T2:=T1.put ru 2 rfl (by rw [ZU]) j (⟨q.key,A9,c9,q.aC++[t.no],q.B,q.b,q.ids,q.C,q.c,q.at'⟩:MQ) (⟨q.key,A9,c9,q.aC++[t.no],q.B,q.b,q.ids,iV,c10,q.at'++[k]⟩:MQ) mG.out 4 (by decide) (.slice iV (q.at'++[k]).length c10) rfl;rw [Y6,Y6,YH,ZB] at T2;rw [Z4,ZA] at T2;have HT2:=Z9 T2;clear T1 T2;refine gX rfl rfl (fun K9 hK9=>?_);go_wp2_with fail
      refine aF _ _ ?_;clear aF KK d4 f4;go_wp2_with fail
      go_meet;exact ⟨A9,c9,iV,c10,HT2.out⟩
     --@xB
    case rest =>
     obtain ⟨A9,c9,iV,c10,aZ⟩:=hcut;obtain ⟨q2,hq2⟩:∃ q2:MQ,q2=⟨q.key,A9,c9,q.aC++[t.no],q.B,q.b,q.ids,iV,c10,q.at'++[k]⟩:=⟨_,rfl⟩;have gQ:Hid ((aI.set j q2)[j]? =some q2):=ZY hjl;rw [← hq2] at aZ;have ajW:Hid (q2.ids=q.ids):=by show _=_;rw [hq2]
     have ajX:=Z9 hq2;clear S8 HC hq2;obtain ⟨t0,l0,aci⟩:∃ t0 l0,t.ids=t0::l0:=by
      cases e:t.ids with
      | nil=>exact absurd e (Ho.out.ne t (Z7 Ht.out))
      | cons a b=>exact ⟨a,b,rfl⟩
     obtain ⟨ib,io,rfl⟩:∃ ib io,Ai=some ⟨ib,io,none⟩:=by
      have hi:=Hi.out;rw [aci] at hi;exact hi.block
     clear aci;have HC:Hid (∀ (w':World) (da db:Chunk) (cs':List Chunk),Mem w w' (da::db::.own ig B 107 (.slice (some ⟨g,0,none⟩) aI.length c1) (aI.set j q2)::cs') →
       w'.cell? ⟨g,j * 5 + 3,none⟩=some (.slice q2.B q2.ids.length q2.b)∧w'.cell? ⟨G,4,none⟩=some (.slice (some ⟨blk,off,none⟩) n c)∧w'.cell? ⟨blk,off + k * 5 + 3,none⟩=some (.slice (some ⟨ib,io,none⟩) t.ids.length ci)):=fun w' da db cs' Sx=>by
      have h1:=((Sx.ow 2 rfl).ny (by rw [ZU]) j q2 gQ.out).1;have h2:=(HG.out w' Sx.b).g.cell 4 _ rfl;rw [Hn.out] at h2;exact ⟨h1.2.2.2.1,h2,(Sx.b.cell (p:=⟨blk,off + k * 5 + 3,none⟩) Gy.out).trans OU.out⟩
     have oD:=HC.out _ _ _ _ aZ;go_upto_region 13 with fail
     clear oD;refine wJ [18] (fun w'=>w'.cell? ⟨g,j * 5 + 3,none⟩=some (.slice q2.B q2.ids.length q2.b)∧w'.cell? ⟨G,4,none⟩=some (.slice (some ⟨blk,off,none⟩) n c)∧w'.cell? ⟨blk,off + k * 5 + 3,none⟩=some (.slice (some ⟨ib,io,none⟩) t.ids.length ci)) (.p 0 (.p 1 (.p 2 (.p 3 (.p 4 (.q 5 (.p 6 (.p 7 (.p 8 (.q 9 (.p 10 (.p 11 (.p 12 (.q 13 (.e 14 (.p 15 (.p 16 (.p 17 (.b 18 .z))))))))))))))))))) (by kernel_rfl) (by kernel_rfl) (fun w' hd=>HC.out _ _ _ _ (aZ.below (hd.below _))) (fun KK aF wd hd=>?_);have dW:=aZ.below (hd.below _);clear hd aZ;refine dN ?_;refine jc (.slice q2.B q2.ids.length q2.b) rfl rfl rfl rfl (fun w' h=>eX rfl h.1) ?_;refine dN ?_;refine jc (.slice (some ⟨blk,off,none⟩) n c) rfl rfl rfl rfl (fun w' h=>eX rfl h.2.1) ?_;refine dN ?_;refine jc (.slice (some ⟨ib,io,none⟩) t.ids.length ci) rfl rfl rfl rfl (fun w' h=>eX rfl h.2.2) ?_;go_simp;have acj:B≤wd.heap.size:=by rw [Hb.out];exact dW.b.size
     have hcs:=(Hi.out.aK dW.b).Jc jg (fun _=>rfl);refine gX rfl rfl (fun K9 hK9=>?_);refine dW.nJ jg (3 * j + 1 + 3) (qG B gQ.out rfl) Bg rfl _ _ rfl t.ids t.ids.length ci rfl rfl ⟨ib,io,none⟩ rfl hcs (fun y _=>Bf y) (fun _=>rfl) acj (by rw [ajW.out];exact Ce.out) (by decide) ?_;intro v14 w12 gy;obtain ⟨UJ,c11,rfl⟩:=(gy.ow (3 * j + 1 + 3) (ZY (by show _ < _;have:=bM (qG B gQ.out (j:=1) rfl);simp only [ZV];omega))).len;obtain ⟨q3,hq3⟩:∃ q3:MQ,q3=⟨q2.key,q2.A,q2.a,q2.aC,UJ,c11,q2.ids++t.ids,q2.C,q2.c,q2.at'⟩:=⟨_,rfl⟩;have iD:Mem w w12 (.aJ kW X1 (iH (heads cc (k + 1)))::.sl ay (some ⟨pb,po,none⟩) row::.own ig B 107 (.slice (some ⟨g,0,none⟩) aI.length c1) (aI.set j q2)::iG B (aI.set j q3)):=by
      have e:=Bz B (k:=j) (j:=1) (q:=q2) (q':=q3) (c:=.own aO B 46 (.slice UJ (q2.ids++t.ids).length c11) (q2.ids++t.ids)) (by decide) gQ.out (by rw [hq3];rfl);rw [ZB] at e;rw [← e];exact gy
     have hC2:=HC.out _ _ _ _ iD;clear dW gy hcs acj;go_wp2_with fail
     refine ⟨hC2,?_⟩;refine dN ?_;have c3:=hC2.1;have f3:=((iD.ow 2 rfl).ny (by rw [ZU]) j q2 gQ.out).2 3 (by decide);have T1:=iD.put ru 2 rfl (by rw [ZU]) j q2 q3 gQ.out 3 (by decide) (.slice UJ (q2.ids++t.ids).length c11) (by rw [hq3];rfl);rw [Y6,Y6,YH,ZB,Z4] at T1;have HT1:=Z9 T1;have ajY:Hid (q3.raw=(q.key,q.aC++[jQ ts k],q.ids++cZ ts k,q.at'++[k])):=by
      show _=_;rw [hq3,ajX.out,ND Ht.out,Gg Ht.out];rfl
     clear T1 iD hC2 hq3;refine BG rfl rfl (fun K9 hK9=>?_);go_wp2_with fail
     refine ⟨trivial,?_⟩;refine rJ ?_;simp only [Exit.then];refine aF _ _ ?_;clear aF KK c3 f3;have HQ3:Hid ((aI.set j q3).map MQ.raw=lV r ts cc (k + 1)):=by
      show _=_;rw [UG.out,Zg,ajY.out]
     go_wp2_with fail
     go_roundw
     case rel=>exact ⟨k + 1,aI.set j q3,some ⟨g,0,none⟩,c1,by omega,by rw [ZU],by go_num,HQ3.out,by rw [ZU];exact HT1.out⟩
     case measure=>simp [intOf];omega
  ·obtain rfl:k=n:=by omega
   obtain ⟨rows,hrows⟩:∃ rows,lV r ts cc k=rows:=⟨_,rfl⟩;have hrl:ms.length=rows.length:=by
    have:=congrArg Zf HQ.out
    rw [ZW,hrows] at this;exact this
   have hml:ms.length≤k:=by
    rw [hrl,← hrows,lV,ZW];exact EO cc k
   have KN:Hid (∀ x∈rows,x.2.2.1.length≤1000000):=fun x hx=>by
    rw [← hrows] at hx;obtain ⟨h,_,rfl⟩:=List.mem_map.1 hx;have hf:=Ez (m:=10) (f:=cZ ts) (partAt cc k h) (ace Ho.out);have hp:=BZ cc k h;have hn2:=Ho.out.tb;rw [Hn.out] at hn2;show ((partAt cc k h).flatMap (cZ ts)).length≤1000000;omega
   have S3:Mem w wr (.own ig B 107 (.slice A4 ms.length c4) ms::iG B ms):=(S2.del 0).del 0;have HQ0:Hid (ms.map MQ.raw=(rows.take 0).map Gw++rows.drop 0):=by show _=_;rw [HQ.out,hrows];rfl
   have ajZ:=Z9 hrows;have Hrl:=Z9 hrl;obtain ⟨m,hm⟩:∃ m,ms.length=m:=⟨_,rfl⟩;rw [hm] at S3 hml hrl Hrl ⊢;have hms:=hm;have Hm:=Z9 hm;clear S2 HQ hrows hrl hlt hm hms;go_wp2_with fail
   go_loopw [100] (fun i wr=>∃ (p:Nat) (ms2:List MQ),p≤m∧i=.int .i64 p∧Hid (ms2.length=m)∧Hid (ms2.map MQ.raw=(rows.take p).map Gw++rows.drop p)∧Mem w wr (.own ig B 107 (.slice A4 m c4) ms2::iG B ms2)) (fun i _=>m - (intOf i).toNat)
   case atStart=>exact ⟨0,ms,ZN _,rfl,Hm.out,HQ0.out,S3⟩
   case round =>
    clear S3 HQ0 Hm;obtain ⟨p,ms2,hp,rfl,Hm,HQ,S3⟩:=hrel;by_cases hlt:p < m
    ·obtain ⟨g,cap4,eg,hcap4⟩:=(S3.ow 0 rfl).form (by have:=Hm.out;omega);simp only [Value.slice.injEq] at eg;obtain ⟨rfl,em,rfl⟩:=eg;clear em;obtain ⟨q,hq⟩:∃ q,ms2[p]? =some q:=⟨_,Z8 (by rw [Hm.out];exact hlt)⟩;obtain ⟨x,hx⟩:∃ x,rows[p]? =some x:=⟨_,Z8 (by rw [← Hrl.out];exact hlt)⟩;have Hq:=Z9 hq;have Hx:=Z9 hx;have hraw:q.raw=x:=by
      have h1:=congrArg (fun l=>l[p]?) HQ.out;simp only [ZT,hq,Zx] at h1;rw [ajG Gw (by rw [← Hrl.out];exact hlt),hx] at h1;exact Option.some.inj h1
     have hil:q.ids.length≤1000000:=by
      have:=KN.out x (Z7 hx)
      rw [← hraw] at this;exact this
     have aj0:=Z9 hraw;clear hq hx hraw;have d3:=((S3.ow 0 rfl).ny Hm.out.symm p q Hq.out).1.2.2.2.1;have hi1:(.own ig B 107 (.slice (some ⟨g,0,none⟩) m c4) ms2::iG B ms2)[3 * p + 1 + 1]? =some (.own aO B 46 (.slice q.B q.ids.length q.b) q.ids):=qG B Hq.out (j:=1) rfl;have J6:=Z9 (ahF S3 (3 * p + 1 + 1) hi1 hil);have MO:=Z9 hi1;clear hi1;go_wp2_with fail
     refine (J6.out).mono ?_;rintro e w4 ⟨rfl,ys,hperm,hord,S4⟩;have UK:=Z9 (ajU hperm hord);have hyl:ys.length≤1000000:=by rw [hperm.length_eq];exact hil
     have hln:=bM MO.out;have hi2:=ZY (a:=Chunk.own aO B 46 (.slice q.B q.ids.length q.b) ys) hln;have d4:=((S4.ow 0 rfl).ny Hm.out.symm p q Hq.out).1.2.2.2.1;have Hc:=Z9 (ajN (S4.PU _ hi2) hyl);have Gi:=Z9 hln;clear J6 hperm hord d3 S3 hi2 hln;go_wp2_with fail
     refine (Hc.out).mono ?_;rintro e w5 ⟨v5,rfl,S5⟩;obtain ⟨B5,b5,rfl⟩:=(S5.ow 0 rfl).len;have S6:=Mem.ajT (by rw [ZU];exact Gi.out) S5;rw [ZB,UK.out] at S6;rw [UK.out];obtain ⟨q5,hq5⟩:∃ q5:MQ,q5=⟨q.key,q.A,q.a,q.aC,B5,b5,sV q.ids,q.C,q.c,q.at'⟩:=⟨_,rfl⟩;have S7:Mem w w5 (.own ig B 107 (.slice (some ⟨g,0,none⟩) m c4) ms2::iG B (ms2.set p q5)):=by
      have e:=Bz B (k:=p) (j:=1) (q:=q) (q':=q5) (c:=.own aO B 46 (.slice B5 (sV q.ids).length b5) (sV q.ids)) (by decide) Hq.out (by rw [hq5];rfl);rw [← e];exact S6
     have d5:=((S7.ow 0 rfl).ny Hm.out.symm p q Hq.out).1.2.2.2.1;have f5:=((S7.ow 0 rfl).ny Hm.out.symm p q Hq.out).2 3 (by decide);have T1:=S7.put ru 0 rfl Hm.out.symm p q q5 Hq.out 3 (by decide) (.slice B5 (sV q.ids).length b5) (by rw [hq5];rfl);have HT1:=Z9 T1;have HQ5:Hid ((ms2.set p q5).map MQ.raw=(rows.take (p + 1)).map Gw++rows.drop (p + 1)):=by
      show _=_;rw [← ajF Gw Hx.out,Zg,HQ.out,← aj0.out,hq5];rfl
     clear S4 S5 S6 S7 T1 d4 Hc hq5 UK;go_wp2_with fail
     go_roundw
     case rel=>exact ⟨p + 1,ms2.set p q5,by omega,by go_num,by show _=_;rw [ZU];exact Hm.out,HQ5.out,HT1.out⟩
     case measure=>simp [intOf];omega
    ·obtain rfl:p=m:=by omega
     go_wp2_with fail
     go_ret;obtain ⟨A6,c6,e6,S6⟩:=(Mem.ajx (cs:=[.own ig B 107 (.slice A4 p c4) ms2]) S3).cO 0 rfl;rw [Hm.out] at e6;simp only [Value.slice.injEq,true_and] at e6;obtain ⟨rfl,rfl⟩:=e6;refine ⟨A4,c4,cc,ms2,by rw [Hm.out];rfl,HP.out,?_,S6⟩;show _=_;rw [HQ.out,Hn.out,ajZ.out,Hrl.out,Zp,List.drop_length,ZH]
end
end Go.Proofs.YtmkkppknaikjjaaGreatDoor
