/- Several texts in one: KeyOf, Memb, MembLaw, CompG, CompI, Tree, Members. -/
import Derived.Test.YtmkkppknaikjjaaGreatDoorPixT
import Derived.Test.YtmkkppknaikjjaaGreatDoorPixP
import Derived.Test.YtmkkppknaikjjaaGreatDoorPixJ
import Derived.Test.YtmkkppknaikjjaaGreatDoorPixQ
import Derived.Test.YtmkkppknaikjjaaGreatDoorPixW
import Derived.Test.YtmkkppknaikjjaaGreatDoorPixM
/- What (*group).keyOf returns: the first id of a touch that joins, else its first id. -/
namespace Go.Proofs.YtmkkppknaikjjaaGreatDoor
section
open Go Go.RowKit
theorem find_take_step {α:Type}{p:α→Bool}{l:List α}{k:Nat}{x:α}(h:(l.take k).find? p=none)(hx:l[k]? =some x):(l.take (k + 1)).find? p=if p x=true then some x else none:=by
 rw [take_snoc hx,List.find?_append,h];simp only [Option.none_or,List.find?_cons,List.find?_nil];cases p x <;> rfl
theorem find_of_take {α:Type}{p:α→Bool}{l:List α}{k:Nat}{x:α}(h:(l.take k).find? p=some x):l.find? p=some x:=by
 have e:l=l.take k++l.drop k:=(List.take_append_drop k l).symm;rw [e,List.find?_append,h];rfl
theorem loadIdV {w:World}{X:Nat}{a b:Value}(h:LV w X #[a,b] 46):(loadVar 46 ⟨X,0,none⟩).run Tryz.prog w=.ok (.agg #[a,b]) w:=by
 have c0:=h.all;go_simp
set_option maxHeartbeats 4000000 in
set_option maxRecDepth 100000 in
theorem keyOf_any (N:Nat→Prop)(G X:Nat)(r:Rul)(K W S A:Option Addr)(ck cw cs c:Nat)(ts:List Tch)(qs:List HQ)(t:Tch)(Ai Af:Option Addr)(ci cf:Nat)(w:World)(hG:Grp N w G X r K W S A ck cw cs c ts qs)(ho:RtOk r ts)(hI:Sl rId N w Ai t.ids)(hil:t.ids.length≤1000000)(hne:t.ids≠[]) :
  Calls Tryz.prog 115 #[.pointer (some ⟨G,0,none⟩),.agg (tcCs t Ai ci Af cf)] w fun e w'=>e=.returned (.agg #[.int .i64 (keyP r ts t).k,.string (keyP r ts t).t])∧Below w.heap.size w w':=by
 have HG:=Lib.hid (fun w' (h:Below w.heap.size w w')=>hG.keepB h);have HI:=Lib.hid (fun w' (h:Below w.heap.size w w')=>hI.keepB h);have Ho:=Lib.hid ho;have hlen:0 < t.ids.length:=List.length_pos_iff.2 hne;obtain ⟨R,HR⟩:∃ R,Hid (keyP r ts t=R):=⟨_,Lib.hid rfl⟩;rw [HR.out];clear hG hI ho hne;go_enter Tryz.func115,Tryz.ntmps115
 go_upto_region 1 with fail
 obtain ⟨T,hT⟩:∃ T,T=w.heap.size:=⟨_,rfl⟩;obtain ⟨Z,hZ⟩:∃ Z,Z=w.heap.size + 1:=⟨_,rfl⟩;have S:Mem w _ [.loc T (tcCs t Ai ci Af cf) 58,.loc Z #[.int .i64 0,.string ⟨#[]⟩] 46]:=((Mem.start w).newAt (tcCs t Ai ci Af cf) 58 T hT).newAt #[.int .i64 0,.string ⟨#[]⟩] 46 Z (by rw [alloc_size];exact hZ);rw [← hZ,← hT];clear hZ hT;generalize World.alloc _ _=w1 at S ⊢;have c0:=(S.lv 0 rfl).all;go_wp2_with fail
 clear c0;go_loopw [10] (fun i wr=>∃ k:Nat,k≤t.ids.length∧i=.int .i64 k∧Hid ((t.ids.take k).find? (joinsP r ts)=none)∧Mem w wr [.loc T (tcCs t Ai ci Af cf) 58,.loc Z #[.int .i64 0,.string ⟨#[]⟩] 46]) (fun i _=>t.ids.length - (intOf i).toNat)
 case atStart=>exact ⟨0,Nat.zero_le _,rfl,rfl,S⟩
 case round =>
  clear S;obtain ⟨k,hk,rfl,HF,S⟩:=hrel;by_cases hlt:k < t.ids.length
  ·obtain ⟨x,hx⟩:∃ x,t.ids[k]? =some x:=⟨_,List.getElem?_eq_getElem hlt⟩;obtain ⟨ib,io,rfl,hib,c0,c1⟩:=(HI.out wr S.b).idv k x hx;have HF2:=Lib.hid (find_take_step HF.out hx);clear hx HF;go_upto_region 4 with fail
   clear c0 c1;obtain ⟨Y,hY⟩:∃ Y,Y=wr.heap.size:=⟨_,rfl⟩;have S1:Mem w _ [.loc T (tcCs t (some ⟨ib,io,none⟩) ci Af cf) 58,.loc Z #[.int .i64 0,.string ⟨#[]⟩] 46,.loc Y #[.int .i64 x.k,.string x.t] 46]:=S.newAt #[.int .i64 x.k,.string x.t] 46 Y hY;rw [← hY];clear hY S;generalize wr.alloc (.cells #[.int .i64 x.k,.string x.t] 46)=w2 at *;have y0:=(S1.lv 2 rfl).all;obtain ⟨J,HJ⟩:∃ J,Hid (joinsP r ts x=J):=⟨_,Lib.hid rfl⟩;have Hj:=Lib.hid (joinsG_any N G X r K W S A ck cw cs c ts qs x w2 (HG.out w2 S1.b) Ho.out);rw [HJ.out] at Hj;go_wp2_with fail
   refine (Hj.out).mono ?_;rintro e w3 ⟨rfl,hl3⟩;have S3:=S1.below hl3;clear Hj hl3 S1 y0;rw [HJ.out] at HF2;cases J
   ·go_wp2_with fail
    go_roundw
    case rel=>exact ⟨k + 1,by omega,by go_num,HF2.out,S3.del 2⟩
    case measure=>simp [intOf];omega
   ·have y0:=(S3.lv 2 rfl).all;have z0:=(S3.lv 1 rfl).all;have S4:=(S3.set 1 0 (.int .i64 x.k) rfl).set 1 1 (.string x.t) rfl;have HS4:=Lib.hid S4;have hR:R=x:=by
     rw [← HR.out];unfold keyP;rw [find_of_take HF2.out];rfl
    subst hR;clear S3 S4;go_wp2_with fail
    exact bodyPost_ret (results_cell1 rfl rfl (loadIdV (HS4.out.lv 1 rfl))) rfl ⟨rfl,HS4.out.b⟩
  ·obtain rfl:k=t.ids.length:=by omega
   rw [List.take_length] at HF;obtain ⟨x,hx⟩:∃ x,t.ids[0]? =some x:=⟨_,List.getElem?_eq_getElem hlen⟩;obtain ⟨ib,io,rfl,hib,c0,c1⟩:=(HI.out wr S.b).idv 0 x hx;rw [Nat.zero_mul,Nat.add_zero] at c0;rw [Nat.zero_mul,Nat.add_zero] at c1;have y0:=(S.lv 0 rfl).all;have z0:=(S.lv 1 rfl).all;have S4:=(S.set 1 0 (.int .i64 x.k) rfl).set 1 1 (.string x.t) rfl;have HS4:=Lib.hid S4;have hR:R=x:=by
    rw [← HR.out];unfold keyP;rw [HF.out];cases h:t.ids with
    | nil=>rw [h] at hx;cases hx
    | cons y l=>rw [h] at hx;simpa using hx
   subst hR;clear S S4 hx;go_wp2_with fail
   exact bodyPost_ret (results_cell1 rfl rfl (loadIdV (HS4.out.lv 1 rfl))) rfl ⟨rfl,HS4.out.b⟩
end
section
open Go Go.RowKit
section
variable {α β:Type}
theorem fm3_get {f:α→List β}(h3:∀ q,(f q).length=3):∀ (qs:List α) (k j:Nat) (q:α) (c:β),qs[k]? =some q→(f q)[j]? =some c→(qs.flatMap f)[3 * k + j]? =some c
 | [],_,_,_,_,h,_=>by simp at h
 | a::r,0,j,q,c,h,hj=>by
  obtain rfl:a=q:=by simpa using h
  rw [List.flatMap_cons,Nat.mul_zero,Nat.zero_add,List.getElem?_append_left (lt_of_get hj)];exact hj
 | a::r,k + 1,j,q,c,h,hj=>by
  rw [List.flatMap_cons,List.getElem?_append_right (by rw [h3];omega),h3,show 3 * (k + 1) + j - 3=3 * k + j by omega];exact fm3_get h3 r k j q c (by simpa using h) hj
theorem fm3_set {f:α→List β}(h3:∀ q,(f q).length=3):∀ (qs:List α) (k j:Nat) (q':α) (c:β),j < 3→(∀ q,qs[k]? =some q→(f q).set j c=f q')→(qs.flatMap f).set (3 * k + j) c=(qs.set k q').flatMap f
 | [],_,_,_,_,_,_=>by simp
 | a::r,0,j,q',c,hj,h=>by
  rw [List.flatMap_cons,Nat.mul_zero,Nat.zero_add,List.set_append_left _ _ (by rw [h3];exact hj),h a rfl,List.set_cons_zero,List.flatMap_cons]
 | a::r,k + 1,j,q',c,hj,h=>by
  rw [List.flatMap_cons,List.set_append_right _ _ (by rw [h3];omega),h3,show 3 * (k + 1) + j - 3=3 * k + j by omega,fm3_set h3 r k j q' c hj (fun q hq=>h q (by simpa using hq)),List.set_cons_succ,List.flatMap_cons]
end
structure MQ where
 key:IdV
 A:Option Addr
 a:Nat
 tch:List Int
 B:Option Addr
 b:Nat
 ids:List IdV
 C:Option Addr
 c:Nat
 at':List Nat
def MQ.cells (q:MQ):List Value:=[.int .i64 q.key.k,.string q.key.t,.slice q.A q.tch.length q.a,.slice q.B q.ids.length q.b,.slice q.C q.at'.length q.c]
def rMQ:Rep MQ:=.flat 5 MQ.cells (fun _=>rfl)
theorem flatMQ:rMQ.Flat MQ.cells:=fun _ _ _ _=>Iff.rfl
theorem tyMemb:STy 103 107 rMQ.size 96 (.agg #[.int .i64 0,.string ⟨#[]⟩,.slice none 0 0,.slice none 0 0,.slice none 0 0]):=⟨Tryz.underlying103,by kernel_rfl,rfl,by decide⟩
theorem oneMQ (q:MQ):∀ u∈q.cells,u.oneCell'=true:=fun u hu=>by
 simp only [MQ.cells,List.mem_cons,List.not_mem_nil,or_false] at hu;rcases hu with rfl | rfl | rfl | rfl | rfl <;> rfl
def mq3 (W:Nat)(q:MQ):List Chunk:=[.own rInt W 3 (.slice q.A q.tch.length q.a) q.tch,.own rId W 46 (.slice q.B q.ids.length q.b) q.ids,.own rInt W 3 (.slice q.C q.at'.length q.c) (iL q.at')]
theorem mq3_len (W:Nat)(q:MQ):(mq3 W q).length=3:=rfl
def mqs3 (W:Nat)(qs:List MQ):List Chunk:=qs.flatMap (mq3 W)
abbrev MQ.fresh (x:IdV):MQ:=⟨x,none,0,[],none,0,[],none,0,[]⟩
theorem Mem.fresh3 {w0 w:World}{cs:List Chunk}{W:Nat}{qs:List MQ}(S:Mem w0 w (cs++mqs3 W qs))(x:IdV):Mem w0 w (cs++mqs3 W (qs++[MQ.fresh x])):=by
 have S1:=((S.nil rInt W 3).nil rId W 46).nil rInt W 3;have e:cs++mqs3 W (qs++[MQ.fresh x])=cs++mqs3 W qs++[.own rInt W 3 (.slice none 0 0) []]++[.own rId W 46 (.slice none 0 0) []]++[.own rInt W 3 (.slice none 0 0) []]:=by
  unfold mqs3;rw [List.flatMap_append];simp [mq3,iL]
 rw [e];exact S1
theorem mqs3_get (W:Nat){qs:List MQ}{k j:Nat}{q:MQ}{c:Chunk}(h:qs[k]? =some q)(hj:(mq3 W q)[j]? =some c):(mqs3 W qs)[3 * k + j]? =some c:=fm3_get (mq3_len W) qs k j q c h hj
theorem mqs3_set (W:Nat){qs:List MQ}{k j:Nat}{q q':MQ}{c:Chunk}(hj:j < 3)(h:qs[k]? =some q)(he:(mq3 W q).set j c=mq3 W q'):(mqs3 W qs).set (3 * k + j) c=mqs3 W (qs.set k q') :=
 fm3_set (mq3_len W) qs k j q' c hj (fun p hp=>by rw [h] at hp;obtain rfl:=Option.some.inj hp;exact he)
def MdOk (M:Nat→Prop)(w:World)(qs:List MQ):Prop:=∀ q∈qs,Sl rInt M w q.A q.tch∧Sl rId M w q.B q.ids∧Sl rInt M w q.C (iL q.at')
def Chunk.mdat (qs:List MQ):Chunk :=
 ⟨none,fun M w=>MdOk M w qs,fun k hd _ h q hq=>⟨(h q hq).1.keep (k.mono hd),(h q hq).2.1.keep (k.mono hd),(h q hq).2.2.keep (k.mono hd)⟩,
  fun hm h q hq=>⟨(h q hq).1.mono (fun k hk e=>(hm k hk e).resolve_right (by simp)),(h q hq).2.1.mono (fun k hk e=>(hm k hk e).resolve_right (by simp)),(h q hq).2.2.mono (fun k hk e=>(hm k hk e).resolve_right (by simp))⟩,fun _ _ e=>by cases e⟩
theorem Mem.outFrz {α:Type}{r:Rep α}{f:α→List Value}(hf:r.Flat f){w0 w:World}{cs ds:List Chunk}{B E:Nat}{A:Option Addr}{n c:Nat}{xs:List α}(S:Mem w0 w (cs++ds))(h:Chunk.own r B E (.slice A n c) xs∈ds):Sl r (Mut w0.heap.size cs) w A xs:=by
 have hmem:Chunk.own r B E (.slice A n c) xs∈cs++ds:=List.mem_append_right _ h;have ho:Own r (Mut w0.heap.size (cs++ds)) B E w (.slice A n c) xs:=S.ok _ hmem;have hs:=ho.slF hf;intro i x hx;obtain ⟨blk,off,l,e1,h1,_,h3,h4⟩:=hs i x hx;have h3':r.rel (Mut w0.heap.size cs) w x l:=(hf _ _ _ _).2 ((hf _ _ _ _).1 h3);refine ⟨blk,off,l,e1,h1,fun hm=>?_,h3',h4⟩;have hb:(Chunk.own r B E (.slice A n c) xs).blk=some blk:=by
  show (Value.slice A n c).ownBlock=some blk;rw [e1];rfl
 have hnew:=S.new _ hmem blk hb;rcases hm with hm | ⟨d,hd,e⟩
 ·omega
 ·exact (List.pairwise_append.1 S.sep).2.2 d hd _ h blk e hb
theorem Mem.frz3 {w0 w:World}{cs:List Chunk}{W:Nat}{qs:List MQ}(S:Mem w0 w (cs++mqs3 W qs)):Mem w0 w (cs++[.mdat qs]):=by
 refine S.swapFor (.mdat qs) rfl (fun q hq=>?_);have hm:∀ c∈mq3 W q,c∈mqs3 W qs:=fun c hc=>List.mem_flatMap.2 ⟨q,hq,hc⟩;exact ⟨S.outFrz flatInt (hm _ (.head _)),S.outFrz flatId (hm _ (.tail _ (.head _))),S.outFrz flatInt (hm _ (.tail _ (.tail _ (.head _))))⟩
theorem Own.mqAt {M:Nat→Prop}{B E g n cap:Nat}{w:World}{xs:List MQ}(h:Own rMQ M B E w (.slice (some ⟨g,0,none⟩) n cap) xs)(hn:n=xs.length)(k:Nat)(x:MQ)(hk:xs[k]? =some x) :
  (w.cell? ⟨g,k * 5,none⟩=some (.int .i64 x.key.k)∧w.cell? ⟨g,k * 5 + 1,none⟩=some (.string x.key.t)∧w.cell? ⟨g,k * 5 + 2,none⟩=some (.slice x.A x.tch.length x.a)∧w.cell? ⟨g,k * 5 + 3,none⟩=some (.slice x.B x.ids.length x.b)∧w.cell? ⟨g,k * 5 + 4,none⟩=some (.slice x.C x.at'.length x.c)) ∧
  ∀ j,j < 5→w.frozen? ⟨g,k * 5 + j,none⟩=false :=
 ⟨⟨(h.cellP flatMQ hn k x hk 0 _ rfl).1,(h.cellP flatMQ hn k x hk 1 _ rfl).1,(h.cellP flatMQ hn k x hk 2 _ rfl).1,(h.cellP flatMQ hn k x hk 3 _ rfl).1,(h.cellP flatMQ hn k x hk 4 _ rfl).1⟩,fun j hj=>by
  obtain ⟨u,hu⟩:∃ u,(MQ.cells x)[j]? =some u:=⟨_,List.getElem?_eq_getElem hj⟩;exact (h.cellP flatMQ hn k x hk j u hu).2⟩
theorem Sl.mq {N:Nat→Prop}{w:World}{A:Option Addr}{xs:List MQ}(h:Sl rMQ N w A xs)(k:Nat)(x:MQ)(hk:xs[k]? =some x):∃ blk off,A=some ⟨blk,off,none⟩∧blk < w.heap.size ∧
  w.cell? ⟨blk,off + k * 5,none⟩=some (.int .i64 x.key.k)∧w.cell? ⟨blk,off + k * 5 + 1,none⟩=some (.string x.key.t)∧w.cell? ⟨blk,off + k * 5 + 2,none⟩=some (.slice x.A x.tch.length x.a)∧w.cell? ⟨blk,off + k * 5 + 3,none⟩=some (.slice x.B x.ids.length x.b)∧w.cell? ⟨blk,off + k * 5 + 4,none⟩=some (.slice x.C x.at'.length x.c):=by
 obtain ⟨blk,off,l,e1,h1,_,h3,h4⟩:=h k x hk;obtain rfl:l=MQ.cells x:=h3;exact ⟨blk,off,e1,h1,h4 0 _ rfl,h4 1 _ rfl,h4 2 _ rfl,h4 3 _ rfl,h4 4 _ rfl⟩
end
section
open Go Go.RowKit
theorem heads_new {c:Nat→Nat}{k:Nat}(h:c k=k):heads c (k + 1)=heads c k++[k]:=by
 unfold heads;rw [List.range_succ,List.filter_append];simp [h]
theorem heads_old {c:Nat→Nat}{k:Nat}(h:c k≠k):heads c (k + 1)=heads c k:=by
 unfold heads;rw [List.range_succ,List.filter_append];simp [h]
theorem partAt_step (c:Nat→Nat)(k h:Nat):partAt c (k + 1) h=partAt c k h++(if c k=h then [k] else []):=by
 unfold partAt;rw [List.range_succ,List.filter_append];by_cases e:c k=h <;> simp [e]
theorem heads_mem {c:Nat→Nat}{k h:Nat}:h∈heads c k ↔ h < k∧c h=h:=by simp [heads]
theorem heads_nodup (c:Nat→Nat)(k:Nat):(heads c k).Nodup:=List.nodup_range.filter _
theorem heads_len (c:Nat→Nat)(k:Nat):(heads c k).length≤k:=by
 unfold heads;have:=List.length_filter_le (fun i=>c i==i) (List.range k)
 rw [List.length_range] at this;exact this
theorem part_nil {c:Nat→Nat}{k:Nat}(hle:∀ i,i < k→c i≤i):partAt c k k=[]:=by
 unfold partAt;rw [List.filter_eq_nil_iff];intro a ha;have h1:a < k:=by simpa using ha
 have h2:=hle a h1;simp;omega
theorem part_len (c:Nat→Nat)(k h:Nat):(partAt c k h).length≤k:=by
 unfold partAt;have:=List.length_filter_le (fun i=>c i==h) (List.range k)
 rw [List.length_range] at this;exact this
def keyAt (r:Rul)(l:List Tch)(i:Nat):IdV:=match l[i]? with | some t=>keyP r l t | none=>⟨0,⟨#[]⟩⟩
theorem keyAt_is {r:Rul}{l:List Tch}{i:Nat}{t:Tch}(h:l[i]? =some t):keyAt r l i=keyP r l t:=by unfold keyAt;rw [h]
theorem noAt_is {l:List Tch}{i:Nat}{t:Tch}(h:l[i]? =some t):noAt l i=t.no:=by unfold noAt;rw [h]
def mRow (r:Rul)(l:List Tch)(c:Nat→Nat)(k h:Nat):IdV×List Int×List IdV×List Nat:=(keyAt r l h,(partAt c k h).map (noAt l),(partAt c k h).flatMap (idsAt l),partAt c k h)
def mRows (r:Rul)(l:List Tch)(c:Nat→Nat)(k:Nat):List (IdV×List Int×List IdV×List Nat):=(heads c k).map (mRow r l c k)
def MQ.raw (q:MQ):IdV×List Int×List IdV×List Nat:=(q.key,q.tch,q.ids,q.at')
def rawSet (x:IdV×List Int×List IdV×List Nat):IdV×List Int×List IdV×List Nat:=(x.1,x.2.1,srtId x.2.2.1,x.2.2.2)
theorem mRow_other {r:Rul}{l:List Tch}{c:Nat→Nat}{k h:Nat}(e:c k≠h):mRow r l c (k + 1) h=mRow r l c k h:=by
 unfold mRow;rw [partAt_step,if_neg e,List.append_nil]
theorem mRow_same {r:Rul}{l:List Tch}{c:Nat→Nat}{k h:Nat}(e:c k=h):mRow r l c (k + 1) h=(keyAt r l h,(partAt c k h).map (noAt l)++[noAt l k],(partAt c k h).flatMap (idsAt l)++idsAt l k,partAt c k h++[k]):=by
 unfold mRow;rw [partAt_step,if_pos e,List.map_append,List.flatMap_append];simp
theorem step_new {r:Rul}{l:List Tch}{c:Nat→Nat}{k:Nat}{qs:List MQ}(hqs:qs.map MQ.raw=mRows r l c k)(hle:∀ i,i < k→c i≤i)(hk:c k=k) :
  mRows r l c (k + 1)=((qs++[MQ.fresh (keyAt r l k)]).map MQ.raw).set qs.length (keyAt r l k,[]++[noAt l k],[]++idsAt l k,[]++[k]):=by
 rw [List.map_append,List.set_append_right _ _ (by simp),List.length_map,Nat.sub_self,hqs];unfold mRows;rw [heads_new hk,List.map_append];congr 1
 ·refine List.map_congr_left fun h hh=>mRow_other ?_;have:=(heads_mem.1 hh).1
  omega
 ·rw [List.map_singleton,mRow_same hk,part_nil hle];rfl
theorem step_old {r:Rul}{l:List Tch}{c:Nat→Nat}{k j:Nat}{qs:List MQ}{q:MQ}(hqs:qs.map MQ.raw=mRows r l c k)(hk:c k≠k)(hj:(heads c k)[j]? =some (c k))(hq:qs[j]? =some q) :
  mRows r l c (k + 1)=(qs.map MQ.raw).set j (q.key,q.tch++[noAt l k],q.ids++idsAt l k,q.at'++[k]):=by
 have e1:q.raw=mRow r l c k (c k):=by
  have:=congrArg (fun m=>m[j]?) hqs
  simp only [mRows,List.getElem?_map,hq,hj,Option.map_some,Option.some.injEq] at this;exact this
 rw [hqs];unfold mRows;rw [heads_old hk];apply List.ext_getElem?;intro i;rw [List.getElem?_set,List.getElem?_map,List.getElem?_map];by_cases e:j=i
 ·subst e;rw [if_pos rfl,hj,if_pos (by rw [List.length_map];exact lt_of_get hj)];simp only [Option.map_some,Option.some.injEq];rw [mRow_same rfl];unfold MQ.raw mRow at e1;simp only [Prod.mk.injEq] at e1;obtain ⟨a1,a2,a3,a4⟩:=e1;rw [a1,a2,a3,a4]
 ·rw [if_neg e];cases hi:(heads c k)[i]? with
  | none=>rfl
  | some h =>
   simp only [Option.map_some,Option.some.injEq];refine mRow_other (fun e2=>e ?_);have hn:=List.pairwise_iff_getElem.1 (heads_nodup c k);obtain ⟨h1,e3⟩:=List.getElem?_eq_some_iff.1 hj;obtain ⟨h2,e4⟩:=List.getElem?_eq_some_iff.1 hi;rcases Nat.lt_trichotomy j i with h | h | h
   ·exact absurd (e3.trans (e2.trans e4.symm)) (hn j i h1 h2 h)
   ·exact h
   ·exact absurd (e4.trans (e2.symm.trans e3.symm)) (hn i j h2 h1 h)
def placeL (hs:List Nat):List (Int×Value):=hs.zipIdx.map fun p=>((p.1:Int),Value.int .i64 (p.2:Nat))
theorem placeL_keys (hs:List Nat):(placeL hs).map Prod.fst=hs.map Int.ofNat:=by
 unfold placeL;rw [List.map_map];have:(Prod.fst ∘ fun p:Nat×Nat=>((p.1:Int),Value.int .i64 (p.2:Nat)))=Int.ofNat ∘ Prod.fst:=rfl
 rw [this,← List.map_map];congr 1
 apply List.ext_getElem?;intro i;rw [List.getElem?_map,List.getElem?_zipIdx];cases hs[i]? <;> rfl
theorem placeL_nd {hs:List Nat}(h:hs.Nodup):((placeL hs).map Prod.fst).Nodup:=by
 rw [placeL_keys];exact List.Pairwise.map _ (fun a b hab e=>hab (Int.ofNat.inj e)) h
theorem place_get {hs:List Nat}(hn:hs.Nodup){j h:Nat}(hj:hs[j]? =some h):getG (h:Int) (placeL hs)=some (Value.int .i64 (j:Nat)):=by
 refine (getG_at (placeL_nd hn) (j:=j) ?_).1;unfold placeL;rw [List.getElem?_map,List.getElem?_zipIdx,hj];simp
theorem place_none {hs:List Nat}{h:Nat}(hh:h ∉ hs):getG (h:Int) (placeL hs)=none:=by
 rw [getG_none,placeL_keys];intro e;obtain ⟨x,hx,e2⟩:=List.mem_map.1 e;exact hh (by rw [← Int.ofNat.inj e2];exact hx)
theorem place_add {hs:List Nat}{h:Nat}(hh:h ∉ hs):updG (h:Int) (Value.int .i64 (hs.length:Nat)) (placeL hs)=placeL (hs++[h]):=by
 rw [updG_new (getG_none.1 (place_none hh))];unfold placeL;rw [List.zipIdx_append,List.map_append];simp
theorem fin_step {α:Type}(d:α→α){rows:List α}{i:Nat}{x:α}(hx:rows[i]? =some x):((rows.take i).map d++rows.drop i).set i (d x)=(rows.take (i + 1)).map d++rows.drop (i + 1):=by
 have hi:=lt_of_get hx;have hl:((rows.take i).map d).length=i:=by rw [List.length_map,List.length_take];omega
 rw [List.set_append_right _ _ (by omega),hl,Nat.sub_self,take_snoc hx,List.map_append,List.append_assoc];congr 1
 rw [drop_at3 hx];rfl
theorem fin_get {α:Type}(d:α→α){rows:List α}{i:Nat}(hi:i < rows.length):((rows.take i).map d++rows.drop i)[i]? =rows[i]? :=by
 have hl:((rows.take i).map d).length=i:=by rw [List.length_map,List.length_take];omega
 rw [List.getElem?_append_right (by omega),hl,Nat.sub_self,List.getElem?_drop,Nat.add_zero]
def MQ.psn (q:MQ):Psn:=⟨q.key,q.tch,q.ids⟩
def IsMembs (r:Rul)(l:List Tch)(c:Nat→Nat)(qs:List MQ):Prop:=qs.map MQ.raw=(mRows r l c l.length).map rawSet
theorem IsMembs.are {r:Rul}{l:List Tch}{c:Nat→Nat}{qs:List MQ}(h:IsMembs r l c qs):qs.map MQ.psn=psns r l c:=by
 have e:qs.map MQ.psn=(qs.map MQ.raw).map (fun x=>(⟨x.1,x.2.1,x.2.2.1⟩:Psn)):=by rw [List.map_map];rfl
 rw [e,h];unfold mRows psns;rw [List.map_map,List.map_map];exact List.map_congr_left fun i _=>rfl
theorem IsPart.noOut {r:Rul}{l:List Tch}{c:Nat→Nat}(h:IsPart l.length (EdgeX r l none) c):IsPart l.length (Edge r l) c:=by
 have e:EdgeX r l none=Edge r l:=by
  funext i j
  unfold EdgeX Edge joinsX;simp
 rw [e] at h;exact h
end
section
open Go Go.RowKit
def cmpGB {α:Type}(c:α→α→Int)(prev:Option α)(x:α):Bool:= !(prev.any fun p=>decide (c x p=0))
def compG {α:Type}(c:α→α→Int)(prev:Option α):List α→List α
 | []=>[]
 | x::r=>(if cmpGB c prev x=true then [x] else [])++compG c (some x) r
theorem compG_snoc {α:Type}(c:α→α→Int):∀ (l:List α) (prev:Option α) (x:α),compG c prev (l++[x])=compG c prev l++(if cmpGB c (l.getLast?.or prev) x=true then [x] else [])
 | [],prev,x=>by
  show (if cmpGB c prev x=true then [x] else [])++[]=_;rw [List.append_nil];rfl
 | y::r,prev,x=>by
  rw [List.cons_append,compG,compG_snoc c r (some y) x,compG,List.append_assoc];congr 3
  rw [List.getLast?_cons];cases r.getLast? <;> rfl
theorem compG_take {α:Type}{c:α→α→Int}{l:List α}{j:Nat}{p x:α}(hp:l[j]? =some p)(hx:l[j + 1]? =some x):compG c none (l.take (j + 2))=compG c none (l.take (j + 1))++(if decide (c x p=0)=true then [] else [x]):=by
 rw [take_snoc hx,compG_snoc];congr 1
 have e:(l.take (j + 1)).getLast? =some p:=by
  rw [take_snoc hp,List.getLast?_concat]
 rw [e];have e2:cmpGB c ((some p).or none) x= !decide (c x p=0):=rfl;rw [e2];cases decide (c x p=0) <;> rfl
theorem compG_ord {α:Type}{c:α→α→Int}(ok:CmpOk c):∀ (l:List α) (prev:Option α),l.Pairwise (fun a b=>c a b≤0)→(∀ p,prev=some p→∀ x∈l,c p x≤0)→(compG c prev l).Pairwise (fun a b=>c a b < 0)∧(∀ p,prev=some p→∀ x∈compG c prev l,c p x < 0)∧(∀ x∈compG c prev l,x∈l)∧∀ x∈l,(∃ y∈compG c prev l,c y x=0)∨∃ p,prev=some p∧c p x=0
 | [],_,_,_=>⟨List.Pairwise.nil,(fun _ _ _ h=>by cases h),(fun _ h=>by cases h),(fun _ h=>by cases h)⟩
 | x::r,prev,ho,hp=>by
  obtain ⟨h1,h2⟩:=List.pairwise_cons.1 ho;obtain ⟨g1,g2,g3,g4⟩:=compG_ord ok r (some x) h2 (fun p e y hy=>by cases e;exact h1 y hy);have g2':=g2 x rfl;rw [compG];by_cases hb:cmpGB c prev x=true
  ·rw [if_pos hb];refine ⟨List.pairwise_cons.2 ⟨g2',g1⟩,fun p e y hy=>?_,fun y hy=>?_,fun y hy=>?_⟩
   ·subst e;have hpx:c p x < 0:=by
     have h3:=hp p rfl x (by simp);have h4:¬ c x p=0:=by simpa [cmpGB] using hb
     have h5:c p x≠0:=fun e=>h4 (ok.zero e);omega
    rcases List.mem_cons.1 hy with rfl | hy
    ·exact hpx
    ·exact ok.lt hpx (by have:=g2' y hy;omega)
   ·rcases List.mem_cons.1 hy with rfl | hy
    ·simp
    ·simp [g3 y hy]
   ·rcases List.mem_cons.1 hy with rfl | hy
    ·exact .inl ⟨y,by simp,ok.refl y⟩
    ·rcases g4 y hy with ⟨z,hz,e⟩ | ⟨p,e1,e2⟩
     ·exact .inl ⟨z,by simp [hz],e⟩
     ·cases e1;exact .inl ⟨x,by simp,e2⟩
  ·rw [if_neg hb,List.nil_append];obtain ⟨p,rfl,hpx⟩:∃ p,prev=some p∧c x p=0:=by
    cases prev with
    | none=>simp [cmpGB] at hb
    | some p=>exact ⟨p,rfl,by simpa [cmpGB] using hb⟩
   refine ⟨g1,fun p' e y hy=>?_,fun y hy=>by simp [g3 y hy],fun y hy=>?_⟩
   ·cases e;have h6:=g2' y hy;exact ok.lt' (a:=p) (b:=x) (by have:=ok.zero hpx;omega) h6
   ·rcases List.mem_cons.1 hy with rfl | hy
    ·exact .inr ⟨p,rfl,ok.zero hpx⟩
    ·rcases g4 y hy with ⟨z,hz,e⟩ | ⟨p',e1,e2⟩
     ·exact .inl ⟨z,hz,e⟩
     ·cases e1;exact .inr ⟨p,rfl,by have h7:=ok.zero hpx;have h8:=ok.trans p x y (by omega) (by omega);have h9:=ok.trans y x p (by have:=ok.zero e2;omega) (by omega);have h10:=ok.anti p y;omega⟩
structure CompGAt {α:Type} (c:α→α→Int) (xs ys:List α) (i j:Nat):Prop where
 len:ys.length=xs.length
 front:ys.take i=compG c none (xs.take j)
 rest:ys.drop (j - 1)=xs.drop (j - 1)
 le:i < j
theorem CompGAt.get {α:Type}{c:α→α→Int}{xs ys:List α}{i j:Nat}(h:CompGAt c xs ys i j){k:Nat}(hk:j≤k + 1):ys[k]? =xs[k]? :=by
 have h1:=congrArg (fun l:List α=>l[k - (j - 1)]?) h.rest;simp only [List.getElem?_drop] at h1;rw [show j - 1 + (k - (j - 1))=k by omega] at h1;exact h1
theorem CompGAt.skip {α:Type}{c:α→α→Int}{xs ys:List α}{i j:Nat}(h:CompGAt c xs ys i (j + 1)){p x:α}(hp:ys[j]? =some p)(hx:ys[j + 1]? =some x)(he:decide (c x p=0)=true):CompGAt c xs ys i (j + 2):=by
 have e1:=h.get (k:=j) (by omega);have e2:=h.get (k:=j + 1) (by omega);refine ⟨h.len,?_,?_,by have:=h.le;omega⟩
 ·rw [compG_take (e1 ▸ hp) (e2 ▸ hx),if_pos he,List.append_nil,h.front]
 ·have h1:=congrArg (List.drop 1) h.rest;rw [List.drop_drop,List.drop_drop] at h1;exact h1
theorem CompGAt.put {α:Type}{c:α→α→Int}{xs ys:List α}{i j:Nat}(h:CompGAt c xs ys i (j + 1)){p x:α}(hp:ys[j]? =some p)(hx:ys[j + 1]? =some x)(he:decide (c x p=0)=false):CompGAt c xs (ys.set i x) (i + 1) (j + 2):=by
 have e1:=h.get (k:=j) (by omega);have e2:=h.get (k:=j + 1) (by omega);have hle:=h.le;have hi:i < ys.length:=by have:=lt_of_get hx;omega
 refine ⟨by rw [List.length_set,h.len],?_,?_,by omega⟩
 ·rw [compG_take (e1 ▸ hp) (e2 ▸ hx),if_neg (by simp [he]),← h.front,List.take_set,take_snoc (x:=ys[i]) (List.getElem?_eq_getElem hi)];have hl:(ys.take i).length=i:=by rw [List.length_take];omega
  rw [List.set_append_right _ _ (by omega),hl,Nat.sub_self];simp
 ·rw [List.drop_set_of_lt (by omega)];have h1:=congrArg (List.drop 1) h.rest;rw [List.drop_drop,List.drop_drop] at h1;exact h1
end
section
open Go Go.RowKit Go.Sort
def GivesCompI (xs:List IdV)(B g cap:Nat)(w0:World)(cs:List Chunk)(e:Ending)(w':World):Prop :=
 e=.returned (.slice (some ⟨g,0,none⟩) (compG cmpId none xs).length cap)∧Mem w0 w' (.own rId B 46 (.slice (some ⟨g,0,none⟩) (compG cmpId none xs).length cap) (compG cmpId none xs)::cs)
theorem idAt2 {M:Nat→Prop}{B E g n cap:Nat}{w:World}{xs:List IdV}(h:Own rId M B E w (.slice (some ⟨g,0,none⟩) n cap) xs)(hn:n=xs.length)(k:Nat)(x:IdV)(hk:xs[k]? =some x) :
  (w.cell? ⟨g,k * 2,none⟩=some (.int .i64 x.k)∧w.cell? ⟨g,k * 2 + 1,none⟩=some (.string x.t))∧w.frozen? ⟨g,k * 2,none⟩=false∧w.frozen? ⟨g,k * 2 + 1,none⟩=false :=
 ⟨⟨(h.cellP flatId hn k x hk 0 _ rfl).1,(h.cellP flatId hn k x hk 1 _ rfl).1⟩,(h.cellP flatId hn k x hk 0 _ rfl).2,(h.cellP flatId hn k x hk 1 _ rfl).2⟩
theorem Mem.putId {w0 w:World}{cs:List Chunk}{B g n cap:Nat}{ys:List IdV}(S:Mem w0 w (.own rId B 46 (.slice (some ⟨g,0,none⟩) n cap) ys::cs))(hn:n=ys.length)(k:Nat)(x y:IdV)(hx:ys[k]? =some x) :
  Mem w0 ((w.setCell ⟨g,k * 2,none⟩ (.int .i64 y.k)).setCell ⟨g,k * 2 + 1,none⟩ (.string y.t)) (.own rId B 46 (.slice (some ⟨g,0,none⟩) n cap) (ys.set k y)::cs):=by
 have hk:=lt_of_get hx;have S1:Mem w0 (w.setCell ⟨g,k * 2,none⟩ (.int .i64 y.k)) (.own rId B 46 (.slice (some ⟨g,0,none⟩) n cap) (ys.set k ⟨y.k,x.t⟩)::cs):=S.put flatId 0 rfl hn k x ⟨y.k,x.t⟩ hx 0 (by decide) (.int .i64 y.k) rfl;have S2:=S1.put flatId 0 rfl (by rw [List.length_set];exact hn) k ⟨y.k,x.t⟩ y (by rw [List.getElem?_set_self hk]) 1 (by decide) (.string y.t) rfl;rw [List.set_cons_zero,List.set_set] at S2;exact S2
theorem zeroIdC (w:World):(zeroValue 46).run Tryz.prog w=.ok (.agg #[.int .i64 0,.string ⟨#[]⟩]) w:=by kernel_rfl
theorem oneZIdC:∀ j,j < rId.size→((Value.agg #[.int .i64 0,.string ⟨#[]⟩]).cells[j]!).oneCell'=true:=fun j hj=>by
 have hj:j < 2:=hj;rcases (show j=0∨j=1 by omega) with rfl | rfl <;> rfl
theorem id_cases (x p:IdV):(decide (cmpId x p=0)=true∧(x.k==p.k)=true∧(x.t.toList==p.t.toList)=true)∨(decide (cmpId x p=0)=false∧((x.k==p.k)=false∨((x.k==p.k)=true∧(x.t.toList==p.t.toList)=false))):=by
 by_cases h:x=p
 ·exact .inl ⟨by rw [h];exact decide_eq_true (cmpId_ok.refl p),by rw [h];simp,by rw [h];simp⟩
 ·refine .inr ⟨decide_eq_false (fun e=>h (cmpId_zero e)),?_⟩;by_cases h1:x.k=p.k
  ·refine .inr ⟨by simp [h1],?_⟩;cases e:(x.t.toList==p.t.toList) with
   | false=>rfl
   | true=>exact absurd (idv_eq h1 e) h
  ·exact .inl (by simpa using h1)
set_option maxHeartbeats 8000000 in
set_option maxRecDepth 100000 in
theorem compId_own {w0 w:World}{cs:List Chunk}{B g n cap:Nat}{xs:List IdV}(S:Mem w0 w (.own rId B 46 (.slice (some ⟨g,0,none⟩) n cap) xs::cs))(hn:n=xs.length)(hl:n≤1000000) :
  Calls Tryz.prog 117 #[.slice (some ⟨g,0,none⟩) n cap] w (GivesCompI xs B g cap w0 cs):=by
 have Hn:=Lib.hid hn;clear hn;by_cases h2:n < 2
 ·have Hx:Hid (compG cmpId none xs=xs):=by
   have hl2:xs.length < 2:=by have:=Hn.out;omega
   show _=_;match xs,hl2 with
   | [],_=>rfl
   | [x],_=>rfl
  go_enter Tryz.func117,Tryz.ntmps117
  go_wp2_with fail
  go_ret;refine ⟨?_,?_⟩
  ·rw [Hx.out,← Hn.out];rfl
  ·rw [Hx.out,← Hn.out];exact S
 ·go_enter Tryz.func117,Tryz.ntmps117
  go_wp2_with fail
  go_loopw [3] (fun s3 wr=>∃ k:Nat,s3=.int .i64 (k + 1:Nat)∧k + 1≤n∧Hid (compG cmpId none (xs.take (k + 1))=xs.take (k + 1))∧Mem w0 wr (.own rId B 46 (.slice (some ⟨g,0,none⟩) n cap) xs::cs)) (fun s3 _=>n - (intOf s3).toNat)
  case atStart =>
   refine ⟨0,by go_num,by omega,?_,S⟩;show _=_;have hl2:1≤xs.length:=by have:=Hn.out;omega
   match xs,hl2 with
   | x::r,_=>rfl
  case round =>
   clear S;obtain ⟨k,rfl,hk,HP,S⟩:=hrel;by_cases hlt:k + 1 < n
   ·obtain ⟨x,hx⟩:∃ x,xs[k + 1]? =some x:=⟨_,List.getElem?_eq_getElem (by have:=Hn.out;omega)⟩;obtain ⟨p,hp⟩:∃ p,xs[k]? =some p:=⟨_,List.getElem?_eq_getElem (by have:=Hn.out;omega)⟩;have Hx:=Lib.hid hx;have Hp:=Lib.hid hp;have HS:=Lib.hid S;obtain ⟨⟨d0,d1⟩,_⟩:=idAt2 (S.ow 0 rfl) Hn.out (k + 1) x hx;obtain ⟨⟨e0,e1⟩,_⟩:=idAt2 (S.ow 0 rfl) Hn.out k p hp;have Ht:=Lib.hid (compG_take (c:=cmpId) hp hx);clear hx hp S;rcases id_cases x p with ⟨he,hk0,hk1⟩ | ⟨he,hne⟩
    ·have HD:Hid (CompGAt cmpId xs xs (k + 1) (k + 2)):=by
      refine ⟨rfl,?_,rfl,by omega⟩;rw [Ht.out,HP.out,he,if_pos rfl,List.append_nil]
     have hcap:n≤cap:=by
      obtain ⟨g2,cap2,e2,h3⟩:=(HS.out.ow 0 rfl).form (by have:=Hn.out;omega);have:=Hn.out
      simp only [Value.slice.injEq] at e2;omega
     clear he HP Ht;go_upto_region 6 with fail
     go_quiet (fail)
     replace HS:=Lib.hid (HS.out.below (below_drewN _ wr nq));generalize wr.drewN nq=wa at *;clear d0 d1 e0 e1 hk0 hk1;go_upto_region 9 with fail
     obtain ⟨q,hq⟩:∃ q,k + 1=q:=⟨_,rfl⟩;have hq2:(k:Int) + 1=(q:Int):=by omega
     rw [hq2,hq];rw [hq,show k + 2=q + 1 by omega] at HD;have hqn:q < n:=by omega
     clear hq hq2 hk hlt h2 Hx Hp;go_loopw [3,5] (fun s3 s5 wr=>∃ (i m:Nat) (ys:List IdV),s3=.int .i64 i∧s5=.int .i64 (m + 1:Nat)∧q + m + 1≤n∧Hid (CompGAt cmpId xs ys i (q + m + 1))∧Mem w0 wr (.own rId B 46 (.slice (some ⟨g,0,none⟩) n cap) ys::cs)) (fun _ s5 _=>n - (intOf s5).toNat)
     case atStart=>exact ⟨q,0,xs,rfl,by go_num,by omega,HD,HS.out⟩
     case round =>
      clear HS HD;obtain ⟨i,m,ys,rfl,rfl,hm,HD,S⟩:=hrel;have hyl:Hid (n=ys.length):=by show _=_;have:=Hn.out;have:=HD.out.len;omega
      have hle:=HD.out.le;by_cases hlt:m + 1 < n - q
      ·obtain ⟨x,hx⟩:∃ x,ys[q + m + 1]? =some x:=⟨_,List.getElem?_eq_getElem (by have:=hyl.out;omega)⟩;obtain ⟨p,hp⟩:∃ p,ys[q + m]? =some p:=⟨_,List.getElem?_eq_getElem (by have:=hyl.out;omega)⟩;have Hx:=Lib.hid hx;have Hp:=Lib.hid hp;obtain ⟨⟨d0,d1⟩,_⟩:=idAt2 (S.ow 0 rfl) hyl.out (q + m + 1) x hx;obtain ⟨⟨e0,e1⟩,_⟩:=idAt2 (S.ow 0 rfl) hyl.out (q + m) p hp;rw [show (q + m + 1) * 2=q * 2 + (m + 1) * 2 by omega] at d0 d1;rw [show (q + m) * 2=q * 2 + m * 2 by omega] at e0 e1;have HS:=Lib.hid S;clear hx hp S;rcases id_cases x p with ⟨he,hk0,hk1⟩ | ⟨he,hne⟩
       ·have HD2:=Lib.hid (HD.out.skip Hp.out Hx.out he);clear he HD;go_wp2_with fail
        go_quiet (fail)
        go_wp2_with fail
        go_roundw
        case rel=>exact ⟨i,m + 1,ys,rfl,by go_num,by omega,HD2,HS.out.below (below_drewN _ _ _)⟩
        case measure=>simp [intOf];omega
       ·have HD2:=Lib.hid (HD.out.put Hp.out Hx.out he);clear he HD;obtain ⟨z,hz⟩:∃ z,ys[i]? =some z:=⟨_,List.getElem?_eq_getElem (by have:=hyl.out;omega)⟩;have Hz:=Lib.hid hz;clear hz;rcases hne with h0 | ⟨h0,h1⟩
        all_goals
         go_upto_region 11 with fail
         go_quiet (fail)
         replace HS:=Lib.hid (HS.out.below (below_drewN _ wr nq));generalize wr.drewN nq=wa at *;clear d0 d1 e0 e1;obtain ⟨⟨e0,e1⟩,f0,f1⟩:=idAt2 (HS.out.ow 0 rfl) hyl.out i z Hz.out;obtain ⟨⟨d0,d1⟩,_⟩:=idAt2 (HS.out.ow 0 rfl) hyl.out (q + m + 1) x Hx.out;rw [show (q + m + 1) * 2=q * 2 + (m + 1) * 2 by omega] at d0 d1;have HS8:=Lib.hid (HS.out.putId hyl.out i z x Hz.out);clear HS Hx Hp Hz;go_wp2_with fail
         go_roundw
         case rel=>exact ⟨i + 1,m + 1,ys.set i x,by go_num,by go_num,by omega,HD2,HS8.out⟩
         case measure=>simp [intOf];omega
      ·have HT:Hid (ys.take i=compG cmpId none xs):=by
        show _=_;rw [HD.out.front,List.take_of_length_le (by have:=Hn.out;omega)]
       have HTl:Hid (i=(compG cmpId none xs).length):=by show _=_;rw [← HT.out,List.length_take];have:=hyl.out;omega
       clear HD;go_wp2_with (refine S.clearTail 0 rfl hyl.out tyIdP zeroIdC oneZIdC i (cap - i) (by omega) rfl _ rfl (i * 2) (n - i) rfl rfl rfl ?_;intro w5 S5)
       go_ret;refine ⟨?_,?_⟩
       ·rw [← HTl.out];rfl
       ·rw [HT.out] at S5;rw [← HTl.out];exact S5
    ·have HP2:Hid (compG cmpId none (xs.take (k + 1 + 1))=xs.take (k + 1 + 1)):=by
      show _=_;rw [Ht.out,HP.out,he,if_neg (by simp),← take_snoc Hx.out]
     clear he HP Ht Hx Hp;rcases hne with h0 | ⟨h0,h1⟩
     all_goals
      go_wp2_with fail
      go_quiet (fail)
      go_wp2_with fail
      go_roundw
      case rel=>exact ⟨k + 1,by go_num,by omega,HP2,HS.out.below (below_drewN _ _ _)⟩
      case measure=>simp [intOf];omega
   ·have Hx:Hid (compG cmpId none xs=xs):=by
     have h3:=HP.out;rw [List.take_of_length_le (by have:=Hn.out;omega)] at h3;exact h3
    go_wp2_with fail
    go_ret;refine ⟨?_,?_⟩
    ·rw [Hx.out,← Hn.out];rfl
    ·rw [Hx.out,← Hn.out];exact S
theorem compId_any {w0 w:World}{cs:List Chunk}{B:Nat}{v:Value}{xs:List IdV}(S:Mem w0 w (.own rId B 46 v xs::cs))(hl:xs.length≤1000000) :
  Calls Tryz.prog 117 #[v] w fun e w'=>∃ v',e=.returned v'∧Mem w0 w' (.own rId B 46 v' (compG cmpId none xs)::cs):=by
 rcases (S.ow 0 rfl).shape2 with ⟨rfl,rfl⟩ | ⟨g,cap,rfl,_⟩
 ·have HS:=Lib.hid S;clear S;go_enter Tryz.func117,Tryz.ntmps117
  go_wp2_with fail
  go_ret;exact ⟨_,rfl,HS.out⟩
 ·refine (compId_own S rfl hl).mono ?_;rintro e w' ⟨rfl,S'⟩;exact ⟨_,rfl,S'⟩
end
section
open Go
section
variable {P:Program} {ops:Array Oper} {Q:Exit→Act→World→Prop} {md:Region.Mode} {C:World→Prop} {B:List Nat}
def brk (B:List Nat)(listed:Array Bool):Bool:=B.any fun b=>listed.getD b false
theorem brk_set {listed:Array Bool}{j:Nat}(h:j ∉ B):brk B (listed.setIfInBounds j true)=brk B listed:=by
 have hjb:∀ b∈B,j≠b:=fun b hb e=>h (by rw [e];exact hb);unfold brk;rw [Bool.eq_iff_iff,List.any_eq_true,List.any_eq_true];constructor
 ·rintro ⟨b,hb,e⟩;rw [getD_set_ne false (hjb b hb)] at e;exact ⟨b,hb,e⟩
 ·rintro ⟨b,hb,e⟩;exact ⟨b,hb,by rw [getD_set_ne false (hjb b hb)];exact e⟩
theorem brk_mono {listed:Array Bool}(j:Nat)(h:brk B listed=true):brk B (listed.setIfInBounds j true)=true:=by
 unfold brk at h ⊢;obtain ⟨b,hb,e⟩:=List.any_eq_true.1 h;exact List.any_eq_true.2 ⟨b,hb,getD_set_true e⟩
def waitsQ (md:Region.Mode)(ops:Array Oper)(listed:Array Bool)(i:Nat):Nat→Nat→Bool
 | 0,_=>false
 | n + 1,j=>match ops[j]? with
  | none=>true
  | some o=>o.after.any (fun e=>Region.binds md e && (decide (e.on=i) || (!(listed.getD e.on false) && waitsQ md ops listed i n e.on)))
theorem waitsQ_spec {listed:Array Bool}{i:Nat}(hun:listed.getD i true=false):∀ (n j:Nat),waitsQ md ops listed i n j=true→j ∉ Region.ready md ops listed
 | 0,_,h=>by cases h
 | n + 1,j,h=>by
  intro hr;obtain ⟨_,o,ho,hall⟩:=mem_ready.1 hr;unfold waitsQ at h;rw [ho] at h;obtain ⟨k,hk,he⟩:=Array.any_eq_true.1 h;simp only [Bool.and_eq_true,Bool.or_eq_true,decide_eq_true_eq] at he;have h1:=hall _ (Array.getElem_mem hk) he.1;rcases he.2 with he2 | he2
  ·rw [he2] at h1;exact listed_both h1 hun
  ·rw [h1] at he2;simp at he2
theorem waitsQ_step {listed:Array Bool}{i j:Nat}(hun:listed.getD i true=false)(hj:j∈Region.ready md ops listed):∀ (n b:Nat),waitsQ md ops listed i n b=true→waitsQ md ops (listed.setIfInBounds j true) i n b=true
 | 0,_,h=>by cases h
 | n + 1,b,h=>by
  unfold waitsQ at h ⊢;cases ho:ops[b]? with
  | none=>rfl
  | some o =>
   rw [ho] at h;obtain ⟨k,hk,he⟩:=Array.any_eq_true.1 h;refine Array.any_eq_true.2 ⟨k,hk,?_⟩;simp only [Bool.and_eq_true,Bool.or_eq_true,decide_eq_true_eq] at he ⊢;refine ⟨he.1,?_⟩;rcases he.2 with he2 | he2
   ·exact .inl he2
   ·right
    by_cases hjk:j=(o.after[k]).on
    ·exact absurd hj (by rw [hjk];exact waitsQ_spec hun n _ he2.2)
    ·rw [getD_set_ne false hjk];exact ⟨he2.1,waitsQ_step hun hj n _ he2.2⟩
def wpAnyB (P:Program)(md:Region.Mode)(ops:Array Oper)(B:List Nat)(C:World→Prop)(Q:Exit→Act→World→Prop):Nat→Array Bool→Act→World→Prop
 | 0,listed,a,w=>Region.ready md ops listed=[]∧Q .normal a w
 | fuel + 1,listed,a,w =>
  (Region.ready md ops listed=[]→Q .normal a w) ∧
  ∀ i∈Region.ready md ops listed,wpOp P ops Q i (fun a' w'=>(brk B (listed.setIfInBounds i true)=false→C w')∧wpAnyB P md ops B C Q fuel (listed.setIfInBounds i true) a' w') a w
theorem wpAny_of_B:∀ (fuel:Nat) (listed:Array Bool) (a:Act) (w:World),wpAnyB P md ops B C Q fuel listed a w→wpAny P md ops Q fuel listed a w
 | 0,_,_,_,h=>h
 | fuel + 1,_,_,_,h=>⟨h.1,fun i hi=>wpOp_mono (fun a' w' h'=>wpAny_of_B fuel _ a' w' h'.2) (h.2 i hi)⟩
theorem wpAnyB_first {i:Nat}{oi:Oper}{v:Value}{C':World→Prop}(hi:ops[i]? =some oi)(hsel:∀ (j:Nat) (o:Oper) cs b,ops[j]? =some o→o.op≠.select cs b)
  (hQ:∀ c a w,Q (.panic c) (a.put oi.dst v) w→Q (.panic c) a w) (br:Bool) (hC':∀ w,(br=false→C w)→C' w) :
  ∀ (fuel:Nat) (listed:Array Bool) (a:Act) (w:World),brk B listed=br→(br=false→i ∉ B∧C w∧∀ b∈B,waitsQ md ops listed i 12 b=true) →
   (∀ j oj,ops[j]? =some oj→j≠i→listed.getD j true=false→(∀ e∈oj.after,Region.binds md e=true→e.on≠i)→oi.apart ops oj=true) →
   i∈Region.ready md ops listed→YieldsM P ops C' oi v a →
   wpAnyB P md ops B C Q fuel (listed.setIfInBounds i true) (a.put oi.dst v) w→wpAnyB P md ops B C Q (fuel + 1) listed a w:=by
 intro fuel;induction fuel with
 | zero =>
  intro listed a w hbr hC _ hr hy H;refine ⟨fun h=>(by rw [h] at hr;cases hr),fun j hj=>?_⟩;by_cases hji:j=i
  ·subst hji;refine hy.wpOp hi (hC' w (fun h=>(hC h).2.1)) ⟨fun h=>?_,H⟩;cases hb:br with
   | false=>exact (hC hb).2.1
   | true=>rw [hb] at hbr;rw [brk_mono j hbr] at h;cases h
  ·have:=ready_mono hj hji
   rw [H.1] at this;cases this
 | succ fuel ih =>
  intro listed a w hbr hC hfree hr hy H;refine ⟨fun h=>(by rw [h] at hr;cases hr),fun j hj=>?_⟩;by_cases hji:j=i
  ·subst hji;refine hy.wpOp hi (hC' w (fun h=>(hC h).2.1)) ⟨fun h=>?_,H⟩;cases hb:br with
   | false=>exact (hC hb).2.1
   | true=>rw [hb] at hbr;rw [brk_mono j hbr] at h;cases h
  ·have h1:=H.2 j (ready_mono hj hji);obtain ⟨hjun,oj,hoj,hall⟩:=mem_ready.1 hj;have hiun:=(mem_ready.1 hr).1;have hnot:∀ e∈oj.after,Region.binds md e=true→e.on≠i:=fun e he hb heq=>by
    have h1:=hall e he hb;rw [heq] at h1;exact listed_both h1 hiun
   have hjB:br=false→j ∉ B:=fun hb hjb=>waitsQ_spec hiun 12 j ((hC hb).2.2 j hjb) hj;have h2:=wpOp_putM hoj (hfree j oj hoj hji hjun hnot) (fun cs b=>hsel i oi cs b hi) (fun cs b=>hsel j oj cs b hoj) hQ hy h1;have hfree':∀ k ok,ops[k]? =some ok→k≠i→(listed.setIfInBounds j true).getD k true=false →
     (∀ e∈ok.after,Region.binds md e=true→e.on≠i)→oi.apart ops ok=true:=fun k ok hk hki hun hno=>by
    refine hfree k ok hk hki ?_ hno;by_cases hjk:j=k
    ·subst hjk;exact hjun
    ·rw [getD_set_ne true hjk] at hun;exact hun
   have hbj:brk B (listed.setIfInBounds j true)=br:=by
    cases hb:br with
    | false=>rw [brk_set (hjB hb),hbr,hb]
    | true=>exact brk_mono j (by rw [hbr,hb])
   have hbij:brk B ((listed.setIfInBounds i true).setIfInBounds j true)=br:=by
    cases hb:br with
    | false=>rw [brk_set (hjB hb),brk_set (hC hb).1,hbr,hb]
    | true=>exact brk_mono j (brk_mono i (by rw [hbr,hb]))
   refine wpOp_mono (fun a' w' h3=>⟨fun h=>h3.2.1 (by rw [hbij,← hbj];exact h),ih (listed.setIfInBounds j true) a' w' hbj (fun hb=>⟨(hC hb).1,h3.2.1 (by rw [hbij];exact hb),fun b hbB=>waitsQ_step hiun hj 12 b ((hC hb).2.2 b hbB)⟩) hfree' (ready_mono hr (Ne.symm hji)) h3.1 ?_⟩) h2;rw [Array.setIfInBounds_comm _ _ hji];exact h3.2.2
theorem wpAnyB_pure {i:Nat}{oi:Oper}{v:Value}(hi:ops[i]? =some oi)(hiB:i ∉ B)(hsel:∀ (j:Nat) (o:Oper) cs b,ops[j]? =some o→o.op≠.select cs b)
  (hQ:∀ c a w,Q (.panic c) (a.put oi.dst v) w→Q (.panic c) a w) :
  ∀ (fuel:Nat) (listed:Array Bool) (a:Act) (w:World),(brk B listed=false→C w) →
   (∀ j oj,ops[j]? =some oj→j≠i→listed.getD j true=false→(∀ e∈oj.after,Region.binds md e=true→e.on≠i)→oi.apart ops oj=true) →
   i∈Region.ready md ops listed→YieldsM P ops (fun _=>True) oi v a →
   wpAnyB P md ops B C Q fuel (listed.setIfInBounds i true) (a.put oi.dst v) w→wpAnyB P md ops B C Q (fuel + 1) listed a w:=by
 intro fuel;induction fuel with
 | zero =>
  intro listed a w hC _ hr hy H;refine ⟨fun h=>(by rw [h] at hr;cases hr),fun j hj=>?_⟩;by_cases hji:j=i
  ·subst hji;exact hy.wpOp hi trivial ⟨fun h=>hC (by rw [← brk_set hiB];exact h),H⟩
  ·have:=ready_mono hj hji
   rw [H.1] at this;cases this
 | succ fuel ih =>
  intro listed a w hC hfree hr hy H;refine ⟨fun h=>(by rw [h] at hr;cases hr),fun j hj=>?_⟩;by_cases hji:j=i
  ·subst hji;exact hy.wpOp hi trivial ⟨fun h=>hC (by rw [← brk_set hiB];exact h),H⟩
  ·have h1:=H.2 j (ready_mono hj hji);obtain ⟨hjun,oj,hoj,hall⟩:=mem_ready.1 hj;have hiun:=(mem_ready.1 hr).1;have hnot:∀ e∈oj.after,Region.binds md e=true→e.on≠i:=fun e he hb heq=>by
    have h1:=hall e he hb;rw [heq] at h1;exact listed_both h1 hiun
   have h2:=wpOp_putM hoj (hfree j oj hoj hji hjun hnot) (fun cs b=>hsel i oi cs b hi) (fun cs b=>hsel j oj cs b hoj) hQ hy h1;have hfree':∀ k ok,ops[k]? =some ok→k≠i→(listed.setIfInBounds j true).getD k true=false →
     (∀ e∈ok.after,Region.binds md e=true→e.on≠i)→oi.apart ops ok=true:=fun k ok hk hki hun hno=>by
    refine hfree k ok hk hki ?_ hno;by_cases hjk:j=k
    ·subst hjk;exact hjun
    ·rw [getD_set_ne true hjk] at hun;exact hun
   have hbij:brk B ((listed.setIfInBounds i true).setIfInBounds j true)=brk B (listed.setIfInBounds j true):=by
    rw [Array.setIfInBounds_comm _ _ (Ne.symm hji),brk_set hiB]
   refine wpOp_mono (fun a' w' h3=>⟨fun h=>h3.2.1 (by rw [hbij];exact h),ih (listed.setIfInBounds j true) a' w' (fun h=>h3.2.1 (by rw [hbij];exact h)) hfree' (ready_mono hr (Ne.symm hji)) h3.1 ?_⟩) h2;rw [Array.setIfInBounds_comm _ _ hji];exact h3.2.2
inductive OrdT where
 | z
 | q (i:Nat) (r:OrdT)
 | p (i:Nat) (r:OrdT)
 | e (i:Nat) (r:OrdT)
 | b (i:Nat) (r:OrdT)
 | e2 (i:Nat) (r:OrdT) (j:Nat) (s:OrdT)
def OrdT.len:OrdT→Nat
 | .z=>0
 | .q _ r=>r.len + 1
 | .p _ r=>r.len + 1
 | .e _ r=>r.len + 1
 | .b _ r=>r.len + 1
 | .e2 _ r _ _=>r.len + 1
def wpOneT (P:Program)(ops:Array Oper)(C D:World→Prop)(Q:Exit→Act→World→Prop)(i:Nat)(K:Act→World→Prop)(a:Act)(w:World):Prop :=
 ∃ o,ops[i]? =some o∧(if Region.wanted o (yielded ops a.tmps)=true then o.wp P a w (fun a' w'=>D w'∧K a' w') Q else (C w→D w)∧K (a.put o.dst undef) w)
def wpMixT (P:Program)(ops:Array Oper)(Q:Exit→Act→World→Prop):(World→Prop)→OrdT→Act→World→Prop
 | _,.z,a,w=>Q .normal a w
 | C,.q i r,a,w=>∃ o v,ops[i]? =some o∧YieldsM P ops C o v a∧wpMixT P ops Q C r (a.put o.dst v) w
 | C,.p i r,a,w=>∃ o v,ops[i]? =some o∧YieldsM P ops (fun _=>True) o v a∧wpMixT P ops Q C r (a.put o.dst v) w
 | C,.e i r,a,w=>wpOneT P ops C C Q i (wpMixT P ops Q C r) a w
 | C,.b i r,a,w=>wpOneT P ops C (fun _=>True) Q i (wpMixT P ops Q (fun _=>True) r) a w
 | C,.e2 i r j s,a,w=>wpOneT P ops C C Q i (wpMixT P ops Q C r) a w∧wpOneT P ops C C Q j (wpMixT P ops Q C s) a w
def mixOkT (md:Region.Mode)(ops:Array Oper)(B:List Nat):Bool→OrdT→Array Bool→Bool
 | _,.z,listed=>(Region.ready md ops listed).isEmpty
 | br,.q i r,listed=>(Region.ready md ops listed).contains i && Region.free md ops listed i && (br || (decide (i ∉ B) && B.all fun b=>waitsQ md ops listed i 12 b)) && mixOkT md ops B br r (listed.setIfInBounds i true)
 | br,.p i r,listed=>(Region.ready md ops listed).contains i && Region.free md ops listed i && decide (i ∉ B) && mixOkT md ops B br r (listed.setIfInBounds i true)
 | br,.e i r,listed=>decide (Region.ready md ops listed=[i]) && (br || decide (i ∉ B)) && mixOkT md ops B br r (listed.setIfInBounds i true)
 | _,.b i r,listed=>decide (Region.ready md ops listed=[i]) && decide (i∈B) && decide (i < listed.size) && mixOkT md ops B true r (listed.setIfInBounds i true)
 | br,.e2 i r j s,listed=>decide (Region.ready md ops listed=[i,j]) && (br || decide (i ∉ B)) && mixOkT md ops B br r (listed.setIfInBounds i true) && (br || decide (j ∉ B)) && mixOkT md ops B br s (listed.setIfInBounds j true) && decide (s.len=r.len)
def clsB (br:Bool)(C:World→Prop):World→Prop:=if br=true then fun _=>True else C
theorem wpOneT_op {i:Nat}{n:Nat}{listed:Array Bool}{a:Act}{w:World}{D D':World→Prop}{K:Act→World→Prop}(hD:D w)(hob:∀ w,D' w→brk B (listed.setIfInBounds i true)=false→C w)
  (ih:∀ a' w',D' w'→K a' w'→wpAnyB P md ops B C Q n (listed.setIfInBounds i true) a' w') (h:wpOneT P ops D D' Q i K a w) :
  wpOp P ops Q i (fun a' w'=>(brk B (listed.setIfInBounds i true)=false→C w')∧wpAnyB P md ops B C Q n (listed.setIfInBounds i true) a' w') a w:=by
 obtain ⟨o,hi,h⟩:=h;unfold wpOp;simp only [hi];split
 ·rename_i hw;simp only [hw,if_true] at h;exact .inl (Oper.wp_mono (fun a' w' h'=>⟨hob w' h'.1,ih a' w' h'.1 h'.2⟩) h)
 ·rename_i hw;simp only [hw] at h;exact ⟨hob w (h.1 hD),ih _ _ (h.1 hD) h.2⟩
theorem wpAnyB_mixT (hs:Region.noSelect ops=true)(hQ:∀ c a w,¬ Q (.panic c) a w):∀ (l:OrdT) (br:Bool) (listed:Array Bool) (a:Act) (w:World),brk B listed=br→clsB br C w →
  mixOkT md ops B br l listed=true→wpMixT P ops Q (clsB br C) l a w→wpAnyB P md ops B C Q l.len listed a w
 | .z,br,listed,a,w,_,_,hB,h=>⟨by simpa [mixOkT] using hB,h⟩
 | .q i r,br,listed,a,w,hbr,hC,hB,h=>by
  obtain ⟨o,v,hi,hy,h⟩:=h;simp only [mixOkT,Bool.and_eq_true,Bool.or_eq_true,decide_eq_true_eq] at hB;obtain ⟨⟨⟨hr,hf⟩,hb⟩,hB'⟩:=hB;have hnb:br=false→i ∉ B∧∀ b∈B,waitsQ md ops listed i 12 b=true:=fun e=>by
   rcases hb with hb | hb
   ·rw [e] at hb;cases hb
   ·exact ⟨hb.1,fun b hbB=>List.all_eq_true.1 hb.2 b hbB⟩
  have hset:brk B (listed.setIfInBounds i true)=br:=by
   cases e:br with
   | false=>rw [brk_set (hnb e).1,hbr,e]
   | true=>exact brk_mono i (by rw [hbr,e])
  refine wpAnyB_first hi (Region.noSelect_spec hs) (fun c a w h=>absurd h (hQ c _ w)) br (C':=clsB br C) (fun w h=>?_) r.len listed a w hbr (fun e=>⟨(hnb e).1,?_,(hnb e).2⟩) (Region.free_spec hi hf) (by simpa using hr) hy
   (wpAnyB_mixT hs hQ r br _ _ w hset hC hB' h)
  ·unfold clsB;split
   ·trivial
   ·rename_i e;exact h (by simpa using e)
  ·unfold clsB at hC;rw [e,if_neg (by decide)] at hC;exact hC
 | .p i r,br,listed,a,w,hbr,hC,hB,h=>by
  obtain ⟨o,v,hi,hy,h⟩:=h;simp only [mixOkT,Bool.and_eq_true,decide_eq_true_eq] at hB;obtain ⟨⟨⟨hr,hf⟩,hb⟩,hB'⟩:=hB;refine wpAnyB_pure hi hb (Region.noSelect_spec hs) (fun c a w h=>absurd h (hQ c _ w)) r.len listed a w (fun e=>?_) (Region.free_spec hi hf) (by simpa using hr) hy
   (wpAnyB_mixT hs hQ r br _ _ w (by rw [brk_set hb,hbr]) hC hB' h)
  unfold clsB at hC;rw [← hbr,e,if_neg (by decide)] at hC;exact hC
 | .e i r,br,listed,a,w,hbr,hC,hB,h=>by
  simp only [mixOkT,Bool.and_eq_true,Bool.or_eq_true,decide_eq_true_eq] at hB;obtain ⟨⟨hr,hb⟩,hB'⟩:=hB;have hset:brk B (listed.setIfInBounds i true)=br:=by
   cases e:br with
   | false=>rw [brk_set (hb.resolve_left (by rw [e];decide)),hbr,e]
   | true=>exact brk_mono i (by rw [hbr,e])
  refine ⟨fun h0=>(by rw [h0] at hr;cases hr),fun j hj=>?_⟩;rw [hr,List.mem_singleton] at hj;subst hj;exact wpOneT_op hC (fun w hD e=>by rw [hset] at e;unfold clsB at hD;rw [e,if_neg (by decide)] at hD;exact hD) (fun a' w' hD h'=>wpAnyB_mixT hs hQ r br _ a' w' hset hD hB' h') h
 | .b i r,br,listed,a,w,hbr,hC,hB,h=>by
  simp only [mixOkT,Bool.and_eq_true,decide_eq_true_eq] at hB;obtain ⟨⟨⟨hr,hb⟩,hlt⟩,hB'⟩:=hB;have hset:brk B (listed.setIfInBounds i true)=true:=List.any_eq_true.2 ⟨i,hb,by simp [hlt]⟩;refine ⟨fun h0=>(by rw [h0] at hr;cases hr),fun j hj=>?_⟩;rw [hr,List.mem_singleton] at hj;subst hj;exact wpOneT_op hC (fun w _ e=>by rw [hset] at e;cases e) (fun a' w' _ h'=>wpAnyB_mixT hs hQ r true _ a' w' hset (by unfold clsB;rw [if_pos rfl];trivial) hB' (by unfold clsB;rw [if_pos rfl];exact h')) h
 | .e2 i r j s,br,listed,a,w,hbr,hC,hB,h=>by
  simp only [mixOkT,Bool.and_eq_true,Bool.or_eq_true,decide_eq_true_eq] at hB;obtain ⟨⟨⟨⟨⟨hr,hb1⟩,hB'⟩,hb2⟩,hB2⟩,hlen⟩:=hB;have hset:∀ k,(br=true∨k ∉ B)→brk B (listed.setIfInBounds k true)=br:=fun k hb=>by
   cases e:br with
   | false=>rw [brk_set (hb.resolve_left (by rw [e];decide)),hbr,e]
   | true=>exact brk_mono k (by rw [hbr,e])
  refine ⟨fun h0=>(by rw [h0] at hr;cases hr),fun k hk=>?_⟩;rw [hr] at hk;rcases List.mem_cons.1 hk with rfl | hk
  ·exact wpOneT_op hC (fun w hD e=>by rw [hset k hb1] at e;unfold clsB at hD;rw [e,if_neg (by decide)] at hD;exact hD) (fun a' w' hD h'=>wpAnyB_mixT hs hQ r br _ a' w' (hset k hb1) hD hB' h') h.1
  ·rw [List.mem_singleton] at hk;subst hk;refine wpOneT_op hC (fun w hD e=>by rw [hset k hb2] at e;unfold clsB at hD;rw [e,if_neg (by decide)] at hD;exact hD) (fun a' w' hD h'=>?_) h.2;have:=wpAnyB_mixT hs hQ s br _ a' w' (hset k hb2) hD hB2 h'
   rw [hlen] at this;exact this
theorem wp_region_mixT {id:Nat}{a:Act}{w:World}{l:List Oper}(B:List Nat)(C:World→Prop)(ord:OrdT)(hm:P.follows .mixedOrders=true)(hB:(Region.noSelect l.toArray && !(brk B (Array.replicate l.length false)) && mixOkT .any l.toArray B false ord (Array.replicate l.length false) && decide (ord.len=l.length))=true)
  (hC:∀ w1,Drewn w w1→C w1) (h:∀ K:Act→World→Prop,(∀ a' w',Q .normal a' w'→K a' w')→∀ w1,Drewn w w1→wpMixT P l.toArray (Exit.then K (fun _ _ _=>False)) C ord a w1):(Code.region id l.toArray true).wp P Q a w:=by
 simp only [Bool.and_eq_true,decide_eq_true_eq,Bool.not_eq_true'] at hB;obtain ⟨⟨⟨h1,h4⟩,h2⟩,h3⟩:=hB;have H:=h (fun a' w'=>Q .normal a' w') (fun _ _ h=>h) w.drew rfl;have H2:=wpAnyB_mixT (md:=.any) (C:=C) h1 (Q:=Exit.then (fun a' w'=>Q .normal a' w') (fun _ _ _=>False)) (fun _ _ _ h=>h) ord false (Array.replicate l.length false) a w.drew h4 (by unfold clsB;rw [if_neg (by decide)];exact hC _ rfl) h2 (by unfold clsB;rw [if_neg (by decide)];exact H);refine Code.wp_mono (Q:=Exit.then (fun a' w'=>Q .normal a' w') (fun _ _ _=>False)) (fun e a w q=>by cases e <;> first | exact q | exact q.elim) ?_;refine wp_region_any hm ?_;have H3:=wpAny_of_B _ _ _ _ H2;rw [h3] at H3;simpa using H3
theorem mixT_p {i:Nat}{r:OrdT}{o:Oper}{a:Act}{w:World}(hi:ops[i]? =some o)
  (h:∀ K:Act→Prop,(∀ a',wpMixT P ops Q C r a' w→K a')→if Region.wanted o (yielded ops a.tmps) then ∃ v,(∀ w,Oper.quietUpon P (fun w''=>w''=w) w v ((execOp a.eval o).run P w))∧K (a.put o.dst v) else K (a.put o.dst undef)) :
  wpMixT P ops Q C (.q i r) a w:=by
 have:=h (fun a'=>wpMixT P ops Q C r a' w) (fun _ h=>h)
 by_cases hw:Region.wanted o (yielded ops a.tmps)=true
 ·rw [if_pos hw] at this;obtain ⟨v,h1,h2⟩:=this;exact ⟨o,v,hi,.inl ⟨hw,fun w _=>h1 w⟩,h2⟩
 ·rw [if_neg hw] at this;exact ⟨o,undef,hi,.inr ⟨by simpa using hw,rfl⟩,this⟩
theorem mixT_pp {i:Nat}{r:OrdT}{o:Oper}{a:Act}{w:World}(hi:ops[i]? =some o)
  (h:∀ K:Act→Prop,(∀ a',wpMixT P ops Q C r a' w→K a')→if Region.wanted o (yielded ops a.tmps) then ∃ v,(∀ w,Oper.quietUpon P (fun w''=>w''=w) w v ((execOp a.eval o).run P w))∧K (a.put o.dst v) else K (a.put o.dst undef)) :
  wpMixT P ops Q C (.p i r) a w:=by
 have:=h (fun a'=>wpMixT P ops Q C r a' w) (fun _ h=>h)
 by_cases hw:Region.wanted o (yielded ops a.tmps)=true
 ·rw [if_pos hw] at this;obtain ⟨v,h1,h2⟩:=this;exact ⟨o,v,hi,.inl ⟨hw,fun w _=>h1 w⟩,h2⟩
 ·rw [if_neg hw] at this;exact ⟨o,undef,hi,.inr ⟨by simpa using hw,rfl⟩,this⟩
theorem mixT_loadR {i:Nat}{r:OrdT}{o:Oper}{a:Act}{w:World}{t:TypeId}{x:Operand}{p:Value}(v:Value)(hi:ops[i]? =some o)(hg:o.guard=none)(ho:o.op=.load t x)(hx:a.eval x=p)
  (hr:∀ w',C w'→(Instr.loadAt t p).run P w'=.ok v w') (h:wpMixT P ops Q C r (a.put o.dst v) w):wpMixT P ops Q C (.q i r) a w:=by
 refine ⟨o,v,hi,.inl ⟨by simp [Region.wanted,hg],fun w hC=>?_⟩,h⟩;have h2:=hr w hC;unfold execOp;simp only [ho,hx,Sem.run_bind,h2,Result.andThen_ok,Sem.run_pure,Oper.quietUpon,and_self]
theorem mixT_one {K0 K1:Act→World→Prop}{D:World→Prop}{i:Nat}{o:Oper}{a:Act}{w:World}(hi:ops[i]? =some o)(hg:o.guard=none)
  (h:∀ K:Act→World→Prop,(∀ a' w',(D w'∧K1 a' w')→K a' w')→wpList P ops (Exit.then K (fun _ _ _=>False)) [o] a w) :
  wpOneT P ops C D (Exit.then K0 (fun _ _ _=>False)) i K1 a w:=by
 have:=h _ (fun _ _ h=>h)
 have hw:Region.wanted o (yielded ops a.tmps)=true:=by simp [Region.wanted,hg]
 refine ⟨o,hi,?_⟩;rw [if_pos hw];exact wp_of_list hg this
theorem mixT_l {K0:Act→World→Prop}{i:Nat}{r:OrdT}{o:Oper}{a:Act}{w:World}(hi:ops[i]? =some o)(hg:o.guard=none)
  (h:∀ K:Act→World→Prop,(∀ a' w',(C w'∧wpMixT P ops (Exit.then K0 (fun _ _ _=>False)) C r a' w')→K a' w')→wpList P ops (Exit.then K (fun _ _ _=>False)) [o] a w) :
  wpMixT P ops (Exit.then K0 (fun _ _ _=>False)) C (.e i r) a w:=mixT_one hi hg h
theorem mixT_b {K0:Act→World→Prop}{i:Nat}{r:OrdT}{o:Oper}{a:Act}{w:World}(hi:ops[i]? =some o)(hg:o.guard=none)
  (h:∀ K:Act→World→Prop,(∀ a' w',(True∧wpMixT P ops (Exit.then K0 (fun _ _ _=>False)) (fun _=>True) r a' w')→K a' w')→wpList P ops (Exit.then K (fun _ _ _=>False)) [o] a w) :
  wpMixT P ops (Exit.then K0 (fun _ _ _=>False)) C (.b i r) a w:=mixT_one hi hg h
theorem mixT_2 {i j:Nat}{r s:OrdT}{a:Act}{w:World}(h1:wpOneT P ops C C Q i (wpMixT P ops Q C r) a w)(h2:wpOneT P ops C C Q j (wpMixT P ops Q C s) a w):wpMixT P ops Q C (.e2 i r j s) a w:=⟨h1,h2⟩
theorem mixT_nil {a:Act}{w:World}(h:Q .normal a w):wpMixT P ops Q C .z a w:=h
theorem mpT {R g:Prop}(h:R)(e:Kp R→g:=by intro h9;(repeat ((first | refine mixT_pp rfl (fun K hK=>?_) | refine mixT_p rfl (fun K hK=>?_));go_simp;(try go_bits);(try simp (disch:=omega) only [if_pos,if_neg,dif_pos,dif_neg]);(try go_simp);(refine hK _ ?_;clear hK K)));exact h9.out):g:=e ⟨h⟩
end
end
section
open Go Go.RowKit
def GivesMembs (r:Rul)(ts:List Tch)(w:World)(e:Ending)(w':World):Prop :=
 ∃ (A:Option Addr) (c:Nat) (cc:Nat→Nat) (qs:List MQ),e=.returned (.slice A qs.length c)∧IsPart ts.length (Edge r ts) cc∧IsMembs r ts cc qs∧Mem w w' [.sl rMQ A qs,.mdat qs]
theorem flat_len {α β:Type}{f:α→List β}{m:Nat}:∀ (l:List α),(∀ x,(f x).length≤m)→(l.flatMap f).length≤m * l.length
 | [],_=>by simp
 | x::r,h=>by
  have:=flat_len r h
  have:=h x
  rw [List.flatMap_cons,List.length_append,List.length_cons,Nat.mul_succ];omega
theorem idsAt_len {r:Rul}{ts:List Tch}(h:RtOk r ts)(i:Nat):(idsAt ts i).length≤10:=by
 unfold idsAt;cases e:ts[i]? with
 | none=>simp
 | some t=>exact h.ib t (List.mem_of_getElem? e)
theorem Mem.frontAt {w0 w:World}{cs:List Chunk}{c:Chunk}(S:Mem w0 w cs)(i:Nat)(hi:cs[i]? =some c):Mem w0 w (c::cs.eraseIdx i):=S.perm (by
 obtain ⟨h,rfl⟩:=List.getElem?_eq_some_iff.1 hi;exact (perm_erase cs i h).symm)
theorem Mem.backAt {w0 w:World}{cs:List Chunk}{c:Chunk}{i:Nat}(hi:i < cs.length)(S:Mem w0 w (c::cs.eraseIdx i)):Mem w0 w (cs.set i c):=S.perm (by
 have h:=perm_erase (cs.set i c) i (by rw [List.length_set];exact hi);rw [List.getElem_set_self,List.eraseIdx_set_eq] at h;exact h)
theorem comp_srt {l ys:List IdV}(hp:ys.Perm l)(ho:ys.Pairwise (fun a b=>cmpId a b≤0)):compG cmpId none ys=srtId l:=by
 obtain ⟨c1,_,c3,c4⟩:=compG_ord cmpId_ok ys none ho (fun _ e=>by cases e);refine srtId_is c1 (fun x=>?_);rw [← hp.mem_iff];constructor
 ·exact c3 x
 ·intro hx;rcases c4 x hx with ⟨z,hz',e⟩ | ⟨p,e,_⟩
  ·rw [← cmpId_zero e];exact hz'
  ·cases e
theorem Mem.drop1 {w0 w:World}{cs:List Chunk}{a:Chunk}(S:Mem w0 w (a::cs)):Mem w0 w cs:=S.del 0
theorem Mem.drop2 {w0 w:World}{cs:List Chunk}{a b:Chunk}(S:Mem w0 w (a::b::cs)):Mem w0 w cs:=(S.del 0).del 0
abbrev mCs (B X:Nat)(cc:Nat→Nat)(k:Nat)(Ap:Option Addr)(row:List Int)(V:Value)(ys qs:List MQ):List Chunk:=.mapG keyInt X (placeL (heads cc k))::.sl rInt Ap row::.own rMQ B 107 V ys::mqs3 B qs
set_option maxHeartbeats 8000000 in
set_option maxRecDepth 100000 in
theorem members_any (N:Nat→Prop)(G X:Nat)(r:Rul)(K W S A:Option Addr)(ck cw cs c:Nat)(ts:List Tch)(qs:List HQ)(w:World)(hG:Grp N w G X r K W S A ck cw cs c ts qs)(ho:RtOk r ts) :
  Calls Tryz.prog 55 #[.pointer (some ⟨G,0,none⟩)] w (GivesMembs r ts w):=by
 obtain ⟨n,hn⟩:∃ n,ts.length=n:=⟨_,rfl⟩;have Hn:=Lib.hid hn;have hl:=ho.tl;rw [hn] at hl;have HG:=Lib.hid (fun w' (h:Below w.heap.size w w')=>hG.keepB h);have Ho:=Lib.hid ho;have hmm:=@run_makeMap Tryz.prog;clear hG hn ho;obtain ⟨B,hB⟩:∃ B,B=w.heap.size:=⟨_,rfl⟩;obtain ⟨X1,hX1⟩:∃ X1,X1=w.heap.size:=⟨_,rfl⟩;have S0:Mem w (w.alloc (.map #[] 0)) [.mapG keyInt X1 []]:=(Mem.start w).newMapG keyInt X1 hX1;have Hp:=Lib.hid (parts_any N G X r K W S A ck cw cs c ts qs none (.pointer none) (w.alloc (.map #[] 0)) (HG.out _ S0.b) Ho.out rfl);have Hb:=Lib.hid hB;have HX1:=Lib.hid hX1;clear hX1 hB;go_enter Tryz.func55,Tryz.ntmps55
 go_upto_region 3 with fail
 rw [← HX1.out];generalize w.alloc (.map #[] 0)=w1 at *;clear hmm;go_wp2_with fail
 refine (Hp.out).mono ?_;rintro e w2 ⟨Ap,cap,cc,rfl,hpart,T⟩;rw [Hn.out];obtain ⟨row,hrow⟩:∃ row,iL (rowC n cc)=row:=⟨_,rfl⟩;have hrl:row.length=n:=by rw [← hrow,iL_len,rowC_len]
 rw [Hn.out,hrow] at T;have HP:Hid (IsPart ts.length (Edge r ts) cc):=hpart.noOut;have Hle:Hid (∀ i,i < n→cc i≤i):=fun i hi=>HP.out.le i (by rw [Hn.out];exact hi);have Hfix:Hid (∀ i,i < n→cc (cc i)=cc i):=fun i hi=>HP.out.fix (by rw [Hn.out];exact hi);have Hrow:Hid (∀ i,i < n→row[i]? =some (cc i:Int)):=fun i hi=>by rw [← hrow];exact iL_at (rowC_at hi)
 obtain ⟨A2,c2,e2,S1⟩:=(S0.join T).frz 1 rfl;rw [hrl] at e2;simp only [Value.slice.injEq,true_and] at e2;obtain ⟨rfl,rfl⟩:=e2;have S2:Mem w w2 (mCs B X1 cc 0 Ap row (.slice none 0 0) [] []):=S1.nil rMQ B 107;clear hpart T S0 S1 Hp hrow hrl;go_wp2_with fail
 go_loopw [4,15] (fun v i wr=>∃ (k:Nat) (qs:List MQ) (A4:Option Addr) (c4:Nat),k≤n∧v=.slice A4 qs.length c4∧i=.int .i64 k∧Hid (qs.map MQ.raw=mRows r ts cc k)∧Mem w wr (mCs B X1 cc k Ap row (.slice A4 qs.length c4) qs qs)) (fun _ i _=>n - (intOf i).toNat)
 case atStart=>exact ⟨0,[],none,0,Nat.zero_le _,rfl,rfl,rfl,S2⟩
 case round =>
  clear S2;obtain ⟨k,ms,A4,c4,hk,rfl,rfl,HQ,S2⟩:=hrel;by_cases hlt:k < n
  ·obtain ⟨t,ht⟩:∃ t,ts[k]? =some t:=⟨_,List.getElem?_eq_getElem (by rw [Hn.out];exact hlt)⟩;have Ht:=Lib.hid ht;have hck:=Hle.out k hlt;obtain ⟨pb,po,rfl,hpb,d0⟩:=(S2.slc 1 rfl).int k _ (Hrow.out k hlt);have hms:ms.length≤k:=by
    have:=congrArg List.length HQ.out
    rw [List.length_map] at this;rw [this,mRows,List.length_map];exact heads_len cc k
   go_upto_region 6 with fail
   clear d0;have hlk:∃ (v7:Value) (b8:Bool),(getG (cc k:Int) (placeL (heads cc k))).getD (.int .i64 0)=v7∧(getG (cc k:Int) (placeL (heads cc k))).isSome=b8∧((b8=false∧cc k=k)∨(b8=true∧cc k≠k∧∃ j,(heads cc k)[j]? =some (cc k)∧v7=.int .i64 (j:Nat))):=by
    by_cases hnew:cc k=k
    ·have hgn:=place_none (h:=cc k) (hs:=heads cc k) (fun h=>by have:=(heads_mem.1 h).1;omega);exact ⟨_,_,rfl,rfl,.inl ⟨by rw [hgn];rfl,hnew⟩⟩
    ·have hm:cc k∈heads cc k:=heads_mem.2 ⟨by omega,Hfix.out k hlt⟩;obtain ⟨j,hj⟩:=List.mem_iff_getElem?.1 hm;have hgn:=place_get (heads_nodup cc k) hj;exact ⟨_,_,rfl,rfl,.inr ⟨by rw [hgn];rfl,hnew,j,hj,by rw [hgn];rfl⟩⟩
   obtain ⟨v7,b8,h7,h8,hcase⟩:=hlk;have Hcase:=Lib.hid hcase;clear hcase;go_upto_if 27 with (at_lookup;refine S2.lookG 0 rfl (T:=181) (E:=3) (by kernel_rfl) (z:=.int .i64 0) (fun _=>rfl) rfl _ _ true rfl rfl (cc k:Int) rfl ?_;rw [h7,h8])
   clear h7 h8;have hsB:B≤wr.heap.size:=by rw [Hb.out];exact S2.b.size
   go_cut [4,7] (fun s4 s7 wx=>∃ (qs1:List MQ) (A1:Option Addr) (c1 j:Nat) (q:MQ),s4=.slice A1 qs1.length c1∧s7=.int .i64 j∧Hid (qs1[j]? =some q)∧Hid (mRows r ts cc (k + 1)=(qs1.map MQ.raw).set j (q.key,q.tch++[noAt ts k],q.ids++idsAt ts k,q.at'++[k]))∧qs1.length≤k + 1∧Mem w wx (mCs B X1 cc (k + 1) (some ⟨pb,po,none⟩) row (.slice A1 qs1.length c1) qs1 qs1))
   case first =>
    --@dev
    rcases Hcase.out with ⟨rfl,hnew⟩ | ⟨rfl,hold,j,hj,rfl⟩
    ·have Hnew:=Lib.hid hnew;clear hnew;go_upto_region 10 with (refine S2.putG 0 rfl (T:=181) (E:=3) (by kernel_rfl) rfl _ _ _ rfl rfl (cc k:Int) rfl (.int .i64 (ms.length:Nat)) rfl ?_;intro w4 S4)
     have hnew:=Hnew.out;rw [hnew] at S4;have hml:ms.length=(heads cc k).length:=by
      have:=congrArg List.length HQ.out
      rw [List.length_map] at this;rw [this,mRows,List.length_map]
     have hnot:k ∉ heads cc k:=fun h=>by have:=(heads_mem.1 h).1;omega
     have S5:Mem w w4 (mCs B X1 cc (k + 1) (some ⟨pb,po,none⟩) row (.slice A4 ms.length c4) ms ms):=by
      have e:=place_add hnot;rw [← hml] at e;show Mem w w4 (.mapG keyInt X1 (placeL (heads cc (k + 1)))::_);rw [show heads cc (k + 1)=heads cc k++[k] from heads_new hnew,← e];exact S4
     clear S4 S2 hml hnot hnew;have Hg4:=HG.out w4 S5.b;have z0:=Hg4.g.all;obtain ⟨blk,off,Ai,ci,Af,cf,hA,hblk,d0,d1,d2,d3,d4,hi,hf⟩:=Hg4.t.tch k t Ht.out;have hA2:=hA;rw [hA,Hn.out] at z0;have Hkey:=Lib.hid (keyOf_any N G X r K W S A ck cw cs c ts qs t Ai Af ci cf w4 Hg4 Ho.out hi (Ho.out.il t (List.mem_of_getElem? Ht.out)) (Ho.out.ne t (List.mem_of_getElem? Ht.out)));clear hi hf hA2 Hg4 hA;go_wp2_with fail
     refine (Hkey.out).mono ?_;rintro e w5 ⟨rfl,hl5⟩;have S6:=S5.below hl5;have hsB5:B≤w5.heap.size:=by rw [Hb.out];exact S6.b.size
     obtain ⟨ky,hky⟩:∃ ky,keyP r ts t=ky:=⟨_,rfl⟩;rw [hky];have Hky:Hid (keyAt r ts k=ky):=by show _=_;rw [keyAt_is Ht.out,hky]
     clear hky Hkey hl5 S5 d0 d1 d2 d3 d4 z0;go_wp2_with (at_builtin;refine S6.app 2 rfl tyMemb rfl _ _ rfl (MQ.fresh ky) 1 rfl rfl rfl (oneMQ (MQ.fresh ky)) hsB5 (by omega) (by decide) ?_;intro v' w7 S7;obtain ⟨A7,c7,rfl⟩:=(S7.ow 2 rfl).len)
     go_meet;have S8:Mem w w7 (mCs B X1 cc (k + 1) (some ⟨pb,po,none⟩) row (.slice A7 (ms++[MQ.fresh ky]).length c7) (ms++[MQ.fresh ky]) (ms++[MQ.fresh ky])):=Mem.fresh3 (cs:=[.mapG keyInt X1 (placeL (heads cc (k + 1))),.sl rInt (some ⟨pb,po,none⟩) row,.own rMQ B 107 (.slice A7 (ms++[MQ.fresh ky]).length c7) (ms++[MQ.fresh ky])]) S7 ky;refine ⟨ms++[MQ.fresh ky],A7,c7,ms.length,MQ.fresh ky,by rw [List.length_append];rfl,rfl,by show _=_;simp,?_,by simp;omega,S8⟩;have:=step_new HQ.out (fun i hi=>Hle.out i (by omega)) Hnew.out
     rw [Hky.out] at this;exact this
    ·have hjl:j < ms.length:=by
      have:=congrArg List.length HQ.out
      rw [List.length_map] at this;rw [this,mRows,List.length_map];exact lt_of_get hj
     obtain ⟨q,hq⟩:∃ q,ms[j]? =some q:=⟨_,List.getElem?_eq_getElem hjl⟩;go_wp2_with fail
     go_meet;refine ⟨ms,A4,c4,j,q,rfl,rfl,hq,step_old HQ.out hold hj hq,by omega,?_⟩;show Mem w wr (.mapG keyInt X1 (placeL (heads cc (k + 1)))::_);rw [heads_old hold];exact S2
    --@enddev
   case rest =>
    obtain ⟨qs1,A1,c1,j,q,rfl,rfl,Hq,HQ2,hql,S8⟩:=hcut;clear S2 HQ Hcase;obtain ⟨g,cap1,eg,hcap1⟩:=(S8.ow 2 rfl).form (by have:=lt_of_get Hq.out;omega);simp only [Value.slice.injEq] at eg;obtain ⟨rfl,_,rfl⟩:=eg;have hjl:=lt_of_get Hq.out;have hlen1:qs1.length=(mRows r ts cc (k + 1)).length:=by rw [HQ2.out,List.length_set,List.length_map]
    obtain ⟨Hl1,Hl2,Hl3⟩:Hid (q.tch.length + [t.no].length≤100000000)∧Hid (q.at'.length + [(k:Int)].length≤100000000)∧Hid (q.ids.length + t.ids.length≤100000000):=by
     have:=HQ2.out
     have h1:=congrArg (fun l=>l[j]?) this;simp only [List.getElem?_set_self (show j < (qs1.map MQ.raw).length by rw [List.length_map];exact hjl),mRows,List.getElem?_map] at h1;cases hh:(heads cc (k + 1))[j]? with
     | none=>rw [hh] at h1;cases h1
     | some h =>
      rw [hh] at h1;simp only [Option.map_some,Option.some.injEq,mRow,Prod.mk.injEq] at h1;have e1:=congrArg List.length h1.2.1;have e2:=congrArg List.length h1.2.2.2;have e3:=congrArg List.length h1.2.2.1;have hf:=flat_len (m:=10) (f:=idsAt ts) (partAt cc (k + 1) h) (idsAt_len Ho.out);rw [List.length_append,idsAt_is Ht.out] at e3;have hn2:=Ho.out.tb;rw [Hn.out] at hn2;have hp:=part_len cc (k + 1) h;simp only [List.length_map,List.length_append,List.length_singleton] at e1 e2;exact ⟨by show _≤_;simp only [List.length_singleton];omega,by show _≤_;simp only [List.length_singleton];omega,by show _≤_;omega⟩
    clear hlen1;obtain ⟨blk,off,Ai,ci,Af,cf,hA,hblk,_,_,_,d3,_,hi,_⟩:=(HG.out w (Below.refl _ _)).t.tch k t Ht.out;have Hd3:=Lib.hid d3;have Hi:=Lib.hid hi;have Hblk:=Lib.hid hblk;clear d3 hi hblk;have HC:Hid (∀ (w':World) (da db:Chunk) (cs':List Chunk),Mem w w' (da::db::.own rMQ B 107 (.slice (some ⟨g,0,none⟩) qs1.length c1) qs1::cs') →
      w'.cell? ⟨g,j * 5 + 2,none⟩=some (.slice q.A q.tch.length q.a)∧w'.cell? ⟨g,j * 5 + 4,none⟩=some (.slice q.C q.at'.length q.c)∧w'.cell? ⟨G,4,none⟩=some (.slice (some ⟨blk,off,none⟩) n c)∧w'.cell? ⟨blk,off + k * 5,none⟩=some (.int .i64 t.no)):=fun w' da db cs' Sx=>by
     have h1:=((Sx.ow 2 rfl).mqAt rfl j q Hq.out).1;have hg:=HG.out w' Sx.b;have h2:=hg.g.cell 4 _ rfl;rw [hA,Hn.out] at h2;obtain ⟨b2,o2,_,_,_,_,hA2,_,h3,_⟩:=hg.t.tch k t Ht.out;rw [hA] at hA2;simp only [Option.some.injEq,Addr.mk.injEq,and_true] at hA2;obtain ⟨rfl,rfl⟩:=hA2;exact ⟨h1.2.2.1,h1.2.2.2.2,h2,h3⟩
    subst hA;go_upto_region 12 with fail
    go_cut [50] (fun _ wx=>∃ (A9:Option Addr) (c9:Nat) (A10:Option Addr) (c10:Nat),Mem w wx (.mapG keyInt X1 (placeL (heads cc (k + 1)))::.sl rInt (some ⟨pb,po,none⟩) row::.own rMQ B 107 (.slice (some ⟨g,0,none⟩) qs1.length c1) (qs1.set j (⟨q.key,A9,c9,q.tch++[t.no],q.B,q.b,q.ids,A10,c10,q.at'++[k]⟩:MQ))::mqs3 B (qs1.set j (⟨q.key,A9,c9,q.tch++[t.no],q.B,q.b,q.ids,A10,c10,q.at'++[k]⟩:MQ))))
    case first =>
     --@dev
     refine wp_region_mixT [27] (fun w'=>w'.cell? ⟨g,j * 5 + 2,none⟩=some (.slice q.A q.tch.length q.a)∧w'.cell? ⟨g,j * 5 + 4,none⟩=some (.slice q.C q.at'.length q.c)∧w'.cell? ⟨G,4,none⟩=some (.slice (some ⟨blk,off,none⟩) n c)∧w'.cell? ⟨blk,off + k * 5,none⟩=some (.int .i64 t.no)) (.p 0 (.p 1 (.p 2 (.p 3 (.p 4 (.p 5 (.q 6 (.p 7 (.p 8 (.p 9 (.q 10 (.p 11 (.p 12 (.p 13 (.q 14 (.p 17 (.p 18 (.p 19 (.q 20 (.p 21 (.e2 15 (.e2 16 (.e 22 (.e 23 (.p 24 (.p 25 (.p 26 (.b 27 (.p 28 (.p 29 (.e 30 .z))))))))) 22 (.e 16 (.e 23 (.p 24 (.p 25 (.p 26 (.b 27 (.p 28 (.p 29 (.e 30 .z)))))))))) 22 (.e 15 (.e 16 (.e 23 (.p 24 (.p 25 (.p 26 (.b 27 (.p 28 (.p 29 (.e 30 .z))))))))))))))))))))))))))))))) (by kernel_rfl) (by kernel_rfl) (fun w' hd=>HC.out _ _ _ _ (S8.below (hd.below _))) (fun KK hKK wd hd=>?_);have S9:=S8.below (hd.below _);clear hd S8;refine mpT ?_;refine mixT_loadR (.slice q.A q.tch.length q.a) rfl rfl rfl rfl (fun w' h=>loadC rfl h.1) ?_;refine mpT ?_;refine mixT_loadR (.slice (some ⟨blk,off,none⟩) n c) rfl rfl rfl rfl (fun w' h=>loadC rfl h.2.2.1) ?_;refine mpT ?_;refine mixT_loadR (.int .i64 t.no) rfl rfl rfl rfl (fun w' h=>loadC rfl h.2.2.2) ?_;refine mpT ?_;refine mixT_loadR (.slice q.C q.at'.length q.c) rfl rfl rfl rfl (fun w' h=>loadC rfl h.2.1) ?_;refine mpT ?_;refine mixT_2 (mixT_one rfl rfl (fun K9 hK9=>?_)) (mixT_one rfl rfl (fun K9 hK9=>?_))
     ·go_wp2_with fail
      obtain ⟨V,hV⟩:∃ V,V=wd.heap.size:=⟨_,rfl⟩;have S10:Mem w _ (.loc V #[.int .i64 t.no] 3::.mapG keyInt X1 (placeL (heads cc (k + 1)))::.sl rInt (some ⟨pb,po,none⟩) row::.own rMQ B 107 (.slice (some ⟨g,0,none⟩) qs1.length c1) qs1::mqs3 B qs1):=(S9.newAt #[.int .i64 t.no] 3 V hV).front;rw [← hV];clear hV S9;generalize wd.alloc (.cells #[.int .i64 t.no] 3)=w10 at *;refine ⟨HC.out _ _ _ _ (Mem.drop1 S10),?_⟩;refine mixT_2 (mixT_one rfl rfl (fun K9 hK9=>?_)) (mixT_one rfl rfl (fun K9 hK9=>?_))
      ·have hcs16:∀ (p:Nat) (u:Value),([t.no].map (fun z=>[Value.int .i64 z])).flatten[p]? =some u→w10.cell? ((⟨V,0,none⟩:Addr).add p)=some u:=fun p u hu=>by
        have h0:=(S10.lv 0 rfl).cell 0 _ rfl;cases p with
        | zero=>simp at hu;subst hu;exact h0
        | succ p=>simp at hu
       have hB16:B≤w10.heap.size:=by rw [Hb.out];exact S10.b.size
       refine S10.appN flatInt (3 * j + 0 + 4) (mqs3_get B Hq.out rfl) tyIntP rfl _ _ rfl [t.no] 1 1 rfl rfl ⟨V,0,none⟩ rfl hcs16 (fun y _=>oneJ y) (fun _=>rfl) hB16 Hl1.out (by decide) ?_;intro v16 w11 S11;obtain ⟨A9,c9,rfl⟩:=(S11.ow (3 * j + 0 + 4) (List.getElem?_set_self (by show _ < _;have:=lt_of_get (mqs3_get B Hq.out (j:=0) rfl);simp only [List.length_cons];omega))).len;have Hq1:Hid ((qs1.set j (⟨q.key,A9,c9,q.tch++[t.no],q.B,q.b,q.ids,q.C,q.c,q.at'⟩:MQ))[j]? =some (⟨q.key,A9,c9,q.tch++[t.no],q.B,q.b,q.ids,q.C,q.c,q.at'⟩:MQ)):=List.getElem?_set_self hjl;have S11x:Mem w w11 (.loc V #[.int .i64 t.no] 3::.mapG keyInt X1 (placeL (heads cc (k + 1)))::.sl rInt (some ⟨pb,po,none⟩) row::.own rMQ B 107 (.slice (some ⟨g,0,none⟩) qs1.length c1) qs1::mqs3 B (qs1.set j (⟨q.key,A9,c9,q.tch++[t.no],q.B,q.b,q.ids,q.C,q.c,q.at'⟩:MQ))):=by
        rw [← mqs3_set B (k:=j) (j:=0) (q:=q) (q':=⟨q.key,A9,c9,q.tch++[t.no],q.B,q.b,q.ids,q.C,q.c,q.at'⟩) (c:=.own rInt B 3 (.slice A9 (q.tch++[t.no]).length c9) (q.tch++[t.no])) (by decide) Hq.out rfl];exact S11
       clear S10 hcs16 hB16 S11;go_wp2_with fail
       refine ⟨HC.out _ _ _ _ (Mem.drop1 S11x),?_⟩;refine mixT_l rfl rfl (fun K9 hK9=>?_);go_wp2_with fail
       obtain ⟨U,hU⟩:∃ U,U=w11.heap.size:=⟨_,rfl⟩;have S12:Mem w _ (.loc U #[.int .i64 k] 3::.loc V #[.int .i64 t.no] 3::.mapG keyInt X1 (placeL (heads cc (k + 1)))::.sl rInt (some ⟨pb,po,none⟩) row::.own rMQ B 107 (.slice (some ⟨g,0,none⟩) qs1.length c1) qs1::mqs3 B (qs1.set j (⟨q.key,A9,c9,q.tch++[t.no],q.B,q.b,q.ids,q.C,q.c,q.at'⟩:MQ))):=(S11x.newAt #[.int .i64 k] 3 U hU).front;rw [← hU];clear hU S11x;generalize w11.alloc (.cells #[.int .i64 k] 3)=w12 at *;refine ⟨HC.out _ _ _ _ (Mem.drop2 S12),?_⟩;refine mixT_l rfl rfl (fun K9 hK9=>?_);have hcs23:∀ (p:Nat) (u:Value),([(k:Int)].map (fun z=>[Value.int .i64 z])).flatten[p]? =some u→w12.cell? ((⟨U,0,none⟩:Addr).add p)=some u:=fun p u hu=>by
        have h0:=(S12.lv 0 rfl).cell 0 _ rfl;cases p with
        | zero=>simp at hu;subst hu;exact h0
        | succ p=>simp at hu
       have hB23:B≤w12.heap.size:=by rw [Hb.out];exact S12.b.size
       refine S12.appN flatInt (3 * j + 2 + 5) (mqs3_get B Hq1.out rfl) tyIntP rfl _ _ rfl [(k:Int)] 1 1 rfl rfl ⟨U,0,none⟩ rfl hcs23 (fun y _=>oneJ y) (fun _=>rfl) hB23 (by rw [iL_len];exact Hl2.out) (by decide) ?_;intro v23 w13 S13;rw [← iL_snoc] at S13;obtain ⟨A10,c10,e10⟩:=(S13.ow (3 * j + 2 + 5) (List.getElem?_set_self (by show _ < _;have:=lt_of_get (mqs3_get B Hq1.out (j:=2) rfl);simp only [List.length_cons];omega))).len;rw [iL_len] at e10;subst e10;have S13x:Mem w w13 (.loc U #[.int .i64 k] 3::.loc V #[.int .i64 t.no] 3::.mapG keyInt X1 (placeL (heads cc (k + 1)))::.sl rInt (some ⟨pb,po,none⟩) row::.own rMQ B 107 (.slice (some ⟨g,0,none⟩) qs1.length c1) qs1::mqs3 B (qs1.set j (⟨q.key,A9,c9,q.tch++[t.no],q.B,q.b,q.ids,A10,c10,q.at'++[k]⟩:MQ))):=by
        have e:=mqs3_set B (k:=j) (j:=2) (q:=(⟨q.key,A9,c9,q.tch++[t.no],q.B,q.b,q.ids,q.C,q.c,q.at'⟩:MQ)) (q':=⟨q.key,A9,c9,q.tch++[t.no],q.B,q.b,q.ids,A10,c10,q.at'++[k]⟩) (c:=.own rInt B 3 (.slice A10 (q.at'++[k]).length c10) (iL (q.at'++[k]))) (by decide) Hq1.out rfl;rw [List.set_set] at e;rw [← e];exact S13
       clear S12 hcs23 hB23 S13;go_wp2_with fail
       refine ⟨HC.out _ _ _ _ (Mem.drop2 S13x),?_⟩;replace S13x:=Mem.drop2 S13x;have hC2:=HC.out _ _ _ _ S13x;refine mpT ?_;have c2:=hC2.1;have c4:=hC2.2.1;have f2:=((S13x.ow 2 rfl).mqAt rfl j q Hq.out).2 2 (by decide);have f4:=((S13x.ow 2 rfl).mqAt rfl j q Hq.out).2 4 (by decide);have T1:=S13x.put flatMQ 2 rfl rfl j q (⟨q.key,A9,c9,q.tch++[t.no],q.B,q.b,q.ids,q.C,q.c,q.at'⟩:MQ) Hq.out 2 (by decide) (.slice A9 (q.tch++[t.no]).length c9) rfl;replace T1:Mem w (w13.setCell ⟨g,j * 5 + 2,none⟩ (.slice A9 (q.tch++[t.no]).length c9)) (.mapG keyInt X1 (placeL (heads cc (k + 1)))::.sl rInt (some ⟨pb,po,none⟩) row::.own rMQ B 107 (.slice (some ⟨g,0,none⟩) qs1.length c1) (qs1.set j (⟨q.key,A9,c9,q.tch++[t.no],q.B,q.b,q.ids,q.C,q.c,q.at'⟩:MQ))::mqs3 B (qs1.set j (⟨q.key,A9,c9,q.tch++[t.no],q.B,q.b,q.ids,A10,c10,q.at'++[k]⟩:MQ))):=T1;refine mixT_b rfl rfl (fun K9 hK9=>?_);clear hC2;go_wp2_with fail
       refine ⟨trivial,?_⟩;clear c2 c4 f2 f4 S13x;rw [List.length_append,List.length_singleton] at T1;generalize w13.setCell _ _=w20 at *;refine mpT ?_;have d4:=((T1.ow 2 rfl).mqAt (by rw [List.length_set]) j _ Hq1.out).1.2.2.2.2;have f4:=((T1.ow 2 rfl).mqAt (by rw [List.length_set]) j _ Hq1.out).2 4 (by decide);have T2:=T1.put flatMQ 2 rfl (by rw [List.length_set]) j (⟨q.key,A9,c9,q.tch++[t.no],q.B,q.b,q.ids,q.C,q.c,q.at'⟩:MQ) (⟨q.key,A9,c9,q.tch++[t.no],q.B,q.b,q.ids,A10,c10,q.at'++[k]⟩:MQ) Hq1.out 4 (by decide) (.slice A10 (q.at'++[k]).length c10) rfl;rw [List.set_cons_succ,List.set_cons_succ,List.set_cons_zero,List.set_set] at T2;rw [List.length_append,List.length_singleton] at T2;have HT2:=Lib.hid T2;clear T1 T2;refine mixT_l rfl rfl (fun K9 hK9=>?_);go_wp2_with fail
       refine hKK _ _ ?_;clear hKK KK d4 f4;go_wp2_with fail
       go_meet;exact ⟨A9,c9,A10,c10,HT2.out⟩
      ·go_wp2_with fail
       obtain ⟨U,hU⟩:∃ U,U=w10.heap.size:=⟨_,rfl⟩;have S11:Mem w _ (.loc U #[.int .i64 k] 3::.loc V #[.int .i64 t.no] 3::.mapG keyInt X1 (placeL (heads cc (k + 1)))::.sl rInt (some ⟨pb,po,none⟩) row::.own rMQ B 107 (.slice (some ⟨g,0,none⟩) qs1.length c1) qs1::mqs3 B qs1):=(S10.newAt #[.int .i64 k] 3 U hU).front;rw [← hU];clear hU S10;generalize w10.alloc (.cells #[.int .i64 k] 3)=w11 at *;refine ⟨HC.out _ _ _ _ (Mem.drop2 S11),?_⟩;refine mixT_l rfl rfl (fun K9 hK9=>?_);have hcs16:∀ (p:Nat) (u:Value),([t.no].map (fun z=>[Value.int .i64 z])).flatten[p]? =some u→w11.cell? ((⟨V,0,none⟩:Addr).add p)=some u:=fun p u hu=>by
        have h0:=(S11.lv 1 rfl).cell 0 _ rfl;cases p with
        | zero=>simp at hu;subst hu;exact h0
        | succ p=>simp at hu
       have hB16:B≤w11.heap.size:=by rw [Hb.out];exact S11.b.size
       refine S11.appN flatInt (3 * j + 0 + 5) (mqs3_get B Hq.out rfl) tyIntP rfl _ _ rfl [t.no] 1 1 rfl rfl ⟨V,0,none⟩ rfl hcs16 (fun y _=>oneJ y) (fun _=>rfl) hB16 Hl1.out (by decide) ?_;intro v16 w12 S12;obtain ⟨A9,c9,rfl⟩:=(S12.ow (3 * j + 0 + 5) (List.getElem?_set_self (by show _ < _;have:=lt_of_get (mqs3_get B Hq.out (j:=0) rfl);simp only [List.length_cons];omega))).len;have Hq1:Hid ((qs1.set j (⟨q.key,A9,c9,q.tch++[t.no],q.B,q.b,q.ids,q.C,q.c,q.at'⟩:MQ))[j]? =some (⟨q.key,A9,c9,q.tch++[t.no],q.B,q.b,q.ids,q.C,q.c,q.at'⟩:MQ)):=List.getElem?_set_self hjl;have S12x:Mem w w12 (.loc U #[.int .i64 k] 3::.loc V #[.int .i64 t.no] 3::.mapG keyInt X1 (placeL (heads cc (k + 1)))::.sl rInt (some ⟨pb,po,none⟩) row::.own rMQ B 107 (.slice (some ⟨g,0,none⟩) qs1.length c1) qs1::mqs3 B (qs1.set j (⟨q.key,A9,c9,q.tch++[t.no],q.B,q.b,q.ids,q.C,q.c,q.at'⟩:MQ))):=by
        rw [← mqs3_set B (k:=j) (j:=0) (q:=q) (q':=⟨q.key,A9,c9,q.tch++[t.no],q.B,q.b,q.ids,q.C,q.c,q.at'⟩) (c:=.own rInt B 3 (.slice A9 (q.tch++[t.no]).length c9) (q.tch++[t.no])) (by decide) Hq.out rfl];exact S12
       clear S11 hcs16 hB16 S12;go_wp2_with fail
       refine ⟨HC.out _ _ _ _ (Mem.drop2 S12x),?_⟩;refine mixT_l rfl rfl (fun K9 hK9=>?_);have hcs23:∀ (p:Nat) (u:Value),([(k:Int)].map (fun z=>[Value.int .i64 z])).flatten[p]? =some u→w12.cell? ((⟨U,0,none⟩:Addr).add p)=some u:=fun p u hu=>by
        have h0:=(S12x.lv 0 rfl).cell 0 _ rfl;cases p with
        | zero=>simp at hu;subst hu;exact h0
        | succ p=>simp at hu
       have hB23:B≤w12.heap.size:=by rw [Hb.out];exact S12x.b.size
       refine S12x.appN flatInt (3 * j + 2 + 5) (mqs3_get B Hq1.out rfl) tyIntP rfl _ _ rfl [(k:Int)] 1 1 rfl rfl ⟨U,0,none⟩ rfl hcs23 (fun y _=>oneJ y) (fun _=>rfl) hB23 (by rw [iL_len];exact Hl2.out) (by decide) ?_;intro v23 w13 S13;rw [← iL_snoc] at S13;obtain ⟨A10,c10,e10⟩:=(S13.ow (3 * j + 2 + 5) (List.getElem?_set_self (by show _ < _;have:=lt_of_get (mqs3_get B Hq1.out (j:=2) rfl);simp only [List.length_cons];omega))).len;rw [iL_len] at e10;subst e10;have S13x:Mem w w13 (.loc U #[.int .i64 k] 3::.loc V #[.int .i64 t.no] 3::.mapG keyInt X1 (placeL (heads cc (k + 1)))::.sl rInt (some ⟨pb,po,none⟩) row::.own rMQ B 107 (.slice (some ⟨g,0,none⟩) qs1.length c1) qs1::mqs3 B (qs1.set j (⟨q.key,A9,c9,q.tch++[t.no],q.B,q.b,q.ids,A10,c10,q.at'++[k]⟩:MQ))):=by
        have e:=mqs3_set B (k:=j) (j:=2) (q:=(⟨q.key,A9,c9,q.tch++[t.no],q.B,q.b,q.ids,q.C,q.c,q.at'⟩:MQ)) (q':=⟨q.key,A9,c9,q.tch++[t.no],q.B,q.b,q.ids,A10,c10,q.at'++[k]⟩) (c:=.own rInt B 3 (.slice A10 (q.at'++[k]).length c10) (iL (q.at'++[k]))) (by decide) Hq1.out rfl;rw [List.set_set] at e;rw [← e];exact S13
       clear S12x hcs23 hB23 S13;go_wp2_with fail
       refine ⟨HC.out _ _ _ _ (Mem.drop2 S13x),?_⟩;replace S13x:=Mem.drop2 S13x;have hC2:=HC.out _ _ _ _ S13x;refine mpT ?_;have c2:=hC2.1;have c4:=hC2.2.1;have f2:=((S13x.ow 2 rfl).mqAt rfl j q Hq.out).2 2 (by decide);have f4:=((S13x.ow 2 rfl).mqAt rfl j q Hq.out).2 4 (by decide);have T1:=S13x.put flatMQ 2 rfl rfl j q (⟨q.key,A9,c9,q.tch++[t.no],q.B,q.b,q.ids,q.C,q.c,q.at'⟩:MQ) Hq.out 2 (by decide) (.slice A9 (q.tch++[t.no]).length c9) rfl;replace T1:Mem w (w13.setCell ⟨g,j * 5 + 2,none⟩ (.slice A9 (q.tch++[t.no]).length c9)) (.mapG keyInt X1 (placeL (heads cc (k + 1)))::.sl rInt (some ⟨pb,po,none⟩) row::.own rMQ B 107 (.slice (some ⟨g,0,none⟩) qs1.length c1) (qs1.set j (⟨q.key,A9,c9,q.tch++[t.no],q.B,q.b,q.ids,q.C,q.c,q.at'⟩:MQ))::mqs3 B (qs1.set j (⟨q.key,A9,c9,q.tch++[t.no],q.B,q.b,q.ids,A10,c10,q.at'++[k]⟩:MQ))):=T1;refine mixT_b rfl rfl (fun K9 hK9=>?_);clear hC2;go_wp2_with fail
       refine ⟨trivial,?_⟩;clear c2 c4 f2 f4 S13x;rw [List.length_append,List.length_singleton] at T1;generalize w13.setCell _ _=w20 at *;refine mpT ?_;have d4:=((T1.ow 2 rfl).mqAt (by rw [List.length_set]) j _ Hq1.out).1.2.2.2.2;have f4:=((T1.ow 2 rfl).mqAt (by rw [List.length_set]) j _ Hq1.out).2 4 (by decide);have T2:=T1.put flatMQ 2 rfl (by rw [List.length_set]) j (⟨q.key,A9,c9,q.tch++[t.no],q.B,q.b,q.ids,q.C,q.c,q.at'⟩:MQ) (⟨q.key,A9,c9,q.tch++[t.no],q.B,q.b,q.ids,A10,c10,q.at'++[k]⟩:MQ) Hq1.out 4 (by decide) (.slice A10 (q.at'++[k]).length c10) rfl;rw [List.set_cons_succ,List.set_cons_succ,List.set_cons_zero,List.set_set] at T2;rw [List.length_append,List.length_singleton] at T2;have HT2:=Lib.hid T2;clear T1 T2;refine mixT_l rfl rfl (fun K9 hK9=>?_);go_wp2_with fail
       refine hKK _ _ ?_;clear hKK KK d4 f4;go_wp2_with fail
       go_meet;exact ⟨A9,c9,A10,c10,HT2.out⟩
     ·go_wp2_with fail
      obtain ⟨U,hU⟩:∃ U,U=wd.heap.size:=⟨_,rfl⟩;have S10:Mem w _ (.loc U #[.int .i64 k] 3::.mapG keyInt X1 (placeL (heads cc (k + 1)))::.sl rInt (some ⟨pb,po,none⟩) row::.own rMQ B 107 (.slice (some ⟨g,0,none⟩) qs1.length c1) qs1::mqs3 B qs1):=(S9.newAt #[.int .i64 k] 3 U hU).front;rw [← hU];clear hU S9;generalize wd.alloc (.cells #[.int .i64 k] 3)=w10 at *;refine ⟨HC.out _ _ _ _ (Mem.drop1 S10),?_⟩;refine mixT_l rfl rfl (fun K9 hK9=>?_);go_wp2_with fail
      obtain ⟨V,hV⟩:∃ V,V=w10.heap.size:=⟨_,rfl⟩;have S11:Mem w _ (.loc V #[.int .i64 t.no] 3::.loc U #[.int .i64 k] 3::.mapG keyInt X1 (placeL (heads cc (k + 1)))::.sl rInt (some ⟨pb,po,none⟩) row::.own rMQ B 107 (.slice (some ⟨g,0,none⟩) qs1.length c1) qs1::mqs3 B qs1):=(S10.newAt #[.int .i64 t.no] 3 V hV).front;rw [← hV];clear hV S10;generalize w10.alloc (.cells #[.int .i64 t.no] 3)=w11 at *;refine ⟨HC.out _ _ _ _ (Mem.drop2 S11),?_⟩;refine mixT_l rfl rfl (fun K9 hK9=>?_);have hcs16:∀ (p:Nat) (u:Value),([t.no].map (fun z=>[Value.int .i64 z])).flatten[p]? =some u→w11.cell? ((⟨V,0,none⟩:Addr).add p)=some u:=fun p u hu=>by
       have h0:=(S11.lv 0 rfl).cell 0 _ rfl;cases p with
       | zero=>simp at hu;subst hu;exact h0
       | succ p=>simp at hu
      have hB16:B≤w11.heap.size:=by rw [Hb.out];exact S11.b.size
      refine S11.appN flatInt (3 * j + 0 + 5) (mqs3_get B Hq.out rfl) tyIntP rfl _ _ rfl [t.no] 1 1 rfl rfl ⟨V,0,none⟩ rfl hcs16 (fun y _=>oneJ y) (fun _=>rfl) hB16 Hl1.out (by decide) ?_;intro v16 w12 S12;obtain ⟨A9,c9,rfl⟩:=(S12.ow (3 * j + 0 + 5) (List.getElem?_set_self (by show _ < _;have:=lt_of_get (mqs3_get B Hq.out (j:=0) rfl);simp only [List.length_cons];omega))).len;have Hq1:Hid ((qs1.set j (⟨q.key,A9,c9,q.tch++[t.no],q.B,q.b,q.ids,q.C,q.c,q.at'⟩:MQ))[j]? =some (⟨q.key,A9,c9,q.tch++[t.no],q.B,q.b,q.ids,q.C,q.c,q.at'⟩:MQ)):=List.getElem?_set_self hjl;have S12x:Mem w w12 (.loc V #[.int .i64 t.no] 3::.loc U #[.int .i64 k] 3::.mapG keyInt X1 (placeL (heads cc (k + 1)))::.sl rInt (some ⟨pb,po,none⟩) row::.own rMQ B 107 (.slice (some ⟨g,0,none⟩) qs1.length c1) qs1::mqs3 B (qs1.set j (⟨q.key,A9,c9,q.tch++[t.no],q.B,q.b,q.ids,q.C,q.c,q.at'⟩:MQ))):=by
       rw [← mqs3_set B (k:=j) (j:=0) (q:=q) (q':=⟨q.key,A9,c9,q.tch++[t.no],q.B,q.b,q.ids,q.C,q.c,q.at'⟩) (c:=.own rInt B 3 (.slice A9 (q.tch++[t.no]).length c9) (q.tch++[t.no])) (by decide) Hq.out rfl];exact S12
      clear S11 hcs16 hB16 S12;go_wp2_with fail
      refine ⟨HC.out _ _ _ _ (Mem.drop2 S12x),?_⟩;refine mixT_l rfl rfl (fun K9 hK9=>?_);have hcs23:∀ (p:Nat) (u:Value),([(k:Int)].map (fun z=>[Value.int .i64 z])).flatten[p]? =some u→w12.cell? ((⟨U,0,none⟩:Addr).add p)=some u:=fun p u hu=>by
       have h0:=(S12x.lv 1 rfl).cell 0 _ rfl;cases p with
       | zero=>simp at hu;subst hu;exact h0
       | succ p=>simp at hu
      have hB23:B≤w12.heap.size:=by rw [Hb.out];exact S12x.b.size
      refine S12x.appN flatInt (3 * j + 2 + 5) (mqs3_get B Hq1.out rfl) tyIntP rfl _ _ rfl [(k:Int)] 1 1 rfl rfl ⟨U,0,none⟩ rfl hcs23 (fun y _=>oneJ y) (fun _=>rfl) hB23 (by rw [iL_len];exact Hl2.out) (by decide) ?_;intro v23 w13 S13;rw [← iL_snoc] at S13;obtain ⟨A10,c10,e10⟩:=(S13.ow (3 * j + 2 + 5) (List.getElem?_set_self (by show _ < _;have:=lt_of_get (mqs3_get B Hq1.out (j:=2) rfl);simp only [List.length_cons];omega))).len;rw [iL_len] at e10;subst e10;have S13x:Mem w w13 (.loc V #[.int .i64 t.no] 3::.loc U #[.int .i64 k] 3::.mapG keyInt X1 (placeL (heads cc (k + 1)))::.sl rInt (some ⟨pb,po,none⟩) row::.own rMQ B 107 (.slice (some ⟨g,0,none⟩) qs1.length c1) qs1::mqs3 B (qs1.set j (⟨q.key,A9,c9,q.tch++[t.no],q.B,q.b,q.ids,A10,c10,q.at'++[k]⟩:MQ))):=by
       have e:=mqs3_set B (k:=j) (j:=2) (q:=(⟨q.key,A9,c9,q.tch++[t.no],q.B,q.b,q.ids,q.C,q.c,q.at'⟩:MQ)) (q':=⟨q.key,A9,c9,q.tch++[t.no],q.B,q.b,q.ids,A10,c10,q.at'++[k]⟩) (c:=.own rInt B 3 (.slice A10 (q.at'++[k]).length c10) (iL (q.at'++[k]))) (by decide) Hq1.out rfl;rw [List.set_set] at e;rw [← e];exact S13
      clear S12x hcs23 hB23 S13;go_wp2_with fail
      refine ⟨HC.out _ _ _ _ (Mem.drop2 S13x),?_⟩;replace S13x:=Mem.drop2 S13x;have hC2:=HC.out _ _ _ _ S13x;refine mpT ?_;have c2:=hC2.1;have c4:=hC2.2.1;have f2:=((S13x.ow 2 rfl).mqAt rfl j q Hq.out).2 2 (by decide);have f4:=((S13x.ow 2 rfl).mqAt rfl j q Hq.out).2 4 (by decide);have T1:=S13x.put flatMQ 2 rfl rfl j q (⟨q.key,A9,c9,q.tch++[t.no],q.B,q.b,q.ids,q.C,q.c,q.at'⟩:MQ) Hq.out 2 (by decide) (.slice A9 (q.tch++[t.no]).length c9) rfl;replace T1:Mem w (w13.setCell ⟨g,j * 5 + 2,none⟩ (.slice A9 (q.tch++[t.no]).length c9)) (.mapG keyInt X1 (placeL (heads cc (k + 1)))::.sl rInt (some ⟨pb,po,none⟩) row::.own rMQ B 107 (.slice (some ⟨g,0,none⟩) qs1.length c1) (qs1.set j (⟨q.key,A9,c9,q.tch++[t.no],q.B,q.b,q.ids,q.C,q.c,q.at'⟩:MQ))::mqs3 B (qs1.set j (⟨q.key,A9,c9,q.tch++[t.no],q.B,q.b,q.ids,A10,c10,q.at'++[k]⟩:MQ))):=T1;refine mixT_b rfl rfl (fun K9 hK9=>?_);clear hC2;go_wp2_with fail
      refine ⟨trivial,?_⟩;clear c2 c4 f2 f4 S13x;rw [List.length_append,List.length_singleton] at T1;generalize w13.setCell _ _=w20 at *;refine mpT ?_;have d4:=((T1.ow 2 rfl).mqAt (by rw [List.length_set]) j _ Hq1.out).1.2.2.2.2;have f4:=((T1.ow 2 rfl).mqAt (by rw [List.length_set]) j _ Hq1.out).2 4 (by decide);have T2:=T1.put flatMQ 2 rfl (by rw [List.length_set]) j (⟨q.key,A9,c9,q.tch++[t.no],q.B,q.b,q.ids,q.C,q.c,q.at'⟩:MQ) (⟨q.key,A9,c9,q.tch++[t.no],q.B,q.b,q.ids,A10,c10,q.at'++[k]⟩:MQ) Hq1.out 4 (by decide) (.slice A10 (q.at'++[k]).length c10) rfl;rw [List.set_cons_succ,List.set_cons_succ,List.set_cons_zero,List.set_set] at T2;rw [List.length_append,List.length_singleton] at T2;have HT2:=Lib.hid T2;clear T1 T2;refine mixT_l rfl rfl (fun K9 hK9=>?_);go_wp2_with fail
      refine hKK _ _ ?_;clear hKK KK d4 f4;go_wp2_with fail
      go_meet;exact ⟨A9,c9,A10,c10,HT2.out⟩
     --@enddev
    case rest =>
     obtain ⟨A9,c9,A10,c10,S10⟩:=hcut;obtain ⟨q2,hq2⟩:∃ q2:MQ,q2=⟨q.key,A9,c9,q.tch++[t.no],q.B,q.b,q.ids,A10,c10,q.at'++[k]⟩:=⟨_,rfl⟩;have Hq2:Hid ((qs1.set j q2)[j]? =some q2):=List.getElem?_set_self hjl;rw [← hq2] at S10;have Hq2i:Hid (q2.ids=q.ids):=by show _=_;rw [hq2]
     have Hq2d:=Lib.hid hq2;clear S8 HC hq2;obtain ⟨t0,l0,hids⟩:∃ t0 l0,t.ids=t0::l0:=by
      cases e:t.ids with
      | nil=>exact absurd e (Ho.out.ne t (List.mem_of_getElem? Ht.out))
      | cons a b=>exact ⟨a,b,rfl⟩
     obtain ⟨ib,io,rfl⟩:∃ ib io,Ai=some ⟨ib,io,none⟩:=by
      have hi:=Hi.out;rw [hids] at hi;exact hi.block
     clear hids;have HC:Hid (∀ (w':World) (da db:Chunk) (cs':List Chunk),Mem w w' (da::db::.own rMQ B 107 (.slice (some ⟨g,0,none⟩) qs1.length c1) (qs1.set j q2)::cs') →
       w'.cell? ⟨g,j * 5 + 3,none⟩=some (.slice q2.B q2.ids.length q2.b)∧w'.cell? ⟨G,4,none⟩=some (.slice (some ⟨blk,off,none⟩) n c)∧w'.cell? ⟨blk,off + k * 5 + 3,none⟩=some (.slice (some ⟨ib,io,none⟩) t.ids.length ci)):=fun w' da db cs' Sx=>by
      have h1:=((Sx.ow 2 rfl).mqAt (by rw [List.length_set]) j q2 Hq2.out).1;have h2:=(HG.out w' Sx.b).g.cell 4 _ rfl;rw [Hn.out] at h2;exact ⟨h1.2.2.2.1,h2,(Sx.b.cell (p:=⟨blk,off + k * 5 + 3,none⟩) Hblk.out).trans Hd3.out⟩
     have hC1:=HC.out _ _ _ _ S10;go_upto_region 13 with fail
     clear hC1;refine wp_region_mixT [18] (fun w'=>w'.cell? ⟨g,j * 5 + 3,none⟩=some (.slice q2.B q2.ids.length q2.b)∧w'.cell? ⟨G,4,none⟩=some (.slice (some ⟨blk,off,none⟩) n c)∧w'.cell? ⟨blk,off + k * 5 + 3,none⟩=some (.slice (some ⟨ib,io,none⟩) t.ids.length ci)) (.p 0 (.p 1 (.p 2 (.p 3 (.p 4 (.q 5 (.p 6 (.p 7 (.p 8 (.q 9 (.p 10 (.p 11 (.p 12 (.q 13 (.e 14 (.p 15 (.p 16 (.p 17 (.b 18 .z))))))))))))))))))) (by kernel_rfl) (by kernel_rfl) (fun w' hd=>HC.out _ _ _ _ (S10.below (hd.below _))) (fun KK hKK wd hd=>?_);have S11:=S10.below (hd.below _);clear hd S10;refine mpT ?_;refine mixT_loadR (.slice q2.B q2.ids.length q2.b) rfl rfl rfl rfl (fun w' h=>loadC rfl h.1) ?_;refine mpT ?_;refine mixT_loadR (.slice (some ⟨blk,off,none⟩) n c) rfl rfl rfl rfl (fun w' h=>loadC rfl h.2.1) ?_;refine mpT ?_;refine mixT_loadR (.slice (some ⟨ib,io,none⟩) t.ids.length ci) rfl rfl rfl rfl (fun w' h=>loadC rfl h.2.2) ?_;go_simp;have hB14:B≤wd.heap.size:=by rw [Hb.out];exact S11.b.size
     have hcs:=(Hi.out.keepB S11.b).flatCells flatId (fun _=>rfl);refine mixT_l rfl rfl (fun K9 hK9=>?_);refine S11.appN flatId (3 * j + 1 + 3) (mqs3_get B Hq2.out rfl) tyIdP rfl _ _ rfl t.ids t.ids.length ci rfl rfl ⟨ib,io,none⟩ rfl hcs (fun y _=>oneIdP y) (fun _=>rfl) hB14 (by rw [Hq2i.out];exact Hl3.out) (by decide) ?_;intro v14 w12 S12;obtain ⟨A11,c11,rfl⟩:=(S12.ow (3 * j + 1 + 3) (List.getElem?_set_self (by show _ < _;have:=lt_of_get (mqs3_get B Hq2.out (j:=1) rfl);simp only [List.length_cons];omega))).len;obtain ⟨q3,hq3⟩:∃ q3:MQ,q3=⟨q2.key,q2.A,q2.a,q2.tch,A11,c11,q2.ids++t.ids,q2.C,q2.c,q2.at'⟩:=⟨_,rfl⟩;have S13:Mem w w12 (.mapG keyInt X1 (placeL (heads cc (k + 1)))::.sl rInt (some ⟨pb,po,none⟩) row::.own rMQ B 107 (.slice (some ⟨g,0,none⟩) qs1.length c1) (qs1.set j q2)::mqs3 B (qs1.set j q3)):=by
      have e:=mqs3_set B (k:=j) (j:=1) (q:=q2) (q':=q3) (c:=.own rId B 46 (.slice A11 (q2.ids++t.ids).length c11) (q2.ids++t.ids)) (by decide) Hq2.out (by rw [hq3];rfl);rw [List.set_set] at e;rw [← e];exact S12
     have hC2:=HC.out _ _ _ _ S13;clear S11 S12 hcs hB14;go_wp2_with fail
     refine ⟨hC2,?_⟩;refine mpT ?_;have c3:=hC2.1;have f3:=((S13.ow 2 rfl).mqAt (by rw [List.length_set]) j q2 Hq2.out).2 3 (by decide);have T1:=S13.put flatMQ 2 rfl (by rw [List.length_set]) j q2 q3 Hq2.out 3 (by decide) (.slice A11 (q2.ids++t.ids).length c11) (by rw [hq3];rfl);rw [List.set_cons_succ,List.set_cons_succ,List.set_cons_zero,List.set_set,List.length_append] at T1;have HT1:=Lib.hid T1;have Hq3d:Hid (q3.raw=(q.key,q.tch++[noAt ts k],q.ids++idsAt ts k,q.at'++[k])):=by
      show _=_;rw [hq3,Hq2d.out,noAt_is Ht.out,idsAt_is Ht.out];rfl
     clear T1 S13 hC2 hq3;refine mixT_b rfl rfl (fun K9 hK9=>?_);go_wp2_with fail
     refine ⟨trivial,?_⟩;refine mixT_nil ?_;simp only [Exit.then];refine hKK _ _ ?_;clear hKK KK c3 f3;have HQ3:Hid ((qs1.set j q3).map MQ.raw=mRows r ts cc (k + 1)):=by
      show _=_;rw [HQ2.out,List.map_set,Hq3d.out]
     go_wp2_with fail
     go_roundw
     case rel=>exact ⟨k + 1,qs1.set j q3,some ⟨g,0,none⟩,c1,by omega,by rw [List.length_set],by go_num,HQ3.out,by rw [List.length_set];exact HT1.out⟩
     case measure=>simp [intOf];omega
  ·obtain rfl:k=n:=by omega
   obtain ⟨rows,hrows⟩:∃ rows,mRows r ts cc k=rows:=⟨_,rfl⟩;have hrl:ms.length=rows.length:=by
    have:=congrArg List.length HQ.out
    rw [List.length_map,hrows] at this;exact this
   have hml:ms.length≤k:=by
    rw [hrl,← hrows,mRows,List.length_map];exact heads_len cc k
   have Hrb:Hid (∀ x∈rows,x.2.2.1.length≤1000000):=fun x hx=>by
    rw [← hrows] at hx;obtain ⟨h,_,rfl⟩:=List.mem_map.1 hx;have hf:=flat_len (m:=10) (f:=idsAt ts) (partAt cc k h) (idsAt_len Ho.out);have hp:=part_len cc k h;have hn2:=Ho.out.tb;rw [Hn.out] at hn2;show ((partAt cc k h).flatMap (idsAt ts)).length≤1000000;omega
   have S3:Mem w wr (.own rMQ B 107 (.slice A4 ms.length c4) ms::mqs3 B ms):=(S2.del 0).del 0;have HQ0:Hid (ms.map MQ.raw=(rows.take 0).map rawSet++rows.drop 0):=by show _=_;rw [HQ.out,hrows];rfl
   have Hrows:=Lib.hid hrows;have Hrl:=Lib.hid hrl;obtain ⟨m,hm⟩:∃ m,ms.length=m:=⟨_,rfl⟩;rw [hm] at S3 hml hrl Hrl ⊢;have hms:=hm;have Hm:=Lib.hid hm;clear S2 HQ hrows hrl hlt hm hms;go_wp2_with fail
   go_loopw [100] (fun i wr=>∃ (p:Nat) (ms2:List MQ),p≤m∧i=.int .i64 p∧Hid (ms2.length=m)∧Hid (ms2.map MQ.raw=(rows.take p).map rawSet++rows.drop p)∧Mem w wr (.own rMQ B 107 (.slice A4 m c4) ms2::mqs3 B ms2)) (fun i _=>m - (intOf i).toNat)
   case atStart=>exact ⟨0,ms,Nat.zero_le _,rfl,Hm.out,HQ0.out,S3⟩
   case round =>
    clear S3 HQ0 Hm;obtain ⟨p,ms2,hp,rfl,Hm,HQ,S3⟩:=hrel;by_cases hlt:p < m
    ·obtain ⟨g,cap4,eg,hcap4⟩:=(S3.ow 0 rfl).form (by have:=Hm.out;omega);simp only [Value.slice.injEq] at eg;obtain ⟨rfl,em,rfl⟩:=eg;clear em;obtain ⟨q,hq⟩:∃ q,ms2[p]? =some q:=⟨_,List.getElem?_eq_getElem (by rw [Hm.out];exact hlt)⟩;obtain ⟨x,hx⟩:∃ x,rows[p]? =some x:=⟨_,List.getElem?_eq_getElem (by rw [← Hrl.out];exact hlt)⟩;have Hq:=Lib.hid hq;have Hx:=Lib.hid hx;have hraw:q.raw=x:=by
      have h1:=congrArg (fun l=>l[p]?) HQ.out;simp only [List.getElem?_map,hq,Option.map_some] at h1;rw [fin_get rawSet (by rw [← Hrl.out];exact hlt),hx] at h1;exact Option.some.inj h1
     have hil:q.ids.length≤1000000:=by
      have:=Hrb.out x (List.mem_of_getElem? hx)
      rw [← hraw] at this;exact this
     have Hraw:=Lib.hid hraw;clear hq hx hraw;have d3:=((S3.ow 0 rfl).mqAt Hm.out.symm p q Hq.out).1.2.2.2.1;have hi1:(.own rMQ B 107 (.slice (some ⟨g,0,none⟩) m c4) ms2::mqs3 B ms2)[3 * p + 1 + 1]? =some (.own rId B 46 (.slice q.B q.ids.length q.b) q.ids):=mqs3_get B Hq.out (j:=1) rfl;have Hsrt:=Lib.hid (sortIdP_any S3 (3 * p + 1 + 1) hi1 hil);have Hi1:=Lib.hid hi1;clear hi1;go_wp2_with fail
     refine (Hsrt.out).mono ?_;rintro e w4 ⟨rfl,ys,hperm,hord,S4⟩;have Hcmp:=Lib.hid (comp_srt hperm hord);have hyl:ys.length≤1000000:=by rw [hperm.length_eq];exact hil
     have hln:=lt_of_get Hi1.out;have hi2:=List.getElem?_set_self (a:=Chunk.own rId B 46 (.slice q.B q.ids.length q.b) ys) hln;have d4:=((S4.ow 0 rfl).mqAt Hm.out.symm p q Hq.out).1.2.2.2.1;have Hc:=Lib.hid (compId_any (S4.frontAt _ hi2) hyl);have Hln:=Lib.hid hln;clear Hsrt hperm hord d3 S3 hi2 hln;go_wp2_with fail
     refine (Hc.out).mono ?_;rintro e w5 ⟨v5,rfl,S5⟩;obtain ⟨B5,b5,rfl⟩:=(S5.ow 0 rfl).len;have S6:=Mem.backAt (by rw [List.length_set];exact Hln.out) S5;rw [List.set_set,Hcmp.out] at S6;rw [Hcmp.out];obtain ⟨q5,hq5⟩:∃ q5:MQ,q5=⟨q.key,q.A,q.a,q.tch,B5,b5,srtId q.ids,q.C,q.c,q.at'⟩:=⟨_,rfl⟩;have S7:Mem w w5 (.own rMQ B 107 (.slice (some ⟨g,0,none⟩) m c4) ms2::mqs3 B (ms2.set p q5)):=by
      have e:=mqs3_set B (k:=p) (j:=1) (q:=q) (q':=q5) (c:=.own rId B 46 (.slice B5 (srtId q.ids).length b5) (srtId q.ids)) (by decide) Hq.out (by rw [hq5];rfl);rw [← e];exact S6
     have d5:=((S7.ow 0 rfl).mqAt Hm.out.symm p q Hq.out).1.2.2.2.1;have f5:=((S7.ow 0 rfl).mqAt Hm.out.symm p q Hq.out).2 3 (by decide);have T1:=S7.put flatMQ 0 rfl Hm.out.symm p q q5 Hq.out 3 (by decide) (.slice B5 (srtId q.ids).length b5) (by rw [hq5];rfl);have HT1:=Lib.hid T1;have HQ5:Hid ((ms2.set p q5).map MQ.raw=(rows.take (p + 1)).map rawSet++rows.drop (p + 1)):=by
      show _=_;rw [← fin_step rawSet Hx.out,List.map_set,HQ.out,← Hraw.out,hq5];rfl
     clear S4 S5 S6 S7 T1 d4 Hc hq5 Hcmp;go_wp2_with fail
     go_roundw
     case rel=>exact ⟨p + 1,ms2.set p q5,by omega,by go_num,by show _=_;rw [List.length_set];exact Hm.out,HQ5.out,HT1.out⟩
     case measure=>simp [intOf];omega
    ·obtain rfl:p=m:=by omega
     go_wp2_with fail
     go_ret;obtain ⟨A6,c6,e6,S6⟩:=(Mem.frz3 (cs:=[.own rMQ B 107 (.slice A4 p c4) ms2]) S3).frz 0 rfl;rw [Hm.out] at e6;simp only [Value.slice.injEq,true_and] at e6;obtain ⟨rfl,rfl⟩:=e6;refine ⟨A4,c4,cc,ms2,by rw [Hm.out];rfl,HP.out,?_,S6⟩;show _=_;rw [HQ.out,Hn.out,Hrows.out,Hrl.out,List.take_length,List.drop_length,List.append_nil]
end
end Go.Proofs.YtmkkppknaikjjaaGreatDoor
