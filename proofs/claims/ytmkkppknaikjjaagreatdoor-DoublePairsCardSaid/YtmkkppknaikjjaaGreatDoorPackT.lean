/- Several texts in one: NewGroup, PartsLaw, Grp, MapGR, Parts. -/
import Derived.Test.YtmkkppknaikjjaaGreatDoorPackP
/- What newGroup returns: touches under rules, and which touches have each id. -/
set_option maxHeartbeats 8000000
set_option maxRecDepth 100000
open Go.Lib renaming hid→Z9
open List renaming getElem?_eq_getElem→Z8, mem_of_getElem?→Z7, length_append→Z4, getElem?_set_self→ZY, length_map→ZW, length_set→ZU, getElem?_map→ZT, length_take→ZR, map_append→ZP, append_assoc→ZM, append_nil→ZH, getElem?_eq_none→ZG, getElem?_append_right→ZF, length_singleton→ZA, getElem?_set→Zv, ext_getElem?→Zu, take_length→Zp, getElem_of_mem→Zn, map_set→Zg, length→Zf, mem_map_of_mem→Zd, set_append_right→YZ, range→YW, not_mem_nil→YI, set_cons_zero→YH
open Nat renaming le_refl→Z5, zero_le→ZN, le_trans→ZE, min_eq_left→Zl, lt_or_ge→YL
open Go.RowKit.Below renaming refl→ZX
open Prod renaming fst→Zw
open Array renaming length_toList→Y8, replicate→Y3
namespace Go.Proofs.YtmkkppknaikjjaaGreatDoor
section
open Go Go.RowKit
def ajh (r:aP)(K:Option Addr)(ck:Nat)(W:Option Addr)(cw:Nat)(S:Option Addr)(cs:Nat)(A:Option Addr)(c:Nat)(ts:List ak)(w:World)(e:Ending)(w':World):Prop :=
 ∃ (G X:Nat) (qs:List HQ),e=.returned (.pointer (some ⟨G,0,none⟩))∧Mem w w' (.loc G (kJ r K ck W cw S cs A ts.length c X) 180::xI w.heap.size X qs)∧gB ts ts.length [] (qs.map HQ.kl)
theorem Bq (y:Int):∀ u∈([.int .i64 y]:List Value),u.oneCell'=true:=fun u hu=>by rw [List.mem_singleton.1 hu];rfl
theorem Ut {α:Type}{l:List α}{n:Nat}{x:α}(hn:l.Nodup)(hx:l[n]? =some x):x ∉ l.take n:=fun h=>by
 obtain ⟨m,hm⟩:=List.mem_iff_getElem?.1 h;have hmn:m < n:=by
  have:=bM hm
  rw [ZR] at this;omega
 rw [List.getElem?_take_of_lt hmn] at hm;obtain ⟨h1,e1⟩:=List.getElem?_eq_some_iff.1 hm;obtain ⟨h2,e2⟩:=List.getElem?_eq_some_iff.1 hx;exact List.pairwise_iff_getElem.1 hn m n h1 h2 hmn (e1.trans e2.symm)
theorem ae5 (N:Nat→Prop)(r:aP)(K W S A:Option Addr)(ck cw cs c:Nat)(ts:List ak)(w:World)(hT:Sl fU N w A ts)(hl:ts.length≤1000000)(hnd:∀ t∈ts,t.ids.Nodup)(hil:∀ t∈ts,t.ids.length≤1000000) :
  Calls Tryz.prog 54 #[.agg (aN r K ck W cw S cs),.slice A ts.length c] w (ajh r K ck W cw S cs A c ts w):=by
 have HT:=Z9 (fun w' (h:Below w.heap.size w w')=>hT.aK h);have Hnd:=Z9 hnd;have Hil:=Z9 hil;have S0:=(Mem.start w).newAt (aN r K ck W cw S cs) 29 w.heap.size rfl;have y0:=(S0.lv 0 rfl).all;have hmm:=@run_makeMap Tryz.prog;clear hT hnd hil;go_enter Tryz.func54,Tryz.ntmps54
 go_wp2_with fail
 obtain ⟨B,hB⟩:∃ B,B=w.heap.size:=⟨_,rfl⟩;obtain ⟨X,hX⟩:∃ X,X=w.heap.size + 1:=⟨_,rfl⟩;obtain ⟨G,hG⟩:∃ G,G=w.heap.size + 1 + 1:=⟨_,rfl⟩;have S1:=(S0.zD aU X (by rw [uU];exact hX)).newAt (kJ r K ck W cw S cs A ts.length c X) 180 G (by rw [uU,uU];exact hG);have S2:Mem w _ (.loc G (kJ r K ck W cw S cs A ts.length c X) 180::xI B X []):=(S1.del 0).front;rw [← hG,← hX];clear hG hX hmm y0 S0 S1;have Hb:=Z9 hB;clear hB;generalize World.alloc _ _=w1 at S2 ⊢;go_loopw [17] (fun i wr=>∃ (k:Nat) (qs:List HQ),k≤ts.length∧i=.int .i64 k∧Hid (gB ts k [] (qs.map HQ.kl))∧Mem w wr (.loc G (kJ r K ck W cw S cs A ts.length c X) 180::xI B X qs)) (fun i _=>ts.length - (intOf i).toNat)
 case atStart=>exact ⟨0,[],ZN _,rfl,gB.start ts,S2⟩
 case round =>
  clear S2;obtain ⟨k,qs,hk,rfl,HO,S2⟩:=hrel;by_cases hlt:k < ts.length
  ·obtain ⟨t,ht⟩:∃ t,ts[k]? =some t:=⟨_,Z8 hlt⟩;obtain ⟨blk,off,Ai,ci,Af,cf,rfl,hblk,d0,d1,d2,d3,d4,hi,hf⟩:=(HT.out w (ZX _ _)).aC k t ht;have hcl:=fun (p:Addr) (hp:p.block < w.heap.size)=>S2.b.cell hp;rw [← hcl _ hblk] at d0 d1 d2 d3 d4;clear hcl;have HI:=Z9 (fun w' (h:Below w.heap.size w w')=>hi.aK h);have Hn:=Z9 (Hnd.out t (Z7 ht));have hil:t.ids.length≤1000000:=Hil.out t (Z7 ht);have Ht:=Z9 ht;clear hi hf ht;go_upto_region 5 with fail
   clear d0 d1 d2 d3 d4;obtain ⟨Y,hY⟩:∃ Y,Y=wr.heap.size:=⟨_,rfl⟩;have S3:Mem w _ (.loc Y (aS t Ai ci Af cf) 58::.loc G (kJ r K ck W cw S cs (some ⟨blk,off,none⟩) ts.length c X) 180::xI B X qs):=(S2.newAt (aS t Ai ci Af cf) 58 Y hY).front;rw [← hY];clear hY S2;generalize wr.alloc (.cells (aS t Ai ci Af cf) 58)=w4 at *;have c3:=(S3.lv 0 rfl).all;go_wp2_with fail
   clear c3;go_loopw [25] (fun i wr=>∃ (n:Nat) (qs:List HQ),n≤t.ids.length∧i=.int .i64 n∧Hid (gB ts k (t.ids.take n) (qs.map HQ.kl))∧Mem w wr (.loc Y (aS t Ai ci Af cf) 58::.loc G (kJ r K ck W cw S cs (some ⟨blk,off,none⟩) ts.length c X) 180::xI B X qs)) (fun i _=>t.ids.length - (intOf i).toNat)
   case atStart=>exact ⟨0,qs,ZN _,rfl,HO.out,S3⟩
   case round =>
    clear S3 HO;obtain ⟨n,q1,hn,rfl,HO,S3⟩:=hrel;by_cases hlt2:n < t.ids.length
    ·obtain ⟨x,hx⟩:∃ x,t.ids[n]? =some x:=⟨_,Z8 hlt2⟩;obtain ⟨ib,io,rfl,hib,c0,c1⟩:=(HI.out wr S3.b).qx n x hx;have Hx:=Z9 hx;clear hx;go_upto_region 8 with fail
     clear c0 c1;obtain ⟨Z,hZ⟩:∃ Z,Z=wr.heap.size:=⟨_,rfl⟩;have S4:Mem w _ (.loc Z #[.int .i64 x.k,.string x.t] 46::.loc Y (aS t (some ⟨ib,io,none⟩) ci Af cf) 58::.loc G (kJ r K ck W cw S cs (some ⟨blk,off,none⟩) ts.length c X) 180::xI B X q1):=(S3.newAt #[.int .i64 x.k,.string x.t] 46 Z hZ).front;rw [← hZ];clear hZ S3;generalize wr.alloc (.cells #[.int .i64 x.k,.string x.t] 46)=w5 at *;obtain ⟨aI,j,q,e1,e2,e3,e4,e5,e6,e7,e8⟩:=aiZ q1 (by have:=HO.out.1;rw [Eo] at this;exact this) x;have hsB:B≤w5.heap.size:=by rw [Hb.out];exact S4.b.size
     go_wp2_with fail
     refine dF (fun w'=>LV w' G (kJ r K ck W cw S cs (some ⟨blk,off,none⟩) ts.length c X) 180∧LV w' Z #[.int .i64 x.k,.string x.t] 46) [(true,0),(true,1),(true,2),(true,3),(true,4),(true,5),(false,6),(false,7),(true,8),(true,10),(false,9),(false,11)] (by kernel_rfl) (by kernel_rfl) (fun w' hd=>⟨(S4.below (hd.below _)).lv 2 rfl,(S4.below (hd.below _)).lv 0 rfl⟩) (fun KK aF wd hd=>?_);have S5:=S4.below (hd.below _);have aji:B≤wd.heap.size:=by rw [hd.heap];exact hsB
     have hC:LV wd G (kJ r K ck W cw S cs (some ⟨blk,off,none⟩) ts.length c X) 180∧LV wd Z #[.int .i64 x.k,.string x.t] 46:=⟨S5.lv 2 rfl,S5.lv 0 rfl⟩;clear hd S4 hsB;refine aA ?_;refine bV (.map (some X)) rfl rfl rfl (fun w' h=>eX rfl (h.1.cell 5 _ rfl)) ?_;refine aA ?_;refine bV (.agg #[.int .i64 x.k,.string x.t]) rfl rfl rfl (fun w' h=>gU (h.2.cell 0 _ rfl) (h.2.cell 1 _ rfl)) ?_;refine aA ?_;refine aV rfl (fun K9 hK9=>?_) hC;go_wp2_with fail
     obtain ⟨V,hV⟩:∃ V,V=wd.heap.size:=⟨_,rfl⟩;have S6:Mem w _ (.loc V #[.int .i64 k] 3::.loc Z #[.int .i64 x.k,.string x.t] 46::.loc Y (aS t (some ⟨ib,io,none⟩) ci Af cf) 58::.loc G (kJ r K ck W cw S cs (some ⟨blk,off,none⟩) ts.length c X) 180::xI B X q1):=(S5.newAt #[.int .i64 k] 3 V hV).front;have abO:B≤(wd.alloc (.cells #[.int .i64 k] 3)).heap.size:=by rw [uU];omega
     rw [← hV];clear hV S5 hC aji;generalize wd.alloc (.cells #[.int .i64 k] 3)=w6 at *;refine ⟨⟨S6.lv 3 rfl,S6.lv 1 rfl⟩,?_⟩;refine aV rfl (fun K9 hK9=>?_) ⟨S6.lv 3 rfl,S6.lv 1 rfl⟩;refine S6.JI (K:=aU) 4 rfl (T:=178) (E:=22) (by kernel_rfl) abG rfl _ _ rfl rfl x rfl ?_;intro st w7 S7 KI;rw [e4,e5] at S7;rw [e4];have S8:Mem w w7 (.loc V #[.int .i64 k] 3::.loc Z #[.int .i64 x.k,.string x.t] 46::.loc Y (aS t (some ⟨ib,io,none⟩) ci Af cf) 58::.loc G (kJ r K ck W cw S cs (some ⟨blk,off,none⟩) ts.length c X) 180::.ent aU X (aI.map HQ.kv) x st::aI.map (hq B)):=e8 B w w7 [.loc V #[.int .i64 k] 3,.loc Z #[.int .i64 x.k,.string x.t] 46,.loc Y (aS t (some ⟨ib,io,none⟩) ci Af cf) 58,.loc G (kJ r K ck W cw S cs (some ⟨blk,off,none⟩) ts.length c X) 180,.ent aU X (aI.map HQ.kv) x st] S7;have ajj:B≤w7.heap.size:=ZE abO KI;have hqv:q.v=.slice q.A q.js.length q.c:=rfl;rw [hqv];clear S6 S7 abO KI hqv;go_wp2_with fail
     refine ⟨⟨S8.lv 3 rfl,S8.lv 1 rfl⟩,?_⟩;refine aA ?_;have hcs:∀ (j:Nat) (u:Value),([(k:Int)].map (fun n=>[Value.int .i64 n])).flatten[j]? =some u→w7.cell? ((⟨V,0,none⟩:Addr).add j)=some u:=fun j u hu=>by
      have h0:=(S8.lv 0 rfl).cell 0 _ rfl;cases j with
      | zero=>simp at hu;subst hu;exact h0
      | succ j=>simp at hu
     have hjl:q.js.length≤2000000:=by
      have h1:=HO.out.2 x;rw [← e6,h1,Uh,Z4];have h2:=Ug (ts.take k) x;rw [ZR] at h2;have h3:(if x∈t.ids.take n then [k] else []).length≤1:=by split <;> simp
      omega
     refine aV rfl (fun K9 hK9=>?_) ⟨S8.lv 3 rfl,S8.lv 1 rfl⟩;refine S8.nJ lY (j + 5) (by show (aI.map (hq B))[j]? =_;rw [ZT,e1];rfl) xA rfl _ _ rfl [(k:Int)] 1 1 rfl rfl ⟨V,0,none⟩ rfl hcs (fun y _=>Bq y) (fun _=>rfl) ajj (by rw [kX];simp only [ZA];omega) (by decide) ?_;intro v9 w9 S9;have aZ:Mem w w9 (.loc V #[.int .i64 k] 3::.loc Z #[.int .i64 x.k,.string x.t] 46::.loc Y (aS t (some ⟨ib,io,none⟩) ci Af cf) 58::.loc G (kJ r K ck W cw S cs (some ⟨blk,off,none⟩) ts.length c X) 180::.ent aU X (aI.map HQ.kv) x st::(aI.map (hq B)).set j (.own ay B 3 v9 (iL (q.js++[k])))):=by rw [OD];exact S9
     have hi9:((aI.map (hq B)).set j (.own ay B 3 v9 (iL (q.js++[k]))))[j]? =some (.own ay B 3 v9 (iL (q.js++[k]))):=ZY (by rw [ZW];exact bM e1);obtain ⟨A9,c9,e9⟩:=(aZ.ow (j + 5) hi9).len;rw [kX] at e9;subst e9;have dW:Mem w w9 (.loc V #[.int .i64 k] 3::.loc Z #[.int .i64 x.k,.string x.t] 46::.loc Y (aS t (some ⟨ib,io,none⟩) ci Af cf) 58::.loc G (kJ r K ck W cw S cs (some ⟨blk,off,none⟩) ts.length c X) 180::.ent aU X (aI.map HQ.kv) x st::(aI.set j ⟨q.x,A9,c9,q.js++[k]⟩).map (hq B)):=by rw [Zg];exact aZ
     obtain ⟨ha1,ha2⟩:=ai0 (qs:=q1) e1 e2 e3 e6 e7 A9 c9 k;clear S8 S9 aZ hi9 hcs hjl e6 e7 e8;go_wp2_with fail
     refine ⟨⟨dW.lv 3 rfl,dW.lv 1 rfl⟩,?_⟩;refine aV rfl (fun K9 hK9=>?_) ⟨dW.lv 3 rfl,dW.lv 1 rfl⟩;refine dW.JJ 4 rfl rfl _ _ _ rfl rfl rfl (HQ.v ⟨q.x,A9,c9,q.js++[k]⟩) rfl ?_;intro w10 gy;rw [ha1] at gy;go_wp2_with fail
     refine ⟨⟨gy.lv 3 rfl,gy.lv 1 rfl⟩,?_⟩;have iD:Mem w w10 (.loc Y (aS t (some ⟨ib,io,none⟩) ci Af cf) 58::.loc G (kJ r K ck W cw S cs (some ⟨blk,off,none⟩) ts.length c X) 180::xI B X (aI.set j ⟨q.x,A9,c9,q.js++[k]⟩)):=(gy.del 0).del 0;have su:Hid (gB ts k (t.ids.take (n + 1)) ((aI.set j ⟨q.x,A9,c9,q.js++[k]⟩).map HQ.kl)):=by
      show gB _ _ _ _;rw [take_snoc Hx.out,← ha2];exact HO.out.add (Ut Hn.out Hx.out)
     clear dW gy HO ha1 ha2;refine aA ?_;refine dG ?_;simp only [Exit.then];refine aF _ _ ?_;clear aF KK;generalize aI.set j ⟨q.x,A9,c9,q.js++[k]⟩=q2 at *;go_wp2_with fail
     go_roundw
     case rel=>exact ⟨n + 1,q2,by omega,by go_num,su,iD⟩
     case measure=>simp [intOf];omega
    ·obtain rfl:n=t.ids.length:=by omega
     have lq:Hid (gB ts (k + 1) [] (q1.map HQ.kl)):=gB.next Ht.out (by have:=HO.out;rw [Zp] at this;exact this);have S9:Mem w wr (.loc G (kJ r K ck W cw S cs (some ⟨blk,off,none⟩) ts.length c X) 180::xI B X q1):=S3.del 0;clear S3 HO;go_wp2_with fail
     go_roundw
     case rel=>exact ⟨k + 1,q1,by omega,by go_num,lq,S9⟩
     case measure=>simp [intOf];omega
  ·obtain rfl:k=ts.length:=by omega
   go_wp2_with fail
   go_ret;exact ⟨G,X,qs,rfl,Hb.out ▸ S2,HO.out⟩
end
section
open Go Go.RowKit
def Ep (r:aP)(l:List ak)(out:Option ah)(x:ah):Bool:=mD r l x && decide (out≠some x)
def vW (r:aP)(l:List ak)(out:Option ah)(i j:Nat):Prop:=∃ x,Ep r l out x=true∧x∈cZ l i∧x∈cZ l j
theorem vW.symm {r:aP}{l:List ak}{out:Option ah}(i j:Nat):vW r l out i j→vW r l out j i:=fun ⟨x,h,h1,h2⟩=>⟨x,h,h2,h1⟩
structure Joined (r:aP) (ts:List ak) (out:Option ah) (done:List (ah×List Nat)) (c:Nat→Nat):Prop where
 Gq:yV ts.length (vW r ts out) c
 same:∀ p∈done,Ep r ts out p.1=true→∀ i∈p.2,∀ j∈p.2,c i=c j
theorem Joined.start (r:aP)(ts:List ak)(out:Option ah):Joined r ts out [] id:=⟨yV.start _ _,fun _ h=>by cases h⟩
theorem Joined.skip {r:aP}{ts:List ak}{out:Option ah}{done:List (ah×List Nat)}{c:Nat→Nat}(h:Joined r ts out done c){p:ah×List Nat}(hp:Ep r ts out p.1=false):Joined r ts out (done++[p]) c:=by
 refine ⟨h.Gq,fun q hq hj=>?_⟩;rcases List.mem_append.1 hq with hq | hq
 ·exact h.same q hq hj
 ·rw [List.mem_singleton.1 hq,hp] at hj;cases hj
theorem Joined.step {r:aP}{ts:List ak}{out:Option ah}{done:List (ah×List Nat)}{c:Nat→Nat}(h:Joined r ts out done c){x:ah}(hx:Ep r ts out x=true){a b:Nat}(ha:a∈hav ts x)(hb:b∈hav ts x):Joined r ts out done (mg (c a) (c b) c) :=
 ⟨h.Gq.join vW.symm (KD ha) (KD hb) ⟨x,hx,En.2 ha,En.2 hb⟩,fun q hq hj i hi j hj'=>Uc (h.same q hq hj i hi j hj')⟩
theorem ajk {c:Nat→Nat}{l:List Nat}{a b m:Nat}(h:∀ j∈l.take m,c j=c a)(hb:l[m]? =some b):∀ j∈l.take (m + 1),mg (c a) (c b) c j=mg (c a) (c b) c a:=fun j hj=>by
 rw [take_snoc hb] at hj;rcases List.mem_append.1 hj with hj | hj
 ·exact Uc (h j hj)
 ·rw [List.mem_singleton.1 hj];exact aiz.symm
theorem Joined.next {r:aP}{ts:List ak}{out:Option ah}{done:List (ah×List Nat)}{c:Nat→Nat}(h:Joined r ts out done c){p:ah×List Nat}{a:Nat}(hp:∀ j∈p.2,c j=c a):Joined r ts out (done++[p]) c:=by
 refine ⟨h.Gq,fun q hq hj i hi j hj'=>?_⟩;rcases List.mem_append.1 hq with hq | hq
 ·exact h.same q hq hj i hi j hj'
 ·rw [List.mem_singleton.1 hq] at hi hj';rw [hp i hi,hp j hj']
theorem gB.entry {ts:List ak}{L:List (ah×List Nat)}(h:gB ts ts.length [] L){p:ah×List Nat}(hp:p∈L):p.2=hav ts p.1∧p.2≠[]:=by
 obtain ⟨x,js⟩:=p;obtain ⟨i,hi⟩:=List.mem_iff_getElem?.1 hp;have h1:=(kR h.1 hi).1;have h2:=h.2 x;rw [h1,Zp] at h2;simp only [YI,if_false,ZH] at h2;unfold some1 at h2;split at h2
 ·cases h2
 ·rename_i hne;obtain rfl:=Option.some.inj h2;exact ⟨rfl,hne⟩
theorem gB.has {ts:List ak}{L:List (ah×List Nat)}(h:gB ts ts.length [] L){x:ah}{j:Nat}(hj:j∈hav ts x):(x,hav ts x)∈L:=by
 have h2:=h.2 x;rw [Zp] at h2;simp only [YI,if_false,ZH] at h2;unfold some1 at h2;rw [if_neg (fun e=>by rw [e] at hj;cases hj)] at h2;exact Ud h2
end
section
open Go Go.RowKit
structure vM (N:Nat→Prop) (w:World) (G X:Nat) (r:aP) (K W S A:Option Addr) (ck cw cs c:Nat) (ts:List ak) (qs:List HQ):Prop where
 g:LV w G (kJ r K ck W cw S cs A ts.length c X) 180
 m:mO aU w X (qs.map HQ.kv)
 s:abD (fun _=>False) w qs
 h:gB ts ts.length [] (qs.map HQ.kl)
 r:kN N w r K W S
 t:Sl fU N w A ts
 cp:∀ q∈qs,q.js.length≤q.c
theorem vM.aK {N:Nat→Prop}{w w':World}{G X:Nat}{r:aP}{K W S A:Option Addr}{ck cw cs c:Nat}{ts:List ak}{qs:List HQ}(h:vM N w G X r K W S A ck cw cs c ts qs)(k:Below w.heap.size w w'):vM N w' G X r K W S A ck cw cs c ts qs :=
 ⟨LV.dQ h.g k h.g.lt,by
  obtain ⟨es,cl,hb,he⟩:=h.m;exact ⟨es,cl,(k.block X (Array.getElem?_eq_some_iff.1 hb).1).trans hb,he⟩,fun q hq=>(h.s q hq).aK k,h.h,h.r.aK k,h.t.aK k,h.cp⟩
theorem gB.look {ts:List ak}{qs:List HQ}(h:gB ts ts.length [] (qs.map HQ.kl))(x:ah):∃ A c,(aT x (qs.map HQ.kv)).getD (.slice none 0 0)=.slice A (hav ts x).length c∧((hav ts x=[]∧A=none∧c=0)∨∃ q∈qs,q.x=x∧q.A=A∧q.c=c∧q.js=hav ts x):=by
 have h2:=h.2 x;rw [Zp] at h2;simp only [YI,if_false,ZH] at h2;have hn:=h.1;rw [Eo] at hn;rcases abB qs hn x with ⟨_,e1,e2⟩ | ⟨j,q,e1,e2,e3,e4⟩
 ·rw [e2] at h2;have h0:hav ts x=[]:=by
   unfold some1 at h2;split at h2
   ·assumption
   ·cases h2
  exact ⟨none,0,by rw [e1,h0];rfl,.inl ⟨h0,rfl,rfl⟩⟩
 ·rw [e4] at h2;have hj:q.js=hav ts x:=by
   unfold some1 at h2;split at h2
   ·cases h2
   ·exact Option.some.inj h2
  exact ⟨q.A,q.c,by rw [e3,Option.getD_some,HQ.v,hj],.inr ⟨q,Z7 e1,e2,rfl,rfl,hj⟩⟩
theorem ajl (r:aP)(ts:List ak)(x:ah):KF r x (hav ts x).length=mD r ts x:=by
 unfold KF mD;cases decide (x∈r.weak) <;> cases decide (x.k∈r.kinds) <;> rfl
structure lM (r:aP) (ts:List ak):Prop where
 wk:KE r.weak
 wl:r.weak.length≤1000000
 kl:r.kinds.length≤1000000
 tl:ts.length≤1000000
 up:∀ t∈ts,oJ t.ids
 il:∀ t∈ts,t.ids.length≤1000000
 ne:∀ t∈ts,t.ids≠[]
 tb:ts.length≤2000
 ib:∀ t∈ts,t.ids.length≤10
theorem OJ {t:ak}{last:Int}(h:gJ t last=0):oJ t.ids∧t.ids.length≤10∧t.ids≠[]:=by
 unfold gJ mQ at h;split at h
 ·omega
 split at h
 ·omega
 split at h
 ·omega
 split at h
 ·omega
 rename_i h0;split at h
 ·omega
 rename_i h1;split at h
 ·omega
 rename_i h2;refine ⟨(Q8 (l:=t.ids) (prev:=none) (Decidable.not_not.1 h2)).2.2,by omega,fun e=>h0 (by rw [e];rfl)⟩
theorem abP:∀ {l:List ak} {last:Int},lT last l=0→∀ t∈l,∃ last',gJ t last'=0
 | [],_,_,_,h=>by cases h
 | a::r,last,h,t,ht=>by
  rw [lT] at h;by_cases e:gJ a last=0
  ·rw [if_neg (by simpa using e)] at h;rcases List.mem_cons.1 ht with rfl | ht
   ·exact ⟨_,e⟩
   ·exact abP h t ht
  ·rw [if_pos e] at h;exact absurd h e
theorem Qh {l:List ak}(h:iy l=0):lT 0 l=0:=by
 unfold iy at h;split at h
 ·omega
 ·exact h
theorem abQ {r:aP}(h:jB r=0):oJ r.weak∧r.weak.length≤200:=by
 unfold jB yE at h;split at h
 ·omega
 split at h
 ·omega
 split at h
 ·omega
 split at h
 ·omega
 rename_i h1;split at h
 ·omega
 rename_i h2;exact ⟨(Q8 (l:=r.weak) (prev:=none) (Decidable.not_not.1 h2)).2.2,by omega⟩
theorem lM.mk2 {r:aP}{ts:List ak}(hr:jB r=0)(hk:r.kinds.length≤1000000)(hl:ts.length≤2000)(ht:∀ t∈ts,∃ last,gJ t last=0):lM r ts :=
 ⟨(abQ hr).1.srt,ZE (abQ hr).2 (by decide),hk,ZE hl (by decide),fun t h=>by obtain ⟨_,e⟩:=ht t h;exact (OJ e).1,
   fun t h=>by obtain ⟨_,e⟩:=ht t h;exact ZE (OJ e).2.1 (by decide),fun t h=>by obtain ⟨_,e⟩:=ht t h;exact (OJ e).2.2,hl,fun t h=>by obtain ⟨_,e⟩:=ht t h;exact (OJ e).2.1⟩
theorem lM.of {r:aP}{ts:List ak}(hr:jB r=0)(hk:r.kinds.length≤1000000)(ht:iy ts=0):lM r ts:=.mk2 hr hk (by unfold iy at ht;split at ht <;> omega) (abP (Qh ht))
theorem oJ.nodup {l:List ah}(h:oJ l):l.Nodup:=h.imp (fun {a b} hab e=>by subst e;have:=nS.refl a;omega)
theorem abR (N:Nat→Prop)(G X:Nat)(r:aP)(K W S A:Option Addr)(ck cw cs c:Nat)(ts:List ak)(qs:List HQ)(x:ah)(w:World)(hG:vM N w G X r K W S A ck cw cs c ts qs)(ho:lM r ts) :
  Calls Tryz.prog 195 #[.pointer (some ⟨G,0,none⟩),.agg #[.int .i64 x.k,.string x.t]] w fun e w'=>e=.returned (.bool (mD r ts x))∧Below w.heap.size w w':=by
 obtain ⟨A',c',h1,_⟩:=hG.h.look x;rw [← ajl];exact aiW N G X r K W S A ck cw cs ts.length c (qs.map HQ.kv) x A' (hav ts x).length c' w hG.g hG.r hG.m h1 ho.wk ho.wl ho.kl
end
section
open Go Go.RowKit Go.MapKept
def wQ (es:Array MapEntry)(Y:Nat)(w:World):Nat:=match w.heap[Y]? with
 | some (.mapIter _ _ seen _)=>(leftOf es seen).size
 | _=>0
theorem gY.size {κ:Type}{K:gu κ}{es:Array MapEntry}{clock:Nat}{seen:Array Nat}{L done left:List (κ×Value)}(h:gY K es clock seen L done left):(leftOf es seen).size=left.length:=by
 have:=congrArg Zf h.iF
 rw [ZW,ZW,Y8] at this;exact this
theorem Mem.uH {κ:Type}{K:gu κ}{w0 w:World}{cs:List Chunk}(S:Mem w0 w cs)(j:Nat){R X clock c0:Nat}{seen:Array Nat}(hj:cs[j]? =some (.iter R X clock seen c0)){es:Array MapEntry}{L done left:List (κ×Value)}(hr:gY K es clock seen L done left):wQ es R w=left.length:=by
 have hR:w.heap[R]? =some (.mapIter (some X) clock seen c0):=S.ok _ (Z7 hj);unfold wQ;rw [hR];exact hr.size
end
section
open Go Go.RowKit
def ajm (w:World)(P:Value):Option ah→Prop
 | none=>P=.pointer none
 | some x=>∃ O o,P=.pointer (some ⟨O,o,none⟩)∧O < w.heap.size∧w.cell? ⟨O,o,none⟩=some (.int .i64 x.k)∧w.cell? ⟨O,o + 1,none⟩=some (.string x.t)
abbrev lG (n k:Nat):List Nat:=YW k++List.replicate (n - k) 0
theorem abS {n k:Nat}(h:k≤n):(lG n k).length=n:=by simp [lG];omega
theorem OL {n k:Nat}(h:k < n):(lG n k)[k]? =some 0:=by
 unfold lG;rw [ZF (by simp),List.length_range,Nat.sub_self,List.getElem?_replicate,if_pos (by omega)]
theorem abT {n k:Nat}(h:k < n):(lG n k).set k k=lG n (k + 1):=by
 unfold lG;rw [YZ _ _ (by simp),List.length_range,Nat.sub_self,show n - k=(n - (k + 1)) + 1 by omega,List.replicate_succ,YH,List.range_succ,ZM];rfl
theorem abU (n:Nat):lG n n=YW n:=by simp [lG]
theorem iP.put {n:Nat}{p:List Nat}{c:Nat→Nat}(h:iP n p c){i:Nat}(hle:c i≤i)(hfix:c (c i)=c i):iP n (p.set i (c i)) c:=by
 refine ⟨by rw [ZU];exact h.len,fun k s hk=>?_⟩;rw [Zv] at hk;by_cases e:i=k
 ·subst e;rw [if_pos rfl] at hk;split at hk
  ·obtain rfl:=Option.some.inj hk;exact ⟨hle,hfix,fun e=>e⟩
  ·cases hk
 ·rw [if_neg e] at hk;exact h.at' k s hk
theorem ajn {qs dq:List HQ}{es:Array MapEntry}{clock:Nat}{seen:Array Nat}{left:List (ah×Value)}(h:gY aU es clock seen (qs.map HQ.kv) (dq.map HQ.kv) left){p:ah×Value}(hp:p∈left):∃ q∈qs,q.kv=p:=by
 have:=h.perm.mem_iff.1 (List.mem_append_right _ hp)
 obtain ⟨q,hq,e⟩:=List.mem_map.1 this;exact ⟨q,hq,e⟩
theorem ajo {qs dq:List HQ}(hn:(qs.map HQ.x).Nodup)(hd:∀ q∈dq,q∈qs)(hp:(dq.map HQ.kv).Perm (qs.map HQ.kv)):∀ q∈qs,q∈dq:=fun q hq=>by
 have h1:q.kv∈dq.map HQ.kv:=hp.mem_iff.2 (Zd hq);obtain ⟨q',hq',e⟩:=List.mem_map.1 h1;have hx:q'.x=q.x:=congrArg Zw e;obtain ⟨i,hi,ei⟩:=Zn hq;obtain ⟨j,hj,ej⟩:=Zn (hd q' hq');have hpw:=List.pairwise_iff_getElem.1 hn;rcases Nat.lt_trichotomy i j with h | h | h
 ·exact absurd (by rw [List.getElem_map,List.getElem_map,ei,ej,hx]) (hpw i j (by rw [ZW];exact hi) (by rw [ZW];exact hj) h)
 ·subst h;rw [ei] at ej;rw [ej];exact hq'
 ·exact absurd (by rw [List.getElem_map,List.getElem_map,ei,ej,hx]) (hpw j i (by rw [ZW];exact hj) (by rw [ZW];exact hi) h)
theorem Joined.fin2 {r:aP}{ts:List ak}{out:Option ah}{qs dq:List HQ}{c:Nat→Nat}(h:Joined r ts out (dq.map HQ.kl) c)(ha:∀ q∈qs,q∈dq)(hL:gB ts ts.length [] (qs.map HQ.kl)):iO ts.length (vW r ts out) c :=
 h.Gq.part fun i j _ _ ⟨x,hx,h1,h2⟩=>by
  have a1:=En.1 h1;have a2:=En.1 h2;obtain ⟨q,hq,e⟩:=List.mem_map.1 (hL.has a1);exact h.same (x,hav ts x) (by rw [← e];exact Zd (ha q hq)) hx i a1 j a2
def Done (c:Nat→Nat)(k:Nat)(p:List Nat):Prop:=∀ j,j < k→p[j]? =some (c j)
theorem Done.next {c:Nat→Nat}{k:Nat}{p q:List Nat}(h:Done c k p)(hk:Keeps c p q)(hl:k < q.length):Done c (k + 1) (q.set k (c k)):=fun j hj=>by
 rw [Zv];by_cases e:k=j
 ·subst e;rw [if_pos rfl,if_pos hl]
 ·rw [if_neg e];exact hk j (h j (by omega))
theorem Done.all {c:Nat→Nat}{n:Nat}{p:List Nat}(h:Done c n p)(hl:p.length=n):p=Bl n c:=by
 apply Zu;intro i;rcases YL i n with hi | hi
 ·rw [abu hi,h i hi]
 ·rw [ZG (by omega),ZG (by rw [abv];omega)]
def ajp (r:aP)(ts:List ak)(out:Option ah)(w:World)(e:Ending)(w':World):Prop :=
 ∃ (A:Option Addr) (cap:Nat) (c:Nat→Nat),e=.returned (.slice A ts.length cap)∧iO ts.length (vW r ts out) c∧Mem w w' [.own ay w.heap.size 3 (.slice A ts.length cap) (iL (Bl ts.length c))]
theorem ajq (N:Nat→Prop)(G X:Nat)(r:aP)(K W S A:Option Addr)(ck cw cs c:Nat)(ts:List ak)(qs:List HQ)(out:Option ah)(P:Value)(w:World)(hG:vM N w G X r K W S A ck cw cs c ts qs)(ho:lM r ts)(hO:ajm w P out) :
  Calls Tryz.prog 114 #[.pointer (some ⟨G,0,none⟩),P] w (ajp r ts out w):=by
 obtain ⟨n,hn⟩:∃ n,ts.length=n:=⟨_,rfl⟩;have Hn:=Z9 hn;have hl:=ho.tl;have z0:=hG.g.all;rw [hn] at hl z0;have hmk:=aa3 n hl w;have HG:=Z9 (fun w' (h:Below w.heap.size w w')=>hG.aK h);obtain ⟨es,clock,hX,hE⟩:=hG.m;have HX:Hid (∀ w',Below w.heap.size w w'→w'.heap[X]? =some (.map es clock)):=fun w' h=>(h.block X (Array.getElem?_eq_some_iff.1 hX).1).trans hX;have HE:=Z9 hE;have HH:=Z9 hG.h;have HC:=Z9 hG.cp;have HO:=Z9 hO;have Ho:=Z9 ho;clear hX hE hG hO hn ho;go_enter Tryz.func114,Tryz.ntmps114
 go_upto_region 2 with fail
 clear hmk z0;obtain ⟨B,hB⟩:∃ B,B=w.heap.size:=⟨_,rfl⟩;obtain ⟨g,hg⟩:∃ g,g=w.heap.size:=⟨_,rfl⟩;obtain ⟨R,hR⟩:∃ R,R=w.heap.size + 1:=⟨_,rfl⟩;have S1:=((Mem.start w).newAt (Y3 n (Value.int .i64 0)) 3 g hg).sQ lY 0 rfl (List.replicate n 0) (by simp) (by simp [ay,Rep.flat]) (by simp;omega) hB n (by simp);have S2:Mem w ((w.alloc (.cells (Y3 n (Value.int .i64 0)) 3)).alloc (.cells #[.slice (some ⟨g,0,none⟩) n n] 22)) (.loc R #[.slice (some ⟨g,0,none⟩) n n] 22::[.own ay B 3 (.slice (some ⟨g,0,none⟩) n n) (iL (lG n 0))]):=by
  have h0:iL (lG n 0)=List.replicate n 0:=by simp [iL,lG]
  rw [h0];exact (S1.newAt #[.slice (some ⟨g,0,none⟩) n n] 22 R (by rw [uU];exact hR)).front
 clear S1;have Hg:=Z9 hg;rw [← hR,← hg];have Hb:=Z9 hB;clear hR hg hB;generalize (w.alloc (.cells (Y3 n (Value.int .i64 0)) 3)).alloc (.cells #[.slice (some ⟨g,0,none⟩) n n] 22)=w1 at *;have c0:=(S2.lv 0 rfl).cell 0 _ rfl;go_wp2_with fail
 clear c0;go_loopw [23] (fun i wr=>∃ k:Nat,k≤n∧i=.int .i64 k∧Mem w wr (.loc R #[.slice (some ⟨g,0,none⟩) n n] 22::[.own ay B 3 (.slice (some ⟨g,0,none⟩) n n) (iL (lG n k))])) (fun i _=>n - (intOf i).toNat)
 case atStart=>exact ⟨0,ZN _,rfl,S2⟩
 case round =>
  clear S2;obtain ⟨k,hk,rfl,S2⟩:=hrel;have c0:=(S2.lv 0 rfl).cell 0 _ rfl;by_cases hlt:k < n
  ·have hln:n=(iL (lG n k)).length:=by rw [kX,abS hk]
   obtain ⟨c1,f1⟩:=(S2.ow 1 rfl).sO hln k ((0:Nat):Int) (jY (OL hlt));have S3:Mem w (wr.setCell ⟨g,k,none⟩ (.int .i64 k)) (.loc R #[.slice (some ⟨g,0,none⟩) n n] 22::[.own ay B 3 (.slice (some ⟨g,0,none⟩) n n) (iL (lG n (k + 1)))]):=by
    rw [← abT hlt,Gh];exact S2.FZ 1 rfl hln k _ k (jY (OL hlt))
   clear hln S2;go_wp2_with fail
   go_roundw
   case rel=>exact ⟨k + 1,by omega,by go_num,S3⟩
   case measure=>simp [intOf];omega
  ·obtain rfl:k=n:=by omega
   rw [abU] at S2;have z0:=(HG.out wr S2.b).g.all;rw [Hn.out] at z0;clear hlt c0;obtain ⟨hrg,S3⟩:=S2.Qb (HX.out wr S2.b) (T:=178) (k:=46) (e:=22) (by kernel_rfl);obtain ⟨Y,hY⟩:∃ Y,Y=wr.heap.size:=⟨_,rfl⟩;rw [← hY] at hrg S3;clear hY S2;go_wp2_with fail
   clear hrg z0;generalize wr.alloc (.mapIter (some X) clock #[] clock)=w3 at *;have HR0:Hid (gY aU es clock #[] (qs.map HQ.kv) [] (qs.map HQ.kv)):=gY.start HE.out;go_loopw [9] (fun _ wr=>∃ (c':Nat→Nat) (p:List Nat) (seen:Array Nat) (dq:List HQ) (left:List (ah×Value)),Hid (∀ q∈dq,q∈qs)∧Hid (gY aU es clock seen (qs.map HQ.kv) (dq.map HQ.kv) left)∧Hid (Joined r ts out (dq.map HQ.kl) c')∧Hid (iP k p c')∧Mem w wr [.loc R #[.slice (some ⟨g,0,none⟩) k k] 22,.own ay B 3 (.slice (some ⟨g,0,none⟩) k k) (iL p),.iter Y X clock seen clock]) (fun _ wr=>wQ es Y wr)
   case atStart=>exact ⟨id,YW k,#[],[],_,(fun q hq=>by cases hq),HR0.out,Joined.start r ts out,iP.start k,S3⟩
   case round =>
    clear S3 HR0;obtain ⟨c',p,seen,dq,left,Gs,mP,HJ,sW,S3⟩:=hrel;have hsz3:Hid (wQ es Y wr=left.length):=S3.uH 2 rfl mP.out;rcases S3.LQ 2 (HX.out wr S3.b) rfl (Z5 _) mP.out with ⟨hl0,hp0,hnx⟩ | ⟨pq,left',seen',w5,hpm,hll,hrg,hnx,hen,S5⟩
    --@dev
    ·have hnd:(qs.map HQ.x).Nodup:=by have:=HH.out.1;rw [Eo] at this;exact this
     have HP:Hid (iO ts.length (vW r ts out) c'):=HJ.out.fin2 (ajo hnd Gs.out hp0) HH.out;have hle:∀ i,i < k→c' i≤i:=fun i hi=>HP.out.le i (by rw [Hn.out];exact hi);have hfix:∀ i,i < k→c' (c' i)=c' i:=fun i hi=>HP.out.fix (by rw [Hn.out];exact hi);have nG:=Z9 hle;have vV:=Z9 hfix;have S6:Mem w wr [.loc R #[.slice (some ⟨g,0,none⟩) k k] 22,.own ay B 3 (.slice (some ⟨g,0,none⟩) k k) (iL p)]:=S3.del 2;have c0:=(S6.lv 0 rfl).cell 0 _ rfl;clear hp0 hl0 S3 hnd HJ mP Gs hsz3 hle hfix;go_wp2_with fail
     clear c0 hnx;go_loopw [83] (fun i wr=>∃ (m:Nat) (p2:List Nat),m≤k∧i=.int .i64 m∧Hid (iP k p2 c')∧Hid (Done c' m p2)∧Mem w wr [.loc R #[.slice (some ⟨g,0,none⟩) k k] 22,.own ay B 3 (.slice (some ⟨g,0,none⟩) k k) (iL p2)]) (fun i _=>k - (intOf i).toNat)
     case atStart=>exact ⟨0,p,ZN _,rfl,sW.out,(fun j hj=>absurd hj (Nat.not_lt_zero _)),S6⟩
     case round =>
      clear S6 sW;obtain ⟨m,p2,hm,rfl,sW,HD,S6⟩:=hrel;by_cases hmk:m < k
      ·go_upto_region 21 with fail
       refine dF (fun w'=>w'.cell? ⟨R,0,none⟩=some (.slice (some ⟨g,0,none⟩) k k)) [(true,0),(true,1),(true,2),(true,3),(false,4),(true,5),(false,6)] (by kernel_rfl) (by kernel_rfl) (fun w' hd=>((S6.below (hd.below _)).lv 0 rfl).cell 0 _ rfl) (fun KK aF wd hd=>?_);have S7:=S6.below (hd.below _);have hC:wd.cell? ⟨R,0,none⟩=some (.slice (some ⟨g,0,none⟩) k k):=(S7.lv 0 rfl).cell 0 _ rfl;clear hd S6;refine aa9 (.slice (some ⟨g,0,none⟩) k k) rfl (by simp [Region.wanted,go_sem]) rfl rfl (fun w' h=>eX rfl h) ?_;refine aA ?_;refine aV rfl (fun K9 hK9=>?_) hC;have Hf:=Z9 (Ul w wd R g B k k c' m p2 [] sW.out nG.out vV.out hmk S7);go_wp2_with fail
       refine (Hf.out).mono ?_;rintro e w8 ⟨p3,rfl,hr3,hk3,S8⟩;have yY:=Z9 hr3;have Hk3:=Z9 hk3;have oq:w8.cell? ⟨R,0,none⟩=some (.slice (some ⟨g,0,none⟩) k k):=(S8.lv 0 rfl).cell 0 _ rfl;clear Hf hr3 hk3 S7 hC sW;go_wp2_with fail
       refine ⟨oq,?_⟩;refine aA ?_;obtain ⟨v,hv⟩:∃ v,p3[m]? =some v:=⟨_,Z8 (by rw [yY.out.len];exact hmk)⟩;have hln:k=(iL p3).length:=by rw [kX,yY.out.len]
       obtain ⟨c1,f1⟩:=(S8.ow 1 rfl).sO hln m v (jY hv);have S9:Mem w (w8.setCell ⟨g,m,none⟩ (.int .i64 (c' m))) [.loc R #[.slice (some ⟨g,0,none⟩) k k] 22,.own ay B 3 (.slice (some ⟨g,0,none⟩) k k) (iL (p3.set m (c' m)))]:=by
        rw [Gh];exact S8.FZ 1 rfl hln m v (c' m) (jY hv)
       have eU:=Z9 S9;have Gt:Hid (iP k (p3.set m (c' m)) c'):=yY.out.put (nG.out m hmk) (vV.out m hmk);have HD9:Hid (Done c' (m + 1) (p3.set m (c' m))):=HD.out.next Hk3.out (by rw [yY.out.len];exact hmk);refine aV rfl (fun K9 hK9=>?_) oq;clear S9 hln hv S8 oq;go_wp2_with fail
       refine ⟨(eU.out.lv 0 rfl).cell 0 _ rfl,?_⟩;refine dG ?_;simp only [Exit.then];refine aF _ _ ?_;clear aF KK f1 c1;go_wp2_with fail
       go_roundw
       case rel=>exact ⟨m + 1,p3.set m (c' m),by omega,by go_num,Gt,HD9,eU.out⟩
       case measure=>simp [intOf];omega
      ·obtain rfl:m=k:=by omega
       have c0:=(S6.lv 0 rfl).cell 0 _ rfl;go_wp2_with fail
       go_ret;have e:p2=Bl ts.length c':=by rw [Hn.out];exact HD.out.all sW.out.len
       refine ⟨some ⟨g,0,none⟩,m,c',by rw [Hn.out];rfl,HP.out,?_⟩;have S9:=S6.del 0;rw [← Hb.out,← e,Hn.out];exact S9
    --@xB
    ·obtain ⟨q,hq,rfl⟩:=ajn mP.out hpm;obtain ⟨x,Aq,cq,js⟩:=q;have kS:Hid (gY aU es clock seen' (qs.map HQ.kv) ((dq++[(⟨x,Aq,cq,js⟩:HQ)]).map HQ.kv) left'):=by
      show gY _ _ _ _ _ _ _;rw [ZP];exact hrg
     have Hll:=Z9 hll;have Hq:=Z9 hq;have hnx2:∀ ty,(Instr.next (.pointer (some ⟨Y,0,none⟩)) false ty).run Tryz.prog wr=.ok (.tuple #[.bool true,.agg #[.int .i64 x.k,.string x.t],.slice Aq js.length cq]) w5:=hnx;have CQ:(Instr.entry (.pointer (some ⟨Y,0,none⟩))).run Tryz.prog w5=.ok (.tuple #[.agg #[.int .i64 x.k,.string x.t],.slice Aq js.length cq]) w5:=hen;clear hnx hen S3 hpm hll hrg hq;go_upto_region 11 with fail
     clear hnx2 CQ;obtain ⟨Z,hZ⟩:∃ Z,Z=w5.heap.size:=⟨_,rfl⟩;have S6:Mem w (w5.alloc (.cells #[.int .i64 x.k,.string x.t] 46)) [.loc Z #[.int .i64 x.k,.string x.t] 46,.loc R #[.slice (some ⟨g,0,none⟩) k k] 22,.own ay B 3 (.slice (some ⟨g,0,none⟩) k k) (iL p),.iter Y X clock seen' clock]:=(S5.newAt #[.int .i64 x.k,.string x.t] 46 Z hZ).front;rw [← hZ];clear hZ S5;generalize w5.alloc (.cells #[.int .i64 x.k,.string x.t] 46)=w6 at *;obtain ⟨jx,vX⟩:∃ jx,Hid (Ep r ts out x=jx):=⟨_,Z9 rfl⟩;go_cut [56] (fun s56 wx=>s56=.bool (!jx)∧Mem w wx [.loc Z #[.int .i64 x.k,.string x.t] 46,.loc R #[.slice (some ⟨g,0,none⟩) k k] 22,.own ay B 3 (.slice (some ⟨g,0,none⟩) k k) (iL p),.iter Y X clock seen' clock])
     case first =>
      --@dev
      obtain ⟨J,HJ2⟩:∃ J,Hid (mD r ts x=J):=⟨_,Z9 rfl⟩;have hb6:=S6.b;have rU:=Z9 hb6;have pK:=S6.lv 0 rfl;have HZ:=Z9 (fun w' (h:Below w6.heap.size w6 w')=>LV.dQ pK h pK.lt);have Gu:=Z9 (fun w' (h:Below w6.heap.size w6 w')=>abR N G X r K W S A ck cw cs c ts qs x w' (HG.out w' (hb6.trans (h.mono hb6.size))) Ho.out);rw [HJ2.out] at Gu;have Es:Hid ((J && decide (out≠some x))=jx):=by show _=_;rw [← HJ2.out];exact vX.out
      clear pK hb6 vX HJ2;cases J
      ·have Et:Hid (false=jx):=Es.out;obtain rfl:=Et.out;refine dF (fun w'=>Below w6.heap.size w6 w') [(true,0),(true,1),(false,2),(true,3),(true,4),(true,5),(true,6),(true,7),(true,8),(true,9),(true,10),(true,11),(true,12),(true,13),(true,14)] (by kernel_rfl) (by kernel_rfl) (fun w' hd=>hd.below _) (fun KK aF wd aW=>?_);have hC:=aW.below w6.heap.size;clear aW;refine aA ?_;refine bV (.agg #[.int .i64 x.k,.string x.t]) rfl rfl rfl (fun w' h=>gU ((HZ.out w' h).cell 0 _ rfl) ((HZ.out w' h).cell 1 _ rfl)) ?_;refine aV rfl (fun K9 hK9=>?_) hC;have gW:=Z9 (Gu.out wd hC);go_wp2_with fail
       refine (gW.out).mono ?_;rintro e w7 ⟨rfl,oz⟩;have hC2:=hC.trans (oz.mono hC.size);clear gW oz hC;go_wp2_with fail
       refine ⟨hC2,?_⟩;refine aA ?_;refine dG ?_;simp only [Exit.then];refine aF _ _ ?_;clear aF KK;go_wp2_with fail
       go_meet;exact ⟨rfl,S6.below hC2⟩
      ·cases hout:out with
       | none =>
        have hP:P=.pointer none:=by have:=HO.out;rw [hout] at this;exact this
        have Et:Hid (true=jx):=by have:=Es.out;rw [hout] at this;exact this
        obtain rfl:=Et.out;clear Es;subst hP;refine dF (fun w'=>Below w6.heap.size w6 w') [(true,0),(true,1),(false,2),(true,3),(true,4),(true,5),(true,6),(true,7),(true,8),(true,9),(true,10),(true,11),(true,12),(true,13),(true,14)] (by kernel_rfl) (by kernel_rfl) (fun w' hd=>hd.below _) (fun KK aF wd aW=>?_);have hC:=aW.below w6.heap.size;clear aW;refine aA ?_;refine bV (.agg #[.int .i64 x.k,.string x.t]) rfl rfl rfl (fun w' h=>gU ((HZ.out w' h).cell 0 _ rfl) ((HZ.out w' h).cell 1 _ rfl)) ?_;refine aV rfl (fun K9 hK9=>?_) hC;have gW:=Z9 (Gu.out wd hC);go_wp2_with fail
        refine (gW.out).mono ?_;rintro e w7 ⟨rfl,oz⟩;have hC2:=hC.trans (oz.mono hC.size);clear gW oz hC;go_wp2_with fail
        refine ⟨hC2,?_⟩;refine aA ?_;refine dG ?_;simp only [Exit.then];refine aF _ _ ?_;clear aF KK;go_wp2_with fail
        go_meet;exact ⟨rfl,S6.below hC2⟩
       | some xo =>
        obtain ⟨O,o,hP,Ad,o1,o2⟩:∃ O o,P=.pointer (some ⟨O,o,none⟩)∧O < w.heap.size∧w.cell? ⟨O,o,none⟩=some (.int .i64 xo.k)∧w.cell? ⟨O,o + 1,none⟩=some (.string xo.t):=by have:=HO.out;rw [hout] at this;exact this
        have Bv:Hid (∀ w',Below w6.heap.size w6 w'→w'.cell? ⟨O,o,none⟩=some (.int .i64 xo.k)):=fun w' h=>((rU.out.trans (h.mono rU.out.size)).cell (p:=⟨O,o,none⟩) Ad).trans o1;have vH:Hid (∀ w',Below w6.heap.size w6 w'→w'.cell? ⟨O,o + 1,none⟩=some (.string xo.t)):=fun w' h=>((rU.out.trans (h.mono rU.out.size)).cell (p:=⟨O,o + 1,none⟩) Ad).trans o2;subst hP;clear o1 o2 Ad;by_cases hxx:xo=x
        ·subst hxx;have Et:Hid (false=jx):=by have:=Es.out;rw [hout] at this;show _=_;rw [← this];simp
         obtain rfl:=Et.out;have hk0:(xo.k==xo.k)=true:=by simp
         have hk1:(xo.t.toList==xo.t.toList)=true:=by simp
         clear Es hout;refine dF (fun w'=>Below w6.heap.size w6 w') [(true,0),(true,1),(false,2),(true,3),(true,4),(true,5),(true,6),(true,7),(true,8),(true,9),(true,10),(true,11),(true,12),(true,13),(true,14)] (by kernel_rfl) (by kernel_rfl) (fun w' hd=>hd.below _) (fun KK aF wd aW=>?_);have hC:=aW.below w6.heap.size;clear aW;refine aA ?_;refine bV (.agg #[.int .i64 xo.k,.string xo.t]) rfl rfl rfl (fun w' h=>gU ((HZ.out w' h).cell 0 _ rfl) ((HZ.out w' h).cell 1 _ rfl)) ?_;refine aV rfl (fun K9 hK9=>?_) hC;have gW:=Z9 (Gu.out wd hC);go_wp2_with fail
         refine (gW.out).mono ?_;rintro e w7 ⟨rfl,oz⟩;have hC2:=hC.trans (oz.mono hC.size);clear gW oz hC;go_wp2_with fail
         refine ⟨hC2,?_⟩;refine aA ?_;refine bV (.agg #[.int .i64 xo.k,.string xo.t]) rfl rfl rfl (fun w' h=>gU (Bv.out w' h) (vH.out w' h)) ?_;refine bV (.agg #[.int .i64 xo.k,.string xo.t]) rfl rfl rfl (fun w' h=>gU ((HZ.out w' h).cell 0 _ rfl) ((HZ.out w' h).cell 1 _ rfl)) ?_;refine aA ?_;refine dG ?_;simp only [Exit.then];refine aF _ _ ?_;clear aF KK;go_wp2_with fail
         go_meet;exact ⟨rfl,S6.below hC2⟩
        ·have Et:Hid (true=jx):=by have:=Es.out;rw [hout] at this;show _=_;rw [← this];simp [hxx]
         obtain rfl:=Et.out;clear Es hout;by_cases h1:xo.k=x.k
         ·have hk0:(xo.k==x.k)=true:=by simp [h1]
          have hk1:(xo.t.toList==x.t.toList)=false:=by
           cases e:(xo.t.toList==x.t.toList) with
           | false=>rfl
           | true=>exact absurd (OI h1 e) hxx
          clear h1 hxx;refine dF (fun w'=>Below w6.heap.size w6 w') [(true,0),(true,1),(false,2),(true,3),(true,4),(true,5),(true,6),(true,7),(true,8),(true,9),(true,10),(true,11),(true,12),(true,13),(true,14)] (by kernel_rfl) (by kernel_rfl) (fun w' hd=>hd.below _) (fun KK aF wd aW=>?_);have hC:=aW.below w6.heap.size;clear aW;refine aA ?_;refine bV (.agg #[.int .i64 x.k,.string x.t]) rfl rfl rfl (fun w' h=>gU ((HZ.out w' h).cell 0 _ rfl) ((HZ.out w' h).cell 1 _ rfl)) ?_;refine aV rfl (fun K9 hK9=>?_) hC;have gW:=Z9 (Gu.out wd hC);go_wp2_with fail
          refine (gW.out).mono ?_;rintro e w7 ⟨rfl,oz⟩;have hC2:=hC.trans (oz.mono hC.size);clear gW oz hC;go_wp2_with fail
          refine ⟨hC2,?_⟩;refine aA ?_;refine bV (.agg #[.int .i64 xo.k,.string xo.t]) rfl rfl rfl (fun w' h=>gU (Bv.out w' h) (vH.out w' h)) ?_;refine bV (.agg #[.int .i64 x.k,.string x.t]) rfl rfl rfl (fun w' h=>gU ((HZ.out w' h).cell 0 _ rfl) ((HZ.out w' h).cell 1 _ rfl)) ?_;refine aA ?_;refine dG ?_;simp only [Exit.then];refine aF _ _ ?_;clear aF KK;go_wp2_with fail
          go_meet;exact ⟨rfl,S6.below hC2⟩
         ·have hk0:(xo.k==x.k)=false:=by simpa using h1
          clear h1 hxx;refine dF (fun w'=>Below w6.heap.size w6 w') [(true,0),(true,1),(false,2),(true,3),(true,4),(true,5),(true,6),(true,7),(true,8),(true,9),(true,10),(true,11),(true,12),(true,13),(true,14)] (by kernel_rfl) (by kernel_rfl) (fun w' hd=>hd.below _) (fun KK aF wd aW=>?_);have hC:=aW.below w6.heap.size;clear aW;refine aA ?_;refine bV (.agg #[.int .i64 x.k,.string x.t]) rfl rfl rfl (fun w' h=>gU ((HZ.out w' h).cell 0 _ rfl) ((HZ.out w' h).cell 1 _ rfl)) ?_;refine aV rfl (fun K9 hK9=>?_) hC;have gW:=Z9 (Gu.out wd hC);go_wp2_with fail
          refine (gW.out).mono ?_;rintro e w7 ⟨rfl,oz⟩;have hC2:=hC.trans (oz.mono hC.size);clear gW oz hC;go_wp2_with fail
          refine ⟨hC2,?_⟩;refine aA ?_;refine bV (.agg #[.int .i64 xo.k,.string xo.t]) rfl rfl rfl (fun w' h=>gU (Bv.out w' h) (vH.out w' h)) ?_;refine bV (.agg #[.int .i64 x.k,.string x.t]) rfl rfl rfl (fun w' h=>gU ((HZ.out w' h).cell 0 _ rfl) ((HZ.out w' h).cell 1 _ rfl)) ?_;refine aA ?_;refine dG ?_;simp only [Exit.then];refine aF _ _ ?_;clear aF KK;go_wp2_with fail
          go_meet;exact ⟨rfl,S6.below hC2⟩
      --@xB
     case rest =>
      obtain ⟨rfl,S7⟩:=hcut;have hdq:∀ q∈dq++[(⟨x,Aq,cq,js⟩:HQ)],q∈qs:=fun q hq=>by
       rcases List.mem_append.1 hq with hq | hq
       ·exact Gs.out q hq
       ·rw [List.mem_singleton.1 hq];exact Hq.out
      have Gv:=Z9 hdq;clear S6 hdq;cases jx
      ·have HJ2:Hid (Joined r ts out ((dq++[(⟨x,Aq,cq,js⟩:HQ)]).map HQ.kl) c'):=by
        show Joined _ _ _ _ _;rw [ZP];exact HJ.out.skip vX.out
       have S8:=S7.del 0;clear S7 HJ;go_wp2_with fail
       go_roundw
       case rel=>exact ⟨c',p,seen',_,left',Gv.out,kS.out,HJ2.out,sW.out,S8⟩
       case measure =>
        rw [hsz3.out,S8.uH 2 rfl kS.out];have:=Hll.out;omega
      ·have S8:Mem w wc [.loc R #[.slice (some ⟨g,0,none⟩) k k] 22,.own ay B 3 (.slice (some ⟨g,0,none⟩) k k) (iL p),.iter Y X clock seen' clock]:=S7.del 0;clear S7;obtain ⟨hjs,hne⟩:=HH.out.entry (p:=(x,js)) (List.mem_map.2 ⟨_,Hq.out,rfl⟩);have Uu:js=hav ts x:=hjs;have hcq:js.length≤cq:=HC.out _ Hq.out;have hln:1≤js.length:=by
        cases js with
        | nil=>exact absurd rfl hne
        | cons _ _=>simp
       have hjk:js.length≤k:=by rw [Uu,← Hn.out];exact Ug ts x
       have Gm:Hid (Ep r ts out x=true):=vX.out;have Uw:Hid (∀ j,j∈js→j∈hav ts x):=fun j hj=>by rw [← Uu];exact hj
       have OM:Hid (∀ j,j∈js→j < k):=fun j hj=>by rw [← Hn.out];exact KD (Uw.out j hj)
       obtain ⟨a,ha⟩:∃ a,js[0]? =some a:=⟨_,Z8 (by omega)⟩;obtain ⟨blk,off,l0,eA,hblk,_,hl0,_⟩:=(HG.out w (ZX _ _)).s _ Hq.out 0 _ (jY ha);have eA2:Aq=some ⟨blk,off,none⟩:=eA;subst eA2;have HSl:Hid (∀ (w':World),Below w.heap.size w w'→∀ (i j:Nat),js[i]? =some j→w'.cell? ⟨blk,off + i,none⟩=some (.int .i64 (j:Nat))):=fun w' h i j hj=>by
        obtain ⟨b2,o2,l2,e2,_,_,r2,h2⟩:=(HG.out w' h).s _ Hq.out i _ (jY hj);have e3:(some (⟨blk,off,none⟩:Addr))=some ⟨b2,o2,none⟩:=e2;simp only [Option.some.injEq,Addr.mk.injEq,and_true] at e3;obtain ⟨rfl,rfl⟩:=e3;have hl:l2=[.int .i64 (j:Nat)]:=r2;subst hl;have h3:=h2 0 _ rfl;rw [Nat.add_zero,show i * ay.size=i from Nat.mul_one i] at h3;exact h3
       have Ha:=Z9 ha;clear hjs Uu hne eA hblk hl0 ha vX Hq;have HJ0:Hid (∀ j∈js.take 1,c' j=c' a):=fun j hj=>by
        rw [take_snoc (k:=0) Ha.out] at hj;simp at hj;rw [hj]
       obtain ⟨jl,hjl⟩:∃ jl,js.length=jl + 1:=⟨js.length - 1,by omega⟩;have Hjl:=Z9 hjl;rw [hjl] at hcq hjk hln ⊢;clear hjl;obtain ⟨cl,rfl⟩:∃ cl,cq=cl + 1:=⟨cq - 1,by omega⟩;go_upto_region 12 with fail
       go_cut [58,59,60] (fun s58 s59 s60 wx=>∃ o c8,s58=.slice (some ⟨blk,o,none⟩) jl c8∧s59=.int .i64 (jl:Nat)∧s60=.int .i64 0∧Hid (0 < jl→o=off + 1)∧wc=wx)
       case first =>
        by_cases hc1:cl=0
        ·subst hc1;obtain rfl:jl=0:=by omega
         go_wp2_with fail
         go_meet;exact ⟨off,_,rfl,rfl,rfl,(fun h=>absurd h (Nat.lt_irrefl _)),rfl⟩
        ·go_wp2_with fail
         go_meet;exact ⟨off + 1,_,rfl,rfl,rfl,fun _=>rfl,rfl⟩
       case rest =>
        obtain ⟨o,c8,rfl,rfl,rfl,Ho8,rfl⟩:=hcut;go_wp2_with fail
        go_loopw [60] (fun i wr=>∃ (m:Nat) (c2:Nat→Nat) (p2:List Nat),m≤jl∧i=.int .i64 m∧Hid (Joined r ts out (dq.map HQ.kl) c2)∧Hid (∀ j∈js.take (m + 1),c2 j=c2 a)∧Hid (iP k p2 c2)∧Mem w wr [.loc R #[.slice (some ⟨g,0,none⟩) k k] 22,.own ay B 3 (.slice (some ⟨g,0,none⟩) k k) (iL p2),.iter Y X clock seen' clock]) (fun i _=>jl - (intOf i).toNat)
        case atStart=>exact ⟨0,c',p,ZN _,rfl,HJ.out,HJ0.out,sW.out,S8⟩
        case round =>
         clear S8 sW HJ HJ0;obtain ⟨m,c2,p2,hm,rfl,HJ,HS,sW,S8⟩:=hrel;by_cases hlt:m < jl
         ·obtain ⟨b,hb⟩:∃ b,js[m + 1]? =some b:=⟨_,Z8 (by rw [Hjl.out];omega)⟩;have hak:a < k:=OM.out a (Z7 Ha.out);have hbk:b < k:=OM.out b (Z7 hb);have d0:=HSl.out wr S8.b 0 a Ha.out;have d1:=HSl.out wr S8.b (m + 1) b hb;rw [Nat.add_zero] at d0;obtain rfl:=Ho8.out (by omega);rw [show off + (m + 1)=off + 1 + m by omega] at d1;have Hb2:=Z9 hb;have hle:∀ i,i < k→c2 i≤i:=fun i hi=>HJ.out.Gq.le i (by rw [Hn.out];exact hi);have hfix:∀ i,i < k→c2 (c2 i)=c2 i:=fun i hi=>HJ.out.Gq.fix i (by rw [Hn.out];exact hi);have nG:=Z9 hle;have vV:=Z9 hfix;clear hb hle hfix;have Hf:=Z9 (Ul w wr R g B k k c2 a p2 [.iter Y X clock seen' clock] sW.out nG.out vV.out hak S8);go_wp2_with fail
          refine (Hf.out).mono ?_;rintro e w8 ⟨p3,rfl,hr3,hk3,S9⟩;have yY:=Z9 hr3;have Fg:=Z9 (Ul w w8 R g B k k c2 b p3 [.iter Y X clock seen' clock] hr3 nG.out vV.out hbk S9);clear Hf hr3 hk3 S8 sW d0 d1;go_wp2_with fail
          refine (Fg.out).mono ?_;rintro e w9 ⟨p4,rfl,hr4,hk4,aZ⟩;have yZ:=Z9 hr4;clear Fg hr4 hk4 S9;have c0:=(aZ.lv 0 rfl).cell 0 _ rfl;have Ux:k=(iL p4).length:=by rw [kX,yZ.out.len]
          have hua:c2 a < k:=Nat.lt_of_le_of_lt (nG.out a hak) hak;have hub:c2 b < k:=Nat.lt_of_le_of_lt (nG.out b hbk) hbk;obtain ⟨v,hv⟩:∃ v,p4[max (c2 a) (c2 b)]? =some v:=⟨_,Z8 (by rw [yZ.out.len];omega)⟩;obtain ⟨c1,f1⟩:=(aZ.ow 1 rfl).sO Ux (max (c2 a) (c2 b)) v (jY hv);have dW:Mem w (w9.setCell ⟨g,max (c2 a) (c2 b),none⟩ (.int .i64 (min (c2 a) (c2 b):Nat))) [.loc R #[.slice (some ⟨g,0,none⟩) k k] 22,.own ay B 3 (.slice (some ⟨g,0,none⟩) k k) (iL (p4.set (max (c2 a) (c2 b)) (min (c2 a) (c2 b)))),.iter Y X clock seen' clock]:=by
           rw [Gh];exact aZ.FZ 1 rfl Ux (max (c2 a) (c2 b)) v _ (jY hv)
          have Eu:=Z9 dW;have HJ9:Hid (Joined r ts out (dq.map HQ.kl) (mg (c2 a) (c2 b) c2)):=HJ.out.step Gm.out (Uw.out a (Z7 Ha.out)) (Uw.out b (Z7 Hb2.out));have eU:Hid (∀ j∈js.take (m + 1 + 1),mg (c2 a) (c2 b) c2 j=mg (c2 a) (c2 b) c2 a):=ajk HS.out Hb2.out;have Gt:Hid (iP k (p4.set (max (c2 a) (c2 b)) (min (c2 a) (c2 b))) (mg (c2 a) (c2 b) c2)):=yZ.out.join (vV.out a hak) (vV.out b hbk);clear dW hv Ux HJ HS yY yZ aZ;rcases Nat.le_total (c2 a) (c2 b) with hab | hab
          ·rw [Nat.max_eq_right hab,Zl hab] at Eu Gt;rw [Nat.max_eq_right hab] at c1 f1;have hmx:max (c2 a:Int) (c2 b)=c2 b:=by omega
           have hmn:min (c2 a:Int) (c2 b)=c2 a:=by omega
           go_wp2_with fail
           go_roundw
           case rel=>exact ⟨m + 1,_,_,by omega,by go_num,HJ9.out,eU.out,Gt.out,Eu.out⟩
           case measure=>simp [intOf];omega
          ·rw [Nat.max_eq_left hab,Nat.min_eq_right hab] at Eu Gt;rw [Nat.max_eq_left hab] at c1 f1;have hmx:max (c2 a:Int) (c2 b)=c2 a:=by omega
           have hmn:min (c2 a:Int) (c2 b)=c2 b:=by omega
           go_wp2_with fail
           go_roundw
           case rel=>exact ⟨m + 1,_,_,by omega,by go_num,HJ9.out,eU.out,Gt.out,Eu.out⟩
           case measure=>simp [intOf];omega
         ·obtain rfl:m=jl:=by omega
          have HJ2:Hid (Joined r ts out ((dq++[(⟨x,some ⟨blk,off,none⟩,cl + 1,js⟩:HQ)]).map HQ.kl) c2):=by
           show Joined _ _ _ _ _;rw [ZP];exact HJ.out.next (p:=(x,js)) (a:=a) (fun j hj=>HS.out j (by rw [← Hjl.out,Zp];exact hj))
          go_wp2_with fail
          go_roundw
          case rel=>exact ⟨c2,p2,seen',_,left',Gv.out,kS.out,HJ2.out,sW.out,S8⟩
          case measure =>
           rw [hsz3.out,S8.uH 2 rfl kS.out];have:=Hll.out;omega
end
end Go.Proofs.YtmkkppknaikjjaaGreatDoor
