/- Several texts in one: NewGroup, PartsLaw, Grp, MapGR, Parts. -/
import Derived.Test.YtmkkppknaikjjaaGreatDoorPixP
import Derived.Deep.DeepCutAuto
/- What newGroup returns: touches under rules, and which touches have each id. -/
namespace Go.Proofs.YtmkkppknaikjjaaGreatDoor
section
open Go Go.RowKit
def GivesGrp (r:Rul)(K:Option Addr)(ck:Nat)(W:Option Addr)(cw:Nat)(S:Option Addr)(cs:Nat)(A:Option Addr)(c:Nat)(ts:List Tch)(w:World)(e:Ending)(w':World):Prop :=
 ∃ (G X:Nat) (qs:List HQ),e=.returned (.pointer (some ⟨G,0,none⟩))∧Mem w w' (.loc G (grCs r K ck W cw S cs A ts.length c X) 180::havC w.heap.size X qs)∧HavOk ts ts.length [] (qs.map HQ.kl)
theorem oneJ (y:Int):∀ u∈([.int .i64 y]:List Value),u.oneCell'=true:=fun u hu=>by rw [List.mem_singleton.1 hu];rfl
theorem notin_take {α:Type}{l:List α}{n:Nat}{x:α}(hn:l.Nodup)(hx:l[n]? =some x):x ∉ l.take n:=fun h=>by
 obtain ⟨m,hm⟩:=List.mem_iff_getElem?.1 h;have hmn:m < n:=by
  have:=lt_of_get hm
  rw [List.length_take] at this;omega
 rw [List.getElem?_take_of_lt hmn] at hm;obtain ⟨h1,e1⟩:=List.getElem?_eq_some_iff.1 hm;obtain ⟨h2,e2⟩:=List.getElem?_eq_some_iff.1 hx;exact List.pairwise_iff_getElem.1 hn m n h1 h2 hmn (e1.trans e2.symm)
set_option maxHeartbeats 4000000 in
set_option maxRecDepth 100000 in
theorem newGroup_any (N:Nat→Prop)(r:Rul)(K W S A:Option Addr)(ck cw cs c:Nat)(ts:List Tch)(w:World)(hT:Sl rTch N w A ts)(hl:ts.length≤1000000)(hnd:∀ t∈ts,t.ids.Nodup)(hil:∀ t∈ts,t.ids.length≤1000000) :
  Calls Tryz.prog 54 #[.agg (ruCs r K ck W cw S cs),.slice A ts.length c] w (GivesGrp r K ck W cw S cs A c ts w):=by
 have HT:=Lib.hid (fun w' (h:Below w.heap.size w w')=>hT.keepB h);have Hnd:=Lib.hid hnd;have Hil:=Lib.hid hil;have S0:=(Mem.start w).newAt (ruCs r K ck W cw S cs) 29 w.heap.size rfl;have y0:=(S0.lv 0 rfl).all;have hmm:=@run_makeMap Tryz.prog;clear hT hnd hil;go_enter Tryz.func54,Tryz.ntmps54
 go_wp2_with fail
 obtain ⟨B,hB⟩:∃ B,B=w.heap.size:=⟨_,rfl⟩;obtain ⟨X,hX⟩:∃ X,X=w.heap.size + 1:=⟨_,rfl⟩;obtain ⟨G,hG⟩:∃ G,G=w.heap.size + 1 + 1:=⟨_,rfl⟩;have S1:=(S0.newMapG keyId X (by rw [alloc_size];exact hX)).newAt (grCs r K ck W cw S cs A ts.length c X) 180 G (by rw [alloc_size,alloc_size];exact hG);have S2:Mem w _ (.loc G (grCs r K ck W cw S cs A ts.length c X) 180::havC B X []):=(S1.del 0).front;rw [← hG,← hX];clear hG hX hmm y0 S0 S1;have Hb:=Lib.hid hB;clear hB;generalize World.alloc _ _=w1 at S2 ⊢;go_loopw [17] (fun i wr=>∃ (k:Nat) (qs:List HQ),k≤ts.length∧i=.int .i64 k∧Hid (HavOk ts k [] (qs.map HQ.kl))∧Mem w wr (.loc G (grCs r K ck W cw S cs A ts.length c X) 180::havC B X qs)) (fun i _=>ts.length - (intOf i).toNat)
 case atStart=>exact ⟨0,[],Nat.zero_le _,rfl,HavOk.start ts,S2⟩
 case round =>
  clear S2;obtain ⟨k,qs,hk,rfl,HO,S2⟩:=hrel;by_cases hlt:k < ts.length
  ·obtain ⟨t,ht⟩:∃ t,ts[k]? =some t:=⟨_,List.getElem?_eq_getElem hlt⟩;obtain ⟨blk,off,Ai,ci,Af,cf,rfl,hblk,d0,d1,d2,d3,d4,hi,hf⟩:=(HT.out w (Below.refl _ _)).tch k t ht;have hcl:=fun (p:Addr) (hp:p.block < w.heap.size)=>S2.b.cell hp;rw [← hcl _ hblk] at d0 d1 d2 d3 d4;clear hcl;have HI:=Lib.hid (fun w' (h:Below w.heap.size w w')=>hi.keepB h);have Hn:=Lib.hid (Hnd.out t (List.mem_of_getElem? ht));have hil:t.ids.length≤1000000:=Hil.out t (List.mem_of_getElem? ht);have Ht:=Lib.hid ht;clear hi hf ht;go_upto_region 5 with fail
   clear d0 d1 d2 d3 d4;obtain ⟨Y,hY⟩:∃ Y,Y=wr.heap.size:=⟨_,rfl⟩;have S3:Mem w _ (.loc Y (tcCs t Ai ci Af cf) 58::.loc G (grCs r K ck W cw S cs (some ⟨blk,off,none⟩) ts.length c X) 180::havC B X qs):=(S2.newAt (tcCs t Ai ci Af cf) 58 Y hY).front;rw [← hY];clear hY S2;generalize wr.alloc (.cells (tcCs t Ai ci Af cf) 58)=w4 at *;have c3:=(S3.lv 0 rfl).all;go_wp2_with fail
   clear c3;go_loopw [25] (fun i wr=>∃ (n:Nat) (qs:List HQ),n≤t.ids.length∧i=.int .i64 n∧Hid (HavOk ts k (t.ids.take n) (qs.map HQ.kl))∧Mem w wr (.loc Y (tcCs t Ai ci Af cf) 58::.loc G (grCs r K ck W cw S cs (some ⟨blk,off,none⟩) ts.length c X) 180::havC B X qs)) (fun i _=>t.ids.length - (intOf i).toNat)
   case atStart=>exact ⟨0,qs,Nat.zero_le _,rfl,HO.out,S3⟩
   case round =>
    clear S3 HO;obtain ⟨n,q1,hn,rfl,HO,S3⟩:=hrel;by_cases hlt2:n < t.ids.length
    ·obtain ⟨x,hx⟩:∃ x,t.ids[n]? =some x:=⟨_,List.getElem?_eq_getElem hlt2⟩;obtain ⟨ib,io,rfl,hib,c0,c1⟩:=(HI.out wr S3.b).idv n x hx;have Hx:=Lib.hid hx;clear hx;go_upto_region 8 with fail
     clear c0 c1;obtain ⟨Z,hZ⟩:∃ Z,Z=wr.heap.size:=⟨_,rfl⟩;have S4:Mem w _ (.loc Z #[.int .i64 x.k,.string x.t] 46::.loc Y (tcCs t (some ⟨ib,io,none⟩) ci Af cf) 58::.loc G (grCs r K ck W cw S cs (some ⟨blk,off,none⟩) ts.length c X) 180::havC B X q1):=(S3.newAt #[.int .i64 x.k,.string x.t] 46 Z hZ).front;rw [← hZ];clear hZ S3;generalize wr.alloc (.cells #[.int .i64 x.k,.string x.t] 46)=w5 at *;obtain ⟨qs1,j,q,e1,e2,e3,e4,e5,e6,e7,e8⟩:=hq_step q1 (by have:=HO.out.1;rw [kl_keys] at this;exact this) x;have hsB:B≤w5.heap.size:=by rw [Hb.out];exact S4.b.size
     go_wp2_with fail
     refine wp_region_mix (fun w'=>LV w' G (grCs r K ck W cw S cs (some ⟨blk,off,none⟩) ts.length c X) 180∧LV w' Z #[.int .i64 x.k,.string x.t] 46) [(true,0),(true,1),(true,2),(true,3),(true,4),(true,5),(false,6),(false,7),(true,8),(true,10),(false,9),(false,11)] (by kernel_rfl) (by kernel_rfl) (fun w' hd=>⟨(S4.below (hd.below _)).lv 2 rfl,(S4.below (hd.below _)).lv 0 rfl⟩) (fun KK hKK wd hd=>?_);have S5:=S4.below (hd.below _);have hsB2:B≤wd.heap.size:=by rw [hd.heap];exact hsB
     have hC:LV wd G (grCs r K ck W cw S cs (some ⟨blk,off,none⟩) ts.length c X) 180∧LV wd Z #[.int .i64 x.k,.string x.t] 46:=⟨S5.lv 2 rfl,S5.lv 0 rfl⟩;clear hd S4 hsB;refine mpR ?_;refine mix_loadH (.map (some X)) rfl rfl rfl (fun w' h=>loadC rfl (h.1.cell 5 _ rfl)) ?_;refine mpR ?_;refine mix_loadH (.agg #[.int .i64 x.k,.string x.t]) rfl rfl rfl (fun w' h=>loadAtI (h.2.cell 0 _ rfl) (h.2.cell 1 _ rfl)) ?_;refine mpR ?_;refine mix_l rfl (fun K9 hK9=>?_) hC;go_wp2_with fail
     obtain ⟨V,hV⟩:∃ V,V=wd.heap.size:=⟨_,rfl⟩;have S6:Mem w _ (.loc V #[.int .i64 k] 3::.loc Z #[.int .i64 x.k,.string x.t] 46::.loc Y (tcCs t (some ⟨ib,io,none⟩) ci Af cf) 58::.loc G (grCs r K ck W cw S cs (some ⟨blk,off,none⟩) ts.length c X) 180::havC B X q1):=(S5.newAt #[.int .i64 k] 3 V hV).front;have hsB3:B≤(wd.alloc (.cells #[.int .i64 k] 3)).heap.size:=by rw [alloc_size];omega
     rw [← hV];clear hV S5 hC hsB2;generalize wd.alloc (.cells #[.int .i64 k] 3)=w6 at *;refine ⟨⟨S6.lv 3 rfl,S6.lv 1 rfl⟩,?_⟩;refine mix_l rfl (fun K9 hK9=>?_) ⟨S6.lv 3 rfl,S6.lv 1 rfl⟩;refine S6.entryG (K:=keyId) 4 rfl (T:=178) (E:=22) (by kernel_rfl) zeroInts rfl _ _ rfl rfl x rfl ?_;intro st w7 S7 hsz7;rw [e4,e5] at S7;rw [e4];have S8:Mem w w7 (.loc V #[.int .i64 k] 3::.loc Z #[.int .i64 x.k,.string x.t] 46::.loc Y (tcCs t (some ⟨ib,io,none⟩) ci Af cf) 58::.loc G (grCs r K ck W cw S cs (some ⟨blk,off,none⟩) ts.length c X) 180::.ent keyId X (qs1.map HQ.kv) x st::qs1.map (hq B)):=e8 B w w7 [.loc V #[.int .i64 k] 3,.loc Z #[.int .i64 x.k,.string x.t] 46,.loc Y (tcCs t (some ⟨ib,io,none⟩) ci Af cf) 58,.loc G (grCs r K ck W cw S cs (some ⟨blk,off,none⟩) ts.length c X) 180,.ent keyId X (qs1.map HQ.kv) x st] S7;have hsB4:B≤w7.heap.size:=Nat.le_trans hsB3 hsz7;have hqv:q.v=.slice q.A q.js.length q.c:=rfl;rw [hqv];clear S6 S7 hsB3 hsz7 hqv;go_wp2_with fail
     refine ⟨⟨S8.lv 3 rfl,S8.lv 1 rfl⟩,?_⟩;refine mpR ?_;have hcs:∀ (j:Nat) (u:Value),([(k:Int)].map (fun n=>[Value.int .i64 n])).flatten[j]? =some u→w7.cell? ((⟨V,0,none⟩:Addr).add j)=some u:=fun j u hu=>by
      have h0:=(S8.lv 0 rfl).cell 0 _ rfl;cases j with
      | zero=>simp at hu;subst hu;exact h0
      | succ j=>simp at hu
     have hjl:q.js.length≤2000000:=by
      have h1:=HO.out.2 x;rw [← e6,h1,some1_getD,List.length_append];have h2:=hav_len (ts.take k) x;rw [List.length_take] at h2;have h3:(if x∈t.ids.take n then [k] else []).length≤1:=by split <;> simp
      omega
     refine mix_l rfl (fun K9 hK9=>?_) ⟨S8.lv 3 rfl,S8.lv 1 rfl⟩;refine S8.appN flatInt (j + 5) (by show (qs1.map (hq B))[j]? =_;rw [List.getElem?_map,e1];rfl) tyIntP rfl _ _ rfl [(k:Int)] 1 1 rfl rfl ⟨V,0,none⟩ rfl hcs (fun y _=>oneJ y) (fun _=>rfl) hsB4 (by rw [iL_len];simp only [List.length_singleton];omega) (by decide) ?_;intro v9 w9 S9;have S10:Mem w w9 (.loc V #[.int .i64 k] 3::.loc Z #[.int .i64 x.k,.string x.t] 46::.loc Y (tcCs t (some ⟨ib,io,none⟩) ci Af cf) 58::.loc G (grCs r K ck W cw S cs (some ⟨blk,off,none⟩) ts.length c X) 180::.ent keyId X (qs1.map HQ.kv) x st::(qs1.map (hq B)).set j (.own rInt B 3 v9 (iL (q.js++[k])))):=by rw [iL_snoc];exact S9
     have hi9:((qs1.map (hq B)).set j (.own rInt B 3 v9 (iL (q.js++[k]))))[j]? =some (.own rInt B 3 v9 (iL (q.js++[k]))):=List.getElem?_set_self (by rw [List.length_map];exact lt_of_get e1);obtain ⟨A9,c9,e9⟩:=(S10.ow (j + 5) hi9).len;rw [iL_len] at e9;subst e9;have S11:Mem w w9 (.loc V #[.int .i64 k] 3::.loc Z #[.int .i64 x.k,.string x.t] 46::.loc Y (tcCs t (some ⟨ib,io,none⟩) ci Af cf) 58::.loc G (grCs r K ck W cw S cs (some ⟨blk,off,none⟩) ts.length c X) 180::.ent keyId X (qs1.map HQ.kv) x st::(qs1.set j ⟨q.x,A9,c9,q.js++[k]⟩).map (hq B)):=by rw [List.map_set];exact S10
     obtain ⟨ha1,ha2⟩:=hq_add (qs:=q1) e1 e2 e3 e6 e7 A9 c9 k;clear S8 S9 S10 hi9 hcs hjl e6 e7 e8;go_wp2_with fail
     refine ⟨⟨S11.lv 3 rfl,S11.lv 1 rfl⟩,?_⟩;refine mix_l rfl (fun K9 hK9=>?_) ⟨S11.lv 3 rfl,S11.lv 1 rfl⟩;refine S11.estoreG 4 rfl rfl _ _ _ rfl rfl rfl (HQ.v ⟨q.x,A9,c9,q.js++[k]⟩) rfl ?_;intro w10 S12;rw [ha1] at S12;go_wp2_with fail
     refine ⟨⟨S12.lv 3 rfl,S12.lv 1 rfl⟩,?_⟩;have S13:Mem w w10 (.loc Y (tcCs t (some ⟨ib,io,none⟩) ci Af cf) 58::.loc G (grCs r K ck W cw S cs (some ⟨blk,off,none⟩) ts.length c X) 180::havC B X (qs1.set j ⟨q.x,A9,c9,q.js++[k]⟩)):=(S12.del 0).del 0;have HO2:Hid (HavOk ts k (t.ids.take (n + 1)) ((qs1.set j ⟨q.x,A9,c9,q.js++[k]⟩).map HQ.kl)):=by
      show HavOk _ _ _ _;rw [take_snoc Hx.out,← ha2];exact HO.out.add (notin_take Hn.out Hx.out)
     clear S11 S12 HO ha1 ha2;refine mpR ?_;refine mix_nil ?_;simp only [Exit.then];refine hKK _ _ ?_;clear hKK KK;generalize qs1.set j ⟨q.x,A9,c9,q.js++[k]⟩=q2 at *;go_wp2_with fail
     go_roundw
     case rel=>exact ⟨n + 1,q2,by omega,by go_num,HO2,S13⟩
     case measure=>simp [intOf];omega
    ·obtain rfl:n=t.ids.length:=by omega
     have Hn2:Hid (HavOk ts (k + 1) [] (q1.map HQ.kl)):=HavOk.next Ht.out (by have:=HO.out;rw [List.take_length] at this;exact this);have S9:Mem w wr (.loc G (grCs r K ck W cw S cs (some ⟨blk,off,none⟩) ts.length c X) 180::havC B X q1):=S3.del 0;clear S3 HO;go_wp2_with fail
     go_roundw
     case rel=>exact ⟨k + 1,q1,by omega,by go_num,Hn2,S9⟩
     case measure=>simp [intOf];omega
  ·obtain rfl:k=ts.length:=by omega
   go_wp2_with fail
   go_ret;exact ⟨G,X,qs,rfl,Hb.out ▸ S2,HO.out⟩
end
section
open Go Go.RowKit
def joinsX (r:Rul)(l:List Tch)(out:Option IdV)(x:IdV):Bool:=joinsP r l x && decide (out≠some x)
def EdgeX (r:Rul)(l:List Tch)(out:Option IdV)(i j:Nat):Prop:=∃ x,joinsX r l out x=true∧x∈idsAt l i∧x∈idsAt l j
theorem EdgeX.symm {r:Rul}{l:List Tch}{out:Option IdV}(i j:Nat):EdgeX r l out i j→EdgeX r l out j i:=fun ⟨x,h,h1,h2⟩=>⟨x,h,h2,h1⟩
structure Joined (r:Rul) (ts:List Tch) (out:Option IdV) (done:List (IdV×List Nat)) (c:Nat→Nat):Prop where
 labs:Labs ts.length (EdgeX r ts out) c
 same:∀ p∈done,joinsX r ts out p.1=true→∀ i∈p.2,∀ j∈p.2,c i=c j
theorem Joined.start (r:Rul)(ts:List Tch)(out:Option IdV):Joined r ts out [] id:=⟨Labs.start _ _,fun _ h=>by cases h⟩
theorem Joined.skip {r:Rul}{ts:List Tch}{out:Option IdV}{done:List (IdV×List Nat)}{c:Nat→Nat}(h:Joined r ts out done c){p:IdV×List Nat}(hp:joinsX r ts out p.1=false):Joined r ts out (done++[p]) c:=by
 refine ⟨h.labs,fun q hq hj=>?_⟩;rcases List.mem_append.1 hq with hq | hq
 ·exact h.same q hq hj
 ·rw [List.mem_singleton.1 hq,hp] at hj;cases hj
theorem Joined.step {r:Rul}{ts:List Tch}{out:Option IdV}{done:List (IdV×List Nat)}{c:Nat→Nat}(h:Joined r ts out done c){x:IdV}(hx:joinsX r ts out x=true){a b:Nat}(ha:a∈hav ts x)(hb:b∈hav ts x):Joined r ts out done (joinC (c a) (c b) c) :=
 ⟨h.labs.join EdgeX.symm (hav_lt ha) (hav_lt hb) ⟨x,hx,mem_idsAt.2 ha,mem_idsAt.2 hb⟩,fun q hq hj i hi j hj'=>joinC_keep (h.same q hq hj i hi j hj')⟩
theorem same_step {c:Nat→Nat}{l:List Nat}{a b m:Nat}(h:∀ j∈l.take m,c j=c a)(hb:l[m]? =some b):∀ j∈l.take (m + 1),joinC (c a) (c b) c j=joinC (c a) (c b) c a:=fun j hj=>by
 rw [take_snoc hb] at hj;rcases List.mem_append.1 hj with hj | hj
 ·exact joinC_keep (h j hj)
 ·rw [List.mem_singleton.1 hj];exact joinC_new.symm
theorem Joined.next {r:Rul}{ts:List Tch}{out:Option IdV}{done:List (IdV×List Nat)}{c:Nat→Nat}(h:Joined r ts out done c){p:IdV×List Nat}{a:Nat}(hp:∀ j∈p.2,c j=c a):Joined r ts out (done++[p]) c:=by
 refine ⟨h.labs,fun q hq hj i hi j hj'=>?_⟩;rcases List.mem_append.1 hq with hq | hq
 ·exact h.same q hq hj i hi j hj'
 ·rw [List.mem_singleton.1 hq] at hi hj';rw [hp i hi,hp j hj']
theorem HavOk.entry {ts:List Tch}{L:List (IdV×List Nat)}(h:HavOk ts ts.length [] L){p:IdV×List Nat}(hp:p∈L):p.2=hav ts p.1∧p.2≠[]:=by
 obtain ⟨x,js⟩:=p;obtain ⟨i,hi⟩:=List.mem_iff_getElem?.1 hp;have h1:=(getG_at h.1 hi).1;have h2:=h.2 x;rw [h1,List.take_length] at h2;simp only [List.not_mem_nil,if_false,List.append_nil] at h2;unfold some1 at h2;split at h2
 ·cases h2
 ·rename_i hne;obtain rfl:=Option.some.inj h2;exact ⟨rfl,hne⟩
theorem HavOk.has {ts:List Tch}{L:List (IdV×List Nat)}(h:HavOk ts ts.length [] L){x:IdV}{j:Nat}(hj:j∈hav ts x):(x,hav ts x)∈L:=by
 have h2:=h.2 x;rw [List.take_length] at h2;simp only [List.not_mem_nil,if_false,List.append_nil] at h2;unfold some1 at h2;rw [if_neg (fun e=>by rw [e] at hj;cases hj)] at h2;exact getG_mem h2
end
section
open Go Go.RowKit
structure Grp (N:Nat→Prop) (w:World) (G X:Nat) (r:Rul) (K W S A:Option Addr) (ck cw cs c:Nat) (ts:List Tch) (qs:List HQ):Prop where
 g:LV w G (grCs r K ck W cw S cs A ts.length c X) 180
 m:MapG keyId w X (qs.map HQ.kv)
 s:SlotsOk (fun _=>False) w qs
 h:HavOk ts ts.length [] (qs.map HQ.kl)
 r:RulIn N w r K W S
 t:Sl rTch N w A ts
 cp:∀ q∈qs,q.js.length≤q.c
theorem Grp.keepB {N:Nat→Prop}{w w':World}{G X:Nat}{r:Rul}{K W S A:Option Addr}{ck cw cs c:Nat}{ts:List Tch}{qs:List HQ}(h:Grp N w G X r K W S A ck cw cs c ts qs)(k:Below w.heap.size w w'):Grp N w' G X r K W S A ck cw cs c ts qs :=
 ⟨LV.kb3 h.g k h.g.lt,by
  obtain ⟨es,cl,hb,he⟩:=h.m;exact ⟨es,cl,(k.block X (Array.getElem?_eq_some_iff.1 hb).1).trans hb,he⟩,fun q hq=>(h.s q hq).keepB k,h.h,h.r.keepB k,h.t.keepB k,h.cp⟩
theorem HavOk.look {ts:List Tch}{qs:List HQ}(h:HavOk ts ts.length [] (qs.map HQ.kl))(x:IdV):∃ A c,(getG x (qs.map HQ.kv)).getD (.slice none 0 0)=.slice A (hav ts x).length c∧((hav ts x=[]∧A=none∧c=0)∨∃ q∈qs,q.x=x∧q.A=A∧q.c=c∧q.js=hav ts x):=by
 have h2:=h.2 x;rw [List.take_length] at h2;simp only [List.not_mem_nil,if_false,List.append_nil] at h2;have hn:=h.1;rw [kl_keys] at hn;rcases hq_cases qs hn x with ⟨_,e1,e2⟩ | ⟨j,q,e1,e2,e3,e4⟩
 ·rw [e2] at h2;have h0:hav ts x=[]:=by
   unfold some1 at h2;split at h2
   ·assumption
   ·cases h2
  exact ⟨none,0,by rw [e1,h0];rfl,.inl ⟨h0,rfl,rfl⟩⟩
 ·rw [e4] at h2;have hj:q.js=hav ts x:=by
   unfold some1 at h2;split at h2
   ·cases h2
   ·exact Option.some.inj h2
  exact ⟨q.A,q.c,by rw [e3,Option.getD_some,HQ.v,hj],.inr ⟨q,List.mem_of_getElem? e1,e2,rfl,rfl,hj⟩⟩
theorem joinV_is (r:Rul)(ts:List Tch)(x:IdV):joinV r x (hav ts x).length=joinsP r ts x:=by
 unfold joinV joinsP;cases decide (x∈r.weak) <;> cases decide (x.k∈r.kinds) <;> rfl
structure RtOk (r:Rul) (ts:List Tch):Prop where
 wk:SrtI r.weak
 wl:r.weak.length≤1000000
 kl:r.kinds.length≤1000000
 tl:ts.length≤1000000
 up:∀ t∈ts,RiseI t.ids
 il:∀ t∈ts,t.ids.length≤1000000
 ne:∀ t∈ts,t.ids≠[]
 tb:ts.length≤2000
 ib:∀ t∈ts,t.ids.length≤10
theorem tch_right {t:Tch}{last:Int}(h:tchFault t last=0):RiseI t.ids∧t.ids.length≤10∧t.ids≠[]:=by
 unfold tchFault tchE at h;split at h
 ·omega
 split at h
 ·omega
 split at h
 ·omega
 split at h
 ·omega
 rename_i h0;split at h
 ·omega
 rename_i h1;split at h
 ·omega
 rename_i h2;refine ⟨(idsGo_ok (l:=t.ids) (prev:=none) (Decidable.not_not.1 h2)).2.2,by omega,fun e=>h0 (by rw [e];rfl)⟩
theorem rul_right {r:Rul}(h:rulFault r=0):RiseI r.weak∧r.weak.length≤200:=by
 unfold rulFault rulE at h;split at h
 ·omega
 split at h
 ·omega
 split at h
 ·omega
 split at h
 ·omega
 rename_i h1;split at h
 ·omega
 rename_i h2;exact ⟨(idsGo_ok (l:=r.weak) (prev:=none) (Decidable.not_not.1 h2)).2.2,by omega⟩
theorem RtOk.mk2 {r:Rul}{ts:List Tch}(hr:rulFault r=0)(hk:r.kinds.length≤1000000)(hl:ts.length≤2000)(ht:∀ t∈ts,∃ last,tchFault t last=0):RtOk r ts :=
 ⟨(rul_right hr).1.srt,Nat.le_trans (rul_right hr).2 (by decide),hk,Nat.le_trans hl (by decide),fun t h=>by obtain ⟨_,e⟩:=ht t h;exact (tch_right e).1,
   fun t h=>by obtain ⟨_,e⟩:=ht t h;exact Nat.le_trans (tch_right e).2.1 (by decide),fun t h=>by obtain ⟨_,e⟩:=ht t h;exact (tch_right e).2.2,hl,fun t h=>by obtain ⟨_,e⟩:=ht t h;exact (tch_right e).2.1⟩
theorem RiseI.nodup {l:List IdV}(h:RiseI l):l.Nodup:=h.imp (fun {a b} hab e=>by subst e;have:=cmpId_ok.refl a;omega)
theorem joinsG_any (N:Nat→Prop)(G X:Nat)(r:Rul)(K W S A:Option Addr)(ck cw cs c:Nat)(ts:List Tch)(qs:List HQ)(x:IdV)(w:World)(hG:Grp N w G X r K W S A ck cw cs c ts qs)(ho:RtOk r ts) :
  Calls Tryz.prog 195 #[.pointer (some ⟨G,0,none⟩),.agg #[.int .i64 x.k,.string x.t]] w fun e w'=>e=.returned (.bool (joinsP r ts x))∧Below w.heap.size w w':=by
 obtain ⟨A',c',h1,_⟩:=hG.h.look x;rw [← joinV_is];exact joins_any N G X r K W S A ck cw cs ts.length c (qs.map HQ.kv) x A' (hav ts x).length c' w hG.g hG.r hG.m h1 ho.wk ho.wl ho.kl
end
section
open Go Go.RowKit Go.MapKept
def iterLeft (es:Array MapEntry)(Y:Nat)(w:World):Nat:=match w.heap[Y]? with
 | some (.mapIter _ _ seen _)=>(leftOf es seen).size
 | _=>0
theorem RngOk.size {κ:Type}{K:KeyL κ}{es:Array MapEntry}{clock:Nat}{seen:Array Nat}{L done left:List (κ×Value)}(h:RngOk K es clock seen L done left):(leftOf es seen).size=left.length:=by
 have:=congrArg List.length h.lft
 rw [List.length_map,List.length_map,Array.length_toList] at this;exact this
theorem Mem.iterSize {κ:Type}{K:KeyL κ}{w0 w:World}{cs:List Chunk}(S:Mem w0 w cs)(j:Nat){R X clock c0:Nat}{seen:Array Nat}(hj:cs[j]? =some (.iter R X clock seen c0)){es:Array MapEntry}{L done left:List (κ×Value)}(hr:RngOk K es clock seen L done left):iterLeft es R w=left.length:=by
 have hR:w.heap[R]? =some (.mapIter (some X) clock seen c0):=S.ok _ (List.mem_of_getElem? hj);unfold iterLeft;rw [hR];exact hr.size
end
section
open Go Go.RowKit
def OutIs (w:World)(P:Value):Option IdV→Prop
 | none=>P=.pointer none
 | some x=>∃ O o,P=.pointer (some ⟨O,o,none⟩)∧O < w.heap.size∧w.cell? ⟨O,o,none⟩=some (.int .i64 x.k)∧w.cell? ⟨O,o + 1,none⟩=some (.string x.t)
abbrev rowK (n k:Nat):List Nat:=List.range k++List.replicate (n - k) 0
theorem rowK_len {n k:Nat}(h:k≤n):(rowK n k).length=n:=by simp [rowK];omega
theorem rowK_at {n k:Nat}(h:k < n):(rowK n k)[k]? =some 0:=by
 unfold rowK;rw [List.getElem?_append_right (by simp),List.length_range,Nat.sub_self,List.getElem?_replicate,if_pos (by omega)]
theorem rowK_set {n k:Nat}(h:k < n):(rowK n k).set k k=rowK n (k + 1):=by
 unfold rowK;rw [List.set_append_right _ _ (by simp),List.length_range,Nat.sub_self,show n - k=(n - (k + 1)) + 1 by omega,List.replicate_succ,List.set_cons_zero,List.range_succ,List.append_assoc];rfl
theorem rowK_end (n:Nat):rowK n n=List.range n:=by simp [rowK]
theorem Roots.put {n:Nat}{p:List Nat}{c:Nat→Nat}(h:Roots n p c){i:Nat}(hle:c i≤i)(hfix:c (c i)=c i):Roots n (p.set i (c i)) c:=by
 refine ⟨by rw [List.length_set];exact h.len,fun k s hk=>?_⟩;rw [List.getElem?_set] at hk;by_cases e:i=k
 ·subst e;rw [if_pos rfl] at hk;split at hk
  ·obtain rfl:=Option.some.inj hk;exact ⟨hle,hfix,fun e=>e⟩
  ·cases hk
 ·rw [if_neg e] at hk;exact h.at' k s hk
theorem rng_mem {qs dq:List HQ}{es:Array MapEntry}{clock:Nat}{seen:Array Nat}{left:List (IdV×Value)}(h:RngOk keyId es clock seen (qs.map HQ.kv) (dq.map HQ.kv) left){p:IdV×Value}(hp:p∈left):∃ q∈qs,q.kv=p:=by
 have:=h.perm.mem_iff.1 (List.mem_append_right _ hp)
 obtain ⟨q,hq,e⟩:=List.mem_map.1 this;exact ⟨q,hq,e⟩
theorem rng_all {qs dq:List HQ}(hn:(qs.map HQ.x).Nodup)(hd:∀ q∈dq,q∈qs)(hp:(dq.map HQ.kv).Perm (qs.map HQ.kv)):∀ q∈qs,q∈dq:=fun q hq=>by
 have h1:q.kv∈dq.map HQ.kv:=hp.mem_iff.2 (List.mem_map_of_mem hq);obtain ⟨q',hq',e⟩:=List.mem_map.1 h1;have hx:q'.x=q.x:=congrArg Prod.fst e;obtain ⟨i,hi,ei⟩:=List.getElem_of_mem hq;obtain ⟨j,hj,ej⟩:=List.getElem_of_mem (hd q' hq');have hpw:=List.pairwise_iff_getElem.1 hn;rcases Nat.lt_trichotomy i j with h | h | h
 ·exact absurd (by rw [List.getElem_map,List.getElem_map,ei,ej,hx]) (hpw i j (by rw [List.length_map];exact hi) (by rw [List.length_map];exact hj) h)
 ·subst h;rw [ei] at ej;rw [ej];exact hq'
 ·exact absurd (by rw [List.getElem_map,List.getElem_map,ei,ej,hx]) (hpw j i (by rw [List.length_map];exact hj) (by rw [List.length_map];exact hi) h)
theorem Joined.fin2 {r:Rul}{ts:List Tch}{out:Option IdV}{qs dq:List HQ}{c:Nat→Nat}(h:Joined r ts out (dq.map HQ.kl) c)(ha:∀ q∈qs,q∈dq)(hL:HavOk ts ts.length [] (qs.map HQ.kl)):IsPart ts.length (EdgeX r ts out) c :=
 h.labs.part fun i j _ _ ⟨x,hx,h1,h2⟩=>by
  have a1:=mem_idsAt.1 h1;have a2:=mem_idsAt.1 h2;obtain ⟨q,hq,e⟩:=List.mem_map.1 (hL.has a1);exact h.same (x,hav ts x) (by rw [← e];exact List.mem_map_of_mem (ha q hq)) hx i a1 j a2
def Done (c:Nat→Nat)(k:Nat)(p:List Nat):Prop:=∀ j,j < k→p[j]? =some (c j)
theorem Done.next {c:Nat→Nat}{k:Nat}{p q:List Nat}(h:Done c k p)(hk:Keeps c p q)(hl:k < q.length):Done c (k + 1) (q.set k (c k)):=fun j hj=>by
 rw [List.getElem?_set];by_cases e:k=j
 ·subst e;rw [if_pos rfl,if_pos hl]
 ·rw [if_neg e];exact hk j (h j (by omega))
theorem Done.all {c:Nat→Nat}{n:Nat}{p:List Nat}(h:Done c n p)(hl:p.length=n):p=rowC n c:=by
 apply List.ext_getElem?;intro i;rcases Nat.lt_or_ge i n with hi | hi
 ·rw [rowC_at hi,h i hi]
 ·rw [List.getElem?_eq_none (by omega),List.getElem?_eq_none (by rw [rowC_len];omega)]
def GivesParts (r:Rul)(ts:List Tch)(out:Option IdV)(w:World)(e:Ending)(w':World):Prop :=
 ∃ (A:Option Addr) (cap:Nat) (c:Nat→Nat),e=.returned (.slice A ts.length cap)∧IsPart ts.length (EdgeX r ts out) c∧Mem w w' [.own rInt w.heap.size 3 (.slice A ts.length cap) (iL (rowC ts.length c))]
set_option maxHeartbeats 8000000 in
set_option maxRecDepth 100000 in
theorem parts_any (N:Nat→Prop)(G X:Nat)(r:Rul)(K W S A:Option Addr)(ck cw cs c:Nat)(ts:List Tch)(qs:List HQ)(out:Option IdV)(P:Value)(w:World)(hG:Grp N w G X r K W S A ck cw cs c ts qs)(ho:RtOk r ts)(hO:OutIs w P out) :
  Calls Tryz.prog 114 #[.pointer (some ⟨G,0,none⟩),P] w (GivesParts r ts out w):=by
 obtain ⟨n,hn⟩:∃ n,ts.length=n:=⟨_,rfl⟩;have Hn:=Lib.hid hn;have hl:=ho.tl;have z0:=hG.g.all;rw [hn] at hl z0;have hmk:=makeI n hl w;have HG:=Lib.hid (fun w' (h:Below w.heap.size w w')=>hG.keepB h);obtain ⟨es,clock,hX,hE⟩:=hG.m;have HX:Hid (∀ w',Below w.heap.size w w'→w'.heap[X]? =some (.map es clock)):=fun w' h=>(h.block X (Array.getElem?_eq_some_iff.1 hX).1).trans hX;have HE:=Lib.hid hE;have HH:=Lib.hid hG.h;have HC:=Lib.hid hG.cp;have HO:=Lib.hid hO;have Ho:=Lib.hid ho;clear hX hE hG hO hn ho;go_enter Tryz.func114,Tryz.ntmps114
 go_upto_region 2 with fail
 clear hmk z0;obtain ⟨B,hB⟩:∃ B,B=w.heap.size:=⟨_,rfl⟩;obtain ⟨g,hg⟩:∃ g,g=w.heap.size:=⟨_,rfl⟩;obtain ⟨R,hR⟩:∃ R,R=w.heap.size + 1:=⟨_,rfl⟩;have S1:=((Mem.start w).newAt (Array.replicate n (Value.int .i64 0)) 3 g hg).asOwn flatInt 0 rfl (List.replicate n 0) (by simp) (by simp [rInt,Rep.flat]) (by simp;omega) hB n (by simp);have S2:Mem w ((w.alloc (.cells (Array.replicate n (Value.int .i64 0)) 3)).alloc (.cells #[.slice (some ⟨g,0,none⟩) n n] 22)) (.loc R #[.slice (some ⟨g,0,none⟩) n n] 22::[.own rInt B 3 (.slice (some ⟨g,0,none⟩) n n) (iL (rowK n 0))]):=by
  have h0:iL (rowK n 0)=List.replicate n 0:=by simp [iL,rowK]
  rw [h0];exact (S1.newAt #[.slice (some ⟨g,0,none⟩) n n] 22 R (by rw [alloc_size];exact hR)).front
 clear S1;have Hg:=Lib.hid hg;rw [← hR,← hg];have Hb:=Lib.hid hB;clear hR hg hB;generalize (w.alloc (.cells (Array.replicate n (Value.int .i64 0)) 3)).alloc (.cells #[.slice (some ⟨g,0,none⟩) n n] 22)=w1 at *;have c0:=(S2.lv 0 rfl).cell 0 _ rfl;go_wp2_with fail
 clear c0;go_loopw [23] (fun i wr=>∃ k:Nat,k≤n∧i=.int .i64 k∧Mem w wr (.loc R #[.slice (some ⟨g,0,none⟩) n n] 22::[.own rInt B 3 (.slice (some ⟨g,0,none⟩) n n) (iL (rowK n k))])) (fun i _=>n - (intOf i).toNat)
 case atStart=>exact ⟨0,Nat.zero_le _,rfl,S2⟩
 case round =>
  clear S2;obtain ⟨k,hk,rfl,S2⟩:=hrel;have c0:=(S2.lv 0 rfl).cell 0 _ rfl;by_cases hlt:k < n
  ·have hln:n=(iL (rowK n k)).length:=by rw [iL_len,rowK_len hk]
   obtain ⟨c1,f1⟩:=(S2.ow 1 rfl).intAt hln k ((0:Nat):Int) (iL_at (rowK_at hlt));have S3:Mem w (wr.setCell ⟨g,k,none⟩ (.int .i64 k)) (.loc R #[.slice (some ⟨g,0,none⟩) n n] 22::[.own rInt B 3 (.slice (some ⟨g,0,none⟩) n n) (iL (rowK n (k + 1)))]):=by
    rw [← rowK_set hlt,iL_set];exact S2.putI 1 rfl hln k _ k (iL_at (rowK_at hlt))
   clear hln S2;go_wp2_with fail
   go_roundw
   case rel=>exact ⟨k + 1,by omega,by go_num,S3⟩
   case measure=>simp [intOf];omega
  ·obtain rfl:k=n:=by omega
   rw [rowK_end] at S2;have z0:=(HG.out wr S2.b).g.all;rw [Hn.out] at z0;clear hlt c0;obtain ⟨hrg,S3⟩:=S2.rangeO (HX.out wr S2.b) (T:=178) (k:=46) (e:=22) (by kernel_rfl);obtain ⟨Y,hY⟩:∃ Y,Y=wr.heap.size:=⟨_,rfl⟩;rw [← hY] at hrg S3;clear hY S2;go_wp2_with fail
   clear hrg z0;generalize wr.alloc (.mapIter (some X) clock #[] clock)=w3 at *;have HR0:Hid (RngOk keyId es clock #[] (qs.map HQ.kv) [] (qs.map HQ.kv)):=RngOk.start HE.out;go_loopw [9] (fun _ wr=>∃ (c':Nat→Nat) (p:List Nat) (seen:Array Nat) (dq:List HQ) (left:List (IdV×Value)),Hid (∀ q∈dq,q∈qs)∧Hid (RngOk keyId es clock seen (qs.map HQ.kv) (dq.map HQ.kv) left)∧Hid (Joined r ts out (dq.map HQ.kl) c')∧Hid (Roots k p c')∧Mem w wr [.loc R #[.slice (some ⟨g,0,none⟩) k k] 22,.own rInt B 3 (.slice (some ⟨g,0,none⟩) k k) (iL p),.iter Y X clock seen clock]) (fun _ wr=>iterLeft es Y wr)
   case atStart=>exact ⟨id,List.range k,#[],[],_,(fun q hq=>by cases hq),HR0.out,Joined.start r ts out,Roots.start k,S3⟩
   case round =>
    clear S3 HR0;obtain ⟨c',p,seen,dq,left,Hdq,HRg,HJ,HRo,S3⟩:=hrel;have hsz3:Hid (iterLeft es Y wr=left.length):=S3.iterSize 2 rfl HRg.out;rcases S3.nextO 2 (HX.out wr S3.b) rfl (Nat.le_refl _) HRg.out with ⟨hl0,hp0,hnx⟩ | ⟨pq,left',seen',w5,hpm,hll,hrg,hnx,hen,S5⟩
    --@dev
    ·have hnd:(qs.map HQ.x).Nodup:=by have:=HH.out.1;rw [kl_keys] at this;exact this
     have HP:Hid (IsPart ts.length (EdgeX r ts out) c'):=HJ.out.fin2 (rng_all hnd Hdq.out hp0) HH.out;have hle:∀ i,i < k→c' i≤i:=fun i hi=>HP.out.le i (by rw [Hn.out];exact hi);have hfix:∀ i,i < k→c' (c' i)=c' i:=fun i hi=>HP.out.fix (by rw [Hn.out];exact hi);have Hle:=Lib.hid hle;have Hfix:=Lib.hid hfix;have S6:Mem w wr [.loc R #[.slice (some ⟨g,0,none⟩) k k] 22,.own rInt B 3 (.slice (some ⟨g,0,none⟩) k k) (iL p)]:=S3.del 2;have c0:=(S6.lv 0 rfl).cell 0 _ rfl;clear hp0 hl0 S3 hnd HJ HRg Hdq hsz3 hle hfix;go_wp2_with fail
     clear c0 hnx;go_loopw [83] (fun i wr=>∃ (m:Nat) (p2:List Nat),m≤k∧i=.int .i64 m∧Hid (Roots k p2 c')∧Hid (Done c' m p2)∧Mem w wr [.loc R #[.slice (some ⟨g,0,none⟩) k k] 22,.own rInt B 3 (.slice (some ⟨g,0,none⟩) k k) (iL p2)]) (fun i _=>k - (intOf i).toNat)
     case atStart=>exact ⟨0,p,Nat.zero_le _,rfl,HRo.out,(fun j hj=>absurd hj (Nat.not_lt_zero _)),S6⟩
     case round =>
      clear S6 HRo;obtain ⟨m,p2,hm,rfl,HRo,HD,S6⟩:=hrel;by_cases hmk:m < k
      ·go_upto_region 21 with fail
       refine wp_region_mix (fun w'=>w'.cell? ⟨R,0,none⟩=some (.slice (some ⟨g,0,none⟩) k k)) [(true,0),(true,1),(true,2),(true,3),(false,4),(true,5),(false,6)] (by kernel_rfl) (by kernel_rfl) (fun w' hd=>((S6.below (hd.below _)).lv 0 rfl).cell 0 _ rfl) (fun KK hKK wd hd=>?_);have S7:=S6.below (hd.below _);have hC:wd.cell? ⟨R,0,none⟩=some (.slice (some ⟨g,0,none⟩) k k):=(S7.lv 0 rfl).cell 0 _ rfl;clear hd S6;refine mix_loadG (.slice (some ⟨g,0,none⟩) k k) rfl (by simp [Region.wanted,go_sem]) rfl rfl (fun w' h=>loadC rfl h) ?_;refine mpR ?_;refine mix_l rfl (fun K9 hK9=>?_) hC;have Hf:=Lib.hid (findR_any w wd R g B k k c' m p2 [] HRo.out Hle.out Hfix.out hmk S7);go_wp2_with fail
       refine (Hf.out).mono ?_;rintro e w8 ⟨p3,rfl,hr3,hk3,S8⟩;have Hr3:=Lib.hid hr3;have Hk3:=Lib.hid hk3;have hC8:w8.cell? ⟨R,0,none⟩=some (.slice (some ⟨g,0,none⟩) k k):=(S8.lv 0 rfl).cell 0 _ rfl;clear Hf hr3 hk3 S7 hC HRo;go_wp2_with fail
       refine ⟨hC8,?_⟩;refine mpR ?_;obtain ⟨v,hv⟩:∃ v,p3[m]? =some v:=⟨_,List.getElem?_eq_getElem (by rw [Hr3.out.len];exact hmk)⟩;have hln:k=(iL p3).length:=by rw [iL_len,Hr3.out.len]
       obtain ⟨c1,f1⟩:=(S8.ow 1 rfl).intAt hln m v (iL_at hv);have S9:Mem w (w8.setCell ⟨g,m,none⟩ (.int .i64 (c' m))) [.loc R #[.slice (some ⟨g,0,none⟩) k k] 22,.own rInt B 3 (.slice (some ⟨g,0,none⟩) k k) (iL (p3.set m (c' m)))]:=by
        rw [iL_set];exact S8.putI 1 rfl hln m v (c' m) (iL_at hv)
       have HS9:=Lib.hid S9;have HR9:Hid (Roots k (p3.set m (c' m)) c'):=Hr3.out.put (Hle.out m hmk) (Hfix.out m hmk);have HD9:Hid (Done c' (m + 1) (p3.set m (c' m))):=HD.out.next Hk3.out (by rw [Hr3.out.len];exact hmk);refine mix_l rfl (fun K9 hK9=>?_) hC8;clear S9 hln hv S8 hC8;go_wp2_with fail
       refine ⟨(HS9.out.lv 0 rfl).cell 0 _ rfl,?_⟩;refine mix_nil ?_;simp only [Exit.then];refine hKK _ _ ?_;clear hKK KK f1 c1;go_wp2_with fail
       go_roundw
       case rel=>exact ⟨m + 1,p3.set m (c' m),by omega,by go_num,HR9,HD9,HS9.out⟩
       case measure=>simp [intOf];omega
      ·obtain rfl:m=k:=by omega
       have c0:=(S6.lv 0 rfl).cell 0 _ rfl;go_wp2_with fail
       go_ret;have e:p2=rowC ts.length c':=by rw [Hn.out];exact HD.out.all HRo.out.len
       refine ⟨some ⟨g,0,none⟩,m,c',by rw [Hn.out];rfl,HP.out,?_⟩;have S9:=S6.del 0;rw [← Hb.out,← e,Hn.out];exact S9
    --@enddev
    ·obtain ⟨q,hq,rfl⟩:=rng_mem HRg.out hpm;obtain ⟨x,Aq,cq,js⟩:=q;have Hrg:Hid (RngOk keyId es clock seen' (qs.map HQ.kv) ((dq++[(⟨x,Aq,cq,js⟩:HQ)]).map HQ.kv) left'):=by
      show RngOk _ _ _ _ _ _ _;rw [List.map_append];exact hrg
     have Hll:=Lib.hid hll;have Hq:=Lib.hid hq;have hnx2:∀ ty,(Instr.next (.pointer (some ⟨Y,0,none⟩)) false ty).run Tryz.prog wr=.ok (.tuple #[.bool true,.agg #[.int .i64 x.k,.string x.t],.slice Aq js.length cq]) w5:=hnx;have hen2:(Instr.entry (.pointer (some ⟨Y,0,none⟩))).run Tryz.prog w5=.ok (.tuple #[.agg #[.int .i64 x.k,.string x.t],.slice Aq js.length cq]) w5:=hen;clear hnx hen S3 hpm hll hrg hq;go_upto_region 11 with fail
     clear hnx2 hen2;obtain ⟨Z,hZ⟩:∃ Z,Z=w5.heap.size:=⟨_,rfl⟩;have S6:Mem w (w5.alloc (.cells #[.int .i64 x.k,.string x.t] 46)) [.loc Z #[.int .i64 x.k,.string x.t] 46,.loc R #[.slice (some ⟨g,0,none⟩) k k] 22,.own rInt B 3 (.slice (some ⟨g,0,none⟩) k k) (iL p),.iter Y X clock seen' clock]:=(S5.newAt #[.int .i64 x.k,.string x.t] 46 Z hZ).front;rw [← hZ];clear hZ S5;generalize w5.alloc (.cells #[.int .i64 x.k,.string x.t] 46)=w6 at *;obtain ⟨jx,Hjx⟩:∃ jx,Hid (joinsX r ts out x=jx):=⟨_,Lib.hid rfl⟩;go_cut [56] (fun s56 wx=>s56=.bool (!jx)∧Mem w wx [.loc Z #[.int .i64 x.k,.string x.t] 46,.loc R #[.slice (some ⟨g,0,none⟩) k k] 22,.own rInt B 3 (.slice (some ⟨g,0,none⟩) k k) (iL p),.iter Y X clock seen' clock])
     case first =>
      --@dev
      obtain ⟨J,HJ2⟩:∃ J,Hid (joinsP r ts x=J):=⟨_,Lib.hid rfl⟩;have hb6:=S6.b;have Hb6:=Lib.hid hb6;have lvZ:=S6.lv 0 rfl;have HZ:=Lib.hid (fun w' (h:Below w6.heap.size w6 w')=>LV.kb3 lvZ h lvZ.lt);have Hjn:=Lib.hid (fun w' (h:Below w6.heap.size w6 w')=>joinsG_any N G X r K W S A ck cw cs c ts qs x w' (HG.out w' (hb6.trans (h.mono hb6.size))) Ho.out);rw [HJ2.out] at Hjn;have Hjx2:Hid ((J && decide (out≠some x))=jx):=by show _=_;rw [← HJ2.out];exact Hjx.out
      clear lvZ hb6 Hjx HJ2;cases J
      ·have Hjf:Hid (false=jx):=Hjx2.out;obtain rfl:=Hjf.out;refine wp_region_mix (fun w'=>Below w6.heap.size w6 w') [(true,0),(true,1),(false,2),(true,3),(true,4),(true,5),(true,6),(true,7),(true,8),(true,9),(true,10),(true,11),(true,12),(true,13),(true,14)] (by kernel_rfl) (by kernel_rfl) (fun w' hd=>hd.below _) (fun KK hKK wd hd_wd=>?_);have hC:=hd_wd.below w6.heap.size;clear hd_wd;refine mpR ?_;refine mix_loadH (.agg #[.int .i64 x.k,.string x.t]) rfl rfl rfl (fun w' h=>loadAtI ((HZ.out w' h).cell 0 _ rfl) ((HZ.out w' h).cell 1 _ rfl)) ?_;refine mix_l rfl (fun K9 hK9=>?_) hC;have Hq9:=Lib.hid (Hjn.out wd hC);go_wp2_with fail
       refine (Hq9.out).mono ?_;rintro e w7 ⟨rfl,hl7⟩;have hC2:=hC.trans (hl7.mono hC.size);clear Hq9 hl7 hC;go_wp2_with fail
       refine ⟨hC2,?_⟩;refine mpR ?_;refine mix_nil ?_;simp only [Exit.then];refine hKK _ _ ?_;clear hKK KK;go_wp2_with fail
       go_meet;exact ⟨rfl,S6.below hC2⟩
      ·cases hout:out with
       | none =>
        have hP:P=.pointer none:=by have:=HO.out;rw [hout] at this;exact this
        have Hjf:Hid (true=jx):=by have:=Hjx2.out;rw [hout] at this;exact this
        obtain rfl:=Hjf.out;clear Hjx2;subst hP;refine wp_region_mix (fun w'=>Below w6.heap.size w6 w') [(true,0),(true,1),(false,2),(true,3),(true,4),(true,5),(true,6),(true,7),(true,8),(true,9),(true,10),(true,11),(true,12),(true,13),(true,14)] (by kernel_rfl) (by kernel_rfl) (fun w' hd=>hd.below _) (fun KK hKK wd hd_wd=>?_);have hC:=hd_wd.below w6.heap.size;clear hd_wd;refine mpR ?_;refine mix_loadH (.agg #[.int .i64 x.k,.string x.t]) rfl rfl rfl (fun w' h=>loadAtI ((HZ.out w' h).cell 0 _ rfl) ((HZ.out w' h).cell 1 _ rfl)) ?_;refine mix_l rfl (fun K9 hK9=>?_) hC;have Hq9:=Lib.hid (Hjn.out wd hC);go_wp2_with fail
        refine (Hq9.out).mono ?_;rintro e w7 ⟨rfl,hl7⟩;have hC2:=hC.trans (hl7.mono hC.size);clear Hq9 hl7 hC;go_wp2_with fail
        refine ⟨hC2,?_⟩;refine mpR ?_;refine mix_nil ?_;simp only [Exit.then];refine hKK _ _ ?_;clear hKK KK;go_wp2_with fail
        go_meet;exact ⟨rfl,S6.below hC2⟩
       | some xo =>
        obtain ⟨O,o,hP,hOl,o1,o2⟩:∃ O o,P=.pointer (some ⟨O,o,none⟩)∧O < w.heap.size∧w.cell? ⟨O,o,none⟩=some (.int .i64 xo.k)∧w.cell? ⟨O,o + 1,none⟩=some (.string xo.t):=by have:=HO.out;rw [hout] at this;exact this
        have Ho1:Hid (∀ w',Below w6.heap.size w6 w'→w'.cell? ⟨O,o,none⟩=some (.int .i64 xo.k)):=fun w' h=>((Hb6.out.trans (h.mono Hb6.out.size)).cell (p:=⟨O,o,none⟩) hOl).trans o1;have Ho2:Hid (∀ w',Below w6.heap.size w6 w'→w'.cell? ⟨O,o + 1,none⟩=some (.string xo.t)):=fun w' h=>((Hb6.out.trans (h.mono Hb6.out.size)).cell (p:=⟨O,o + 1,none⟩) hOl).trans o2;subst hP;clear o1 o2 hOl;by_cases hxx:xo=x
        ·subst hxx;have Hjf:Hid (false=jx):=by have:=Hjx2.out;rw [hout] at this;show _=_;rw [← this];simp
         obtain rfl:=Hjf.out;have hk0:(xo.k==xo.k)=true:=by simp
         have hk1:(xo.t.toList==xo.t.toList)=true:=by simp
         clear Hjx2 hout;refine wp_region_mix (fun w'=>Below w6.heap.size w6 w') [(true,0),(true,1),(false,2),(true,3),(true,4),(true,5),(true,6),(true,7),(true,8),(true,9),(true,10),(true,11),(true,12),(true,13),(true,14)] (by kernel_rfl) (by kernel_rfl) (fun w' hd=>hd.below _) (fun KK hKK wd hd_wd=>?_);have hC:=hd_wd.below w6.heap.size;clear hd_wd;refine mpR ?_;refine mix_loadH (.agg #[.int .i64 xo.k,.string xo.t]) rfl rfl rfl (fun w' h=>loadAtI ((HZ.out w' h).cell 0 _ rfl) ((HZ.out w' h).cell 1 _ rfl)) ?_;refine mix_l rfl (fun K9 hK9=>?_) hC;have Hq9:=Lib.hid (Hjn.out wd hC);go_wp2_with fail
         refine (Hq9.out).mono ?_;rintro e w7 ⟨rfl,hl7⟩;have hC2:=hC.trans (hl7.mono hC.size);clear Hq9 hl7 hC;go_wp2_with fail
         refine ⟨hC2,?_⟩;refine mpR ?_;refine mix_loadH (.agg #[.int .i64 xo.k,.string xo.t]) rfl rfl rfl (fun w' h=>loadAtI (Ho1.out w' h) (Ho2.out w' h)) ?_;refine mix_loadH (.agg #[.int .i64 xo.k,.string xo.t]) rfl rfl rfl (fun w' h=>loadAtI ((HZ.out w' h).cell 0 _ rfl) ((HZ.out w' h).cell 1 _ rfl)) ?_;refine mpR ?_;refine mix_nil ?_;simp only [Exit.then];refine hKK _ _ ?_;clear hKK KK;go_wp2_with fail
         go_meet;exact ⟨rfl,S6.below hC2⟩
        ·have Hjf:Hid (true=jx):=by have:=Hjx2.out;rw [hout] at this;show _=_;rw [← this];simp [hxx]
         obtain rfl:=Hjf.out;clear Hjx2 hout;by_cases h1:xo.k=x.k
         ·have hk0:(xo.k==x.k)=true:=by simp [h1]
          have hk1:(xo.t.toList==x.t.toList)=false:=by
           cases e:(xo.t.toList==x.t.toList) with
           | false=>rfl
           | true=>exact absurd (idv_eq h1 e) hxx
          clear h1 hxx;refine wp_region_mix (fun w'=>Below w6.heap.size w6 w') [(true,0),(true,1),(false,2),(true,3),(true,4),(true,5),(true,6),(true,7),(true,8),(true,9),(true,10),(true,11),(true,12),(true,13),(true,14)] (by kernel_rfl) (by kernel_rfl) (fun w' hd=>hd.below _) (fun KK hKK wd hd_wd=>?_);have hC:=hd_wd.below w6.heap.size;clear hd_wd;refine mpR ?_;refine mix_loadH (.agg #[.int .i64 x.k,.string x.t]) rfl rfl rfl (fun w' h=>loadAtI ((HZ.out w' h).cell 0 _ rfl) ((HZ.out w' h).cell 1 _ rfl)) ?_;refine mix_l rfl (fun K9 hK9=>?_) hC;have Hq9:=Lib.hid (Hjn.out wd hC);go_wp2_with fail
          refine (Hq9.out).mono ?_;rintro e w7 ⟨rfl,hl7⟩;have hC2:=hC.trans (hl7.mono hC.size);clear Hq9 hl7 hC;go_wp2_with fail
          refine ⟨hC2,?_⟩;refine mpR ?_;refine mix_loadH (.agg #[.int .i64 xo.k,.string xo.t]) rfl rfl rfl (fun w' h=>loadAtI (Ho1.out w' h) (Ho2.out w' h)) ?_;refine mix_loadH (.agg #[.int .i64 x.k,.string x.t]) rfl rfl rfl (fun w' h=>loadAtI ((HZ.out w' h).cell 0 _ rfl) ((HZ.out w' h).cell 1 _ rfl)) ?_;refine mpR ?_;refine mix_nil ?_;simp only [Exit.then];refine hKK _ _ ?_;clear hKK KK;go_wp2_with fail
          go_meet;exact ⟨rfl,S6.below hC2⟩
         ·have hk0:(xo.k==x.k)=false:=by simpa using h1
          clear h1 hxx;refine wp_region_mix (fun w'=>Below w6.heap.size w6 w') [(true,0),(true,1),(false,2),(true,3),(true,4),(true,5),(true,6),(true,7),(true,8),(true,9),(true,10),(true,11),(true,12),(true,13),(true,14)] (by kernel_rfl) (by kernel_rfl) (fun w' hd=>hd.below _) (fun KK hKK wd hd_wd=>?_);have hC:=hd_wd.below w6.heap.size;clear hd_wd;refine mpR ?_;refine mix_loadH (.agg #[.int .i64 x.k,.string x.t]) rfl rfl rfl (fun w' h=>loadAtI ((HZ.out w' h).cell 0 _ rfl) ((HZ.out w' h).cell 1 _ rfl)) ?_;refine mix_l rfl (fun K9 hK9=>?_) hC;have Hq9:=Lib.hid (Hjn.out wd hC);go_wp2_with fail
          refine (Hq9.out).mono ?_;rintro e w7 ⟨rfl,hl7⟩;have hC2:=hC.trans (hl7.mono hC.size);clear Hq9 hl7 hC;go_wp2_with fail
          refine ⟨hC2,?_⟩;refine mpR ?_;refine mix_loadH (.agg #[.int .i64 xo.k,.string xo.t]) rfl rfl rfl (fun w' h=>loadAtI (Ho1.out w' h) (Ho2.out w' h)) ?_;refine mix_loadH (.agg #[.int .i64 x.k,.string x.t]) rfl rfl rfl (fun w' h=>loadAtI ((HZ.out w' h).cell 0 _ rfl) ((HZ.out w' h).cell 1 _ rfl)) ?_;refine mpR ?_;refine mix_nil ?_;simp only [Exit.then];refine hKK _ _ ?_;clear hKK KK;go_wp2_with fail
          go_meet;exact ⟨rfl,S6.below hC2⟩
      --@enddev
     case rest =>
      obtain ⟨rfl,S7⟩:=hcut;have hdq:∀ q∈dq++[(⟨x,Aq,cq,js⟩:HQ)],q∈qs:=fun q hq=>by
       rcases List.mem_append.1 hq with hq | hq
       ·exact Hdq.out q hq
       ·rw [List.mem_singleton.1 hq];exact Hq.out
      have Hdq2:=Lib.hid hdq;clear S6 hdq;cases jx
      ·have HJ2:Hid (Joined r ts out ((dq++[(⟨x,Aq,cq,js⟩:HQ)]).map HQ.kl) c'):=by
        show Joined _ _ _ _ _;rw [List.map_append];exact HJ.out.skip Hjx.out
       have S8:=S7.del 0;clear S7 HJ;go_wp2_with fail
       go_roundw
       case rel=>exact ⟨c',p,seen',_,left',Hdq2.out,Hrg.out,HJ2.out,HRo.out,S8⟩
       case measure =>
        rw [hsz3.out,S8.iterSize 2 rfl Hrg.out];have:=Hll.out;omega
      ·have S8:Mem w wc [.loc R #[.slice (some ⟨g,0,none⟩) k k] 22,.own rInt B 3 (.slice (some ⟨g,0,none⟩) k k) (iL p),.iter Y X clock seen' clock]:=S7.del 0;clear S7;obtain ⟨hjs,hne⟩:=HH.out.entry (p:=(x,js)) (List.mem_map.2 ⟨_,Hq.out,rfl⟩);have hjs':js=hav ts x:=hjs;have hcq:js.length≤cq:=HC.out _ Hq.out;have hln:1≤js.length:=by
        cases js with
        | nil=>exact absurd rfl hne
        | cons _ _=>simp
       have hjk:js.length≤k:=by rw [hjs',← Hn.out];exact hav_len ts x
       have HX2:Hid (joinsX r ts out x=true):=Hjx.out;have Hhv:Hid (∀ j,j∈js→j∈hav ts x):=fun j hj=>by rw [← hjs'];exact hj
       have Hlt:Hid (∀ j,j∈js→j < k):=fun j hj=>by rw [← Hn.out];exact hav_lt (Hhv.out j hj)
       obtain ⟨a,ha⟩:∃ a,js[0]? =some a:=⟨_,List.getElem?_eq_getElem (by omega)⟩;obtain ⟨blk,off,l0,eA,hblk,_,hl0,_⟩:=(HG.out w (Below.refl _ _)).s _ Hq.out 0 _ (iL_at ha);have eA2:Aq=some ⟨blk,off,none⟩:=eA;subst eA2;have HSl:Hid (∀ (w':World),Below w.heap.size w w'→∀ (i j:Nat),js[i]? =some j→w'.cell? ⟨blk,off + i,none⟩=some (.int .i64 (j:Nat))):=fun w' h i j hj=>by
        obtain ⟨b2,o2,l2,e2,_,_,r2,h2⟩:=(HG.out w' h).s _ Hq.out i _ (iL_at hj);have e3:(some (⟨blk,off,none⟩:Addr))=some ⟨b2,o2,none⟩:=e2;simp only [Option.some.injEq,Addr.mk.injEq,and_true] at e3;obtain ⟨rfl,rfl⟩:=e3;have hl:l2=[.int .i64 (j:Nat)]:=r2;subst hl;have h3:=h2 0 _ rfl;rw [Nat.add_zero,show i * rInt.size=i from Nat.mul_one i] at h3;exact h3
       have Ha:=Lib.hid ha;clear hjs hjs' hne eA hblk hl0 ha Hjx Hq;have HJ0:Hid (∀ j∈js.take 1,c' j=c' a):=fun j hj=>by
        rw [take_snoc (k:=0) Ha.out] at hj;simp at hj;rw [hj]
       obtain ⟨jl,hjl⟩:∃ jl,js.length=jl + 1:=⟨js.length - 1,by omega⟩;have Hjl:=Lib.hid hjl;rw [hjl] at hcq hjk hln ⊢;clear hjl;obtain ⟨cl,rfl⟩:∃ cl,cq=cl + 1:=⟨cq - 1,by omega⟩;go_upto_region 12 with fail
       go_cut [58,59,60] (fun s58 s59 s60 wx=>∃ o c8,s58=.slice (some ⟨blk,o,none⟩) jl c8∧s59=.int .i64 (jl:Nat)∧s60=.int .i64 0∧Hid (0 < jl→o=off + 1)∧wc=wx)
       case first =>
        by_cases hc1:cl=0
        ·subst hc1;obtain rfl:jl=0:=by omega
         go_wp2_with fail
         go_meet;exact ⟨off,_,rfl,rfl,rfl,(fun h=>absurd h (Nat.lt_irrefl _)),rfl⟩
        ·go_wp2_with fail
         go_meet;exact ⟨off + 1,_,rfl,rfl,rfl,fun _=>rfl,rfl⟩
       case rest =>
        obtain ⟨o,c8,rfl,rfl,rfl,Ho8,rfl⟩:=hcut;go_wp2_with fail
        go_loopw [60] (fun i wr=>∃ (m:Nat) (c2:Nat→Nat) (p2:List Nat),m≤jl∧i=.int .i64 m∧Hid (Joined r ts out (dq.map HQ.kl) c2)∧Hid (∀ j∈js.take (m + 1),c2 j=c2 a)∧Hid (Roots k p2 c2)∧Mem w wr [.loc R #[.slice (some ⟨g,0,none⟩) k k] 22,.own rInt B 3 (.slice (some ⟨g,0,none⟩) k k) (iL p2),.iter Y X clock seen' clock]) (fun i _=>jl - (intOf i).toNat)
        case atStart=>exact ⟨0,c',p,Nat.zero_le _,rfl,HJ.out,HJ0.out,HRo.out,S8⟩
        case round =>
         clear S8 HRo HJ HJ0;obtain ⟨m,c2,p2,hm,rfl,HJ,HS,HRo,S8⟩:=hrel;by_cases hlt:m < jl
         ·obtain ⟨b,hb⟩:∃ b,js[m + 1]? =some b:=⟨_,List.getElem?_eq_getElem (by rw [Hjl.out];omega)⟩;have hak:a < k:=Hlt.out a (List.mem_of_getElem? Ha.out);have hbk:b < k:=Hlt.out b (List.mem_of_getElem? hb);have d0:=HSl.out wr S8.b 0 a Ha.out;have d1:=HSl.out wr S8.b (m + 1) b hb;rw [Nat.add_zero] at d0;obtain rfl:=Ho8.out (by omega);rw [show off + (m + 1)=off + 1 + m by omega] at d1;have Hb2:=Lib.hid hb;have hle:∀ i,i < k→c2 i≤i:=fun i hi=>HJ.out.labs.le i (by rw [Hn.out];exact hi);have hfix:∀ i,i < k→c2 (c2 i)=c2 i:=fun i hi=>HJ.out.labs.fix i (by rw [Hn.out];exact hi);have Hle:=Lib.hid hle;have Hfix:=Lib.hid hfix;clear hb hle hfix;have Hf:=Lib.hid (findR_any w wr R g B k k c2 a p2 [.iter Y X clock seen' clock] HRo.out Hle.out Hfix.out hak S8);go_wp2_with fail
          refine (Hf.out).mono ?_;rintro e w8 ⟨p3,rfl,hr3,hk3,S9⟩;have Hr3:=Lib.hid hr3;have Hf2:=Lib.hid (findR_any w w8 R g B k k c2 b p3 [.iter Y X clock seen' clock] hr3 Hle.out Hfix.out hbk S9);clear Hf hr3 hk3 S8 HRo d0 d1;go_wp2_with fail
          refine (Hf2.out).mono ?_;rintro e w9 ⟨p4,rfl,hr4,hk4,S10⟩;have Hr4:=Lib.hid hr4;clear Hf2 hr4 hk4 S9;have c0:=(S10.lv 0 rfl).cell 0 _ rfl;have hln4:k=(iL p4).length:=by rw [iL_len,Hr4.out.len]
          have hua:c2 a < k:=Nat.lt_of_le_of_lt (Hle.out a hak) hak;have hub:c2 b < k:=Nat.lt_of_le_of_lt (Hle.out b hbk) hbk;obtain ⟨v,hv⟩:∃ v,p4[max (c2 a) (c2 b)]? =some v:=⟨_,List.getElem?_eq_getElem (by rw [Hr4.out.len];omega)⟩;obtain ⟨c1,f1⟩:=(S10.ow 1 rfl).intAt hln4 (max (c2 a) (c2 b)) v (iL_at hv);have S11:Mem w (w9.setCell ⟨g,max (c2 a) (c2 b),none⟩ (.int .i64 (min (c2 a) (c2 b):Nat))) [.loc R #[.slice (some ⟨g,0,none⟩) k k] 22,.own rInt B 3 (.slice (some ⟨g,0,none⟩) k k) (iL (p4.set (max (c2 a) (c2 b)) (min (c2 a) (c2 b)))),.iter Y X clock seen' clock]:=by
           rw [iL_set];exact S10.putI 1 rfl hln4 (max (c2 a) (c2 b)) v _ (iL_at hv)
          have HS11:=Lib.hid S11;have HJ9:Hid (Joined r ts out (dq.map HQ.kl) (joinC (c2 a) (c2 b) c2)):=HJ.out.step HX2.out (Hhv.out a (List.mem_of_getElem? Ha.out)) (Hhv.out b (List.mem_of_getElem? Hb2.out));have HS9:Hid (∀ j∈js.take (m + 1 + 1),joinC (c2 a) (c2 b) c2 j=joinC (c2 a) (c2 b) c2 a):=same_step HS.out Hb2.out;have HR9:Hid (Roots k (p4.set (max (c2 a) (c2 b)) (min (c2 a) (c2 b))) (joinC (c2 a) (c2 b) c2)):=Hr4.out.join (Hfix.out a hak) (Hfix.out b hbk);clear S11 hv hln4 HJ HS Hr3 Hr4 S10;rcases Nat.le_total (c2 a) (c2 b) with hab | hab
          ·rw [Nat.max_eq_right hab,Nat.min_eq_left hab] at HS11 HR9;rw [Nat.max_eq_right hab] at c1 f1;have hmx:max (c2 a:Int) (c2 b)=c2 b:=by omega
           have hmn:min (c2 a:Int) (c2 b)=c2 a:=by omega
           go_wp2_with fail
           go_roundw
           case rel=>exact ⟨m + 1,_,_,by omega,by go_num,HJ9.out,HS9.out,HR9.out,HS11.out⟩
           case measure=>simp [intOf];omega
          ·rw [Nat.max_eq_left hab,Nat.min_eq_right hab] at HS11 HR9;rw [Nat.max_eq_left hab] at c1 f1;have hmx:max (c2 a:Int) (c2 b)=c2 a:=by omega
           have hmn:min (c2 a:Int) (c2 b)=c2 b:=by omega
           go_wp2_with fail
           go_roundw
           case rel=>exact ⟨m + 1,_,_,by omega,by go_num,HJ9.out,HS9.out,HR9.out,HS11.out⟩
           case measure=>simp [intOf];omega
         ·obtain rfl:m=jl:=by omega
          have HJ2:Hid (Joined r ts out ((dq++[(⟨x,some ⟨blk,off,none⟩,cl + 1,js⟩:HQ)]).map HQ.kl) c2):=by
           show Joined _ _ _ _ _;rw [List.map_append];exact HJ.out.next (p:=(x,js)) (a:=a) (fun j hj=>HS.out j (by rw [← Hjl.out,List.take_length];exact hj))
          go_wp2_with fail
          go_roundw
          case rel=>exact ⟨c2,p2,seen',_,left',Hdq2.out,Hrg.out,HJ2.out,HRo.out,S8⟩
          case measure =>
           rw [hsz3.out,S8.iterSize 2 rfl Hrg.out];have:=Hll.out;omega
end
end Go.Proofs.YtmkkppknaikjjaaGreatDoor
