/- The law IndexFollows walked: it returns true, and nothing that was there has turned. -/
import Derived.Test.YtmkkppknaikjjaaGreatDoorPix2
import Derived.Test.YtmkkppknaikjjaaGreatDoorPixC
import Derived.Test.YtmkkppknaikjjaaGreatDoorPixL
import Derived.Test.YtmkkppknaikjjaaGreatDoorPixF
import Derived.Test.YtmkkppknaikjjaaGreatDoorPixG
import Derived.Test.YtmkkppknaikjjaaGreatDoorPixJ
namespace Go.Proofs.YtmkkppknaikjjaaGreatDoor
open Go Go.RowKit
theorem map_other {us qs:List TQ}(h:us.map TQ.t=qs.map TQ.t){y:TQ}(hy:y∈us):∃ q∈qs,q.t=y.t:=by
 have h1:y.t∈qs.map TQ.t:=by rw [← h];exact List.mem_map_of_mem hy
 obtain ⟨q,hq,e⟩:=List.mem_map.1 h1;exact ⟨q,hq,e⟩
theorem map_at {us qs:List TQ}(h:us.map TQ.t=qs.map TQ.t){i:Nat}{q:TQ}(hq:qs[i]? =some q):∃ y,us[i]? =some y∧y.t=q.t:=by
 have h1:(us.map TQ.t)[i]? =some q.t:=by rw [h,List.getElem?_map,hq];rfl
 rw [List.getElem?_map] at h1;cases hy:us[i]? with
 | none=>rw [hy] at h1;cases h1
 | some y=>rw [hy] at h1;exact ⟨y,rfl,Option.some.inj h1⟩
theorem place_is {us qs:List TQ}(hg:GoodT (qs.map TQ.t))(h:us.map TQ.t=qs.map TQ.t){i:Nat}{q:TQ}(hq:qs[i]? =some q){no z:Int}(hn:q.t.no=no)(hz:(z=-1∧∀ y∈us,(y.t.no==no)=false)∨∃ (j:Nat) (y:TQ),z=j∧us[j]? =some y∧(y.t.no==no)=true∧∀ u∈us.take j,(u.t.no==no)=false):z=(i:Int):=by
 obtain ⟨y0,hy0,e0⟩:=map_at h hq;rcases hz with ⟨_,h1⟩ | ⟨j,y,rfl,hy,hp,_⟩
 ·have:=h1 y0 (List.mem_of_getElem? hy0)
  rw [e0,hn] at this;simp at this
 ·have h1:(qs.map TQ.t)[j]? =some y.t:=by rw [← h,List.getElem?_map,hy];rfl
  have h2:(qs.map TQ.t)[i]? =some q.t:=by rw [List.getElem?_map,hq];rfl
  have h3:y.t.no=no:=by simpa using hp
  have:=plc_same hg h1 h2 (by rw [h3,hn])
  rw [this]
theorem sorted_is {us qs ys:List TQ}{x x':TQ}{t:Tch}{i:Nat}(hg:GoodT (qs.map TQ.t))(h:us.map TQ.t=qs.map TQ.t)(hF:tchFault t 0=0)(hp:IsPlc (qs.map TQ.t) t.no i false)(hx:x.t=t)(hx':x'.t=t)(hperm:ys.Perm (us++[x']))(hs:ys.Pairwise (fun a b=>cmpTq a b≤0)):ys.map TQ.t=(qs.take i++x::qs.drop i).map TQ.t:=by
 have h1:=hperm.map TQ.t;rw [List.map_append,h,List.map_singleton,hx'] at h1;have h2:=ins_sorted hg hF hp h1 (by rw [List.pairwise_map];exact hs.imp (fun h=>cmpTq_le h));rw [h2,List.map_append,List.map_cons,List.map_take,List.map_drop,hx]
theorem noIn_all {us qs:List TQ}{x':TQ}(hg:GoodT (qs.map TQ.t))(h:us.map TQ.t=qs.map TQ.t)(hF:tchFault x'.t 0=0):∀ q∈us++[x'],NoIn q:=fun q hq=>by
 have hk:tchFault q.t 0=0:=by
  rcases List.mem_append.1 hq with hq | hq
  ·exact hg.1 _ (by rw [← h];exact List.mem_map_of_mem hq)
  ·rw [List.mem_singleton.1 hq];exact hF
 have:=no_ok hk
 exact ⟨by omega,this.2⟩
theorem none_place {us qs:List TQ}(h:us.map TQ.t=qs.map TQ.t){no z:Int}(hn:∀ t∈qs.map TQ.t,t.no≠no)(hz:(z=-1∧∀ y∈us,(y.t.no==no)=false)∨∃ (j:Nat) (y:TQ),z=j∧us[j]? =some y∧(y.t.no==no)=true∧∀ u∈us.take j,(u.t.no==no)=false):z=-1:=by
 rcases hz with ⟨h1,_⟩ | ⟨j,y,_,hy,hp,_⟩
 ·exact h1
 ·exact absurd (by simpa using hp) (hn y.t (by rw [← h];exact List.mem_map_of_mem (List.mem_of_getElem? hy)))
theorem some_place {us qs:List TQ}(h:us.map TQ.t=qs.map TQ.t){no z:Int}(hn:∃ q∈qs,q.t.no=no)(hz:(z=-1∧∀ y∈us,(y.t.no==no)=false)∨∃ (j:Nat) (y:TQ),z=j∧us[j]? =some y∧(y.t.no==no)=true∧∀ u∈us.take j,(u.t.no==no)=false):0≤z:=by
 rcases hz with ⟨_,h1⟩ | ⟨j,y,rfl,_⟩
 ·obtain ⟨q,hq,hqn⟩:=hn;obtain ⟨y,hy,e⟩:=map_other h.symm hq;have:=h1 y hy
  rw [e,hqn] at this;simp at this
 ·omega
theorem ids_right {r:Rul}{ts:List Tch}{P:List Psn}(hP:IsPsns r ts P)(h:∀ t∈ts,tchFault t 0=0):∀ p∈P,∀ x∈p.ids,L.idFault x.k x.t=0:=fun p hp x hx=>by
 obtain ⟨c,_,rfl⟩:=hP;obtain ⟨i,_,rfl⟩:=List.mem_map.1 hp;have h1:=(srtId_mem _ x).1 hx;obtain ⟨j,_,hj⟩:=List.mem_flatMap.1 h1;unfold idsAt at hj;cases ht:ts[j]? with
 | none=>rw [ht] at hj;cases hj
 | some t=>rw [ht] at hj;exact tchF_ids (h t (List.mem_of_getElem? ht)) x hj
theorem psns_fit {r:Rul}{ts:List Tch}{P:List Psn}(hP:IsPsns r ts P)(h:RtOk r ts)(hl:ts.length≤20)(hpt:PsnTn P):∀ p∈P,(p.tch.length≤1000∧p.ids.length≤1000)∧RiseI p.ids:=fun p hp=>by
 refine ⟨⟨Nat.le_trans (hpt.2 p hp).1 (by decide),?_⟩,psns_rise hP p hp⟩;obtain ⟨c,_,rfl⟩:=hP;obtain ⟨i,_,rfl⟩:=List.mem_map.1 hp;have h1:=part_len c ts.length i;have h2:=flat_len (m:=10) (f:=idsAt ts) (partAt c ts.length i) (idsAt_len h);have h3:=srtId_len ((partAt c ts.length i).flatMap (idsAt ts));show (srtId ((partAt c ts.length i).flatMap (idsAt ts))).length≤_;omega
theorem find_law {P:List Psn}{ps:List PsQ}(hps:ps.map PsQ.p=P){x:IdV}(hid:∀ p∈P,∀ y∈p.ids,L.idFault y.k y.t=0){z:Int}
  (hz:(z=-1∧∀ y∈ps,(decide (L.idFault x.k x.t=0) && decide (x∈y.p.ids))=false)∨∃ (j:Nat) (y:PsQ),z=j∧ps[j]? =some y∧(decide (L.idFault x.k x.t=0) && decide (x∈y.p.ids))=true∧∀ u∈ps.take j,(decide (L.idFault x.k x.t=0) && decide (x∈u.p.ids))=false) :
  (z=-1∧ofP P x=none)∨∃ (j:Nat) (q:PsQ),z=j∧ps[j]? =some q∧ofP P x=some q.p:=by
 have hfm:ofP P x=(ps.find? (fun q=>decide (x∈q.p.ids))).map PsQ.p:=by
  unfold ofP;rw [← hps,List.find?_map];rfl
 rcases hz with ⟨h1,h2⟩ | ⟨j,q,h1,hq,hp,h2⟩
 ·refine .inl ⟨h1,?_⟩;rw [hfm,List.find?_eq_none.2 ?_];rfl
  intro q hq hx;have hx2:x∈q.p.ids:=by simpa using hx
  have:=h2 q hq
  rw [hid q.p (by rw [← hps];exact List.mem_map_of_mem hq) x hx2] at this;simp [hx2] at this
 ·refine .inr ⟨j,q,h1,hq,?_⟩;rw [Bool.and_eq_true,decide_eq_true_eq,decide_eq_true_eq] at hp;have hn:(ps.take j).find? (fun q=>decide (x∈q.p.ids))=none:=List.find?_eq_none.2 fun u hu hx=>by
   have hx2:x∈u.p.ids:=by simpa using hx
   have:=h2 u hu
   rw [hp.1] at this;simp [hx2] at this
  have h3:=find_take_step hn hq;rw [if_pos (by simpa using hp.2)] at h3;rw [hfm,find_of_take h3];rfl
abbrev hasR (x:IdV)(q:PsQ):Bool:=decide (L.idFault x.k x.t=0) && decide (x∈q.p.ids)
theorem loadAtP4 {w:World}{blk o:Nat}{a b c d:Value}(c0:w.cell? ⟨blk,o,none⟩=some a)(c1:w.cell? ⟨blk,o + 1,none⟩=some b)(c2:w.cell? ⟨blk,o + 2,none⟩=some c)(c3:w.cell? ⟨blk,o + 3,none⟩=some d):(Instr.loadAt 80 (.pointer (some ⟨blk,o,none⟩))).run Tryz.prog w=.ok (.agg #[a,b,c,d]) w:=by
 go_simp
theorem slTch1 {w:World}{Z:Nat}{t:Tch}{A B:Option Addr}{c d:Nat}(h:LV w Z (tcCs t A c B d) 58)(hA:Sl rId (fun _=>False) w A t.ids)(hB:Sl rFld (fun _=>False) w B t.flds):Sl rTch (fun _=>False) w (some ⟨Z,0,none⟩) [t]:=fun i x hx=>by
 cases i with
 | zero =>
  obtain rfl:t=x:=by simpa using hx
  refine ⟨Z,0,_,rfl,h.lt,id,rTch_mk (c:=c) (d:=d) hA hB,fun j u hj=>?_⟩;rw [Nat.zero_mul,Nat.zero_add];exact h.cell j u (by simpa using hj)
 | succ n=>simp at hx
theorem oneTouch_any (Z:Nat)(t:Tch)(A B:Option Addr)(c d:Nat)(w:World)(h:LV w Z (tcCs t A c B d) 58)(hA:Sl rId (fun _=>False) w A t.ids)(hB:Sl rFld (fun _=>False) w B t.flds)(ht:TchSm t)(hT:Tabs w)(hM:MaxL w) :
  Calls Tryz.prog 28 #[.slice (some ⟨Z,0,none⟩) 1 1] w fun e w'=>e=.returned (.int .i64 (tchFault t 0))∧Below w.heap.size w w':=by
 have:=refTouches_any (fun _=>False) (some ⟨Z,0,none⟩) [t] 1 w (slTch1 h hA hB) ⟨by simp,fun x hx=>by rw [List.mem_singleton.1 hx];exact ht.ok⟩ hT hM
 rw [one_fault] at this;exact this
abbrev ixT (r:Rul)(K2 W2 S2:Option Addr)(Yr:Nat)(K:Option Addr)(ck:Nat)(W:Option Addr)(cw:Nat)(Sv:Option Addr)(cs T:Nat)(A:Option Addr)(ca:Nat)(us:List TQ)(tl:List Chunk):List Chunk :=
 .sl rInt K2 r.kinds::.sl rId W2 r.weak::.sl rSrv S2 r.surv::.loc Yr (ruCs r K ck W cw Sv cs) 29::.sl rInt K r.kinds::.sl rId W r.weak::.sl rSrv Sv r.surv::.loc T #[.slice A us.length ca] 30::.sl rTQ A us::.tdat us::tl
set_option maxHeartbeats 16000000 in
set_option maxRecDepth 100000 in
theorem indexFollows_any (v:Value)(w:World)(hv:IntsIn v w)(hT:Tabs w)(hM:MaxL w)(hN:Names w)(hP:Pool w) :
  Calls Tryz.prog 4 #[v] w fun e w'=>e=.returned (.bool true)∧Below w.heap.size w w':=by
 obtain ⟨va,vn,vc,rfl⟩:∃ a n c,v=.slice a n c:=by
  rcases hv with ⟨a,c,rfl⟩ | ⟨k,off,len,cap,rfl,_⟩
  ·exact ⟨_,_,_,rfl⟩
  ·exact ⟨_,_,_,rfl⟩
 have g0:=G.start (Strm.start hv);clear hv;obtain ⟨b,hb⟩:∃ b,b=w.heap.size:=⟨_,rfl⟩;have hPn:1≠b:=by rw [hb];exact Nat.ne_of_lt hP.lt
 have hNn:0≠b:=by rw [hb];exact Nat.ne_of_lt hN.lt
 have hb0:Below b w (w.alloc (.cells #[.slice va vn vc,.int .i64 0] 25)):=by rw [hb];exact (Below.refl _ _).alloc (Nat.le_refl _) _
 have Hb0:=Lib.hid hb0;have HTM:Hid (∀ w',Below b w w'→Tabs w'∧MaxL w'):=fun w' h=>by rw [hb] at h;exact ⟨Utf8Tabs_below hT h,hM.below h⟩
 have HP:=Lib.hid (hP.keep (b:=b) ((SK.refl _ w).alloc (.cells #[.slice va vn vc,.int .i64 0] 25)) hPn);have HN:=Lib.hid (hN.keep (b:=b) ((SK.refl _ w).alloc (.cells #[.slice va vn vc,.int .i64 0] 25)) hNn);rw [← hb] at g0;have hw0:b≤(w.alloc (.cells #[.slice va vn vc,.int .i64 0] 25)).heap.size:=by simp;omega
 have S:St b 0 _ _ []:=St.start g0.s;have Hbw:=Lib.hid hb;clear hP hM hN hT hb0 g0;go_enter Tryz.func4,Tryz.ntmps4
 go_upto_region 2 with fail
 rw [← hb];clear hb;generalize w.alloc (.cells #[.slice va vn vc,.int .i64 0] 25)=w1 at *;have HTS:Hid (∀ m w',G b m w1 w'→b≤w'.heap.size∧Below b w w'):=fun m w' h=>⟨Nat.le_trans hw0 h.size,Hb0.out.trans (h.k.below (Nat.le_refl _) hw0)⟩;have HJ:=Lib.hid (fun m wx (h:G b m w1 wx) (hm:m≤100000)=>joinRules_any b m wx h.s (by omega) (HN.out.keep h.k hNn) hNn (HP.out.keep h.k hPn) hPn);have HC:=Lib.hid (fun m (no:Int) wx (h:G b m w1 wx) (hm:m≤100000) (hn:-10000000000≤no∧no≤10000000000)=>touch_any b m no wx h.s (by omega) hn (HN.out.keep h.k hNn) hNn (HP.out.keep h.k hPn) hPn);have HI:=Lib.hid (fun m wx (h:G b m w1 wx) (hm:m≤100000)=>id_any b m wx h.s (by omega) (HP.out.keep h.k hPn) hPn);have HTW:Hid (∀ m w',G b m w1 w'→Tabs w'∧MaxL w'):=fun m w' h=>HTM.out w' (HTS.out m w' h).2;clear HN HP hNn hPn hw0 HTM;go_wp2_with fail
 refine (HJ.out _ _ S.g (by omega)).mono ?_;rintro e w2 ⟨r,K,ck,W,cw,Sv,cs,rfl,hr,T0⟩;obtain ⟨Yr,hYr⟩:∃ Yr,Yr=w2.heap.size:=⟨_,rfl⟩;have S2:St b 2000 w1 _ [.loc Yr (ruCs r K ck W cw Sv cs) 29,.sl rInt K r.kinds,.sl rId W r.weak,.sl rSrv Sv r.surv]:=(((S.join T0).newAt (ruCs r K ck W cw Sv cs) 29 Yr hYr).front).mono (by omega);have Hr:=Lib.hid hr;clear S T0 hr HJ;go_upto_region 3 with fail
 rw [← hYr];clear hYr;generalize w2.alloc (.cells (ruCs r K ck W cw Sv cs) 29)=w3 at *;have Hne:=Lib.hid (newIx_any r K W Sv ck cw cs w3 ⟨(S2.slc 1 rfl).mono (fun _ _ h=>h.elim),(S2.slc 2 rfl).mono (fun _ _ h=>h.elim),(S2.slc 3 rfl).mono (fun _ _ h=>h.elim)⟩ Hr.out (HTW.out _ _ S2.g).2);have y0:=(S2.lv 0 rfl).all;go_wp2_with fail
 refine (Hne.out).mono ?_;rintro e w4 hnew;rcases hnew with ⟨hF,rfl,hb4⟩ | ⟨hF,X,K2,ck2,W2,cw2,V2,cs2,rfl,T4⟩
 ·obtain ⟨F,hFF⟩:∃ F,rulFault r=F:=⟨_,rfl⟩;rw [hFF] at hF ⊢;have S4:=S2.below hb4;have Hrf:=Lib.hid (refRules_any (fun _=>False) r K W Sv ck cw cs w4 ⟨(S4.slc 1 rfl).mono (fun _ _ h=>h.elim),(S4.slc 2 rfl).mono (fun _ _ h=>h.elim),(S4.slc 3 rfl).mono (fun _ _ h=>h.elim)⟩ Hr.out.ok (HTW.out _ _ S4.g).2);rw [hFF] at Hrf;clear y0 hb4 Hne S2 hFF;have y0:=(S4.lv 0 rfl).all;go_wp2_with fail
  refine (Hrf.out).mono ?_;rintro e w5 ⟨rfl,hb5⟩;have S5:=S4.below hb5;have hbw:=(HTS.out _ _ S5.g);have Hpe:=Lib.hid (people_any w5 (HTW.out _ _ S5.g).1);have Hbw5:=Lib.hid hbw;clear y0 hb5 S4 S5 hbw Hrf;go_wp2_with fail
  refine (Hpe.out).mono ?_;rintro e w6 ⟨rfl,hl6⟩;go_wp2_with fail
  go_ret;refine ⟨rfl,?_⟩;have hfin:=Hbw5.out.2.trans (hl6.mono Hbw5.out.1);rw [show b=w.heap.size from Hbw.out] at hfin;exact hfin
 ·have Hrz:Hid (rulFault r=0):=hF;obtain ⟨wb,_,M,back⟩:=S2.viaMem;have S4:St b 2000 w1 w4 [.loc X (ixCs r K2 ck2 W2 cw2 V2 cs2 none 0 0 none 0 0) 130,.sl rInt K2 r.kinds,.sl rId W2 r.weak,.sl rSrv V2 r.surv,.loc Yr (ruCs r K ck W cw Sv cs) 29,.sl rInt K r.kinds,.sl rId W r.weak,.sl rSrv Sv r.surv]:=(back _ _ (M.join T4)).perm List.perm_append_comm;have Hrf:=Lib.hid (refRules_any (fun _=>False) r K W Sv ck cw cs w4 ⟨(S4.slc 5 rfl).mono (fun _ _ h=>h.elim),(S4.slc 6 rfl).mono (fun _ _ h=>h.elim),(S4.slc 7 rfl).mono (fun _ _ h=>h.elim)⟩ Hr.out.ok (HTW.out _ _ S4.g).2);rw [hF] at Hrf;clear back M T4 y0 Hne S2 hF;have y0:=(S4.lv 4 rfl).all;go_wp2_with fail
  refine (Hrf.out).mono ?_;rintro e w5 ⟨rfl,hb5⟩;have S5:=S4.below hb5;clear y0 hb5 S4 Hrf;obtain ⟨T,hT⟩:∃ T,T=w5.heap.size:=⟨_,rfl⟩;have S6:St b 2000 w1 _ [.loc X (ixCs r K2 ck2 W2 cw2 V2 cs2 none 0 0 none 0 0) 130,.sl rInt K2 r.kinds,.sl rId W2 r.weak,.sl rSrv V2 r.surv,.loc Yr (ruCs r K ck W cw Sv cs) 29,.sl rInt K r.kinds,.sl rId W r.weak,.sl rSrv Sv r.surv,.loc T #[.slice none 0 0] 30]:=S5.newAt #[.slice none 0 0] 30 T hT;clear S5;go_upto_region 10 with fail
  rw [← hT];clear hT;generalize w5.alloc (.cells #[.slice none 0 0] 30)=w6 at *;have A1:=S6.call (G.start S6.g.s) (.sl rTQ none []) Sl.nil (fun k e=>by cases e);have A2:=A1.call (G.start A1.g.s) (.tdat []) (fun q hq=>by cases hq) (fun k e=>by cases e);have A3:=(A2.call (G.start A2.g.s) (.sl rPsn none []) Sl.nil (fun k e=>by cases e)).front;have A4:=(A3.call (G.start A3.g.s) (.tdat []) (fun q hq=>by cases hq) (fun k e=>by cases e)).front;have A5:=(A4.call (G.start A4.g.s) (.sl rTQ none []) Sl.nil (fun k e=>by cases e)).front;have S:St b 2000 w1 w6 (ixP X r K2 ck2 W2 cw2 V2 cs2 none 0 [] none 0 [] (ixT r K2 W2 V2 Yr K ck W cw Sv cs T none 0 [] ([]))):=A5.perm (List.perm_middle (l₁:=[Chunk.sl rTQ none [],Chunk.tdat [],Chunk.sl rPsn none []]));have Hix0:Hid (IxOk r [] []):=⟨Hr.out,Hrz.out,(fun q hq=>by cases hq),GoodT.nil,⟨id,⟨(fun i hi=>by cases hi),(fun i j hi=>by cases hi),(fun i hi=>by cases hi)⟩,rfl⟩,Nat.zero_le _,(fun p hp=>by cases hp)⟩;clear S6 A1 A2 A3 A4 A5;go_wp2_with fail
  refine (range_any b _ _ _ _ S.g.s (by omega) (by omega) (by omega) (by omega)).mono ?_;rintro e w7 ⟨many,m_lo,m_hi,rfl,hk7,hs7⟩;obtain ⟨n,rfl⟩:=Int.eq_ofNat_of_zero_le (by omega:0≤many);have S7:=S.step hk7 hs7;have hn12:n≤12:=by omega
  clear S hk7 hs7 m_lo m_hi;go_wp2_with fail
  go_loopw [56] (fun i wr=>∃ (k:Nat) (qs us:List TQ) (P:List Psn) (L:Option Addr) (c:Nat) (Pa:Option Addr) (cp:Nat) (A:Option Addr) (ca:Nat),k≤n∧i=.int .i64 k∧Hid (IxOk r qs P)∧Hid (us.map TQ.t=qs.map TQ.t)∧Hid (qs.length≤k)∧St b (2001 + 600 * k) w1 wr (ixP X r K2 ck2 W2 cw2 V2 cs2 L c qs Pa cp P (ixT r K2 W2 V2 Yr K ck W cw Sv cs T A ca us ([])))) (fun i _=>n - (intOf i).toNat)
  case atStart=>exact ⟨0,[],[],[],none,0,none,0,none,0,Nat.zero_le _,rfl,Hix0,rfl,Nat.le_refl _,S7⟩
  case round =>
   clear S7 Hix0;obtain ⟨k,qs,us,P,L,c,Pa,cp,A,ca,hk,rfl,Hix,Hus,Hql,S⟩:=hrel;by_cases hlt:k < n
   ·have hkl:qs.length≤12:=by have:=Hql.out;omega
    have Hul:Hid (us.length=qs.length):=by have:=congrArg List.length Hus.out;show _=_;simpa using this
    have hqU:=(S.slc 12 rfl).mono (M:=fun _=>False) (fun _ _ h=>h.elim);have hdU:TdOk (fun _=>False) wr us:=fun q h=>by
     have:=(S.ok (.tdat us) (List.mem_of_getElem? (i:=13) rfl)) q h
     exact ⟨this.1.mono (fun _ _ h=>h.elim),this.2.mono (fun _ _ h=>h.elim)⟩
    have hpo:=refPersons_any (fun _=>False) r K W Sv A ck cw cs ca (us.map TQ.t) wr ⟨(S.slc 8 rfl).mono (fun _ _ h=>h.elim),(S.slc 9 rfl).mono (fun _ _ h=>h.elim),(S.slc 10 rfl).mono (fun _ _ h=>h.elim)⟩ (slTch hqU hdU) (by rw [Hus.out];exact Hix.out.gd.rt Hr.out Hrz.out (by rw [List.length_map];omega));rw [List.length_map] at hpo;have Hpo:=Lib.hid hpo;have y0:=(S.lv 7 rfl).all;have t0:=(S.lv 11 rfl).all;clear hpo hqU hdU;go_wp2_with fail
    refine (Hpo.out).mono ?_;rintro e w8 ⟨A9,c9,P9,rfl,hp9,T9⟩;rw [Hus.out] at hp9;obtain rfl:P=P9:=Hix.out.pp.uniq hp9;obtain ⟨wb,_,M,back⟩:=S.viaMem;have S8:St b (2001 + 600 * k) w1 w8 (ixP X r K2 ck2 W2 cw2 V2 cs2 L c qs Pa cp P (ixT r K2 W2 V2 Yr K ck W cw Sv cs T A ca us ([.sl rPsn A9 P]))):=back _ _ (M.join T9);clear y0 t0 hp9 back M T9 S Hpo;go_wp2_with fail
    refine (range_any b _ _ _ _ S8.g.s (by omega) (by omega) (by omega) (by omega)).mono ?_;rintro e w9 ⟨no,n_lo,n_hi,rfl,hk9,hs9⟩;have S9:=S8.step hk9 hs9;clear S8 hk9 hs9;go_wp2_with fail
    refine (HC.out _ no _ S9.g (by omega) (by omega)).mono ?_;rintro e w10 ⟨t,At,ct,Bt,dt,rfl,ht,T10⟩;obtain ⟨U,hU⟩:∃ U,U=w10.heap.size:=⟨_,rfl⟩;have S10:St b (2001 + 600 * k + 1 + 500) w1 _ (ixP X r K2 ck2 W2 cw2 V2 cs2 L c qs Pa cp P (ixT r K2 W2 V2 Yr K ck W cw Sv cs T A ca us ([.sl rPsn A9 P,.sl rId At t.ids,.sl rFld Bt t.flds,.loc U (tcCs t At ct Bt dt) 58]))):=(S9.join T10).newAt (tcCs t At ct Bt dt) 58 U hU;have Ht:=Lib.hid ht;clear S9 T10 ht;go_upto_region 18 with fail
    rw [← hU];clear hU;generalize w10.alloc (.cells (tcCs t At ct Bt dt) 58)=w11 at *;go_wp2_with fail
    refine (flip_any b _ 3 _ S10.g.s (by omega) (by omega) (by omega)).mono ?_;rintro e w12 ⟨bo,rfl,hk12,hs12⟩;have S:=S10.step hk12 hs12;clear S10 hk12 hs12;go_upto_if 67 with fail
    go_cut [6,12,13] (fun s6 s12 s13 wx=>∃ (F:Int) (A8:Option Addr) (c8:Nat) (l:List Shf) (qs2 us2:List TQ) (P2:List Psn) (L2:Option Addr) (c2:Nat) (Pa2:Option Addr) (cp2:Nat) (Au:Option Addr) (cu:Nat),s6=.int .i64 F∧s12=.slice A8 l.length c8∧s13=.int .i64 F∧Hid (IxOk r qs2 P2)∧Hid (us2.map TQ.t=qs2.map TQ.t)∧Hid (qs2.length≤k + 1)∧Hid (IsShf P P2 l)∧St b (2601 + 600 * k) w1 wx (ixP X r K2 ck2 W2 cw2 V2 cs2 L2 c2 qs2 Pa2 cp2 P2 (ixT r K2 W2 V2 Yr K ck W cw Sv cs T Au cu us2 ([.sl rPsn A9 P,.sl rShf A8 l]))))
    case first =>
     cases bo
     ·have hR2:RulIn (fun _=>False) w12 r K2 W2 V2:=⟨(S.slc 4 rfl).mono (fun _ _ h=>h.elim),(S.slc 5 rfl).mono (fun _ _ h=>h.elim),(S.slc 6 rfl).mono (fun _ _ h=>h.elim)⟩;have hA1:=(S.slc 15 rfl).mono (M:=fun _=>False) (fun _ _ h=>h.elim);have hB1:=(S.slc 16 rfl).mono (M:=fun _=>False) (fun _ _ h=>h.elim);have hTM:=HTW.out _ _ S.g;have u0:=(S.lv 17 rfl).all;obtain ⟨wb,_,M,back⟩:=S.viaMem;have Had:=Lib.hid (add_any _ X r K2 W2 V2 L Pa ck2 cw2 cs2 c cp P qs t At Bt ct dt M hR2 Hix.out (by omega) hA1 hB1 Ht.out hTM.1 hTM.2);have HB:=Lib.hid back;clear S M back hR2 hA1 hB1 hTM;go_wp2_with fail
      refine (Had.out).mono ?_;rintro e w13 hadd;clear Had u0;rcases hadd with ⟨hF,rfl,M2⟩ | ⟨hF,hex,rfl,M2⟩ | ⟨hF,i,x,v8,hx,hp,rfl,hb8⟩
      ·have S13:St b (2001 + 600 * k + 1 + 500 + 1) w1 w13 (ixP X r K2 ck2 W2 cw2 V2 cs2 L c qs Pa cp P (ixT r K2 W2 V2 Yr K ck W cw Sv cs T A ca us ([.sl rPsn A9 P,.sl rId At t.ids,.sl rFld Bt t.flds,.loc U (tcCs t At ct Bt dt) 58]))):=HB.out _ _ M2;obtain ⟨F,hFF⟩:∃ F,tchFault t 0=F:=⟨_,rfl⟩;rw [hFF] at hF ⊢;clear M2;obtain ⟨Z,hZ⟩:∃ Z,Z=w13.heap.size:=⟨_,rfl⟩;have S14:=S13.newAt (tcCs t At ct Bt dt) 58 Z hZ;have hTM:=HTW.out _ _ S14.g;have Hof:=Lib.hid (oneTouch_any Z t At Bt ct dt _ (S14.lv 18 rfl) ((S14.slc 15 rfl).mono (fun _ _ h=>h.elim)) ((S14.slc 16 rfl).mono (fun _ _ h=>h.elim)) Ht.out hTM.1 hTM.2);have u0:=(S13.lv 17 rfl).all;have HS14:=Lib.hid S14;rw [hFF] at Hof;clear S13 S14 hTM HB;go_wp2_with fail
       rw [← hZ];clear hZ u0;generalize w13.alloc (.cells (tcCs t At ct Bt dt) 58)=w14 at *;refine (Hof.out).mono ?_;rintro e w15 ⟨rfl,hb15⟩;have S15:=(HS14.out.below hb15).del 18;clear HS14 Hof hb15;have HS15:=Lib.hid S15;clear S15 hFF;go_wp2_with fail
       go_meet;exact ⟨F,none,0,[],qs,us,P,L,c,Pa,cp,A,ca,rfl,rfl,rfl,Hix.out,Hus.out,(by show _≤_;have:=Hql.out;omega),shf_none P,by
        have S:=((HS15.out.del 17).del 16).del 15;exact (S.call (G.start S.g.s) (.sl rShf none []) Sl.nil (fun k e=>by cases e)).mono (by omega)⟩
      ·have S13:St b (2001 + 600 * k + 1 + 500 + 1) w1 w13 (ixP X r K2 ck2 W2 cw2 V2 cs2 L c qs Pa cp P (ixT r K2 W2 V2 Yr K ck W cw Sv cs T A ca us ([.sl rPsn A9 P,.sl rId At t.ids,.sl rFld Bt t.flds,.loc U (tcCs t At ct Bt dt) 58]))):=HB.out _ _ M2;have Hex:=Lib.hid hex;clear M2 hex;obtain ⟨Z,hZ⟩:∃ Z,Z=w13.heap.size:=⟨_,rfl⟩;have S14:=S13.newAt (tcCs t At ct Bt dt) 58 Z hZ;have hTM:=HTW.out _ _ S14.g;have Hof:=Lib.hid (oneTouch_any Z t At Bt ct dt _ (S14.lv 18 rfl) ((S14.slc 15 rfl).mono (fun _ _ h=>h.elim)) ((S14.slc 16 rfl).mono (fun _ _ h=>h.elim)) Ht.out hTM.1 hTM.2);have u0:=(S13.lv 17 rfl).all;have HS14:=Lib.hid S14;rw [hF] at Hof;clear S13 S14 hTM HB;go_wp2_with fail
       rw [← hZ];clear hZ u0;generalize w13.alloc (.cells (tcCs t At ct Bt dt) 58)=w14 at *;refine (Hof.out).mono ?_;rintro e w15 ⟨rfl,hb15⟩;have S15:=(HS14.out.below hb15).del 18;clear HS14 Hof hb15;clear hF;have Hpl:=Lib.hid (place_any A ca T us t.no w15 (S15.lv 11 rfl) ((S15.slc 12 rfl).mono (fun _ _ h=>h.elim)) (by have:=Hul.out;omega));have u0:=(S15.lv 17 rfl).all;have HS15:=Lib.hid S15;clear S15;go_wp2_with fail
       refine (Hpl.out).mono ?_;rintro e w16 ⟨z,rfl,hb16,hz⟩;have HS16:=Lib.hid (HS15.out.below hb16);have hz0:=some_place Hus.out Hex.out hz;clear hz hb16 Hpl HS15 u0;go_wp2_with fail
       go_meet;exact ⟨6,none,0,[],qs,us,P,L,c,Pa,cp,A,ca,rfl,rfl,rfl,Hix.out,Hus.out,(by show _≤_;have:=Hql.out;omega),shf_none P,by
        have S:=((HS16.out.del 17).del 16).del 15;exact (S.call (G.start S.g.s) (.sl rShf none []) Sl.nil (fun k e=>by cases e)).mono (by omega)⟩
      ·obtain ⟨L2,c2,Pa2,cp2,now,A8,c8,l,rfl,hsh,hix2,M2⟩:=hb8;obtain ⟨qs2,hqs2⟩:∃ qs2,qs.take i++x::qs.drop i=qs2:=⟨_,rfl⟩;have Hqs2:=Lib.hid hqs2;rw [hqs2] at hix2 M2;have S13:St b (2001 + 600 * k + 1 + 500 + 1) w1 w13 (ixP X r K2 ck2 W2 cw2 V2 cs2 L2 c2 qs2 Pa2 cp2 now (ixT r K2 W2 V2 Yr K ck W cw Sv cs T A ca us ([.sl rPsn A9 P,.sl rId At t.ids,.sl rFld Bt t.flds,.loc U (tcCs t At ct Bt dt) 58,.sl rShf A8 l]))):=HB.out _ _ M2;have HF0:Hid (tchFault t 0=0):=hF;have Hx:Hid (x.t=t):=hx;have Hp:Hid (IsPlc (qs.map TQ.t) t.no i false):=hp;have Hsh:=Lib.hid hsh;have Hix2:Hid (IxOk r qs2 now):=hix2;have Hil:Hid (i≤qs.length):=by have:=hp.1;show _≤_;rwa [List.length_map] at this
       clear M2 hx hp hsh hix2 hqs2;obtain ⟨Z,hZ⟩:∃ Z,Z=w13.heap.size:=⟨_,rfl⟩;have S14:=S13.newAt (tcCs t At ct Bt dt) 58 Z hZ;have hTM:=HTW.out _ _ S14.g;have Hof:=Lib.hid (oneTouch_any Z t At Bt ct dt _ (S14.lv 19 rfl) ((S14.slc 15 rfl).mono (fun _ _ h=>h.elim)) ((S14.slc 16 rfl).mono (fun _ _ h=>h.elim)) Ht.out hTM.1 hTM.2);have u0:=(S13.lv 17 rfl).all;have HS14:=Lib.hid S14;rw [hF] at Hof;clear S13 S14 hTM HB;go_wp2_with fail
       rw [← hZ];clear hZ u0;generalize w13.alloc (.cells (tcCs t At ct Bt dt) 58)=w14 at *;refine (Hof.out).mono ?_;rintro e w15 ⟨rfl,hb15⟩;have S15:=(HS14.out.below hb15).del 19;clear HS14 Hof hb15;clear hF;have Hpl:=Lib.hid (place_any A ca T us t.no w15 (S15.lv 11 rfl) ((S15.slc 12 rfl).mono (fun _ _ h=>h.elim)) (by have:=Hul.out;omega));have u0:=(S15.lv 17 rfl).all;have HS15:=Lib.hid S15;clear S15;go_wp2_with fail
       refine (Hpl.out).mono ?_;rintro e w16 ⟨z,rfl,hb16,hz⟩;have HS16:=Lib.hid (HS15.out.below hb16);obtain rfl:z=-1:=none_place Hus.out (plc_none Hix.out.gd Hp.out) hz;clear hz hb16 Hpl HS15 u0;have S:St b (2001 + 600 * k + 1 + 500 + 1) w1 w16 (ixP X r K2 ck2 W2 cw2 V2 cs2 L2 c2 qs2 Pa2 cp2 now (ixT r K2 W2 V2 Yr K ck W cw Sv cs T A ca us ([.sl rPsn A9 P,.sl rId At t.ids,.sl rFld Bt t.flds,.loc U (tcCs t At ct Bt dt) 58,.sl rShf A8 l]))):=HS16.out;obtain ⟨x',hx'⟩:∃ x':TQ,x'=⟨t,At,ct,Bt,dt⟩:=⟨_,rfl⟩;have Hxt:Hid (x'.t=t):=by rw [hx'];rfl
       have Hx':=Lib.hid hx';clear hx';go_upto_region 29 with fail
       refine wp_region_mixT [5] (fun wx=>LV wx T #[.slice A us.length ca] 30∧LV wx U (tcCs t At ct Bt dt) 58) (.q 0 (.q 2 (.e2 1 (.e 3 (.e 4 (.b 5 .z))) 3 (.e 1 (.e 4 (.b 5 .z)))))) (by kernel_rfl) (by kernel_rfl) (fun _ hd=>⟨(S.below (hd.below _)).lv 11 rfl,(S.below (hd.below _)).lv 17 rfl⟩) (fun KK hKK wd hd=>?_);replace S:=S.below (hd.below _);clear hd HS16;refine mixT_loadR (.slice A us.length ca) rfl rfl rfl rfl (fun w' h=>loadC rfl (h.1.cell 0 _ rfl)) ?_;refine mixT_loadR (.agg (tcCs t At ct Bt dt)) rfl rfl rfl rfl (fun w' h=>loadAtTc h.2) ?_;have Hcl:=Lib.hid (fun w' (h:Below wd.heap.size wd w')=>cloneT_any A us ca w' (((S.slc 12 rfl).mono (M:=fun _=>False) (fun _ _ h=>h.elim)).keepB h) (by have:=Hul.out;omega));refine mixT_2 (mixT_one rfl rfl (fun K9 hK9=>?_)) (mixT_one rfl rfl (fun K9 hK9=>?_))
       ·go_wp2_with fail
        refine (Hcl.out wd (Below.refl _ _)).mono ?_;rintro e w17 ⟨A3,c3,rfl,T3⟩;obtain ⟨B,hB⟩:∃ B,B=wd.heap.size:=⟨_,rfl⟩;rw [← hB] at T3;have hBl:B≤w17.heap.size:=by rw [hB];exact T3.b.size
        obtain ⟨wb,_,M,back⟩:=S.viaMem;have S17:St b (2001 + 600 * k + 1 + 500 + 1) w1 w17 (ixP X r K2 ck2 W2 cw2 V2 cs2 L2 c2 qs2 Pa2 cp2 now (ixT r K2 W2 V2 Yr K ck W cw Sv cs T A ca us ([.sl rPsn A9 P,.sl rId At t.ids,.sl rFld Bt t.flds,.loc U (tcCs t At ct Bt dt) 58,.sl rShf A8 l,.own rTQ B 58 (.slice A3 us.length c3) us]))):=back _ _ (M.join T3);have hC:=(⟨S17.lv 11 rfl,S17.lv 17 rfl⟩:LV w17 T #[.slice A us.length ca] 30∧LV w17 U (tcCs t At ct Bt dt) 58);clear M back T3 S Hcl hB;go_wp2_with fail
        refine ⟨hC,?_⟩;clear hC;refine mixT_l rfl rfl (fun K9 hK9=>?_);obtain ⟨Z,hZ⟩:∃ Z,Z=w17.heap.size:=⟨_,rfl⟩;have S18:=S17.newAt (tcCs t At ct Bt dt) 58 Z hZ;have hBl2:B≤(w17.alloc (.cells (tcCs t At ct Bt dt) 58)).heap.size:=by rw [World.size_alloc];omega
        go_wp2_with fail
        rw [← hZ];clear hZ S17 hBl;generalize w17.alloc (.cells (tcCs t At ct Bt dt) 58)=w18 at *;refine ⟨⟨S18.lv 11 rfl,S18.lv 17 rfl⟩,?_⟩;refine mixT_l rfl rfl (fun K9 hK9=>?_);have HC9:=Lib.hid (rowCellsT (x:=x') (by rw [Hx'.out];exact S18.lv 20 rfl));refine S18.appN flatTQ 19 rfl tyTch rfl _ _ rfl [x'] 1 1 rfl rfl ⟨Z,0,none⟩ rfl HC9.out (fun y _=>oneTQ y) (fun _=>rfl) hBl2 (by have:=Hul.out;simp only [List.length_singleton];omega) (by decide) ?_;intro v5 w5 S5;obtain ⟨vs,hvs⟩:∃ vs,us++[x']=vs:=⟨_,rfl⟩;rw [hvs] at S5;have Hvs:=Lib.hid hvs;obtain ⟨A5,c5,e5⟩:=(S5.ow 19 rfl).len;subst e5;clear S18 HC9 hBl2 hvs;have hC:=(⟨S5.lv 11 rfl,S5.lv 17 rfl⟩:LV w5 T #[.slice A us.length ca] 30∧LV w5 U (tcCs t At ct Bt dt) 58);have HS5:=Lib.hid S5;have t0:=hC.1.all;clear S5;go_wp2_with fail
        refine ⟨hC,?_⟩;clear hC;refine mixT_b rfl rfl (fun K9 hK9=>?_);have HS6:=Lib.hid (HS5.out.set 11 0 (.slice A5 vs.length c5) rfl);clear HS5;go_wp2_with fail
        refine ⟨trivial,?_⟩;refine mixT_nil ?_;simp only [Exit.then];refine hKK _ _ ?_;clear hKK KK t0;have S6:=HS6.out;generalize w5.setCell ⟨T,0,none⟩ (.slice A5 vs.length c5)=w6' at S6 ⊢;obtain ⟨wb,_,M,back⟩:=S6.viaMem;have Hso:=Lib.hid (sortTq_any M 19 rfl (by rw [← Hvs.out];exact noIn_all Hix.out.gd Hus.out (by rw [Hxt.out];exact HF0.out)) (by rw [← Hvs.out,List.length_append,List.length_singleton];have:=Hul.out;omega));have HBk:=Lib.hid back;have t0:=(S6.lv 11 rfl).all;clear M back S6 HS6;go_wp2_with fail
        refine (Hso.out).mono ?_;rintro e w19 ⟨rfl,ys,hperm,hsort,M2⟩;have S7:=HBk.out _ _ M2;obtain ⟨A7,c7,e7,S8⟩:=S7.frz 19 rfl;rw [e7] at S8;rw [← Hvs.out] at hperm;have Hys:Hid (ys.map TQ.t=qs2.map TQ.t):=by
         show _=_;rw [← Hqs2.out];exact sorted_is Hix.out.gd Hus.out HF0.out Hp.out Hx.out Hxt.out hperm hsort
        have Hysub:Hid (∀ y∈ys,y∈us∨y=x'):=fun y hy=>by
         rcases List.mem_append.1 (hperm.mem_iff.1 hy) with h | h
         ·exact .inl h
         ·exact .inr (List.mem_singleton.1 h)
        have S9a:=S8.turn 13 rfl (.tdat ys) rfl (fun y hy=>by
         rcases Hysub.out y hy with h | h
         ·exact (S8.ok (.tdat us) (List.mem_of_getElem? (i:=13) rfl)) y h
         ·rw [h,Hx'.out];exact ⟨S8.slc 15 rfl,S8.slc 16 rfl⟩)
        have S9b:=S9a.turn 12 rfl (.sl rTQ A7 ys) rfl (S9a.slc 19 rfl);have S10:St b (2001 + 600 * k + 1 + 500 + 1) w1 w19 (ixP X r K2 ck2 W2 cw2 V2 cs2 L2 c2 qs2 Pa2 cp2 now (ixT r K2 W2 V2 Yr K ck W cw Sv cs T A7 c7 ys ([.sl rPsn A9 P,.sl rShf A8 l]))):=(((((S9b.del 20).del 19).del 17).del 16).del 15);have HS10:=Lib.hid S10;clear t0 e7 M2 S7 S8 S9a S9b S10 Hso HBk hperm hsort;go_wp2_with fail
        go_meet;exact ⟨0,A8,c8,l,qs2,ys,now,L2,c2,Pa2,cp2,A7,c7,rfl,rfl,rfl,Hix2.out,Hys.out,(by show _≤_;rw [← Hqs2.out,List.length_append,List.length_cons,List.length_take,List.length_drop];have:=Hql.out;have:=Hil.out;omega),Hsh.out,HS10.out.mono (by omega)⟩
       ·obtain ⟨Z,hZ⟩:∃ Z,Z=wd.heap.size:=⟨_,rfl⟩;have S17:St b (2001 + 600 * k + 1 + 500 + 1) w1 _ (ixP X r K2 ck2 W2 cw2 V2 cs2 L2 c2 qs2 Pa2 cp2 now (ixT r K2 W2 V2 Yr K ck W cw Sv cs T A ca us ([.sl rPsn A9 P,.sl rId At t.ids,.sl rFld Bt t.flds,.loc U (tcCs t At ct Bt dt) 58,.sl rShf A8 l,.loc Z (tcCs t At ct Bt dt) 58]))):=S.newAt (tcCs t At ct Bt dt) 58 Z hZ;have hbZ:Below wd.heap.size wd (wd.alloc (.cells (tcCs t At ct Bt dt) 58)):=(Below.refl _ _).alloc (Nat.le_refl _) _;go_wp2_with fail
        rw [← hZ];clear hZ S;generalize wd.alloc (.cells (tcCs t At ct Bt dt) 58)=w17 at *;refine ⟨⟨S17.lv 11 rfl,S17.lv 17 rfl⟩,?_⟩;refine mixT_l rfl rfl (fun K9 hK9=>?_);go_wp2_with fail
        refine (Hcl.out w17 hbZ).mono ?_;rintro e w18 ⟨A3,c3,rfl,T3⟩;obtain ⟨B,hB⟩:∃ B,B=w17.heap.size:=⟨_,rfl⟩;rw [← hB] at T3;have hBl2:B≤w18.heap.size:=by rw [hB];exact T3.b.size
        obtain ⟨wb,_,M,back⟩:=S17.viaMem;have S18:St b (2001 + 600 * k + 1 + 500 + 1) w1 w18 (ixP X r K2 ck2 W2 cw2 V2 cs2 L2 c2 qs2 Pa2 cp2 now (ixT r K2 W2 V2 Yr K ck W cw Sv cs T A ca us ([.sl rPsn A9 P,.sl rId At t.ids,.sl rFld Bt t.flds,.loc U (tcCs t At ct Bt dt) 58,.sl rShf A8 l,.loc Z (tcCs t At ct Bt dt) 58,.own rTQ B 58 (.slice A3 us.length c3) us]))):=back _ _ (M.join T3);have hC:=(⟨S18.lv 11 rfl,S18.lv 17 rfl⟩:LV w18 T #[.slice A us.length ca] 30∧LV w18 U (tcCs t At ct Bt dt) 58);clear M back T3 S17 Hcl hB hbZ;go_wp2_with fail
        refine ⟨hC,?_⟩;clear hC;refine mixT_l rfl rfl (fun K9 hK9=>?_);have HC9:=Lib.hid (rowCellsT (x:=x') (by rw [Hx'.out];exact S18.lv 19 rfl));refine S18.appN flatTQ 20 rfl tyTch rfl _ _ rfl [x'] 1 1 rfl rfl ⟨Z,0,none⟩ rfl HC9.out (fun y _=>oneTQ y) (fun _=>rfl) hBl2 (by have:=Hul.out;simp only [List.length_singleton];omega) (by decide) ?_;intro v5 w5 S5;obtain ⟨vs,hvs⟩:∃ vs,us++[x']=vs:=⟨_,rfl⟩;rw [hvs] at S5;have Hvs:=Lib.hid hvs;obtain ⟨A5,c5,e5⟩:=(S5.ow 20 rfl).len;subst e5;clear S18 HC9 hBl2 hvs;have hC:=(⟨S5.lv 11 rfl,S5.lv 17 rfl⟩:LV w5 T #[.slice A us.length ca] 30∧LV w5 U (tcCs t At ct Bt dt) 58);have HS5:=Lib.hid S5;have t0:=hC.1.all;clear S5;go_wp2_with fail
        refine ⟨hC,?_⟩;clear hC;refine mixT_b rfl rfl (fun K9 hK9=>?_);have HS6:=Lib.hid (HS5.out.set 11 0 (.slice A5 vs.length c5) rfl);clear HS5;go_wp2_with fail
        refine ⟨trivial,?_⟩;refine mixT_nil ?_;simp only [Exit.then];refine hKK _ _ ?_;clear hKK KK t0;have S6:=HS6.out;generalize w5.setCell ⟨T,0,none⟩ (.slice A5 vs.length c5)=w6' at S6 ⊢;obtain ⟨wb,_,M,back⟩:=S6.viaMem;have Hso:=Lib.hid (sortTq_any M 20 rfl (by rw [← Hvs.out];exact noIn_all Hix.out.gd Hus.out (by rw [Hxt.out];exact HF0.out)) (by rw [← Hvs.out,List.length_append,List.length_singleton];have:=Hul.out;omega));have HBk:=Lib.hid back;have t0:=(S6.lv 11 rfl).all;clear M back S6 HS6;go_wp2_with fail
        refine (Hso.out).mono ?_;rintro e w19 ⟨rfl,ys,hperm,hsort,M2⟩;have S7:=HBk.out _ _ M2;obtain ⟨A7,c7,e7,S8⟩:=S7.frz 20 rfl;rw [e7] at S8;rw [← Hvs.out] at hperm;have Hys:Hid (ys.map TQ.t=qs2.map TQ.t):=by
         show _=_;rw [← Hqs2.out];exact sorted_is Hix.out.gd Hus.out HF0.out Hp.out Hx.out Hxt.out hperm hsort
        have Hysub:Hid (∀ y∈ys,y∈us∨y=x'):=fun y hy=>by
         rcases List.mem_append.1 (hperm.mem_iff.1 hy) with h | h
         ·exact .inl h
         ·exact .inr (List.mem_singleton.1 h)
        have S9a:=S8.turn 13 rfl (.tdat ys) rfl (fun y hy=>by
         rcases Hysub.out y hy with h | h
         ·exact (S8.ok (.tdat us) (List.mem_of_getElem? (i:=13) rfl)) y h
         ·rw [h,Hx'.out];exact ⟨S8.slc 15 rfl,S8.slc 16 rfl⟩)
        have S9b:=S9a.turn 12 rfl (.sl rTQ A7 ys) rfl (S9a.slc 20 rfl);have S10:St b (2001 + 600 * k + 1 + 500 + 1) w1 w19 (ixP X r K2 ck2 W2 cw2 V2 cs2 L2 c2 qs2 Pa2 cp2 now (ixT r K2 W2 V2 Yr K ck W cw Sv cs T A7 c7 ys ([.sl rPsn A9 P,.sl rShf A8 l]))):=(((((S9b.del 20).del 19).del 17).del 16).del 15);have HS10:=Lib.hid S10;clear t0 e7 M2 S7 S8 S9a S9b S10 Hso HBk hperm hsort;go_wp2_with fail
        go_meet;exact ⟨0,A8,c8,l,qs2,ys,now,L2,c2,Pa2,cp2,A7,c7,rfl,rfl,rfl,Hix2.out,Hys.out,(by show _≤_;rw [← Hqs2.out,List.length_append,List.length_cons,List.length_take,List.length_drop];have:=Hql.out;have:=Hil.out;omega),Hsh.out,HS10.out.mono (by omega)⟩
     ·have hR2:RulIn (fun _=>False) w12 r K2 W2 V2:=⟨(S.slc 4 rfl).mono (fun _ _ h=>h.elim),(S.slc 5 rfl).mono (fun _ _ h=>h.elim),(S.slc 6 rfl).mono (fun _ _ h=>h.elim)⟩;obtain ⟨wb,_,M,back⟩:=S.viaMem;have Hrm:=Lib.hid (remove_any _ X r K2 W2 V2 L Pa ck2 cw2 cs2 c cp P qs no M hR2 Hix.out (by omega));have HB:=Lib.hid back;clear S M back hR2;go_wp2_with fail
      refine (Hrm.out).mono ?_;rintro e w13 hrem;clear Hrm;rcases hrem with ⟨hno,rfl,M2⟩ | ⟨i,q,v8,hq,hqn,rfl,hb8⟩
      ·have S13:St b (2001 + 600 * k + 1 + 500 + 1) w1 w13 (ixP X r K2 ck2 W2 cw2 V2 cs2 L c qs Pa cp P (ixT r K2 W2 V2 Yr K ck W cw Sv cs T A ca us ([.sl rPsn A9 P,.sl rId At t.ids,.sl rFld Bt t.flds,.loc U (tcCs t At ct Bt dt) 58]))):=HB.out _ _ M2;have Hpl:=Lib.hid (place_any A ca T us no w13 (S13.lv 11 rfl) ((S13.slc 12 rfl).mono (fun _ _ h=>h.elim)) (by have:=Hul.out;omega));have Hno:=Lib.hid hno;have HS:=Lib.hid S13;clear M2 S13 hno HB;go_wp2_with fail
       refine (Hpl.out).mono ?_;rintro e w14 ⟨z,rfl,hb14,hz⟩;obtain rfl:z=-1:=by
        rcases hz with ⟨h,_⟩ | ⟨j,y,_,hy,hp,_⟩
        ·exact h
        ·obtain ⟨q,hq,hqt⟩:=map_other Hus.out (List.mem_of_getElem? hy);exact absurd (by rw [hqt];simpa using hp) (Hno.out q hq)
       have HS14:=Lib.hid (HS.out.below hb14);clear hz hb14 Hpl HS;go_wp2_with fail
       go_meet;exact ⟨8,none,0,[],qs,us,P,L,c,Pa,cp,A,ca,rfl,rfl,rfl,Hix.out,Hus.out,(by show _≤_;have:=Hql.out;omega),shf_none P,by
        have S:=((HS14.out.del 17).del 16).del 15;exact (S.call (G.start S.g.s) (.sl rShf none []) Sl.nil (fun k e=>by cases e)).mono (by omega)⟩
      ·obtain ⟨L2,c2,Pa2,cp2,now,A8,c8,l,rfl,hsh,hix2,M2⟩:=hb8;obtain ⟨qs2,hqs2⟩:∃ qs2,qs.take i++qs.drop (i + 1)=qs2:=⟨_,rfl⟩;have Hqs2:=Lib.hid hqs2;rw [hqs2] at hix2 M2;have S13:St b (2001 + 600 * k + 1 + 500 + 1) w1 w13 (ixP X r K2 ck2 W2 cw2 V2 cs2 L2 c2 qs2 Pa2 cp2 now (ixT r K2 W2 V2 Yr K ck W cw Sv cs T A ca us ([.sl rPsn A9 P,.sl rId At t.ids,.sl rFld Bt t.flds,.loc U (tcCs t At ct Bt dt) 58,.sl rShf A8 l]))):=HB.out _ _ M2;have Hpl:=Lib.hid (place_any A ca T us no w13 (S13.lv 11 rfl) ((S13.slc 12 rfl).mono (fun _ _ h=>h.elim)) (by have:=Hul.out;omega));have Hq:=Lib.hid hq;have Hqn:=Lib.hid hqn;have Hsh:=Lib.hid hsh;have Hix2:Hid (IxOk r qs2 now):=hix2;have HS:=Lib.hid S13;clear M2 S13 hq hqn hsh hix2 hqs2 HB;go_wp2_with fail
       refine (Hpl.out).mono ?_;rintro e w14 ⟨z,rfl,hb14,hz⟩;obtain rfl:z=(i:Int):=place_is Hix.out.gd Hus.out Hq.out Hqn.out hz;have HS14:=Lib.hid (HS.out.below hb14);have hil:i < us.length:=by have:=lt_of_get Hq.out;have:=Hul.out;omega
       clear hz hb14 Hpl HS;have t0:=(HS14.out.lv 11 rfl).all;have hw3:IntKind.i64.wrap ((i:Int) + 1)=(i:Int) + 1:=by rw [IntKind.wrap_i64];have:=Hul.out;have:=lt_of_get Hq.out;omega
       have Hc:=Lib.hid (cloneT_any A us ca w14 ((HS14.out.slc 12 rfl).mono (fun _ _ h=>h.elim)) (by have:=Hul.out;omega));go_wp2_with fail
       refine (Hc.out).mono ?_;rintro e w15 ⟨A3,c3,rfl,T3⟩;obtain ⟨g,cap,e,hcap⟩:=(T3.ow 0 rfl).form (by omega);simp only [Value.slice.injEq] at e;obtain ⟨e1,e2,e3⟩:=e;subst e1;clear e2 e3 hcap t0 Hc;have Hd:=Lib.hid (delTq_any i T3 rfl hil (by have:=Hul.out;omega));clear T3;go_wp2_with fail
       refine (Hd.out).mono ?_;rintro e w16 ⟨rfl,T4⟩;obtain ⟨us2,hus2⟩:∃ us2,us.take i++us.drop (i + 1)=us2:=⟨_,rfl⟩;have Husub:Hid (∀ y∈us2,y∈us):=fun y hy=>by
        rw [← hus2] at hy;rcases List.mem_append.1 hy with hy | hy
        ·exact List.mem_of_mem_take hy
        ·exact List.mem_of_mem_drop hy
       have Hus2:Hid (us2.map TQ.t=qs2.map TQ.t):=by
        show _=_;rw [← hus2,← Hqs2.out,List.map_append,List.map_append,List.map_take,List.map_take,List.map_drop,List.map_drop,Hus.out]
       rw [hus2] at T4;obtain ⟨A5,c5,e5,T5⟩:=T4.frz 0 rfl;simp only [Value.slice.injEq] at e5;obtain ⟨e6,e7,e8⟩:=e5;subst e6 e8;obtain ⟨wb,_,M,back⟩:=HS14.out.viaMem;have S16:St b (2001 + 600 * k + 1 + 500 + 1) w1 w16 (ixP X r K2 ck2 W2 cw2 V2 cs2 L2 c2 qs2 Pa2 cp2 now (ixT r K2 W2 V2 Yr K ck W cw Sv cs T A ca us ([.sl rPsn A9 P,.sl rId At t.ids,.sl rFld Bt t.flds,.loc U (tcCs t At ct Bt dt) 58,.sl rShf A8 l,.sl rTQ (some ⟨g,0,none⟩) us2]))):=back _ _ (M.join T5);have t0:=(S16.lv 11 rfl).all;have S17a:=S16.turn 13 rfl (.tdat us2) rfl (fun y hy=>(S16.ok (.tdat us) (List.mem_of_getElem? (i:=13) rfl)) y (Husub.out y hy));have S17:=S17a.turn 12 rfl (.sl rTQ (some ⟨g,0,none⟩) us2) rfl (S17a.slc 19 rfl);have S18:St b (2001 + 600 * k + 1 + 500 + 1) w1 _ (ixP X r K2 ck2 W2 cw2 V2 cs2 L2 c2 qs2 Pa2 cp2 now (ixT r K2 W2 V2 Yr K ck W cw Sv cs T (some ⟨g,0,none⟩) c3 us2 ([.sl rPsn A9 P,.sl rShf A8 l]))):=((((S17.del 19).del 17).del 16).del 15).set 11 0 (.slice (some ⟨g,0,none⟩) us2.length c3) rfl;have HS18:=Lib.hid S18;rw [hus2];clear hus2 e7 T4 T5 M back S16 S17 S17a S18 Hd HS14;go_wp2_with fail
       go_meet;exact ⟨0,A8,c8,l,qs2,us2,now,L2,c2,Pa2,cp2,some ⟨g,0,none⟩,c3,rfl,rfl,rfl,Hix2.out,Hus2.out,(by show _≤_;rw [← Hqs2.out,List.length_append,List.length_take,List.length_drop];have:=Hql.out;have:=lt_of_get Hq.out;omega),Hsh.out,HS18.out.mono (by omega)⟩
    case rest =>
     clear S;obtain ⟨F,A8,c8,l,qs2,us2,P2,L2,c2,Pa2,cp2,Au,cu,rfl,rfl,rfl,Hix2,Hus2,Hql2,Hsh,S⟩:=hcut;generalize wc=w20 at *;have Hul2:Hid (us2.length=qs2.length):=by have:=congrArg List.length Hus2.out;show _=_;simpa using this
     have hqU:=(S.slc 12 rfl).mono (M:=fun _=>False) (fun _ _ h=>h.elim);have hdU:TdOk (fun _=>False) w20 us2:=fun q h=>by
      have:=(S.ok (.tdat us2) (List.mem_of_getElem? (i:=13) rfl)) q h
      exact ⟨this.1.mono (fun _ _ h=>h.elim),this.2.mono (fun _ _ h=>h.elim)⟩
     have hpo:=refPersons_any (fun _=>False) r K W Sv Au ck cw cs cu (us2.map TQ.t) w20 ⟨(S.slc 8 rfl).mono (fun _ _ h=>h.elim),(S.slc 9 rfl).mono (fun _ _ h=>h.elim),(S.slc 10 rfl).mono (fun _ _ h=>h.elim)⟩ (slTch hqU hdU) (by rw [Hus2.out];exact Hix2.out.gd.rt Hr.out Hrz.out (by rw [List.length_map];have:=Hql2.out;omega));rw [List.length_map] at hpo;have Hpo:=Lib.hid hpo;have y0:=(S.lv 7 rfl).all;have t0:=(S.lv 11 rfl).all;clear hpo hqU hdU;go_wp2_with fail
     refine (Hpo.out).mono ?_;rintro e w21 ⟨A10,c10,P10,rfl,hp10,T10⟩;rw [Hus2.out] at hp10;obtain rfl:P2=P10:=Hix2.out.pp.uniq hp10;obtain ⟨wb,_,M,back⟩:=S.viaMem;have S21:St b (2601 + 600 * k) w1 w21 (ixP X r K2 ck2 W2 cw2 V2 cs2 L2 c2 qs2 Pa2 cp2 P2 (ixT r K2 W2 V2 Yr K ck W cw Sv cs T Au cu us2 ([.sl rPsn A9 P,.sl rShf A8 l,.sl rPsn A10 P2]))):=back _ _ (M.join T10);have Hdf:=Lib.hid (refDiffer_any P P2 A9 A10 c9 c10 w21 ((S21.slc 14 rfl).mono (fun _ _ h=>h.elim)) ((S21.slc 16 rfl).mono (fun _ _ h=>h.elim)) Hix.out.pt.sm Hix2.out.pt.sm (Nat.le_trans Hix.out.pt.1 (by decide)) (Nat.le_trans Hix2.out.pt.1 (by decide)) (HTW.out _ _ S21.g).2);have HS21:=Lib.hid S21;clear y0 t0 hp10 back M T10 S S21 Hpo;go_wp2_with fail
     refine (Hdf.out).mono ?_;rintro e w22 ⟨A11,c11,l2,rfl,hz,hn,T11⟩;have hd0:difF P P2=0:=by rw [← difF_first,psns_zero Hix.out.pp Hix.out.gd,psns_zero Hix2.out.pp Hix2.out.gd];rfl
     have Hll:=Lib.hid (shf_len Hix.out.pt Hix2.out.pt hz hn);obtain rfl:l=l2:=Hsh.out.uniq (hn hd0);obtain ⟨wb,_,M,back⟩:=HS21.out.viaMem;have S22:St b (2601 + 600 * k) w1 w22 (ixP X r K2 ck2 W2 cw2 V2 cs2 L2 c2 qs2 Pa2 cp2 P2 (ixT r K2 W2 V2 Yr K ck W cw Sv cs T Au cu us2 ([.sl rPsn A9 P,.sl rShf A8 l,.sl rPsn A10 P2,.sl rShf A11 l]))):=back _ _ (M.join T11);have Heq:=Lib.hid (eqShf_any (fun _=>False) A8 A11 l c8 c11 w22 ((S22.slc 15 rfl).mono (fun _ _ h=>h.elim)) ((S22.slc 17 rfl).mono (fun _ _ h=>h.elim)) (Nat.le_trans Hll.out (by decide)));have HS22:=Lib.hid S22;clear hz hn hd0 M back T11 S22 HS21 Hdf;generalize difF P P2=Fd at *;go_wp2_with fail
     refine (Heq.out).mono ?_;rintro e w23 ⟨rfl,hl23⟩;have HS23:Hid (St b (2601 + 600 * k) w1 w23 (ixP X r K2 ck2 W2 cw2 V2 cs2 L2 c2 qs2 Pa2 cp2 P2 (ixT r K2 W2 V2 Yr K ck W cw Sv cs T Au cu us2 ([])))):=((((HS22.out.below hl23).del 17).del 16).del 15).del 14;clear hl23 Heq HS22;go_wp2_with fail
     go_roundw
     case rel=>exact ⟨k + 1,qs2,us2,P2,L2,c2,Pa2,cp2,Au,cu,by omega,by go_num,Hix2.out,Hus2.out,Hql2.out,HS23.out.mono (by omega)⟩
     case measure=>simp [intOf];omega
   ·obtain rfl:k=n:=by omega
    have hkl:qs.length≤12:=by have:=Hql.out;omega
    have Hul:Hid (us.length=qs.length):=by have:=congrArg List.length Hus.out;show _=_;simpa using this
    have Hrt:Hid (RtOk r (qs.map TQ.t)):=Hix.out.gd.rt Hr.out Hrz.out (by rw [List.length_map];omega);have Hps:Hid (∀ p∈P,(p.tch.length≤1000∧p.ids.length≤1000)∧RiseI p.ids):=psns_fit Hix.out.pp Hrt.out (by rw [List.length_map];omega) Hix.out.pt;have hpl:P.length≤20:=Hix.out.pt.1;go_wp2_with fail
    refine (HI.out _ _ S.g (by omega)).mono ?_;rintro e w8 ⟨xk,xt,hxt,rfl,hk8,hs8⟩;have S8:=S.step hk8 hs8;obtain ⟨x,rfl,rfl⟩:∃ x:IdV,x.k=xk∧x.t=xt:=⟨⟨xk,xt⟩,rfl,rfl⟩;obtain ⟨V,hV⟩:∃ V,V=w8.heap.size:=⟨_,rfl⟩;have S9:St b (2001 + 600 * k + 10) w1 _ (ixP X r K2 ck2 W2 cw2 V2 cs2 L c qs Pa cp P (ixT r K2 W2 V2 Yr K ck W cw Sv cs T A ca us ([.loc V #[.int .i64 x.k,.string x.t] 46]))):=S8.newAt #[.int .i64 x.k,.string x.t] 46 V hV;have Hxl:Hid (x.t.size≤1000000):=by show _≤_;omega
    clear S S8 hk8 hs8 hxt;go_upto_region 36 with fail
    rw [← hV];clear hV;generalize w8.alloc (.cells #[.int .i64 x.k,.string x.t] 46)=w9 at *;have Hpe:=Lib.hid (person_any9 r K2 W2 V2 L Pa ck2 cw2 cs2 qs.length c cp X P x w9 (S9.lv 0 rfl) ((S9.slc 3 rfl).mono (fun _ _ h=>h.elim)) (by omega) Hps.out);have v0:=(S9.lv 14 rfl).all;have HS9:=Lib.hid S9;clear S9;go_wp2_with fail
    refine (Hpe.out).mono ?_;rintro e w10 ⟨p,Ap,ap,Bp,bp,rfl,hp,T10⟩;obtain ⟨ok,hok⟩:∃ ok,(ofP P x).isSome=ok:=⟨_,rfl⟩;rw [hok];have Hok:=Lib.hid hok;have Hp:=Lib.hid hp;obtain ⟨wb,_,M,back⟩:=HS9.out.viaMem;have S10:St b (2001 + 600 * k + 10) w1 w10 (ixP X r K2 ck2 W2 cw2 V2 cs2 L c qs Pa cp P (ixT r K2 W2 V2 Yr K ck W cw Sv cs T A ca us ([.loc V #[.int .i64 x.k,.string x.t] 46,.sl rInt Ap p.tch,.sl rId Bp p.ids]))):=back _ _ (M.join T10);obtain ⟨Z,hZ⟩:∃ Z,Z=w10.heap.size:=⟨_,rfl⟩;have S11:St b (2001 + 600 * k + 10) w1 _ (ixP X r K2 ck2 W2 cw2 V2 cs2 L c qs Pa cp P (ixT r K2 W2 V2 Yr K ck W cw Sv cs T A ca us ([.loc V #[.int .i64 x.k,.string x.t] 46,.sl rInt Ap p.tch,.sl rId Bp p.ids,.loc Z (psCs p Ap ap Bp bp) 80]))):=S10.newAt (psCs p Ap ap Bp bp) 80 Z hZ;clear hok hp M back T10 S10 HS9 Hpe v0;go_upto_region 37 with fail
    rw [← hZ];clear hZ;generalize w10.alloc (.cells (psCs p Ap ap Bp bp) 80)=w11 at *;have hqU:=(S11.slc 12 rfl).mono (M:=fun _=>False) (fun _ _ h=>h.elim);have hdU:TdOk (fun _=>False) w11 us:=fun q h=>by
     have:=(S11.ok (.tdat us) (List.mem_of_getElem? (i:=13) rfl)) q h
     exact ⟨this.1.mono (fun _ _ h=>h.elim),this.2.mono (fun _ _ h=>h.elim)⟩
    have hpo:=refPersons_any (fun _=>False) r K W Sv A ck cw cs ca (us.map TQ.t) w11 ⟨(S11.slc 8 rfl).mono (fun _ _ h=>h.elim),(S11.slc 9 rfl).mono (fun _ _ h=>h.elim),(S11.slc 10 rfl).mono (fun _ _ h=>h.elim)⟩ (slTch hqU hdU) (by rw [Hus.out];exact Hrt.out);rw [List.length_map] at hpo;have Hpo:=Lib.hid hpo;have y0:=(S11.lv 7 rfl).all;have t0:=(S11.lv 11 rfl).all;have HS11:=Lib.hid S11;clear hpo hqU hdU S11;go_wp2_with fail
    refine (Hpo.out).mono ?_;rintro e w12 ⟨A12,c12,P12,rfl,hp12,T12⟩;rw [Hus.out] at hp12;obtain rfl:P=P12:=Hix.out.pp.uniq hp12;obtain ⟨wb,_,M,back⟩:=HS11.out.viaMem;have S12:St b (2001 + 600 * k + 10) w1 w12 (ixP X r K2 ck2 W2 cw2 V2 cs2 L c qs Pa cp P (ixT r K2 W2 V2 Yr K ck W cw Sv cs T A ca us ([.loc V #[.int .i64 x.k,.string x.t] 46,.sl rInt Ap p.tch,.sl rId Bp p.ids,.loc Z (psCs p Ap ap Bp bp) 80,.sl rPsn A12 P]))):=back _ _ (M.join T12);obtain ⟨ps,hps,hsq,hpd⟩:=psq_of ((S12.slc 18 rfl).mono (M:=fun _=>False) (fun _ _ h=>h.elim));have hpsl:ps.length=P.length:=by rw [← hps,List.length_map]
    have hTM:=HTW.out _ _ S12.g;have hif:=idxFP_any 36 #[.pointer (some ⟨V,0,none⟩)] (enters_of Tryz.func36 (by kernel_rfl) rfl) (hasR x) (fun _=>False) A12 c12 ps w12 hsq (by omega) (fun y hy w' h=>hasId_any9 y V x w' ((h.block V (S12.lv 14 rfl).lt).trans (S12.lv 14 rfl)) ((hpd y hy).2.keepB h) (Nat.le_trans (Hps.out y.p (by rw [← hps];exact List.mem_map_of_mem hy)).1.2 (by decide)) Hxl.out (hTM.2.below h));rw [hpsl] at hif;have Hif:=Lib.hid hif;have HS12:=Lib.hid S12;have Hpsm:=Lib.hid hps;have Hsq:=Lib.hid hsq;have Hpd:Hid (PdOk (fun _=>False) w12 ps):=hpd;clear y0 t0 hp12 M back T12 S12 HS11 Hpo hif hps hsq hpd hpsl hTM;go_wp2_with fail
    refine (Hif.out).mono ?_;rintro e w13 ⟨z,rfl,hb13,hz⟩;have Hlaw:=Lib.hid (find_law Hpsm.out (ids_right Hix.out.pp Hix.out.gd.1) hz);have S13:=HS12.out.below hb13;have Hsq13:=Lib.hid (Hsq.out.keepB hb13);have Hpd13:Hid (PdOk (fun _=>False) w13 ps):=fun q h=>⟨(Hpd.out q h).1.keepB hb13,(Hpd.out q h).2.keepB hb13⟩;have HS13:=Lib.hid S13;clear hz hb13 Hif HS12 Hsq Hpd S13;go_upto_region 39 with fail
    have HZ:Hid (∀ w',Below w13.heap.size w13 w'→LV w' Z (psCs p Ap ap Bp bp) 80):=fun w' h=>(h.block Z (HS13.out.lv 17 rfl).lt).trans (HS13.out.lv 17 rfl);have HpA:=Lib.hid (fun w' (h:Below w13.heap.size w13 w')=>((HS13.out.slc 15 rfl).mono (M:=fun _=>False) (fun _ _ h=>h.elim)).keepB h);have HpB:=Lib.hid (fun w' (h:Below w13.heap.size w13 w')=>((HS13.out.slc 16 rfl).mono (M:=fun _=>False) (fun _ _ h=>h.elim)).keepB h);go_cut [169] (fun s169 wx=>s169=.bool false∧Below w13.heap.size w13 wx)
    case first =>
     rcases Hlaw.out with ⟨hz,hof⟩ | ⟨j,q,hz,hq,hof⟩
     ·subst hz;obtain rfl:ok=false:=by rw [← Hok.out,hof];rfl
      have hpp:p=psn0:=by rw [Hp.out,hof];rfl
      have Hsp:Hid (∀ w',Below w13.heap.size w13 w'→Calls Tryz.prog 39 #[.agg (psCs p Ap ap Bp bp),.agg pzCs] w' fun e w''=>e=.returned (.bool true)∧Below w'.heap.size w' w''):=fun w' h=>by
       rw [hpp];exact samePerson_any (fun _=>False) psn0 Ap none ap 0 Bp none bp 0 w' Sl.nil Sl.nil Sl.nil Sl.nil (by simp) (by simp)
      clear hof hpp Hlaw;refine wp_region_mix (fun wx=>Below w13.heap.size w13 wx) [(true,0),(true,1),(true,2),(true,3),(true,4),(true,5),(true,6),(true,7),(true,8),(true,9),(true,10),(true,11),(false,12),(true,13),(true,14),(true,15),(true,16),(true,17),(true,18),(true,19),(true,20),(true,21),(false,22),(true,23),(true,24),(true,25)] (by kernel_rfl) (by kernel_rfl) (fun w' hd=>hd.below _) (fun KK hKK wd hd=>?_);have hC:=hd.below w13.heap.size;refine mpR ?_;refine mix_l rfl (fun K9 hK9=>?_) hC;go_wp2_with fail
      refine ⟨hC,?_⟩;refine mpR ?_;refine mix_loadH (.agg (psCs p Ap ap Bp bp)) rfl rfl rfl (fun w' h=>loadAtP4 ((HZ.out w' h).cell 0 _ rfl) ((HZ.out w' h).cell 1 _ rfl) ((HZ.out w' h).cell 2 _ rfl) ((HZ.out w' h).cell 3 _ rfl)) ?_;refine mpR ?_;refine mix_l rfl (fun K9 hK9=>?_) hC;go_wp2_with fail
      refine (Hsp.out wd hC).mono ?_;rintro e w14 ⟨rfl,hl14⟩;have hC2:=hC.trans (hl14.mono hC.size);clear hl14 Hsp;go_wp2_with fail
      refine ⟨hC2,?_⟩;refine mpR ?_;refine mix_nil ?_;simp only [Exit.then];refine hKK _ _ ?_;clear hKK KK;go_wp2_with fail
      go_meet;exact ⟨rfl,hC2⟩
     ·obtain rfl:ok=true:=by rw [← Hok.out,hof];rfl
      have hpp:p=q.p:=by rw [Hp.out,hof];rfl
      have hqm:=List.mem_of_getElem? hq;have hjl:j < P.length:=by have:=lt_of_get hq;rw [← Hpsm.out,List.length_map];exact this
      subst hz;obtain ⟨ab,ao,rfl,habl,d0,d1,d2,d3⟩:=Hsq13.out.psq j q hq;have hsz:=Hps.out q.p (by rw [← Hpsm.out];exact List.mem_map_of_mem hqm);have Hsp:Hid (∀ w',Below w13.heap.size w13 w'→Calls Tryz.prog 39 #[.agg (psCs p Ap ap Bp bp),.agg (psCs q.p q.A q.a q.B q.b)] w' fun e w''=>e=.returned (.bool true)∧Below w'.heap.size w' w''):=fun w' h=>by
       have h1:=HpA.out w' h;have h2:=HpB.out w' h;rw [hpp] at h1 h2 ⊢;exact samePerson_any (fun _=>False) q.p Ap q.A ap q.a Bp q.B bp q.b w' h1 ((Hpd13.out q hqm).1.keepB h) h2 ((Hpd13.out q hqm).2.keepB h) (Nat.le_trans hsz.1.1 (by decide)) (Nat.le_trans hsz.1.2 (by decide))
      have Hel:Hid (∀ w',Below w13.heap.size w13 w'→(Instr.loadAt 80 (.pointer (some ⟨ab,ao + j * 4,none⟩))).run Tryz.prog w'=.ok (.agg (psCs q.p q.A q.a q.B q.b)) w'):=fun w' h=>loadAtP4 ((h.cell (p:=⟨ab,ao + j * 4,none⟩) habl).trans d0) ((h.cell (p:=⟨ab,ao + j * 4 + 1,none⟩) habl).trans d1) ((h.cell (p:=⟨ab,ao + j * 4 + 2,none⟩) habl).trans d2) ((h.cell (p:=⟨ab,ao + j * 4 + 3,none⟩) habl).trans d3);clear hof hpp Hlaw hqm hsz d0 d1 d2 d3 hq habl;refine wp_region_mix (fun wx=>Below w13.heap.size w13 wx) [(true,0),(true,1),(true,2),(true,3),(true,4),(true,5),(true,6),(true,7),(true,8),(true,9),(true,10),(true,11),(false,12),(true,13),(true,14),(true,15),(true,16),(true,17),(true,18),(true,19),(true,20),(true,21),(false,22),(true,23),(true,24),(true,25)] (by kernel_rfl) (by kernel_rfl) (fun w' hd=>hd.below _) (fun KK hKK wd hd=>?_);have hC:=hd.below w13.heap.size;refine mpR ?_;refine mix_loadH (.agg (psCs p Ap ap Bp bp)) rfl rfl rfl (fun w' h=>loadAtP4 ((HZ.out w' h).cell 0 _ rfl) ((HZ.out w' h).cell 1 _ rfl) ((HZ.out w' h).cell 2 _ rfl) ((HZ.out w' h).cell 3 _ rfl)) ?_;refine mpR ?_;refine mix_loadH (.agg (psCs q.p q.A q.a q.B q.b)) rfl rfl rfl (fun w' h=>Hel.out w' h) ?_;refine mix_l rfl (fun K9 hK9=>?_) hC;go_wp2_with fail
      refine (Hsp.out wd hC).mono ?_;rintro e w14 ⟨rfl,hl14⟩;have hC2:=hC.trans (hl14.mono hC.size);clear hl14 Hsp;go_wp2_with fail
      refine ⟨hC2,?_⟩;refine mpR ?_;refine mix_l rfl (fun K9 hK9=>?_) hC2;go_wp2_with fail
      refine ⟨hC2,?_⟩;refine mpR ?_;refine mix_nil ?_;simp only [Exit.then];refine hKK _ _ ?_;clear hKK KK;go_wp2_with fail
      go_meet;exact ⟨rfl,hC2⟩
    case rest =>
     obtain ⟨rfl,hbc⟩:=hcut;generalize wc=w14 at *;go_upto_region 41 with fail
     have HX:=Lib.hid (fun w' (h:Below w13.heap.size w13 w')=>(h.block X (HS13.out.lv 0 rfl).lt).trans (HS13.out.lv 0 rfl));have HTl:Hid (∀ w',Below w13.heap.size w13 w'→LV w' T #[.slice A us.length ca] 30):=fun w' h=>(h.block T (HS13.out.lv 11 rfl).lt).trans (HS13.out.lv 11 rfl);have hq13:=(HS13.out.slc 1 rfl).mono (M:=fun _=>False) (fun _ _ h=>h.elim);have hd13:TdOk (fun _=>False) w13 qs:=fun q h=>by
      have:=(HS13.out.ok (.tdat qs) (List.mem_of_getElem? (i:=2) rfl)) q h
      exact ⟨this.1.mono (fun _ _ h=>h.elim),this.2.mono (fun _ _ h=>h.elim)⟩
     have hu13:=(HS13.out.slc 12 rfl).mono (M:=fun _=>False) (fun _ _ h=>h.elim);have hdu13:TdOk (fun _=>False) w13 us:=fun q h=>by
      have:=(HS13.out.ok (.tdat us) (List.mem_of_getElem? (i:=13) rfl)) q h
      exact ⟨this.1.mono (fun _ _ h=>h.elim),this.2.mono (fun _ _ h=>h.elim)⟩
     have hut:=slTch hu13 hdu13;rw [Hus.out] at hut;have Hut:=Lib.hid (fun w' (h:Below w13.heap.size w13 w')=>hut.keepB h);have Hto:=Lib.hid (fun w' (h:Below w13.heap.size w13 w')=>touches_any9 (ixCs r K2 ck2 W2 cw2 V2 cs2 L qs.length c Pa P.length cp) X L c qs w' (HX.out w' h) rfl (hq13.keepB h) (fun q hq=>⟨(hd13 q hq).1.keepB h,(hd13 q hq).2.keepB h⟩) (by omega) (fun q hq=>⟨Nat.le_trans (Hix.out.sm q hq).il (by decide),Nat.le_trans (Hix.out.sm q hq).fl (by decide)⟩));have Het:Hid (∀ w' A1 c1,Below w13.heap.size w13 w'→Sl rTch (fun _=>False) w' A1 (qs.map TQ.t)→Calls Tryz.prog 40 #[.slice A1 qs.length c1,.slice A us.length ca,.func (.func 42) #[] #[]] w' fun e w''=>e=.returned (.bool true)∧Below w'.heap.size w' w''):=fun w' A1 c1 h hs=>by
      have h1:=eqTouches_any (fun _=>False) (qs.map TQ.t) A1 A c1 ca w' hs (Hut.out w' h) (by rw [List.length_map];omega) (fun t ht=>by
       obtain ⟨q,hq,rfl⟩:=List.mem_map.1 ht;exact ⟨Nat.le_trans (Hix.out.sm q hq).il (by decide),Nat.le_trans (Hix.out.sm q hq).fl (by decide)⟩)
      rw [List.length_map] at h1;rw [Hul.out];exact h1
     obtain ⟨ps2,hps2,hsq2,hpd2⟩:=psq_of ((HS13.out.slc 3 rfl).mono (M:=fun _=>False) (fun _ _ h=>h.elim));have hpsl2:ps2.length=P.length:=by rw [← hps2,List.length_map]
     have Hpr:Hid (∀ w',Below w13.heap.size w13 w'→Calls Tryz.prog 44 #[.pointer (some ⟨X,0,none⟩)] w' fun e w''=>∃ A c',e=.returned (.slice A P.length c')∧Mem w' w'' [.sl rPsn A P]):=fun w' h=>by
      have h1:=persons_any9 (ixCs r K2 ck2 W2 cw2 V2 cs2 L qs.length c Pa P.length cp) X Pa cp ps2 w' (HX.out w' h) (by rw [hpsl2];rfl) (hsq2.keepB h) (fun q hq=>⟨(hpd2 q hq).1.keepB h,(hpd2 q hq).2.keepB h⟩) (by omega) (fun q hq=>(Hps.out q.p (by rw [← hps2];exact List.mem_map_of_mem hq)).1);rw [hps2,hpsl2] at h1;exact h1
     have Hal:=Lib.hid (fun w' (h:Below w13.heap.size w13 w')=>((HS13.out.slc 18 rfl).mono (M:=fun _=>False) (fun _ _ h=>h.elim)).keepB h);have Hep:Hid (∀ w' A1 c1,Below w13.heap.size w13 w'→Sl rPsn (fun _=>False) w' A1 P→Calls Tryz.prog 43 #[.slice A1 P.length c1,.slice A12 P.length c12,.func (.func 39) #[] #[]] w' fun e w''=>e=.returned (.bool true)∧Below w'.heap.size w' w''):=fun w' A1 c1 h hs =>
      eqPersons_any (fun _=>False) P A1 A12 c1 c12 w' hs (Hal.out w' h) (by omega) (fun p hp=>⟨Nat.le_trans (Hps.out p hp).1.1 (by decide),Nat.le_trans (Hps.out p hp).1.2 (by decide)⟩)
     have hbw:=HTS.out _ _ HS13.out.g;have Hbw13:=Lib.hid hbw;have Hpp:=Lib.hid (fun w' (h:Below w13.heap.size w13 w')=>people_any w' (HTW.out _ _ (HS13.out.below h).g).1);clear hq13 hd13 hu13 hdu13 hut hps2 hsq2 hpd2 hpsl2 hbw HS13 HTW HTS HI HC Hlaw HpA HpB HZ Hpd13 Hsq13;refine wp_region_mix (fun wx=>Below w13.heap.size w13 wx) [(true,0),(true,2),(false,1),(false,3),(true,4),(true,5),(true,7),(false,6),(false,8),(true,9),(true,10),(false,11),(true,12),(true,13)] (by kernel_rfl) (by kernel_rfl) (fun w' hd=>hbc.trans (hd.below _)) (fun KK hKK wd hd=>?_);have hC:=hbc.trans (hd.below w13.heap.size);clear hd hbc;refine mpR ?_;refine mix_loadR (.slice A us.length ca) rfl rfl rfl rfl (fun w' h=>loadC rfl ((HTl.out w' h).cell 0 _ rfl)) ?_;refine mix_l rfl (fun K9 hK9=>?_) hC;go_wp2_with fail
     refine (Hto.out wd hC).mono ?_;rintro e w15 ⟨A15,c15,rfl,T15⟩;have hC2:=hC.trans (T15.b.mono hC.size);have Hs15:=Lib.hid ((T15.slc 0 rfl).mono (M:=fun _=>False) (fun _ _ h=>h.elim));clear T15 Hto;go_wp2_with fail
     refine ⟨hC2,?_⟩;refine mix_l rfl (fun K9 hK9=>?_) hC2;go_wp2_with fail
     refine (Het.out w15 A15 c15 hC2 Hs15.out).mono ?_;rintro e w16 ⟨rfl,hl16⟩;have hC3:=hC2.trans (hl16.mono hC2.size);clear hl16 Het Hs15;go_wp2_with fail
     refine ⟨hC3,?_⟩;refine mpR ?_;refine mix_l rfl (fun K9 hK9=>?_) hC3;go_wp2_with fail
     refine (Hpr.out w16 hC3).mono ?_;rintro e w17 ⟨A17,c17,rfl,T17⟩;have hC4:=hC3.trans (T17.b.mono hC3.size);have Hs17:=Lib.hid ((T17.slc 0 rfl).mono (M:=fun _=>False) (fun _ _ h=>h.elim));clear T17 Hpr;go_wp2_with fail
     refine ⟨hC4,?_⟩;refine mix_l rfl (fun K9 hK9=>?_) hC4;go_wp2_with fail
     refine (Hep.out w17 A17 c17 hC4 Hs17.out).mono ?_;rintro e w18 ⟨rfl,hl18⟩;have hC5:=hC4.trans (hl18.mono hC4.size);clear hl18 Hep Hs17;go_wp2_with fail
     refine ⟨hC5,?_⟩;refine mpR ?_;refine mix_l rfl (fun K9 hK9=>?_) hC5;go_wp2_with fail
     refine (Hpp.out w18 hC5).mono ?_;rintro e w19 ⟨rfl,hl19⟩;have hC6:=hC5.trans (hl19.mono hC5.size);clear hl19 Hpp;go_wp2_with fail
     refine ⟨hC6,?_⟩;refine mpR ?_;refine mix_nil ?_;simp only [Exit.then];refine hKK _ _ ?_;clear hKK KK;go_wp2_with fail
     go_ret;refine ⟨rfl,?_⟩;have hfin:=Hbw13.out.2.trans (hC6.mono Hbw13.out.1);rw [show b=w.heap.size from Hbw.out] at hfin;exact hfin
end Go.Proofs.YtmkkppknaikjjaaGreatDoor
