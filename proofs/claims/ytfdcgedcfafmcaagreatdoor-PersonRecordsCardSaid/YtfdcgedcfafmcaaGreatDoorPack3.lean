/- Several texts in one: RTop, SrcT, RSrc, RecLaw. -/
import Derived.Test.YtfdcgedcfafmcaaGreatDoorPack2
import Derived.Test.YtfdcgedcfafmcaaGreatDoorPackO
import Derived.Test.YtfdcgedcfafmcaaGreatDoorPack1
import Derived.Test.YtfdcgedcfafmcaaGreatDoorPackV
/- handref2.RecordOf and handref2.SourcesOf. -/
namespace Go.Proofs.YtfdcgedcfafmcaaGreatDoor
section
open Go Go.RowKit
theorem flatMap_filt {α β:Type}(f:α→Bool)(h:α→List β):∀ l:List α,(l.filter f).flatMap h=l.flatMap (fun i=>if f i=true then h i else [])
 | []=>rfl
 | a::r=>by
  rw [List.filter_cons,List.flatMap_cons,← flatMap_filt f h r];split
  ·rw [List.flatMap_cons]
  ·rfl
theorem flatMap_at {α β:Type}(g:α→List β)(ts:List α):∀ k,k≤ts.length→(ts.take k).flatMap g=(List.range k).flatMap (fun i=>(ts[i]?.map g).getD [])
 | 0,_=>by simp
 | k + 1,h=>by
  obtain ⟨t,ht⟩:∃ t,ts[k]? =some t:=⟨_,List.getElem?_eq_getElem (by omega)⟩;rw [take_snoc ht,List.flatMap_append,flatMap_at g ts k (by omega),List.range_succ,List.flatMap_append,List.flatMap_singleton,List.flatMap_singleton,ht];rfl
theorem flatMap_same {α β:Type}{f g:α→List β}:∀ {l:List α},(∀ x∈l,f x=g x)→l.flatMap f=l.flatMap g
 | [],_=>rfl
 | a::r,h=>by
  rw [List.flatMap_cons,List.flatMap_cons,h a (List.mem_cons_self ..),flatMap_same (fun x hx=>h x (List.mem_cons_of_mem _ hx))]
theorem tellR_is {ts:List Tch}(hu:NoUp ts)(cc:Nat→Nat)(hd:Nat):tellR ts ((partAt cc ts.length hd).map (noAt ts))=tellC ts (partAt cc ts.length hd):=by
 have h1:=flatMap_at (tellF ((partAt cc ts.length hd).map (noAt ts))) ts ts.length (Nat.le_refl _);rw [List.take_length] at h1;show ts.flatMap _=(partAt cc ts.length hd).flatMap _;rw [h1]
 conv=>rhs;rw [show partAt cc ts.length hd=(List.range ts.length).filter (fun k=>cc k==hd) from rfl]
 rw [flatMap_filt];refine flatMap_same (fun i hi=>?_);have hil:=List.mem_range.1 hi;obtain ⟨t,ht⟩:∃ t,ts[i]? =some t:=⟨_,List.getElem?_eq_getElem hil⟩;rw [ht];show tellF _ t=if _ then tellT t else [];unfold tellF;have hno:noAt ts i=t.no:=by unfold noAt;rw [ht]
 have e:((partAt cc ts.length hd).map (noAt ts)).contains t.no=true ↔ (cc i==hd)=true:=by
  rw [List.contains_iff_mem,List.mem_map];constructor
  ·rintro ⟨j,hj,hjn⟩;obtain ⟨h2,h3⟩:=List.mem_filter.1 hj;have h4:j=i:=hu.inj (List.mem_range.1 h2) hil (by rw [hjn,hno]);subst h4;exact h3
  ·intro h;exact ⟨i,List.mem_filter.2 ⟨hi,h⟩,hno⟩
 by_cases h:(cc i==hd)=true
 ·rw [if_pos (e.2 h),if_pos h]
 ·rw [if_neg (fun h2=>h (e.1 h2)),if_neg h]
def GivesRecOf (r:Rul)(ts:List Tch)(x:IdV)(w:World)(e:Ending)(w':World):Prop :=
 ∃ (A:Option Addr) (c:Nat) (l:List Fld) (F:Int),e=.returned (.tuple #[.slice A l.length c,.int .i64 F])∧(∃ o,OwnAt r ts x o∧RecOf (svR r) ts o F l)∧Mem w w' [.sl rFld A l]
def GivesSrcOf (r:Rul)(ts:List Tch)(x:IdV)(nm:ByteArray)(w:World)(e:Ending)(w':World):Prop :=
 ∃ (A:Option Addr) (c:Nat) (l:List Int) (F:Int),e=.returned (.tuple #[.slice A l.length c,.int .i64 F])∧(∃ o,OwnAt r ts x o∧SrcOf (svR r) ts nm o F l)∧Mem w w' [.sl rInt A l]
set_option maxHeartbeats 8000000 in
set_option maxRecDepth 100000 in
theorem refRecordOf_any (r:Rul)(K W S A:Option Addr)(ck cw cs c:Nat)(ts:List Tch)(x:IdV)(w:World)(hR:RulIn (fun _=>False) w r K W S)(hT:Sl rTch (fun _=>False) w A ts)(ho:RtOk r ts)(hu:NoUp ts)(hq:QOk ts)(hsl:r.surv.length≤30)(hss:∀ s∈r.surv,s.srcs.length≤1000000)(hts:ts.length≤100)(hU:Tabs w) :
  Calls Tryz.prog 18 #[.agg (ruCs r K ck W cw S cs),.slice A ts.length c,.agg #[.int .i64 x.k,.string x.t]] w (GivesRecOf r ts x w):=by
 obtain ⟨Y,hY⟩:∃ Y,Y=w.heap.size:=⟨_,rfl⟩;have T0:=(Mem.start w).newAt (ruCs r K ck W cw S cs) 29 Y hY;have T:Mem w _ [.loc Y (ruCs r K ck W cw S cs) 29,.loc (Y + 1) #[.int .i64 x.k,.string x.t] 41]:=T0.newAt #[.int .i64 x.k,.string x.t] 41 (Y + 1) (by rw [hY,World.size_alloc]);have HR:=Lib.hid (fun w' (h:Below w.heap.size w w')=>hR.keepB h);have HT:=Lib.hid (fun w' (h:Below w.heap.size w w')=>hT.keepB h);have HU:=Lib.hid (fun w' (h:Below w.heap.size w w')=>Utf8Tabs_below hU h);have Ho:=Lib.hid ho;have Hu:=Lib.hid hu;have Hq:=Lib.hid hq;have Hss:=Lib.hid hss;clear T0 hR hT ho hu hq hss hU
 go_enter Tryz.func18,Tryz.ntmps18
 go_upto_region 1 with fail
 rw [← hY];clear hY;generalize (w.alloc (.cells (ruCs r K ck W cw S cs) 29)).alloc (.cells #[.int .i64 x.k,.string x.t] 41)=w1 at *;obtain ⟨X,hX⟩:∃ X,X=Y + 1:=⟨_,rfl⟩;rw [← hX] at T ⊢;clear hX;have l0:=(T.lv 0 rfl).all;have l1:=(T.lv 1 rfl).all;have Hp:=Lib.hid (refPersonOf_any (fun _=>False) r K W S A ck cw cs c ts x w1 (HR.out w1 T.b) (HT.out w1 T.b) Ho.out.on)
 go_wp2_with fail
 ((with_reducible refine (Hp.out).mono ?_);rintro e w2 ⟨P,zs,b,rfl,hP,hb2,hI⟩)
 obtain ⟨cc,hcc,rfl⟩:=hP;obtain ⟨k7,t7,A7,n7,a7,B7,m7,c7,rfl⟩:=hI.form;obtain ⟨Z,hZ⟩:∃ Z,Z=w2.heap.size:=⟨_,rfl⟩;have T3:Mem w (w2.alloc (.cells #[.int .i64 k7,.string t7,.slice A7 n7 a7,.slice B7 m7 c7] 98)) [.loc Y (ruCs r K ck W cw S cs) 29,.loc X #[.int .i64 x.k,.string x.t] 41,.loc Z #[.int .i64 k7,.string t7,.slice A7 n7 a7,.slice B7 m7 c7] 98]:=(T.below hb2).newAt #[.int .i64 k7,.string t7,.slice A7 n7 a7,.slice B7 m7 c7] 98 Z hZ;have hI3:=hI.keep (SKN.ofBelow (N:=fun _=>False) ((Below.refl w2.heap.size w2).alloc (Nat.le_refl _) (.cells #[.int .i64 k7,.string t7,.slice A7 n7 a7,.slice B7 m7 c7] 98)));have Hcc:=Lib.hid hcc;clear T hb2 hI Hp l0 l1 hcc
 go_upto_region 2 with fail
 rw [← hZ];clear hZ;generalize w2.alloc (.cells #[.int .i64 k7,.string t7,.slice A7 n7 a7,.slice B7 m7 c7] 98)=w3 at *;rcases hI3 with ⟨hn,rfl,_⟩ | ⟨p,A2,a2,B2,b2,hk,rfl,hz,s1,s2⟩
 ·have Hn:=Lib.hid hn;have HT3:=Lib.hid T3;clear hn T3
  go_wp2_with fail
  exact bodyPost_ret (results_two rfl rfl rfl) rfl ⟨none,0,[],8,rfl,⟨none,⟨cc,Hcc.out,.inl ⟨Hn.out,rfl⟩⟩,.inl ⟨rfl,rfl,rfl⟩⟩,((Mem.start w).below HT3.out.b).call (Below.refl _ _) _ Sl.nil (fun k e=>by cases e)⟩
 ·obtain ⟨hd,hhd,rfl⟩:=kf_head hk;have hz2:=congrArg Array.toList hz;simp only [List.cons.injEq,Value.int.injEq,Value.string.injEq,Value.slice.injEq,and_true,true_and] at hz2
  obtain ⟨rfl,rfl,⟨rfl,rfl,rfl⟩,rfl,rfl,rfl⟩:=hz2;have HO:Hid (OwnAt r ts x (some (partAt cc ts.length hd))):=⟨cc,Hcc.out,.inr ⟨hd,hhd,hk,rfl⟩⟩;have hC:=tellR_is Hu.out cc hd;have hpl:(psnAt r ts cc hd).tch.length≤1000000:=by
   have h4:=part_len cc ts.length hd;show ((partAt cc ts.length hd).map (noAt ts)).length≤_;rw [List.length_map];omega
  have hC2:tellR ts (psnAt r ts cc hd).tch=tellC ts (partAt cc ts.length hd):=hC;have hClen:(tellC ts (partAt cc ts.length hd)).length≤100000:=by
   have h1:=tellC_len Hq.out.fl (partAt cc ts.length hd);have h4:=part_len cc ts.length hd;omega
  obtain ⟨q,hq⟩:∃ q,psnAt r ts cc hd=q:=⟨_,rfl⟩;obtain ⟨AT,hAT⟩:∃ AT,partAt cc ts.length hd=AT:=⟨_,rfl⟩;rw [hq] at T3 s1 s2 hC2 hpl;rw [hAT] at hC2 hClen HO;have Hsm:=Lib.hid (Hq.out.smC AT);have Hb3:=Lib.hid T3.b;have y0:=(T3.lv 0 rfl).all;have z0:=(T3.lv 2 rfl).all;have Hrec:=Lib.hid (recordR_any r K W S A ck cw cs c ts q A7 B7 a7 c7 w3 (HR.out w3 T3.b) (HT.out w3 T3.b) (by omega) Hq.out.fl hpl s1 hsl Hss.out (by rw [hC2];exact Hsm.out) (by rw [hC2];omega) (HU.out w3 T3.b));rw [hC2] at Hrec;clear hk hz s1 s2 hhd hq hC hC2 hAT T3 HR HT Hcc
  go_wp2_with fail
  ((with_reducible refine (Hrec.out).mono ?_);rintro e w4 ⟨A8,c8,l,F,rfl,hm,M4⟩)
  obtain ⟨m,hm1,hm2⟩:=hm;have HM:Hid (Mem w w4 [.sl rFld A8 l]):=((Mem.start w).below Hb3.out).join M4;have HO2:Hid (∃ o,OwnAt r ts x o∧RecOf (svR r) ts o F l):=⟨_,HO.out,.inr ⟨AT,m,rfl,hm1,hm2⟩⟩;clear hm1 hm2 M4 Hrec
  go_wp2_with fail
  exact bodyPost_ret (results_two rfl rfl rfl) rfl ⟨A8,c8,l,F,rfl,HO2.out,HM.out⟩
end
section
open Go Go.RowKit
def GivesSrcT (sv:ByteArray→Tc→List Tc→Vt)(r:Rul)(ts:List Tch)(x:IdV)(nm:ByteArray)(w:World)(e:Ending)(w':World):Prop :=
 ∃ (A:Option Addr) (c:Nat) (l:List Int) (F:Int),e=.returned (.tuple #[.slice A l.length c,.int .i64 F])∧SrcAns sv r ts x nm F l∧Mem w w' [.sl rInt A l]
theorem tel_look {L:List (ByteArray×Tld)}{qs:List TS}{C:List (ByteArray×Tc)}(h:TelOk L qs)(hC:coreL L=C)(nm:ByteArray) :
  (selC nm C=[]∧(getG nm (qs.map TS.kv)).getD (.slice none 0 0)=.slice none 0 0)∨∃ q∈qs,∃ x0 r0,q.ls=x0::r0∧(getG nm (qs.map TS.kv)).getD (.slice none 0 0)=.slice q.A q.ls.length q.c∧selC nm C=x0.q::r0.map Tld.q∧q.ls=sel nm L:=by
 have h1:(sel nm L).map Tld.q=selC nm C:=by rw [sel_core,← hC];rfl
 have h2:=h.is nm;rcases ts_cases qs h.nd nm with ⟨_,h4,h5⟩ | ⟨j,q,h3,_,h4,h5⟩
 ·rw [h5] at h2;split at h2
  ·rename_i h6
   exact .inl ⟨by rw [← h1,h6];rfl,by rw [h4];rfl⟩
  ·cases h2
 ·rw [h5] at h2;split at h2
  ·cases h2
  ·rename_i h6
   have e:=Option.some.inj h2;cases hq:q.ls with
   | nil=>exact absurd (e.symm.trans hq) h6
   | cons x0 r0=>exact .inr ⟨q,List.mem_of_getElem? h3,x0,r0,hq,by rw [h4];rfl,by rw [← h1,← e,hq];rfl,e⟩
theorem src_snoc {xs:List Tld}{k:Nat}{y:Tld}{V:Vt}(h:xs[k]? =some y):((xs.take (k + 1)).map Tld.q |>.filter (fun z=>decide (z.v=V))).map Tc.no=((xs.take k).map Tld.q |>.filter (fun z=>decide (z.v=V))).map Tc.no++(if y.q.v=V then [y.q.no] else []):=by
 rw [take_snoc h,List.map_append,List.filter_append,List.map_append];congr 1
 by_cases e:y.q.v=V <;> simp [e]
set_option maxHeartbeats 8000000 in
set_option maxRecDepth 100000 in
theorem sourcesT_any (r:Rul)(K W Sv A:Option Addr)(ck cw cs c:Nat)(ts:List Tch)(x:IdV)(nm:ByteArray)(w:World)(hR:RulIn (fun _=>False) w r K W Sv)(hT:Sl rTch (fun _=>False) w A ts)(hr:RulOk r)(ht:TchsOk ts)(hx:x.t.size≤1000000)(hU:Tabs w)(hM:MaxL w)(hq:bothF r ts=0→QOk ts)(hts:ts.length≤100) :
  Calls Tryz.prog 15 #[.agg (ruCs r K ck W cw Sv cs),.slice A ts.length c,.agg #[.int .i64 x.k,.string x.t],.string nm] w (GivesSrcT (svP r) r ts x nm w):=by
 obtain ⟨Y,hY⟩:∃ Y,Y=w.heap.size:=⟨_,rfl⟩;have T0:=(Mem.start w).newAt (ruCs r K ck W cw Sv cs) 29 Y hY;have T:Mem w _ [.loc Y (ruCs r K ck W cw Sv cs) 29,.loc (Y + 1) #[.int .i64 x.k,.string x.t] 41]:=T0.newAt #[.int .i64 x.k,.string x.t] 41 (Y + 1) (by rw [hY,World.size_alloc]);have HK:=Lib.hid (fun w' (h:Below w.heap.size w w')=>keyed_any r K W Sv A ck cw cs c ts x w' (hR.keepB h) (hT.keepB h) hr ht hx (Utf8Tabs_below hU h) (hM.below h));have Hr:=Lib.hid hr;have Hq:=Lib.hid hq;have Hts:=Lib.hid hts;clear hR hT hr ht T0 hq hts
 go_enter Tryz.func15,Tryz.ntmps15
 go_upto_region 1 with fail
 rw [← hY];clear hY;generalize (w.alloc (.cells (ruCs r K ck W cw Sv cs) 29)).alloc (.cells #[.int .i64 x.k,.string x.t] 41)=w1 at *;obtain ⟨X,hX⟩:∃ X,X=Y + 1:=⟨_,rfl⟩;rw [← hX] at T ⊢;clear hX;have l0:=(T.lv 0 rfl).all;have l1:=(T.lv 1 rfl).all;have Hk:=Lib.hid (HK.out w1 T.b)
 go_wp2_with fail
 ((with_reducible refine (Hk.out).mono ?_);rintro e w2 ⟨g0,zs,F,rfl,hl2,hc⟩)
 have T2:=T.below hl2;have hzs:∃ a b A1 n1 c1 A2 n2 c2 A3 n3 c3,zs=#[.int .i64 a,.string b,.slice A1 n1 c1,.slice A2 n2 c2,.slice A3 n3 c3]:=by
  rcases hc with ⟨_,_,rfl,_⟩ | ⟨_,_,_,rfl,_⟩ | ⟨_,_,cc,ms,_,_,⟨_,rfl,_⟩ | ⟨_,G,Xg,qs,j,q,_,_,_,rfl,_⟩⟩
  all_goals exact ⟨_,_,_,_,_,_,_,_,_,_,_,rfl⟩
 obtain ⟨a9,b9,A1,n1,c1,A2,n2,c2,A3,n3,c3,rfl⟩:=hzs;obtain ⟨Z,hZ⟩:∃ Z,Z=w2.heap.size:=⟨_,rfl⟩;have T3:Mem w (w2.alloc (.cells #[.int .i64 a9,.string b9,.slice A1 n1 c1,.slice A2 n2 c2,.slice A3 n3 c3] 101)) [.loc Y (ruCs r K ck W cw Sv cs) 29,.loc X #[.int .i64 x.k,.string x.t] 41,.loc Z #[.int .i64 a9,.string b9,.slice A1 n1 c1,.slice A2 n2 c2,.slice A3 n3 c3] 101]:=T2.newAt _ 101 Z hZ;have hb3:Below w2.heap.size w2 (w2.alloc (.cells #[.int .i64 a9,.string b9,.slice A1 n1 c1,.slice A2 n2 c2,.slice A3 n3 c3] 101)):=(Below.refl _ _).alloc (Nat.le_refl _) _;have Hc:=Lib.hid hc;clear T T2 hl2 hc Hk l0 l1 HK
 go_upto_region 2 with fail
 rw [← hZ];clear hZ;generalize w2.alloc (.cells #[.int .i64 a9,.string b9,.slice A1 n1 c1,.slice A2 n2 c2,.slice A3 n3 c3] 101)=w3 at *;by_cases hF:F=0
 ·obtain ⟨hb0,hi0,cc,ms,hp,hm,hc⟩:bothF r ts=0∧L.idFault x.k x.t=0∧∃ cc ms,IsPart ts.length (Edge r ts) cc∧IsMembs r ts cc ms∧∃ G X qs j q,g0=.pointer (some ⟨G,0,none⟩)∧Grp (fun _=>False) w2 G X r K W Sv A ck cw cs c ts qs∧FirstK ms x j q∧#[.int .i64 a9,.string b9,.slice A1 n1 c1,.slice A2 n2 c2,.slice A3 n3 c3]=mqCs q∧Sl rInt (fun _=>False) w2 q.A q.tch∧Sl rId (fun _=>False) w2 q.B q.ids∧Sl rInt (fun _=>False) w2 q.C (iL q.at'):=by
   rcases Hc.out with ⟨h1,h2,_⟩ | ⟨_,h1,h2,_⟩ | ⟨h1,h2,cc,ms,h3,h4,⟨h5,_⟩ | ⟨_,h5⟩⟩
   ·exact absurd (h2.symm.trans hF) h1
   ·exact absurd (h2.symm.trans hF) h1
   ·rw [hF] at h5;cases h5
   ·exact ⟨h1,h2,cc,ms,h3,h4,h5⟩
  subst hF;obtain ⟨G,Xg,qs,j,q,rfl,hG,hfk,hz,s1,s2,s3⟩:=hc;obtain ⟨hd,hhd,hps,hat⟩:=memb_at hm hfk.1;have hkf:=kf_first hm hfk;rw [hps] at hkf;have hz2:=congrArg Array.toList hz;simp only [List.cons.injEq,Value.int.injEq,Value.string.injEq,Value.slice.injEq,and_true,true_and] at hz2
  obtain ⟨rfl,rfl,⟨rfl,rfl,rfl⟩,⟨rfl,rfl,rfl⟩,rfl,rfl,rfl⟩:=hz2;obtain ⟨AT,hAT⟩:∃ AT,q.at'=AT:=⟨_,rfl⟩;obtain ⟨QA,hQA⟩:∃ QA,q.A=QA:=⟨_,rfl⟩;obtain ⟨QB,hQB⟩:∃ QB,q.B=QB:=⟨_,rfl⟩;obtain ⟨QC,hQC⟩:∃ QC,q.C=QC:=⟨_,rfl⟩;obtain ⟨q1,hq1⟩:∃ q1,q.tch.length=q1:=⟨_,rfl⟩;obtain ⟨q2,hq2⟩:∃ q2,q.ids.length=q2:=⟨_,rfl⟩;rw [hAT] at T3 s3 hat;rw [hQA,hQB,hQC,hq1,hq2] at T3;rw [hQC] at s3;have Ho:Hid (RtOk r ts):=RtOk.both hb0 Hr.out;have Hu:Hid (NoUp ts):=noUp_of (both_zero hb0).2;obtain ⟨hsv,hsl⟩:=rul_surv (both_zero hb0).1;have hQ:=Hq.out hb0;have hlt:∀ i∈AT,i < ts.length:=fun i hi=>by
   rw [hat] at hi;unfold partAt at hi;exact List.mem_range.1 (List.mem_filter.1 hi).1
  have htn:=Hts.out;have hal:AT.length≤ts.length:=by rw [hat];exact part_len cc ts.length hd
  have Hown:Hid (OwnAt r ts x (some AT)):=⟨cc,hp,.inr ⟨hd,hhd,hkf,by rw [hat]⟩⟩;have Hke:Hid (firstErr [bothF r ts,L.idFault x.k x.t]=0∧bothF r ts=0):=⟨key_ok hb0 hi0,hb0⟩;have hcl:(tellC ts AT).length≤100000:=by
   have h1:=tellC_len hQ.fl AT;omega
  have y2:=(T3.lv 2 rfl).all;have Htl:=Lib.hid (tellings_any G Xg r K W Sv A ck cw cs c ts qs q.key.k q.key.t QA QB QC q1 q.a q2 q.b q.c AT w3 (hG.keepB hb3) hlt (by omega) (by omega) hQ.fl (s3.keepB hb3));have Hsv:=Lib.hid (fun (M:Nat→Prop) nm A5 x0 r0 n c5 w' (h:Below w3.heap.size w3 w')=>survives_any G Xg r K W Sv A ck cw cs c ts qs nm M A5 x0 r0 n c5 w' ((hG.keepB hb3).keepB h) hsv hsl (fun s hs=>Hr.out.ss s hs));have Hsm:=Lib.hid (hQ.smC AT);clear hz s1 s2 s3 hG hm hfk hps hkf hat hAT hQA hQB hQC hq1 hq2 hlt hal hQ
  go_wp2_with fail
  ((with_reducible refine (Htl.out).mono ?_);rintro e w5 ⟨M,qs5,L,rfl,hTL,hLC,M5⟩)
  have hgl:(getG nm (qs5.map TS.kv)).getD (.slice none 0 0)=(getG nm (qs5.map TS.kv)).getD (.slice none 0 0):=rfl;have hlk:=look_g (K:=keyStr) (T:=106) (E:=105) (M5.ok _ (.head _):MapG keyStr w5 M (qs5.map TS.kv)) (by kernel_rfl) (zeroSlP w5) nm false;rw [if_neg (by decide)] at hlk;have HT3:Hid (Mem w w5 []):=((((T3.below M5.b).del 2).del 1).del 0);rcases tel_look hTL hLC nm with ⟨hse,hgd⟩ | ⟨q5,hqm,x0,r0,hls,hgd,hse,hsl5⟩
  ·rw [hgd] at hlk;replace hlk:(Instr.lookup 106 (.map (some M)) (.string nm) false).run Tryz.prog w5=.ok (.slice none 0 0) w5:=hlk;have Hse:=Lib.hid hse;have Hw:Hid (Mem w w5 [.sl rInt none []]):=HT3.out.call (Below.refl _ _) _ Sl.nil (fun k e=>by cases e);clear T3 M5 y2 Htl hTL hLC hse hgd hgl
   go_wp2_with fail
   exact bodyPost_ret (results_two rfl rfl rfl) rfl ⟨none,0,[],8,rfl,.inr ⟨Hke.out.1,Hke.out.2,some AT,Hown.out,.inr ⟨AT,rfl,.inl ⟨Hse.out,rfl,rfl⟩⟩⟩,Hw.out⟩
  ·rw [hgd] at hlk;obtain ⟨n5,hn5⟩:∃ n5,q5.ls.length=n5:=⟨_,rfl⟩;obtain ⟨A5,hA5⟩:∃ A5,q5.A=A5:=⟨_,rfl⟩;obtain ⟨c5,hc5⟩:∃ c5,q5.c=c5:=⟨_,rfl⟩;rw [hn5,hA5,hc5] at hlk;replace hlk:(Instr.lookup 106 (.map (some M)) (.string nm) false).run Tryz.prog w5=.ok (.slice A5 n5 c5) w5:=hlk;have Hn5:Hid (n5=(x0::r0).length):=by show _=_;rw [← hn5,hls]
   have Hsl:Hid (Sl rTld (fun _=>False) w5 A5 (x0::r0)):=by
    have h1:TSlotsOk _ w5 qs5:=M5.ok (.tslots qs5) (.tail _ (.head _));have h2:=(h1 q5 hqm).1;rw [hls,hA5] at h2;exact h2.mono (fun _ _ h=>h.elim)
   have Hok:Hid (∀ a∈x0::r0,a.q.v.t.size≤1000000∧-4611686018427387904≤a.q.v.n∧a.q.v.n≤4611686018427387904):=fun a ha=>by
    have h1:a∈sel nm L:=by rw [← hsl5,hls];exact ha
    have h2:=sel_mem h1;rw [hLC] at h2;exact Hsm.out _ h2
   have hll0:(x0::r0).length≤100000:=by
    rw [← hls,hsl5];have h1:=sel_le nm L;have h2:=congrArg List.length hLC;unfold coreL at h2;rw [List.length_map] at h2;omega
   have Hcl:=Lib.hid (Hsv.out (fun _=>False) nm A5 x0 r0 n5 c5 w5 M5.b Hsl.out Hn5.out (by omega) Hok.out);obtain ⟨V,hV⟩:∃ V,(survP (surHow r nm) (surSrc r nm) x0.q (r0.map Tld.q)).v=V:=⟨_,rfl⟩;rw [hV] at Hcl;have HV:Hid (svP r nm x0.q (r0.map Tld.q)=V):=hV;have Hse:=Lib.hid hse;obtain ⟨xs,hxs⟩:∃ xs,x0::r0=xs:=⟨_,rfl⟩;have Hxq:Hid (xs.map Tld.q=x0.q::r0.map Tld.q):=by show _=_;rw [← hxs];rfl
   have hnp:0 < n5:=by have:=Hn5.out;rw [this];simp
   rw [hxs] at Hsl Hn5 hll0;have hn5b:n5≤100000:=by have:=Hn5.out;omega
   clear T3 M5 y2 Htl hTL hLC hse hgd hgl hn5 hA5 hc5 hV Hok hqm hls hsl5 hxs Hsv Hsm;have hn0:((n5:Int)==0)=false:=by simp;omega
   go_wp2_with fail
   clear hlk;((with_reducible refine (Hcl.out).mono ?_);rintro e w6 ⟨rfl,hl6⟩)
   obtain ⟨Z5,hZ5⟩:∃ Z5,Z5=w6.heap.size:=⟨_,rfl⟩;have T5:Mem w (w6.alloc (.cells #[.int .i64 V.k,.string V.t,.int .i64 V.n] 57)) [.loc Z5 #[.int .i64 V.k,.string V.t,.int .i64 V.n] 57]:=(HT3.out.below hl6).newAt _ 57 Z5 hZ5;have Hbw:Hid (Below w5.heap.size w5 (w6.alloc (.cells #[.int .i64 V.k,.string V.t,.int .i64 V.n] 57))):=hl6.alloc hl6.size _
   go_upto_region 8 with fail
   rw [← hZ5];clear hZ5 hl6 Hcl hn0;generalize w6.alloc (.cells #[.int .i64 V.k,.string V.t,.int .i64 V.n] 57)=w7 at *;have HS7:=Lib.hid (fun w' (h:Below w7.heap.size w7 w')=>Hsl.out.keepB (Hbw.out.trans (h.mono Hbw.out.size)));have HZ7:=Lib.hid (fun w' (h:Below w7.heap.size w7 w')=>LV.kb3 (T5.lv 0 rfl) h (T5.lv 0 rfl).lt);have HT7:Hid (Mem w w7 []):=T5.del 0;obtain ⟨B,hB⟩:∃ B,B=w7.heap.size:=⟨_,rfl⟩;have HbB:=Lib.hid hB;have T6:Mem w7 w7 [.own rInt B 3 (.slice none 0 0) []]:=(Mem.start w7).nil rInt B 3;clear hB T5
   go_wp2_with fail
   go_loopw [15,43] (fun v ix wr=>∃ (k:Nat) (ys:List Int),k≤n5∧ix=.int .i64 k∧Hid (ys=((xs.take k).map Tld.q |>.filter (fun z=>decide (z.v=V))).map Tc.no)∧Hid (ys.length≤k)∧Mem w7 wr [.own rInt B 3 v ys]) (fun _ ix _=>n5 - (intOf ix).toNat)
   case atStart=>exact ⟨0,[],Nat.zero_le _,rfl,rfl,Nat.le_refl _,T6⟩
   case round =>
    clear T6;obtain ⟨k,ys,hk,rfl,Hys,Hyl,T⟩:=hrel;by_cases hlt:k < n5
    ·obtain ⟨y,hy⟩:∃ y,xs[k]? =some y:=⟨_,List.getElem?_eq_getElem (by have:=Hn5.out;omega)⟩;obtain ⟨bt,ot,rfl,hbt,d0,d1,d2,d3,d4,d5,d6,d7⟩:=(HS7.out wr T.b).tld k y hy;have Hsn:=Lib.hid (src_snoc (V:=V) hy);obtain ⟨W9,hW⟩:∃ W9,W9=wr.heap.size:=⟨_,rfl⟩;have S4:Mem w7 (wr.alloc (.cells (tlCs y) 110)) [.own rInt B 3 u15 ys,.loc W9 (tlCs y) 110]:=T.newAt (tlCs y) 110 W9 hW;clear hy
     go_upto_region 12 with fail
     rw [← hW];clear hW T d0 d1 d2 d3 d4 d5 d6 d7 hbt;generalize wr.alloc (.cells (tlCs y) 110)=w8 at *;have l1:=(S4.lv 1 rfl).all;have z0:=(HZ7.out w8 S4.b).all;have heq:=eqVt_run y.q.v V w8;replace heq:(Op.equal 57 (.agg #[.int .i64 y.q.v.k,.string y.q.v.t,.int .i64 y.q.v.n]) (.agg #[.int .i64 V.k,.string V.t,.int .i64 V.n])).run Tryz.prog w8=.ok (decide (y.q.v=V)) w8:=heq;obtain ⟨be,hbe⟩:∃ be,decide (y.q.v=V)=be:=⟨_,rfl⟩;rw [hbe] at heq;cases be
     ·have hne:=of_decide_eq_false hbe;have Hy2:Hid (ys=((xs.take (k + 1)).map Tld.q |>.filter (fun z=>decide (z.v=V))).map Tc.no):=by
       show _=_;rw [Hsn.out,if_neg hne,List.append_nil];exact Hys.out
      have Hyl2:Hid (ys.length≤k + 1):=by show _≤_;have:=Hyl.out;omega
      clear hbe Hsn Hys heq;have hd:y.q.v.k≠V.k∨(y.q.v.k=V.k∧y.q.v.t.toList≠V.t.toList)∨(y.q.v.k=V.k∧y.q.v.t.toList=V.t.toList∧y.q.v.n≠V.n):=by
       by_cases e1:y.q.v.k=V.k
       ·by_cases e2:y.q.v.t.toList=V.t.toList
        ·refine .inr (.inr ⟨e1,e2,fun e3=>hne ?_⟩);have e4:y.q.v.t=V.t:=bytes_inj e2;cases hv:y.q.v
         cases V
         rw [hv] at e1 e3 e4;simp only at e1 e3 e4
         subst e1 e3 e4;rfl
        ·exact .inr (.inl ⟨e1,e2⟩)
       ·exact .inl e1
      clear hne;rcases hd with e1 | ⟨e1,e2⟩ | ⟨e1,e2,e3⟩
      ·go_wp2_with fail
       go_roundw
       case rel=>exact ⟨k + 1,ys,by omega,by go_num,Hy2,Hyl2,S4.del 1⟩
       case measure=>simp [intOf];omega
      ·go_wp2_with fail
       go_roundw
       case rel=>exact ⟨k + 1,ys,by omega,by go_num,Hy2,Hyl2,S4.del 1⟩
       case measure=>simp [intOf];omega
      ·go_wp2_with fail
       go_roundw
       case rel=>exact ⟨k + 1,ys,by omega,by go_num,Hy2,Hyl2,S4.del 1⟩
       case measure=>simp [intOf];omega
     ·have he:=of_decide_eq_true hbe;have Hy2:Hid (ys++[y.q.no]=((xs.take (k + 1)).map Tld.q |>.filter (fun z=>decide (z.v=V))).map Tc.no):=by
       show _=_;rw [Hsn.out,if_pos he,← Hys.out]
      have Hyl2:Hid ((ys++[y.q.no]).length≤k + 1):=by show _≤_;have:=Hyl.out;rw [List.length_append];simp;omega
      have hsz:B≤w8.heap.size:=by rw [HbB.out];exact S4.b.size
      have hyl3:ys.length≤100000:=by have:=Hyl.out;omega
      have e1:y.q.v.k=V.k:=by rw [he]
      have e2:y.q.v.t=V.t:=by rw [he]
      have e3:y.q.v.n=V.n:=by rw [he]
      clear he hbe Hsn Hys;have HS4:=Lib.hid S4;clear S4
      go_wp2_with (at_builtin;go_loud (refine HS4.out.app 0 rfl tyIntP rfl _ _ rfl y.q.no 1 rfl rfl rfl (oneJ y.q.no) hsz (Nat.le_trans hyl3 (by decide)) (by decide) ?_);intro v' w9 S5)
      go_roundw
      case rel=>exact ⟨k + 1,ys++[y.q.no],by omega,by go_num,Hy2,Hyl2,S5.del 1⟩
      case measure=>simp [intOf];omega
    ·obtain rfl:k=n5:=by omega
     have Hfin:Hid (ys=((x0.q::r0.map Tld.q).filter (fun z=>decide (z.v=svP r nm x0.q (r0.map Tld.q)))).map Tc.no):=by
      show _=_;rw [HV.out,← Hxq.out,Hys.out,List.take_of_length_le (by have:=Hn5.out;omega)]
     obtain ⟨A9,c9,rfl,T2⟩:=T.frz 0 rfl;have HT9:Hid (Mem w wr [.sl rInt A9 ys]):=HT7.out.join T2;clear T T2
     go_wp2_with fail
     exact bodyPost_ret (results_two rfl rfl rfl) rfl ⟨A9,c9,ys,0,rfl,.inr ⟨Hke.out.1,Hke.out.2,some AT,Hown.out,.inr ⟨AT,rfl,.inr ⟨x0.q,r0.map Tld.q,Hse.out,rfl,Hfin.out⟩⟩⟩,HT9.out⟩
 ·have h1:(F != 0)=true:=by simpa using hF
  have Hf:Hid ((firstErr [bothF r ts,L.idFault x.k x.t]≠0∧F=firstErr [bothF r ts,L.idFault x.k x.t])∨(firstErr [bothF r ts,L.idFault x.k x.t]=0∧bothF r ts=0∧OwnAt r ts x none∧F=8)):=by
   rcases Hc.out with ⟨h1,h2,_⟩ | ⟨h0,h1,h2,_⟩ | ⟨h1,h2,cc,ms,h3,h4,⟨h5,_,_,h6⟩ | ⟨h5,_⟩⟩
   ·exact .inl ⟨(key_err h1).2,by rw [(key_err h1).1];exact h2⟩
   ·exact .inl ⟨(key_err2 h0 h1).2,by rw [(key_err2 h0 h1).1];exact h2⟩
   ·exact .inr ⟨key_ok h1 h2,h1,⟨cc,h3,.inl ⟨kf_none h4 h6,rfl⟩⟩,h5⟩
   ·exact absurd h5 hF
  have HT3:=Lib.hid T3;clear T3
  go_wp2_with fail
  refine bodyPost_ret (results_two rfl rfl rfl) rfl ⟨none,0,[],F,rfl,?_,(((HT3.out.del 2).del 1).del 0).call (Below.refl _ _) _ Sl.nil (fun k e=>by cases e)⟩;rcases Hf.out with ⟨h1,h2⟩ | ⟨h1,h2,h3,h4⟩
  ·exact .inl ⟨h1,h2,rfl⟩
  ·exact .inr ⟨h1,h2,none,h3,.inl ⟨rfl,h4,rfl⟩⟩
end
section
open Go Go.RowKit
set_option maxHeartbeats 8000000 in
set_option maxRecDepth 100000 in
theorem refSourcesOf_any (r:Rul)(K W S A:Option Addr)(ck cw cs c:Nat)(ts:List Tch)(x:IdV)(nm:ByteArray)(w:World)(hR:RulIn (fun _=>False) w r K W S)(hT:Sl rTch (fun _=>False) w A ts)(ho:RtOk r ts)(hu:NoUp ts)(hq:QOk ts)(hsl:r.surv.length≤30)(hss:∀ s∈r.surv,s.srcs.length≤1000000)(hts:ts.length≤100)(hU:Tabs w) :
  Calls Tryz.prog 19 #[.agg (ruCs r K ck W cw S cs),.slice A ts.length c,.agg #[.int .i64 x.k,.string x.t],.string nm] w (GivesSrcOf r ts x nm w):=by
 obtain ⟨Y,hY⟩:∃ Y,Y=w.heap.size:=⟨_,rfl⟩;have T0:=(Mem.start w).newAt (ruCs r K ck W cw S cs) 29 Y hY;have T:Mem w _ [.loc Y (ruCs r K ck W cw S cs) 29,.loc (Y + 1) #[.int .i64 x.k,.string x.t] 41]:=T0.newAt #[.int .i64 x.k,.string x.t] 41 (Y + 1) (by rw [hY,World.size_alloc]);have HR:=Lib.hid (fun w' (h:Below w.heap.size w w')=>hR.keepB h);have HT:=Lib.hid (fun w' (h:Below w.heap.size w w')=>hT.keepB h);have HU:=Lib.hid (fun w' (h:Below w.heap.size w w')=>Utf8Tabs_below hU h);have Ho:=Lib.hid ho;have Hu:=Lib.hid hu;have Hq:=Lib.hid hq;have Hss:=Lib.hid hss;clear T0 hR hT ho hu hq hss hU
 go_enter Tryz.func19,Tryz.ntmps19
 go_upto_region 1 with fail
 rw [← hY];clear hY;generalize (w.alloc (.cells (ruCs r K ck W cw S cs) 29)).alloc (.cells #[.int .i64 x.k,.string x.t] 41)=w1 at *;obtain ⟨X,hX⟩:∃ X,X=Y + 1:=⟨_,rfl⟩;rw [← hX] at T ⊢;clear hX;have l0:=(T.lv 0 rfl).all;have l1:=(T.lv 1 rfl).all;have Hp:=Lib.hid (refPersonOf_any (fun _=>False) r K W S A ck cw cs c ts x w1 (HR.out w1 T.b) (HT.out w1 T.b) Ho.out.on)
 go_wp2_with fail
 ((with_reducible refine (Hp.out).mono ?_);rintro e w2 ⟨P,zs,b,rfl,hP,hb2,hI⟩)
 obtain ⟨cc,hcc,rfl⟩:=hP;obtain ⟨k7,t7,A7,n7,a7,B7,m7,c7,rfl⟩:=hI.form;obtain ⟨Z,hZ⟩:∃ Z,Z=w2.heap.size:=⟨_,rfl⟩;have T3:Mem w (w2.alloc (.cells #[.int .i64 k7,.string t7,.slice A7 n7 a7,.slice B7 m7 c7] 98)) [.loc Y (ruCs r K ck W cw S cs) 29,.loc X #[.int .i64 x.k,.string x.t] 41,.loc Z #[.int .i64 k7,.string t7,.slice A7 n7 a7,.slice B7 m7 c7] 98]:=(T.below hb2).newAt #[.int .i64 k7,.string t7,.slice A7 n7 a7,.slice B7 m7 c7] 98 Z hZ;have hI3:=hI.keep (SKN.ofBelow (N:=fun _=>False) ((Below.refl w2.heap.size w2).alloc (Nat.le_refl _) (.cells #[.int .i64 k7,.string t7,.slice A7 n7 a7,.slice B7 m7 c7] 98)));have Hcc:=Lib.hid hcc;clear T hb2 hI Hp l0 l1 hcc
 go_upto_region 2 with fail
 rw [← hZ];clear hZ;generalize w2.alloc (.cells #[.int .i64 k7,.string t7,.slice A7 n7 a7,.slice B7 m7 c7] 98)=w3 at *;rcases hI3 with ⟨hn,rfl,_⟩ | ⟨p,A2,a2,B2,b2,hk,rfl,hz,s1,s2⟩
 ·have Hn:=Lib.hid hn;have HT3:=Lib.hid T3;clear hn T3
  go_wp2_with fail
  exact bodyPost_ret (results_two rfl rfl rfl) rfl ⟨none,0,[],8,rfl,⟨none,⟨cc,Hcc.out,.inl ⟨Hn.out,rfl⟩⟩,.inl ⟨rfl,rfl,rfl⟩⟩,((Mem.start w).below HT3.out.b).call (Below.refl _ _) _ Sl.nil (fun k e=>by cases e)⟩
 ·obtain ⟨hd,hhd,rfl⟩:=kf_head hk;have hz2:=congrArg Array.toList hz;simp only [List.cons.injEq,Value.int.injEq,Value.string.injEq,Value.slice.injEq,and_true,true_and] at hz2
  obtain ⟨rfl,rfl,⟨rfl,rfl,rfl⟩,rfl,rfl,rfl⟩:=hz2;have HO:Hid (OwnAt r ts x (some (partAt cc ts.length hd))):=⟨cc,Hcc.out,.inr ⟨hd,hhd,hk,rfl⟩⟩;have hC:=tellR_is Hu.out cc hd;have hpl:(psnAt r ts cc hd).tch.length≤1000000:=by
   have h4:=part_len cc ts.length hd;show ((partAt cc ts.length hd).map (noAt ts)).length≤_;rw [List.length_map];omega
  have hC2:tellR ts (psnAt r ts cc hd).tch=tellC ts (partAt cc ts.length hd):=hC;have hClen:(tellC ts (partAt cc ts.length hd)).length≤100000:=by
   have h1:=tellC_len Hq.out.fl (partAt cc ts.length hd);have h4:=part_len cc ts.length hd;omega
  obtain ⟨q,hq⟩:∃ q,psnAt r ts cc hd=q:=⟨_,rfl⟩;obtain ⟨AT,hAT⟩:∃ AT,partAt cc ts.length hd=AT:=⟨_,rfl⟩;rw [hq] at T3 s1 s2 hC2 hpl;rw [hAT] at hC2 hClen HO;have Hsm:=Lib.hid (Hq.out.smC AT);have Hb3:=Lib.hid T3.b;have y0:=(T3.lv 0 rfl).all;have z0:=(T3.lv 2 rfl).all;have Htl:=Lib.hid (refTellings_any A c ts q A7 B7 a7 c7 w3 (HT.out w3 T3.b) (by omega) Hq.out.fl hpl s1);have Hsr:=Lib.hid (fun nm w' (h:Below w.heap.size w w')=>survivalR_any r K W S ck cw cs nm w' (HR.out w' h) (by omega) Hss.out);clear hk hz s1 s2 hhd hq hC hAT HR HT Hcc
  go_wp2_with fail
  ((with_reducible refine (Htl.out).mono ?_);rintro e w5 ⟨M,qs5,L,rfl,hTL,hLC,M5⟩)
  rw [hC2] at hLC;have hgl:(getG nm (qs5.map TS.kv)).getD (.slice none 0 0)=(getG nm (qs5.map TS.kv)).getD (.slice none 0 0):=rfl;have hlk:=look_g (K:=keyStr) (T:=125) (E:=124) (M5.ok _ (.head _):MapG keyStr w5 M (qs5.map TS.kv)) (by kernel_rfl) (zeroSlR w5) nm false;rw [if_neg (by decide)] at hlk;have HT3:Hid (Mem w w5 [.loc Y (ruCs r K ck W cw S cs) 29]):=(((T3.below M5.b).del 2).del 1);rcases tel_look hTL hLC nm with ⟨hse,hgd⟩ | ⟨q5,hqm,x0,r0,hls,hgd,hse,hsl5⟩
  ·rw [hgd] at hlk;replace hlk:(Instr.lookup 125 (.map (some M)) (.string nm) false).run Tryz.prog w5=.ok (.slice none 0 0) w5:=hlk;have Hse:=Lib.hid hse;have Hw:Hid (Mem w w5 [.sl rInt none []]):=(HT3.out.del 0).call (Below.refl _ _) _ Sl.nil (fun k e=>by cases e);clear T3 M5 y0 z0 Htl hTL hLC hse hgd hgl
   go_wp2_with fail
   exact bodyPost_ret (results_two rfl rfl rfl) rfl ⟨none,0,[],8,rfl,⟨_,HO.out,.inr ⟨AT,rfl,.inl ⟨Hse.out,rfl,rfl⟩⟩⟩,Hw.out⟩
  ·rw [hgd] at hlk;obtain ⟨n5,hn5⟩:∃ n5,q5.ls.length=n5:=⟨_,rfl⟩;obtain ⟨A5,hA5⟩:∃ A5,q5.A=A5:=⟨_,rfl⟩;obtain ⟨c5,hc5⟩:∃ c5,q5.c=c5:=⟨_,rfl⟩;rw [hn5,hA5,hc5] at hlk;replace hlk:(Instr.lookup 125 (.map (some M)) (.string nm) false).run Tryz.prog w5=.ok (.slice A5 n5 c5) w5:=hlk;have Hn5:Hid (n5=(x0::r0).length):=by show _=_;rw [← hn5,hls]
   have Hsl:Hid (Sl rTld (fun _=>False) w5 A5 (x0::r0)):=by
    have h1:TSlotsOk _ w5 qs5:=M5.ok (.tslots qs5) (.tail _ (.head _));have h2:=(h1 q5 hqm).1;rw [hls,hA5] at h2;exact h2.mono (fun _ _ h=>h.elim)
   have Hcap:Hid (n5≤c5):=by
    have h1:TSlotsOk _ w5 qs5:=M5.ok (.tslots qs5) (.tail _ (.head _));have h2:=(h1 q5 hqm).2;rw [hn5,hc5] at h2;exact h2
   have Hok:Hid (∀ a∈x0::r0,a.q.v.t.size≤1000000∧-4611686018427387904≤a.q.v.n∧a.q.v.n≤4611686018427387904):=fun a ha=>by
    have h1:a∈sel nm L:=by rw [← hsl5,hls];exact ha
    have h2:=sel_mem h1;rw [hLC] at h2;exact Hsm.out _ h2
   have hll0:(x0::r0).length≤100000:=by
    rw [← hls,hsl5];have h1:=sel_le nm L;have h2:=congrArg List.length hLC;unfold coreL at h2;rw [List.length_map] at h2;omega
   obtain ⟨V,hV⟩:∃ V,svR r nm x0.q (r0.map Tld.q)=V:=⟨_,rfl⟩;have HV:=Lib.hid hV;have Hsv0:=Lib.hid (Hsr.out nm w5 (HT3.out.b));have Hsl0:=Lib.hid Hsl.out;have Hn50:=Lib.hid Hn5.out;have Hok0:=Lib.hid Hok.out;have Hll0:=Lib.hid hll0;have y0:=(HT3.out.lv 0 rfl).all;have Hse:=Lib.hid hse;obtain ⟨xs,hxs⟩:∃ xs,x0::r0=xs:=⟨_,rfl⟩;have Hxq:Hid (xs.map Tld.q=x0.q::r0.map Tld.q):=by show _=_;rw [← hxs];rfl
   have hnp:0 < n5:=by have:=Hn5.out;rw [this];simp
   rw [hxs] at Hsl Hn5 hll0;have hn5b:n5≤100000:=by have:=Hn5.out;omega
   clear T3 M5 z0 Htl hTL hLC hse hgd hgl hn5 hA5 hc5 hV Hok hqm hls hsl5 hxs Hsm Hsr;have hn0:((n5:Int)==0)=false:=by simp;omega
   go_wp2_with fail
   clear hlk;((with_reducible refine (Hsv0.out).mono ?_);rintro e w51 ⟨s,As,cA,rfl,hs1,hs2,hs3,hs4,hl51⟩)
   have Hs1:=Lib.hid hs1;have Hs2:=Lib.hid hs2;have Hcl:=Lib.hid (survivorR_any (fun _=>False) (fun _=>False) s As cA A5 x0 r0 n5 c5 w51 hs4 hs3 (Hsl0.out.keepB hl51) Hn50.out Hcap.out (Nat.le_trans Hll0.out (by decide)) Hok0.out (HU.out w51 (HT3.out.b.trans (hl51.mono HT3.out.b.size))));clear y0 hs1 hs2 hs4 Hsv0
   go_wp2_with fail
   ((with_reducible refine (Hcl.out).mono ?_);rintro e w6 ⟨⟨g,hg,rfl⟩,hl62⟩)
   have hl6:=hl51.trans (hl62.mono hl51.size);have hfd:=field3r g.q.no g.q.at' g.q.v.k g.q.v.n g.q.src g.q.v.t (.slice g.A g.n g.c) (.slice g.B g.m g.d) ⟨_,_,_,rfl⟩ ⟨_,_,_,rfl⟩;have hgV:g.q.v=V:=by
    rw [hg,Hs1.out,Hs2.out];exact HV.out
   clear hg hl51 hl62;obtain ⟨Z5,hZ5⟩:∃ Z5,Z5=w6.heap.size:=⟨_,rfl⟩;have T5:Mem w (w6.alloc (.cells #[.int .i64 V.k,.string V.t,.int .i64 V.n] 57)) [.loc Z5 #[.int .i64 V.k,.string V.t,.int .i64 V.n] 57]:=((HT3.out.below hl6).del 0).newAt _ 57 Z5 hZ5;have Hbw:Hid (Below w5.heap.size w5 (w6.alloc (.cells #[.int .i64 V.k,.string V.t,.int .i64 V.n] 57))):=hl6.alloc hl6.size _
   go_upto_region 8 with fail
   rw [← hZ5];clear hZ5 hl6 Hcl hn0 hfd hgV;generalize w6.alloc (.cells #[.int .i64 V.k,.string V.t,.int .i64 V.n] 57)=w7 at *;have HS7:=Lib.hid (fun w' (h:Below w7.heap.size w7 w')=>Hsl.out.keepB (Hbw.out.trans (h.mono Hbw.out.size)));have HZ7:=Lib.hid (fun w' (h:Below w7.heap.size w7 w')=>LV.kb3 (T5.lv 0 rfl) h (T5.lv 0 rfl).lt);have HT7:Hid (Mem w w7 []):=T5.del 0;obtain ⟨B,hB⟩:∃ B,B=w7.heap.size:=⟨_,rfl⟩;have HbB:=Lib.hid hB;have T6:Mem w7 w7 [.own rInt B 3 (.slice none 0 0) []]:=(Mem.start w7).nil rInt B 3;clear hB T5
   go_wp2_with fail
   go_loopw [14,42] (fun v ix wr=>∃ (k:Nat) (ys:List Int),k≤n5∧ix=.int .i64 k∧Hid (ys=((xs.take k).map Tld.q |>.filter (fun z=>decide (z.v=V))).map Tc.no)∧Hid (ys.length≤k)∧Mem w7 wr [.own rInt B 3 v ys]) (fun _ ix _=>n5 - (intOf ix).toNat)
   case atStart=>exact ⟨0,[],Nat.zero_le _,rfl,rfl,Nat.le_refl _,T6⟩
   case round =>
    clear T6;obtain ⟨k,ys,hk,rfl,Hys,Hyl,T⟩:=hrel;by_cases hlt:k < n5
    ·obtain ⟨y,hy⟩:∃ y,xs[k]? =some y:=⟨_,List.getElem?_eq_getElem (by have:=Hn5.out;omega)⟩;obtain ⟨bt,ot,rfl,hbt,d0,d1,d2,d3,d4,d5,d6,d7⟩:=(HS7.out wr T.b).tld k y hy;have Hsn:=Lib.hid (src_snoc (V:=V) hy);obtain ⟨W9,hW⟩:∃ W9,W9=wr.heap.size:=⟨_,rfl⟩;have S4:Mem w7 (wr.alloc (.cells (tlCs y) 128)) [.own rInt B 3 u14 ys,.loc W9 (tlCs y) 128]:=T.newAt (tlCs y) 128 W9 hW;clear hy
     go_upto_region 12 with fail
     rw [← hW];clear hW T d0 d1 d2 d3 d4 d5 d6 d7 hbt;generalize wr.alloc (.cells (tlCs y) 128)=w8 at *;have l1:=(S4.lv 1 rfl).all;have z0:=(HZ7.out w8 S4.b).all;have heq:=eqVt_run y.q.v V w8;replace heq:(Op.equal 57 (.agg #[.int .i64 y.q.v.k,.string y.q.v.t,.int .i64 y.q.v.n]) (.agg #[.int .i64 V.k,.string V.t,.int .i64 V.n])).run Tryz.prog w8=.ok (decide (y.q.v=V)) w8:=heq;obtain ⟨be,hbe⟩:∃ be,decide (y.q.v=V)=be:=⟨_,rfl⟩;rw [hbe] at heq;cases be
     ·have hne:=of_decide_eq_false hbe;have Hy2:Hid (ys=((xs.take (k + 1)).map Tld.q |>.filter (fun z=>decide (z.v=V))).map Tc.no):=by
       show _=_;rw [Hsn.out,if_neg hne,List.append_nil];exact Hys.out
      have Hyl2:Hid (ys.length≤k + 1):=by show _≤_;have:=Hyl.out;omega
      clear hbe Hsn Hys heq;have hd:y.q.v.k≠V.k∨(y.q.v.k=V.k∧y.q.v.t.toList≠V.t.toList)∨(y.q.v.k=V.k∧y.q.v.t.toList=V.t.toList∧y.q.v.n≠V.n):=by
       by_cases e1:y.q.v.k=V.k
       ·by_cases e2:y.q.v.t.toList=V.t.toList
        ·refine .inr (.inr ⟨e1,e2,fun e3=>hne ?_⟩);have e4:y.q.v.t=V.t:=bytes_inj e2;cases hv:y.q.v
         cases V
         rw [hv] at e1 e3 e4;simp only at e1 e3 e4
         subst e1 e3 e4;rfl
        ·exact .inr (.inl ⟨e1,e2⟩)
       ·exact .inl e1
      clear hne;rcases hd with e1 | ⟨e1,e2⟩ | ⟨e1,e2,e3⟩
      ·go_wp2_with fail
       go_roundw
       case rel=>exact ⟨k + 1,ys,by omega,by go_num,Hy2,Hyl2,S4.del 1⟩
       case measure=>simp [intOf];omega
      ·go_wp2_with fail
       go_roundw
       case rel=>exact ⟨k + 1,ys,by omega,by go_num,Hy2,Hyl2,S4.del 1⟩
       case measure=>simp [intOf];omega
      ·go_wp2_with fail
       go_roundw
       case rel=>exact ⟨k + 1,ys,by omega,by go_num,Hy2,Hyl2,S4.del 1⟩
       case measure=>simp [intOf];omega
     ·have he:=of_decide_eq_true hbe;have Hy2:Hid (ys++[y.q.no]=((xs.take (k + 1)).map Tld.q |>.filter (fun z=>decide (z.v=V))).map Tc.no):=by
       show _=_;rw [Hsn.out,if_pos he,← Hys.out]
      have Hyl2:Hid ((ys++[y.q.no]).length≤k + 1):=by show _≤_;have:=Hyl.out;rw [List.length_append];simp;omega
      have hsz:B≤w8.heap.size:=by rw [HbB.out];exact S4.b.size
      have hyl3:ys.length≤100000:=by have:=Hyl.out;omega
      have e1:y.q.v.k=V.k:=by rw [he]
      have e2:y.q.v.t=V.t:=by rw [he]
      have e3:y.q.v.n=V.n:=by rw [he]
      clear he hbe Hsn Hys;have HS4:=Lib.hid S4;clear S4
      go_wp2_with (at_builtin;go_loud (refine HS4.out.app 0 rfl tyIntP rfl _ _ rfl y.q.no 1 rfl rfl rfl (oneJ y.q.no) hsz (Nat.le_trans hyl3 (by decide)) (by decide) ?_);intro v' w9 S5)
      go_roundw
      case rel=>exact ⟨k + 1,ys++[y.q.no],by omega,by go_num,Hy2,Hyl2,S5.del 1⟩
      case measure=>simp [intOf];omega
    ·obtain rfl:k=n5:=by omega
     have Hfin:Hid (ys=((x0.q::r0.map Tld.q).filter (fun z=>decide (z.v=svR r nm x0.q (r0.map Tld.q)))).map Tc.no):=by
      show _=_;rw [HV.out,← Hxq.out,Hys.out,List.take_of_length_le (by have:=Hn5.out;omega)]
     obtain ⟨A9,c9,rfl,T2⟩:=T.frz 0 rfl;have HT9:Hid (Mem w wr [.sl rInt A9 ys]):=HT7.out.join T2;clear T T2
     go_wp2_with fail
     exact bodyPost_ret (results_two rfl rfl rfl) rfl ⟨A9,c9,ys,0,rfl,⟨_,HO.out,.inr ⟨AT,rfl,.inr ⟨x0.q,r0.map Tld.q,Hse.out,rfl,Hfin.out⟩⟩⟩,HT9.out⟩
end
section
open Go Go.RowKit
def VtOk (v:Vt):Prop:=(v.k≠1→v.t=⟨#[]⟩)∧v.t.size≤200∧-1000000000000≤v.n∧v.n≤1000000000000
theorem vt_ok {k n:Int}{t:ByteArray}(h:valueFault k t n=0):VtOk ⟨k,t,n⟩:=by
 have hs:=value_ok h;have hnil:t.toList=[]→t=⟨#[]⟩:=fun e=>by
  rw [toList_nil_iff_emptyBytes] at e;rw [e];rfl
 refine ⟨fun hk=>?_,hs,?_⟩
 ·have hk:¬ k=1:=hk;unfold valueFault at h;rw [if_neg hk] at h
  repeat' split at h
  all_goals first
   | (cases h;done)
   | (refine hnil ?_;simp_all;done)
 ·show -1000000000000≤n∧n≤1000000000000;unfold valueFault at h
  repeat' split at h
  all_goals first
   | (cases h;done)
   | omega
theorem fldsGo_vt:∀ (l:List Fld) (p:Option ByteArray),fldsGo p l=0→∀ f∈l,VtOk ⟨f.kind,f.text,f.num⟩
 | [],_,_=>fun _ h=>by cases h
 | x::r,p,h=>by
  rw [fldsGo] at h;split at h
  ·cases h
  split at h
  ·rename_i h2;exact absurd h h2
  rename_i h2
  split at h
  ·cases h
  intro f hf;rcases List.mem_cons.1 hf with rfl | hf
  ·exact vt_ok (Classical.not_not.1 h2)
  ·exact fldsGo_vt r _ h f hf
theorem tchFault_flds {t:Tch}{last:Int}(h:tchFault t last=0):fldsFault t.flds=0:=by
 unfold tchFault tchE at h
 repeat' split at h
 all_goals first
  | omega
  | exact h
theorem tchsGo_flds:∀ {l:List Tch} {last:Int},tchsGo last l=0→∀ t∈l,fldsFault t.flds=0
 | [],_,_=>fun _ h=>by cases h
 | t::r,last,h=>by
  rw [tchsGo] at h;by_cases h1:tchFault t last=0
  ·rw [if_neg (by simpa using h1)] at h;intro u hu;rcases List.mem_cons.1 hu with rfl | hu
   ·exact tchFault_flds h1
   ·exact tchsGo_flds h u hu
  ·rw [if_pos h1] at h;exact absurd h h1
theorem tchs_vt {ts:List Tch}(h:tchsFault ts=0):(∀ t∈ts,t.flds.length≤30)∧∀ t∈ts,∀ f∈t.flds,VtOk ⟨f.kind,f.text,f.num⟩:=by
 have h1:=tchsGo_flds (tchsFault_go h);refine ⟨fun t ht=>(flds_ok (h1 t ht)).1,fun t ht f hf=>?_⟩;have h2:=h1 t ht;unfold fldsFault at h2;split at h2
 ·cases h2
 ·exact fldsGo_vt _ _ h2 f hf
theorem qok_of {ts:List Tch}(h:tchsFault ts=0):QOk ts:=by
 obtain ⟨h1,h2⟩:=tchs_vt h;refine ⟨fun t ht=>Nat.le_trans (h1 t ht) (by decide),fun t ht f hf=>?_⟩;obtain ⟨_,h3,h4,h5⟩:=h2 t ht f hf;have h3:f.text.size≤200:=h3;have h4:-1000000000000≤f.num:=h4;have h5:f.num≤1000000000000:=h5;exact ⟨by omega,by omega,by omega⟩
theorem tell_vt {ts:List Tch}(h:tchsFault ts=0){at':List Nat}{nm:ByteArray}:∀ x∈selC nm (tellC ts at'),VtOk x.v:=fun x hx=>by
 obtain ⟨p,hp,rfl⟩:=List.mem_map.1 hx;have hp:=(List.mem_filter.1 hp).1;unfold tellC at hp;obtain ⟨i,_,hi⟩:=List.mem_flatMap.1 hp;cases ht:ts[i]? with
 | none=>rw [ht] at hi;cases hi
 | some t =>
  rw [ht] at hi;obtain ⟨f,hf,rfl⟩:=List.mem_map.1 (show p∈t.flds.map (tcOf t) from hi);exact (tchs_vt h).2 t (List.mem_of_getElem? ht) f hf
def beatC (sc:Tc→Int)(x m:Tc):Bool:=decide (sc m < sc x) || (decide (sc x=sc m) && latP x m)
theorem bst_is (sc:Tc→Int)(x m:Tc):bstP sc x m=beatC sc x m:=by
 unfold bstP bestC beatC latP Lib.compareInt;by_cases h1:sc x < sc m
 ·simp [h1,show ¬ sc m < sc x by omega,show ¬ sc x=sc m by omega]
 ·by_cases h2:sc m < sc x
  ·simp [h1,h2]
  ·have h3:sc x=sc m:=by omega
   simp [h3]
theorem fir_is (x m:Tc):firP x m=latP m x:=by
 unfold firP latP latC Lib.compareInt;by_cases h1:x.at' < m.at'
 ·simp [h1,show ¬ m.at' < x.at' by omega]
 ·by_cases h2:m.at' < x.at'
  ·simp [h1,h2]
  ·by_cases h3:x.no < m.no
   ·simp [h1,h2,h3,show ¬ m.no < x.no by omega]
   ·by_cases h4:m.no < x.no
    ·simp [h1,h2,h3,h4]
    ·simp [h1,h2,h3,h4]
theorem pick_same {p q:Tc→Tc→Bool}:∀ (l:List Tc) (m:Tc),(∀ x∈l,∀ y,(y=m∨y∈l)→p x y=q x y)→pick p m l=pick q m l
 | [],_,_=>rfl
 | x::r,m,h=>by
  rw [pick,pick,h x (List.mem_cons_self ..) m (.inl rfl)];refine pick_same r _ (fun z hz y hy=>h z (List.mem_cons_of_mem _ hz) y ?_);rcases hy with rfl | hy
  ·split
   ·exact .inr (List.mem_cons_self ..)
   ·exact .inl rfl
  ·exact .inr (List.mem_cons_of_mem _ hy)
theorem beat_same {s1 s2:Tc→Int}{x m:Tc}(h1:s1 x=s2 x)(h2:s1 m=s2 m):beatC s1 x m=beatC s2 x m:=by
 unfold beatC;rw [h1,h2]
theorem pick_num {sc:Tc→Int}{lo:Int}:∀ (l:List Tc) (m:Tc),txtB m=false→lo < sc m→(∀ x∈l,(txtB x=true→sc x=lo)∧(txtB x=false→lo < sc x))→pick (beatC sc) m l=pick (beatC sc) m (l.filter (fun x=> !txtB x))
 | [],_,_,_,_=>rfl
 | x::r,m,hm,hlo,h=>by
  have hx:=h x (List.mem_cons_self ..);have hr:=fun y hy=>h y (List.mem_cons_of_mem x hy);cases ht:txtB x with
  | true =>
   have hb:beatC sc x m=false:=by
    have:=hx.1 ht
    unfold beatC;simp [show ¬ sc m < sc x by omega,show ¬ sc x=sc m by omega]
   rw [pick,hb,List.filter_cons];simp only [ht,Bool.not_true,Bool.false_eq_true,if_false]
   exact pick_num r m hm hlo hr
  | false =>
   rw [List.filter_cons];simp only [ht,Bool.not_false,if_true]
   rw [pick,pick];cases hb:beatC sc x m
   ·simp only [Bool.false_eq_true,if_false]
    exact pick_num r m hm hlo hr
   ·simp only [if_true]
    exact pick_num r x ht (hx.2 ht) hr
theorem pick_txt {sc:Tc→Int}{lo:Int}:∀ (l:List Tc) (m:Tc),txtB m=true→sc m=lo→(∀ x∈l,(txtB x=true→sc x=lo)∧(txtB x=false→lo < sc x))→pick (beatC sc) m l=match l.filter (fun x=> !txtB x) with
  | []=>pick latP m l
  | y::t=>pick (beatC sc) y t
 | [],_,_,_,_=>rfl
 | x::r,m,hm,hlo,h=>by
  have hx:=h x (List.mem_cons_self ..);have hr:=fun y hy=>h y (List.mem_cons_of_mem x hy);cases ht:txtB x with
  | true =>
   have he:=hx.1 ht;have hb:beatC sc x m=latP x m:=by
    unfold beatC;simp [show sc x=sc m by omega]
   rw [pick,hb,List.filter_cons];simp only [ht,Bool.not_true,Bool.false_eq_true,if_false]
   have hq:txtB (if latP x m=true then x else m)=true∧sc (if latP x m=true then x else m)=lo:=by
    split
    ·exact ⟨ht,he⟩
    ·exact ⟨hm,hlo⟩
   rw [pick_txt r _ hq.1 hq.2 hr];cases r.filter (fun x=> !txtB x) with
   | nil=>rw [pick]
   | cons y t=>rfl
  | false =>
   have he:=hx.2 ht;have hb:beatC sc x m=true:=by
    unfold beatC;simp [show sc m < sc x by omega]
   rw [pick,hb,List.filter_cons];simp only [ht,Bool.not_false,if_true]
   exact pick_num r x ht he hr
theorem runes_nil:Lib.runeCount (⟨#[]⟩:ByteArray)=0:=by decide
theorem survR_is (how:Int)(srcs:List ByteArray)(x0:Tc)(r0:List Tc)(hok:∀ x∈x0::r0,VtOk x.v):survP how srcs x0 r0=survR how srcs x0 r0:=by
 obtain ⟨all,hall⟩:∃ all,x0::r0=all:=⟨_,rfl⟩;have hmem:∀ x,x=x0∨x∈r0→x∈all:=fun x h=>by
  rw [← hall];rcases h with rfl | h
  ·exact List.mem_cons_self ..
  ·exact List.mem_cons_of_mem _ h
 unfold survP survR;rw [hall] at hok ⊢;by_cases h2:how=2
 ·rw [if_pos h2];refine pick_same _ _ (fun x _ y _=>?_);unfold betR;rw [if_pos h2,fir_is]
 have hbet:∀ x y,betR how srcs all x y=beatC (scrC how srcs all) x y:=fun x y=>by
  unfold betR beatC;rw [if_neg h2]
 rw [if_neg h2];by_cases h3:how=3
 ·rw [if_pos h3];refine pick_same _ _ (fun x hx y hy=>?_);rw [hbet,bst_is];have e:∀ z,z∈all→lenMs z=scrC how srcs all z:=fun z hz=>by
   unfold scrC;rw [if_pos h3];by_cases hk:z.v.k=1
   ·rw [if_pos hk]
   ·rw [if_neg hk];unfold lenMs;rw [(hok z hz).1 hk,runes_nil];rfl
  exact beat_same (e x (hmem x (.inr hx))) (e y (hmem y hy))
 rw [if_neg h3];by_cases h4:how=4
 ·rw [if_pos h4];refine pick_same _ _ (fun x _ y _=>?_);rw [hbet,bst_is];have e:∀ z,cntMs all z=scrC how srcs all z:=fun z=>by
   unfold scrC;rw [if_neg h3,if_pos h4]
  exact beat_same (e x) (e y)
 rw [if_neg h4];by_cases h5:how=5
 ·rw [if_pos h5];refine pick_same _ _ (fun x _ y _=>?_);rw [hbet,bst_is];have e:∀ z,srcMs srcs z=scrC how srcs all z:=fun z=>by
   unfold scrC;rw [if_neg h3,if_neg h4,if_pos h5]
  exact beat_same (e x) (e y)
 rw [if_neg h5];by_cases h67:how=6∨how=7
 ·rw [if_pos h67];have hsT:∀ z,txtB z=true→scrC how srcs all z=-1152921504606846976:=fun z hz=>by
   have hk:z.v.k=1:=by simpa [txtB] using hz
   unfold scrC;rw [if_neg h3,if_neg h4,if_neg h5,if_pos h67,if_pos hk]
  have hsN:∀ z,txtB z=false→scrC how srcs all z=numMs (if how=7 then -1 else 1) z:=fun z hz=>by
   have hk:¬ z.v.k=1:=by simpa [txtB] using hz
   unfold scrC numMs;rw [if_neg h3,if_neg h4,if_neg h5,if_pos h67,if_neg hk];by_cases h7:how=7
   ·rw [if_pos h7,if_pos h7];omega
   ·rw [if_neg h7,if_neg h7];omega
  have hlo:∀ z,z∈all→txtB z=false→(-1152921504606846976:Int) < scrC how srcs all z:=fun z hz ht=>by
   rw [hsN z ht];have h1:=(hok z hz).2.2;unfold numMs;split <;> omega
  have hboth:∀ x∈r0,(txtB x=true→scrC how srcs all x=-1152921504606846976)∧(txtB x=false→(-1152921504606846976:Int) < scrC how srcs all x):=fun x hx=>⟨hsT x,hlo x (hmem x (.inr hx))⟩;have hR:pick (betR how srcs all) x0 r0=pick (beatC (scrC how srcs all)) x0 r0:=pick_same _ _ (fun x _ y _=>hbet x y);rw [hR];have hnum:∀ (y:Tc) (t:List Tc),(∀ z∈y::t,txtB z=false)→pick (bstP (numMs (if how=7 then -1 else 1))) y t=pick (beatC (scrC how srcs all)) y t:=fun y t h=>by
   refine pick_same _ _ (fun x hx z hz=>?_);rw [bst_is];have hz2:z∈y::t:=by
    rcases hz with rfl | hz
    ·exact List.mem_cons_self ..
    ·exact List.mem_cons_of_mem _ hz
   exact beat_same (hsN x (h x (List.mem_cons_of_mem _ hx))).symm (hsN z (h z hz2)).symm
  have hflt:∀ z∈(x0::r0).filter (fun x=> !txtB x),txtB z=false:=fun z hz=>by
   have:=(List.mem_filter.1 hz).2
   simpa using this
  cases ht:txtB x0 with
  | false =>
   have e:(x0::r0).filter (fun x=> !txtB x)=x0::r0.filter (fun x=> !txtB x):=by
    rw [List.filter_cons];simp [ht]
   rw [hall] at e;rw [hall,e] at hflt;rw [e];show pick (bstP _) x0 _=_;rw [hnum _ _ hflt];exact (pick_num r0 x0 ht (hlo x0 (hmem x0 (.inl rfl)) ht) hboth).symm
  | true =>
   have e:(x0::r0).filter (fun x=> !txtB x)=r0.filter (fun x=> !txtB x):=by
    rw [List.filter_cons];simp [ht]
   rw [hall] at e;rw [hall,e] at hflt;rw [e,pick_txt r0 x0 ht (hsT x0 ht) hboth];cases hq:r0.filter (fun x=> !txtB x) with
   | nil=>rfl
   | cons y t =>
    rw [hq] at hflt;exact hnum y t hflt
 ·rw [if_neg h67];refine pick_same _ _ (fun x _ y _=>?_);rw [hbet];have e:∀ z,scrC how srcs all z=0:=fun z=>by
   unfold scrC;rw [if_neg h3,if_neg h4,if_neg h5,if_neg h67]
  unfold beatC;rw [e,e];simp
theorem sv_eq {r:Rul}{ts:List Tch}(h:tchsFault ts=0)(at':List Nat):SvEq (svP r) (svR r) ts at':=fun nm x0 r0 hs=>by
 unfold svP svR;rw [survR_is _ _ x0 r0 (fun x hx=>tell_vt h (at':=at') (nm:=nm) x (by rw [hs];exact hx))]
end
end Go.Proofs.YtfdcgedcfafmcaaGreatDoor
